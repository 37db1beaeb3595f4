/- Plain facts on what the functions compute. No program in sight. -/
import Derived.Test.YtifmjkaghhkhfaaGreatDoorTimP
import Derived.Test.YtifmjkaghhkhfaaGreatDoorPlBA
/- Plain facts of the streams that make inputs: each ends, and what it hands out is within bounds. No program in sight. -/
set_option linter.unusedVariables false
set_option linter.unusedSimpArgs false
namespace Go.Beacon
open Go Go.Eng

abbrev Stm := Fleetmake_Stream
/-- At least k more numbers can be drawn. -/
def SOk (s : Stm) (k : Int) : Prop := 0 ≤ s.at_ ∧ s.at_ + k ≤ 4611686018427387904
theorem SOk.less {s : Stm} {k k' : Int} (h : SOk s k) (hk : k' ≤ k) : SOk s k' := ⟨h.1, by have := h.2; omega⟩
def Gen {α : Type} (m : Option (α × Stm)) (k : Int) (P : α → Prop) : Prop := ∃ v s', m = some (v, s') ∧ P v ∧ SOk s' k
theorem Gen.bind {α β : Type} {m : Option (α × Stm)} {k k' : Int} {P : α → Prop} {Q : β → Prop} {f : α × Stm → Option (β × Stm)} (h : Gen m k P) (hf : ∀ v s', P v → SOk s' k → Gen (f (v, s')) k' Q) : Gen (m.bind f) k' Q := by
  obtain ⟨v, s', rfl, h1, h2⟩ := h
  exact hf v s' h1 h2
theorem Gen.ret {α : Type} {v : α} {s : Stm} {k : Int} {P : α → Prop} (h1 : P v) (h2 : SOk s k) : Gen (some (v, s)) k P := ⟨v, s, rfl, h1, h2⟩
theorem Gen.mono {α : Type} {m : Option (α × Stm)} {k k' : Int} {P Q : α → Prop} (h : Gen m k P) (hk : k' ≤ k) (hp : ∀ v, P v → Q v) : Gen m k' Q := by
  obtain ⟨v, s', e, h1, h2⟩ := h
  exact ⟨v, s', e, hp v h1, h2.less hk⟩

theorem Below_ok (x : Int) {n : Int} (h1 : 1 ≤ n) (h2 : n ≤ 4611686018427387904) : ∃ v, Below x n = some v ∧ 0 ≤ v ∧ v < n := by
  unfold Below Below_j1
  rw [if_neg (by omega), rem_ne (by omega)]
  have a1 := Int.lt_tmod_of_pos x (show 0 < n by omega)
  have a2 := Int.tmod_lt_of_pos x (show 0 < n by omega)
  simp only [Option.bind_some]
  split
  · exact ⟨_, rfl, by rw [w64_in] <;> omega, by rw [w64_in] <;> omega⟩
  · exact ⟨_, rfl, by omega, by omega⟩

theorem Next_ok {s : Stm} {n k : Int} (hs : SOk s (k + 1)) (h1 : 1 ≤ n) (h2 : n ≤ 4611686018427387904) (hk : 0 ≤ k) : Gen (Stream_Next s n) k (fun v => 0 ≤ v ∧ v < n) := by
  obtain ⟨a1, a2⟩ := hs
  have e1 : w64 (s.at_ + 1) = s.at_ + 1 := by rw [w64_in] <;> omega
  have e2 : w64 (s.at_ + 1 - 1) = s.at_ := by rw [w64_in] <;> omega
  unfold Stream_Next
  split
  · obtain ⟨v, hv, h3, h4⟩ := Below_ok (w64 (w64 (s.at_ + 1) * 7919)) h1 h2
    rw [hv]
    exact Gen.ret ⟨h3, h4⟩ ⟨by show 0 ≤ w64 (s.at_ + 1); omega, by show w64 (s.at_ + 1) + k ≤ _; omega⟩
  · rename_i hl
    have hl' : (0 : Int) < s.L.length := by omega
    rw [e1, e2, rem_pos hl' a1, quo_ne (by omega)]
    simp only [Option.bind_some]
    obtain ⟨x, hx, _, _⟩ := idx_lt s.L (i := s.at_ % s.L.length) (Int.emod_nonneg _ (by omega)) (Int.emod_lt_of_pos _ hl')
    rw [hx]
    simp only [Option.bind_some]
    obtain ⟨u, hu, _, _⟩ := Below_ok x (n := 1073741824) (by omega) (by omega)
    rw [hu]
    simp only [Option.bind_some]
    obtain ⟨v, hv, h3, h4⟩ := Below_ok (w64 (u + w64 (w64 (s.at_.tdiv s.L.length) * w64 (7919 + s.at_ % s.L.length)))) h1 h2
    rw [hv]
    exact Gen.ret ⟨h3, h4⟩ ⟨by simp only; omega, by simp only; omega⟩

theorem Pick_ok {s : Stm} {l : List Int} {k : Int} (hs : SOk s (k + 1)) (h1 : l ≠ []) (h2 : l.length ≤ 1000) (hk : 0 ≤ k) : Gen (Stream_Pick s l) k (fun v => v ∈ l) := by
  unfold Stream_Pick
  have hl : 0 < l.length := List.length_pos_iff.2 h1
  refine Gen.bind (Next_ok hs (by omega) (by omega) hk) (fun v s' hv hs' => ?_)
  obtain ⟨x, hx, hm, _⟩ := idx_lt l hv.1 hv.2
  simp only [hx, Option.bind_some]
  exact Gen.ret hm hs'
theorem Range_ok {s : Stm} {a b k : Int} (hs : SOk s (k + 1)) (hab : a ≤ b) (ha : -1152921504606846976 ≤ a) (hb : b ≤ 1152921504606846976) (hk : 0 ≤ k) : Gen (Stream_Range s a b) k (fun v => a ≤ v ∧ v ≤ b) := by
  unfold Stream_Range
  have e1 : w64 (b - a) = b - a := by rw [w64_in] <;> omega
  have e2 : w64 (b - a + 1) = b - a + 1 := by rw [w64_in] <;> omega
  rw [if_neg (by omega), e1, e2]
  refine Gen.bind (Next_ok hs (by omega) (by omega) hk) (fun v s' hv hs' => ?_)
  refine Gen.ret ?_ hs'
  simp only
  rw [w64_in] <;> omega
theorem Flip_ok {s : Stm} {n k : Int} (hs : SOk s (k + 1)) (h1 : 1 ≤ n) (h2 : n ≤ 4611686018427387904) (hk : 0 ≤ k) : Gen (Stream_Flip s n) k (fun _ => True) := by
  unfold Stream_Flip
  exact Gen.bind (Next_ok hs h1 h2 hk) (fun v s' hv hs' => Gen.ret trivial hs')
theorem pick_le {l : List Int} {v lo hi : Int} (h : v ∈ l) (hl : l.all (fun x => decide (lo ≤ x ∧ x ≤ hi)) = true) : lo ≤ v ∧ v ≤ hi := by
  rw [List.all_eq_true] at hl
  simpa using hl v h
theorem Some_ok {s : Stm} {l : List Str} {k : Int} (hs : SOk s (k + 1)) (h1 : l ≠ []) (h2 : l.length ≤ 1000) (hk : 0 ≤ k) : Gen (Stream_Some s l) k (fun v => v ∈ l) := by
  unfold Stream_Some
  have hl : 0 < l.length := List.length_pos_iff.2 h1
  refine Gen.bind (Next_ok hs (by omega) (by omega) hk) (fun v s' hv hs' => ?_)
  obtain ⟨x, hx, hm, _⟩ := idx_lt l hv.1 hv.2
  simp only [hx, Option.bind_some]
  exact Gen.ret hm hs'
theorem Odd_ok {s : Stm} {a b k : Int} (hs : SOk s (k + 2)) (hab : a ≤ b) (ha : -1099511627776 ≤ a) (hb : b ≤ 1099511627776) (hk : 0 ≤ k) : Gen (Stream_Odd s a b) k (fun v => -1099511627777 ≤ v ∧ v ≤ 1099511627777) := by
  unfold Stream_Odd
  refine Gen.bind (Flip_ok (k := k + 1) (hs.less (by omega)) (by omega) (by omega) (by omega)) (fun v s' hv hs' => ?_)
  simp only
  split
  · refine Gen.bind (Pick_ok hs' (by simp) (by simp) hk) (fun v s' hv hs' => Gen.ret ?_ hs')
    have e1 : w64 (a - 1) = a - 1 := by rw [w64_in] <;> omega
    have e2 : w64 (b + 1) = b + 1 := by rw [w64_in] <;> omega
    rw [e1, e2] at hv
    simp only [List.mem_cons, List.not_mem_nil, or_false] at hv
    simp only; omega
  · refine Gen.bind (Range_ok hs' hab (by omega) (by omega) hk) (fun v s' hv hs' => Gen.ret ?_ hs')
    simp only; omega
end Go.Beacon

/- Plain facts of keys: the program's check and the reference's. No program in sight. -/
set_option linter.unusedVariables false
set_option linter.unusedSimpArgs false
namespace Go.Beacon
open Go Go.Eng

theorem Out_eq (n lo hi : Int) : base_Out n lo hi = (decide (n < lo) || decide (hi < n)) := rfl
theorem Qin_eq (n lo hi : Int) : Q_in n lo hi = (decide (lo ≤ n) && decide (n ≤ hi)) := rfl
/-! keys -/
def okN (n : Nat) : Bool := (decide (97 ≤ n) && decide (n ≤ 122)) || (decide (48 ≤ n) && decide (n ≤ 57)) || decide (n = 45) || decide (n = 95)
def keyB : Str → Bool
  | [] => false
  | c :: r => decide ((c :: r).length ≤ 40) && (decide (97 ≤ c.toNat) && decide (c.toNat ≤ 122)) && (c :: r).all (fun c => okN c.toNat)
theorem keyB_cons (c : UInt8) (r : Str) : keyB (c :: r) = (decide ((c :: r).length ≤ 40) && (decide (97 ≤ c.toNat) && decide (c.toNat ≤ 122)) && (c :: r).all (fun c => okN c.toNat)) := rfl
theorem Key_loop (s : Str) (hl : s.length ≤ 40) : base_Key_l1 s 0 = some (s.all (fun c => okN c.toNat)) := by
  unfold base_Key_l1
  rw [iter_find s (fun x : Int => base_Key_b1 s x) (fun c => if okN c.toNat = true then none else some false) true (by omega), findE_bool]
  · intro i c h0 h1 hc
    have hB : (if (97 : Int) ≤ (c.toNat : Int) then if (c.toNat : Int) ≤ (122 : Int) then !true else if (48 : Int) ≤ (c.toNat : Int) then if (c.toNat : Int) ≤ (57 : Int) then !true else if (c.toNat : Int) = (45 : Int) then !true else decide (¬ ((c.toNat : Int) = (95 : Int))) else if (c.toNat : Int) = (45 : Int) then !true else decide (¬ ((c.toNat : Int) = (95 : Int))) else if (48 : Int) ≤ (c.toNat : Int) then if (c.toNat : Int) ≤ (57 : Int) then !true else if (c.toNat : Int) = (45 : Int) then !true else decide (¬ ((c.toNat : Int) = (95 : Int))) else if (c.toNat : Int) = (45 : Int) then !true else decide (¬ ((c.toNat : Int) = (95 : Int)))) = !okN c.toNat := by
      unfold okN
      rw [Bool.eq_iff_iff]
      repeat' split
      all_goals simp
      all_goals omega
    rw [base_Key_b1, if_pos h1, hc]
    simp only [Option.bind_some]
    rw [hB]
    unfold base_Key_j2
    rw [w64_in (by omega) (by omega)]
    cases okN c.toNat <;> rfl
  · rw [base_Key_b1, if_neg (by omega)]; rfl
theorem Key_eq (s : Str) : base_Key s = some (keyB s) := by
  unfold base_Key base_Key_j1
  cases s with
  | nil => simp [keyB]
  | cons c r =>
    rw [if_neg (by simp)]
    have hc : idx (c :: r) 0 = some c := rfl
    rw [hc]
    simp only [Option.bind_some]
    by_cases hl : (c :: r).length ≤ 40
    · rw [if_neg (by omega), Key_loop _ hl, keyB_cons]
      by_cases h1 : (c.toNat : Int) < 97
      · rw [if_pos h1]
        have : decide (97 ≤ c.toNat) = false := by simp; omega
        rw [this]; simp
      · rw [if_neg h1]
        have e1 : decide (97 ≤ c.toNat) = true := by simp; omega
        by_cases h2 : (122 : Int) < c.toNat
        · rw [if_pos (by simpa using h2)]
          have : decide (c.toNat ≤ 122) = false := by simp; omega
          rw [this]; simp
        · rw [if_neg (by simpa using h2)]
          have : decide (c.toNat ≤ 122) = true := by simp; omega
          rw [e1, this, decide_eq_true hl]; simp
    · rw [if_pos (by omega), keyB_cons, decide_eq_false hl]; simp
theorem chars_fin : ∀ n : Fin 256, decide (UInt8.ofNat n.val ∈ ([97, 98, 99, 100, 101, 102, 103, 104, 105, 106, 107, 108, 109, 110, 111, 112, 113, 114, 115, 116, 117, 118, 119, 120, 121, 122, 48, 49, 50, 51, 52, 53, 54, 55, 56, 57, 45, 95] : List UInt8)) = okN n.val := by decide +kernel
theorem low_fin : ∀ n : Fin 256, decide (UInt8.ofNat n.val ∈ ([97, 98, 99, 100, 101, 102, 103, 104, 105, 106, 107, 108, 109, 110, 111, 112, 113, 114, 115, 116, 117, 118, 119, 120, 121, 122] : List UInt8)) = (decide (97 ≤ n.val) && decide (n.val ≤ 122)) := by decide +kernel
theorem u8_fin {p : UInt8 → Bool} {q : Nat → Bool} (h : ∀ n : Fin 256, p (UInt8.ofNat n.val) = q n.val) (c : UInt8) : p c = q c.toNat := by
  have := h ⟨c.toNat, c.toNat_lt⟩
  simpa using this
theorem CompareI_eq (a b : Int) : cmp_Compare_int a b = cmpI a b := by
  unfold cmp_Compare_int cmp_isNaN_int cmpI; simp
theorem Moment_eq (n : Int) : base_Moment n = (decide (0 ≤ n) && decide (n ≤ 345686399999)) := by
  unfold base_Moment
  rw [Out_eq, Bool.eq_iff_iff]
  simp
end Go.Beacon

/- Plain facts: loops by a measure, products within bounds, quotients rounded down. No program in sight. -/
set_option linter.unusedVariables false
set_option linter.unusedSimpArgs false
namespace Go.Beacon
open Go Go.Eng

/-- A loop whose rounds keep something and make a number smaller ends; what its last round tells holds. -/
theorem iter_inv {S A : Type} (f : S → Option (S ⊕ A)) (m : S → Nat) (Inv : S → Prop) (R : A → Prop)
    (h : ∀ s, Inv s → (∃ s', f s = some (.inl s') ∧ Inv s' ∧ m s' < m s) ∨ (∃ a, f s = some (.inr a) ∧ R a)) : ∀ s, Inv s → ∃ a, iter f s = some a ∧ R a := by
  have key : ∀ (n : Nat) s, m s ≤ n → Inv s → ∃ a, iter f s = some a ∧ R a := by
    intro n
    induction n with
    | zero =>
      intro s hm hi
      rcases h s hi with ⟨s', _, _, h3⟩ | ⟨a, h1, h2⟩
      · omega
      · exact ⟨a, by rw [iter_eq, h1]; rfl, h2⟩
    | succ n ih =>
      intro s hm hi
      rcases h s hi with ⟨s', h1, h2, h3⟩ | ⟨a, h1, h2⟩
      · obtain ⟨a, h4, h5⟩ := ih s' (by omega) h2
        exact ⟨a, by rw [iter_eq, h1]; simpa using h4, h5⟩
      · exact ⟨a, by rw [iter_eq, h1]; rfl, h2⟩
  exact fun s hi => key (m s) s (Nat.le_refl _) hi
theorem First_eq (xs : List Int) (h : (xs.length : Int) ≤ 4611686018427387904) : base_First xs = some (orL xs) := gOr_eq xs h
end Go.Beacon

/- Trimming. No program in sight. -/
set_option linter.unusedVariables false
set_option linter.unusedSimpArgs false
namespace Go.Beacon
open Go Go.Eng

theorem dropW_nil {α : Type} (p : α → Bool) : ∀ l : List α, l.dropWhile p = [] ↔ l.all p = true
  | [] => by simp
  | x :: r => by
    rw [List.dropWhile_cons]
    cases h : p x with
    | true => simp only [if_true, List.all_cons, h, Bool.true_and]; exact dropW_nil p r
    | false => simp [h]
theorem trimS_nil (l cs : Str) : Lib.trimS l cs = [] ↔ l.all (fun c => decide (c ∈ cs)) = true := by
  have hc : ∀ c : UInt8, cs.contains c = decide (c ∈ cs) := fun c => by rw [Bool.eq_iff_iff]; simp
  unfold Lib.trimS Lib.trimLeftS Lib.trimRightS
  rw [dropW_nil, List.all_reverse]
  constructor
  · intro h
    have hd : (l.reverse.dropWhile (cs.contains ·)) = [] := by
      cases hh : l.reverse.dropWhile (cs.contains ·) with
      | nil => rfl
      | cons a b =>
        have h1 := List.head?_dropWhile_not (fun c => cs.contains c) l.reverse
        rw [hh] at h h1
        simp only [List.head?_cons] at h1
        simp only [List.all_cons, Bool.and_eq_true] at h
        rw [h.1] at h1; simp at h1
    rw [dropW_nil, List.all_reverse] at hd
    simpa [hc] using hd
  · intro h
    have hd : l.reverse.dropWhile (cs.contains ·) = [] := by
      rw [dropW_nil, List.all_reverse]; simpa [hc] using h
    rw [hd]; rfl
theorem trimO_eq {s cs : Str} (h1 : s.length ≤ 100000) (h2 : cs.length ≤ 100000) (h3 : cs.all (fun b => decide (b.toNat < 128)) = true) : trimO s cs = some (Lib.trimS s cs) := by
  unfold trimO; rw [if_pos ⟨by omega, by omega, h3⟩]
end Go.Beacon

/- Keys as the first reference tells them: by trimming. No program in sight. -/
set_option linter.unusedVariables false
set_option linter.unusedSimpArgs false
namespace Go.Beacon
open Go Go.Eng

theorem QKeyT_eq (s : Str) : Q_Key s = some (keyB s) := by
  unfold Q_Key Q_Key_j1
  rw [Qin_eq]
  cases s with
  | nil => rfl
  | cons c r =>
    by_cases hl : (c :: r).length ≤ 40
    · rw [if_pos (by simp; simp at hl; omega), trimO_eq (by omega) (by simp) (by decide)]
      simp only [Option.bind_some]
      have e : (c :: r).all (fun c => decide (c ∈ ([97, 98, 99, 100, 101, 102, 103, 104, 105, 106, 107, 108, 109, 110, 111, 112, 113, 114, 115, 116, 117, 118, 119, 120, 121, 122, 48, 49, 50, 51, 52, 53, 54, 55, 56, 57, 45, 95] : List UInt8))) = (c :: r).all (fun c => okN c.toNat) := by
        congr 1; funext c
        exact u8_fin (p := fun c => decide (c ∈ ([97, 98, 99, 100, 101, 102, 103, 104, 105, 106, 107, 108, 109, 110, 111, 112, 113, 114, 115, 116, 117, 118, 119, 120, 121, 122, 48, 49, 50, 51, 52, 53, 54, 55, 56, 57, 45, 95] : List UInt8))) chars_fin c
      have e2 := u8_fin (p := fun c => decide (c ∈ ([97, 98, 99, 100, 101, 102, 103, 104, 105, 106, 107, 108, 109, 110, 111, 112, 113, 114, 115, 116, 117, 118, 119, 120, 121, 122] : List UInt8))) (q := fun n => decide (97 ≤ n) && decide (n ≤ 122)) low_fin c
      rw [keyB_cons, decide_eq_true hl, Bool.true_and, ← e, ← e2]
      by_cases ht : Lib.trimS (c :: r) ([97, 98, 99, 100, 101, 102, 103, 104, 105, 106, 107, 108, 109, 110, 111, 112, 113, 114, 115, 116, 117, 118, 119, 120, 121, 122, 48, 49, 50, 51, 52, 53, 54, 55, 56, 57, 45, 95] : Str) = []
      · rw [if_pos ht, (trimS_nil _ _).1 ht, Bool.and_true]
        have i0 : idx (c :: r) 0 = some c := rfl
        rw [i0]
        simp only [Option.bind_some, indexByteI, toU8]
        congr 1
        have := indexByte_nonneg ([97, 98, 99, 100, 101, 102, 103, 104, 105, 106, 107, 108, 109, 110, 111, 112, 113, 114, 115, 116, 117, 118, 119, 120, 121, 122] : List UInt8) c
        rw [decide_eq_decide]
        constructor
        · intro h; exact Classical.byContradiction fun h' => by have := this.2 h'; omega
        · intro h; have h' := mt this.1 (fun h' => h' h); omega
      · rw [if_neg ht]
        have : (c :: r).all (fun c => decide (c ∈ ([97, 98, 99, 100, 101, 102, 103, 104, 105, 106, 107, 108, 109, 110, 111, 112, 113, 114, 115, 116, 117, 118, 119, 120, 121, 122, 48, 49, 50, 51, 52, 53, 54, 55, 56, 57, 45, 95] : List UInt8))) = false := by
          rw [← Bool.not_eq_true]; exact fun h => ht ((trimS_nil _ _).2 h)
        rw [this, Bool.and_false]
    · rw [if_neg (by simp; simp at hl; omega), keyB_cons, decide_eq_false hl]; rfl
theorem QMomentF_eq (n : Int) : Q_MomentFault n = if 0 ≤ n ∧ n ≤ 345686399999 then 0 else 1 := by
  unfold Q_MomentFault
  rw [Qin_eq]
  by_cases h : 0 ≤ n ∧ n ≤ 345686399999
  · rw [if_pos h, if_neg (by simp; omega)]
  · rw [if_neg h, if_pos (by simp; omega)]
theorem QKeyF_eq (s : Str) : Q_KeyFault s = some (if keyB s = true then 0 else 5) := by
  unfold Q_KeyFault
  rw [QKeyT_eq]
  simp only [Option.bind_some]
  cases keyB s <;> rfl
end Go.Beacon

/- Streams, in the form that is stepped by one text: what can still be drawn is counted down. No program in sight. -/
set_option linter.unusedVariables false
set_option linter.unusedSimpArgs false
namespace Go.Beacon
open Go Go.Eng

theorem Next_k {s : Stm} {n K : Int} (hs : SOk s K) (hK : 1 ≤ K) (h1 : 1 ≤ n) (h2 : n ≤ 4611686018427387904) : Gen (Stream_Next s n) (K - 1) (fun v => 0 ≤ v ∧ v < n) :=
  Next_ok (hs.less (by omega)) h1 h2 (by omega)
theorem Flip_k {s : Stm} {n K : Int} (hs : SOk s K) (hK : 1 ≤ K) (h1 : 1 ≤ n) (h2 : n ≤ 4611686018427387904) : Gen (Stream_Flip s n) (K - 1) (fun _ => True) :=
  Flip_ok (hs.less (by omega)) h1 h2 (by omega)
theorem Pick_k {s : Stm} {l : List Int} {K : Int} (hs : SOk s K) (hK : 1 ≤ K) (h1 : l ≠ []) (h2 : l.length ≤ 1000) : Gen (Stream_Pick s l) (K - 1) (fun v => v ∈ l) :=
  Pick_ok (hs.less (by omega)) h1 h2 (by omega)
theorem Range_k {s : Stm} {a b K : Int} (hs : SOk s K) (hK : 1 ≤ K) (hab : a ≤ b) (ha : -1152921504606846976 ≤ a) (hb : b ≤ 1152921504606846976) : Gen (Stream_Range s a b) (K - 1) (fun v => a ≤ v ∧ v ≤ b) :=
  Range_ok (hs.less (by omega)) hab ha hb (by omega)
theorem Some_k {s : Stm} {l : List Str} {K : Int} (hs : SOk s K) (hK : 1 ≤ K) (h1 : l ≠ []) (h2 : l.length ≤ 1000) : Gen (Stream_Some s l) (K - 1) (fun v => v ∈ l) :=
  Some_ok (hs.less (by omega)) h1 h2 (by omega)
theorem Odd_k {s : Stm} {a b K : Int} (hs : SOk s K) (hK : 2 ≤ K) (hab : a ≤ b) (ha : -1099511627776 ≤ a) (hb : b ≤ 1099511627776) : Gen (Stream_Odd s a b) (K - 2) (fun v => -1099511627777 ≤ v ∧ v ≤ 1099511627777) :=
  Odd_ok (hs.less (by omega)) hab ha hb (by omega)
end Go.Beacon

/- Plain functions that end, and what their results are like: one lemma for each step. No program in sight. -/
set_option linter.unusedVariables false
set_option linter.unusedSimpArgs false
namespace Go.Beacon
open Go Go.Eng

/-- It ends, and its result is so. -/
def Ok {α : Type} (m : Option α) (Q : α → Prop) : Prop := ∃ r, m = some r ∧ Q r
theorem Ok.ret {α : Type} {v : α} {Q : α → Prop} (h : Q v) : Ok (some v) Q := ⟨v, rfl, h⟩
theorem Ok.mono {α : Type} {m : Option α} {P Q : α → Prop} (h : Ok m P) (hp : ∀ v, P v → Q v) : Ok m Q := by
  obtain ⟨r, h1, h2⟩ := h; exact ⟨r, h1, hp r h2⟩
theorem Ok.bind {α β : Type} {m : Option α} {f : α → Option β} {P : α → Prop} {Q : β → Prop} (h : Ok m P) (hf : ∀ v, P v → Ok (f v) Q) : Ok (m.bind f) Q := by
  obtain ⟨r, rfl, h2⟩ := h; exact hf r h2
theorem Ok.is {α β : Type} {m : Option α} {v : α} {f : α → Option β} {Q : β → Prop} (h : m = some v) (hf : Ok (f v) Q) : Ok (m.bind f) Q := by rw [h]; exact hf
theorem Ok.inr {α β : Type} {m : Option β} {Q : α ⊕ β → Prop} (h : Ok m (fun r => Q (.inr r))) : Ok (Option.map .inr m) Q := by
  obtain ⟨r, rfl, h2⟩ := h; exact ⟨_, rfl, h2⟩
theorem Ok.gen {α β : Type} {m : Option (α × Stm)} {k : Int} {P : α → Prop} {f : α × Stm → Option β} {Q : β → Prop} (h : Gen m k P) (hf : ∀ v s', P v → SOk s' k → Ok (f (v, s')) Q) : Ok (m.bind f) Q := by
  obtain ⟨v, s', rfl, h1, h2⟩ := h; exact hf v s' h1 h2
theorem Gen.of {α : Type} {m : Option (α × Stm)} {k : Int} {P : α → Prop} (h : Ok m (fun r => P r.1 ∧ SOk r.2 k)) : Gen m k P := by
  obtain ⟨⟨v, s⟩, h1, h2, h3⟩ := h; exact ⟨v, s, h1, h2, h3⟩
theorem Ok.of {α : Type} {m : Option (α × Stm)} {k : Int} {P : α → Prop} (h : Gen m k P) : Ok m (fun r => P r.1 ∧ SOk r.2 k) := by
  obtain ⟨v, s, h1, h2, h3⟩ := h; exact ⟨(v, s), h1, h2, h3⟩
theorem Ok.idx {α β : Type} {xs : List α} {i : Int} {f : α → Option β} {Q : β → Prop} (h0 : 0 ≤ i) (h1 : i < xs.length) (hf : ∀ x, idx xs i = some x → x ∈ xs → Ok (f x) Q) : Ok ((idx xs i).bind f) Q := by
  obtain ⟨x, hx, hm, _⟩ := idx_lt xs h0 h1
  rw [hx]; exact hf x hx hm
theorem Ok.app {α β : Type} {xs ys : List α} {f : List α → Option β} {Q : β → Prop} (h : xs.length + ys.length ≤ 1000000000) (hf : Ok (f (xs ++ ys)) Q) : Ok ((app xs ys).bind f) Q := by
  rw [app_le h]; exact hf
theorem Ok.slc {α β : Type} {xs : List α} {a b : Int} {f : List α → Option β} {Q : β → Prop} (h0 : 0 ≤ a) (h1 : a ≤ b) (h2 : b ≤ xs.length) (hf : ∀ ys : List α, ys = (xs.drop a.toNat).take (b.toNat - a.toNat) → (ys.length : Int) = b - a → Ok (f ys) Q) : Ok ((slc xs a b).bind f) Q := by
  rw [slc_in h0 h1 h2]; exact hf _ rfl (by simp; omega)
/-- What a round of a loop may tell: it keeps something and makes a number smaller, or it is the last. -/
abbrev Stp {S A : Type} (m : S → Nat) (Inv : S → Prop) (R : A → Prop) (s : S) : S ⊕ A → Prop
  | .inl s' => Inv s' ∧ m s' < m s
  | .inr a => R a
theorem Ok.iter {S A : Type} {f : S → Option (S ⊕ A)} {R : A → Prop} (m : S → Nat) (Inv : S → Prop)
    (h : ∀ s, Inv s → Ok (f s) (Stp m Inv R s)) (s : S) (hs : Inv s) : Ok (iter f s) R := by
  refine iter_inv f m Inv R (fun s hi => ?_) s hs
  obtain ⟨r, h1, h2⟩ := h s hi
  cases r with
  | inl s' => exact .inl ⟨s', h1, h2.1, h2.2⟩
  | inr a => exact .inr ⟨a, h1, h2⟩
/-- A round of a loop over the places of a list. -/
abbrev Rng {A : Type} (N : Nat) (R : A → Prop) (i : Int) : Int ⊕ A → Prop
  | .inl j => j = i + 1 ∧ i < N
  | .inr a => R a
theorem Ok.range {A : Type} {f : Int → Option (Int ⊕ A)} {R : A → Prop} (N : Nat) (h : ∀ i : Int, 0 ≤ i → i ≤ N → Ok (f i) (Rng N R i)) : Ok (Eng.iter f 0) R := by
  refine Ok.iter (fun i : Int => N + 1 - i.toNat) (fun i : Int => 0 ≤ i ∧ i ≤ N) (fun i hi => ?_) 0 ⟨by omega, by omega⟩
  refine (h i hi.1 hi.2).mono (fun r hr => ?_)
  cases r with
  | inl j => simp only [Rng, Stp] at hr ⊢; omega
  | inr a => exact hr
end Go.Beacon

/- Loops over lists: folds, invariants. No program in sight. -/
set_option linter.unusedVariables false
set_option linter.unusedSimpArgs false
namespace Go.Beacon
open Go Go.Eng
/-- A loop over a list that never ends early: a fold. -/
theorem iter_foldl {α σ A X : Type} (xs : List α) (mk : σ → Int → X) (f : X → Option (X ⊕ A)) (stp : σ → α → σ) (Inv : Int → σ → Prop) (E : σ → Option A)
    (h1 : ∀ s (i : Int) x, 0 ≤ i → i < xs.length → idx xs i = some x → Inv i s → f (mk s i) = some (.inl (mk (stp s x) (i + 1))) ∧ Inv (i + 1) (stp s x))
    (h2 : ∀ s, Inv xs.length s → f (mk s xs.length) = Option.map .inr (E s)) (s : σ) (h0 : Inv 0 s) : iter f (mk s 0) = E (xs.foldl stp s) := by
  have key : ∀ (n : Nat) (s : σ) (i : Int), 0 ≤ i → i + n = xs.length → Inv i s → iter f (mk s i) = E ((xs.drop i.toNat).foldl stp s) := by
    intro n
    induction n with
    | zero =>
      intro s i hi hn hv
      have : i = xs.length := by omega
      subst this
      rw [iter_eq, h2 s hv, map_inr_after]
      simp
    | succ n ih =>
      intro s i hi hn hv
      obtain ⟨x, hx, _, hd⟩ := idx_lt xs hi (by omega)
      obtain ⟨e1, e2⟩ := h1 s i x hi (by omega) hx hv
      rw [iter_eq, e1]
      simp only [Option.bind_some, after_inl]
      rw [ih _ _ (by omega) (by omega) e2, hd]
      rfl
  have := key xs.length s 0 (by omega) (by omega) h0
  simpa using this
theorem foldl_map {α β : Type} (g : α → β) : ∀ (xs : List α) (acc : List β), xs.foldl (fun acc x => acc ++ [g x]) acc = acc ++ xs.map g
  | [], acc => by simp
  | x :: r, acc => by rw [List.foldl_cons, foldl_map g r]; simp

theorem take_succ {α : Type} {xs : List α} {i : Int} {x : α} (h0 : 0 ≤ i) (h : idx xs i = some x) : xs.take (i + 1).toNat = xs.take i.toNat ++ [x] := by
  obtain ⟨_, h1, h2⟩ := idx_some h
  rw [show (i + 1).toNat = i.toNat + 1 by omega, List.take_add_one, h2]; rfl
theorem Ok.rangeS {σ A X : Type} {f : X → Option (X ⊕ A)} {R : A → Prop} (N : Nat) (mk : σ → Int → X) (Inv : Int → σ → Prop)
    (h : ∀ s (i : Int), 0 ≤ i → i ≤ N → Inv i s → Ok (f (mk s i)) (fun r => (∃ s', r = .inl (mk s' (i + 1)) ∧ i < N ∧ Inv (i + 1) s') ∨ ∃ a, r = .inr a ∧ R a)) (s : σ) (h0 : Inv 0 s) : Ok (Eng.iter f (mk s 0)) R := by
  have key : ∀ (k : Nat) (s : σ) (i : Int), 0 ≤ i → i ≤ N → i + k = N + 1 → Inv i s → Ok (Eng.iter f (mk s i)) R := by
    intro k
    induction k with
    | zero =>
      intro s i hi hN hk hv
      omega
    | succ k ih =>
      intro s i hi hN hk hv
      obtain ⟨r, h1, h2⟩ := h s i hi hN hv
      rw [iter_eq, h1]
      rcases h2 with ⟨s', rfl, h3, h4⟩ | ⟨a, rfl, h3⟩
      · simp only [Option.bind_some, after_inl]
        exact ih s' (i + 1) (by omega) (by omega) (by omega) h4
      · exact ⟨a, rfl, h3⟩
  exact key (N + 1) s 0 (by omega) (by omega) (by omega) h0
end Go.Beacon

/- Sorted lists with the same elements; comparisons in a row. For any type. No program in sight. -/
set_option linter.unusedVariables false
set_option linter.unusedSimpArgs false
namespace Go.Beacon
open Go Go.Eng
theorem orL_cons (x : Int) (r : List Int) : orL (x :: r) = if x ≠ 0 then x else orL r := rfl
theorem Cmp3.or {α : Type} {c : α → α → Int} {f : α → α → List Int} (h : Cmp3 c) (k : Cmp3 fun a b => orL (f a b)) : Cmp3 fun a b => orL (c a b :: f a b) := h.lex k
theorem Cmp3.or0 {α : Type} : Cmp3 (fun (_ _ : α) => orL []) := ⟨fun _ _ => rfl, fun h _ => absurd h (by simp [orL]), fun _ h => absurd h (by simp [orL])⟩
theorem orL_zero : ∀ {l : List Int}, orL l = 0 → ∀ x ∈ l, x = 0
  | [], _, x, hx => by simp at hx
  | y :: r, h, x, hx => by
    rw [orL_cons] at h
    by_cases h0 : y = 0
    · rw [if_neg (by simpa using h0)] at h
      rcases List.mem_cons.1 hx with rfl | hx
      · exact h0
      · exact orL_zero h x hx
    · rw [if_pos h0] at h; exact absurd h h0
theorem ddA_all {α : Type} [DecidableEq α] {c : α → α → Int} (hc : Cmp3 c) : ∀ (r : List α) (p : α), Srt c (p :: r) → (∀ a ∈ p :: r, ∀ b ∈ p :: r, c a b = 0 → a = b) → (∀ x ∈ ddA eqB p r, x ≠ p) ∧ (ddA eqB p r).Nodup
  | [], p, _, _ => by simp [ddA]
  | y :: r, p, hs, ha => by
    have hs' := List.pairwise_cons.1 hs
    obtain ⟨i1, i2⟩ := ddA_all hc r y hs'.2 (fun a h1 b h2 => ha a (List.mem_cons_of_mem _ h1) b (List.mem_cons_of_mem _ h2))
    simp only [ddA]
    by_cases e : eqB y p = true
    · rw [if_pos e]
      have : y = p := by simpa [eqB] using e
      subst this
      exact ⟨i1, i2⟩
    · rw [if_neg e]
      have hyp : y ≠ p := by simpa [eqB] using e
      refine ⟨fun x hx => ?_, List.nodup_cons.2 ⟨fun h => i1 y h rfl, i2⟩⟩
      rcases List.mem_cons.1 hx with rfl | hx
      · exact hyp
      · intro hxp
        subst hxp
        have hxr : x ∈ r := (ddA_sub eqB y r).subset hx
        have h1 := hs'.1 y (by simp)
        have h2 := (List.pairwise_cons.1 hs'.2).1 x hxr
        have := hc.neg x y
        exact hyp (ha y (by simp) x (by simp) (by omega))
theorem dd_all {α : Type} [DecidableEq α] {c : α → α → Int} (hc : Cmp3 c) {U : List α} (hs : Srt c U) (ha : ∀ a ∈ U, ∀ b ∈ U, c a b = 0 → a = b) : (dd eqB U).Nodup := by
  cases U with
  | nil => simp [dd]
  | cons p r =>
    obtain ⟨i1, i2⟩ := ddA_all hc r p hs ha
    simp only [dd]
    exact List.nodup_cons.2 ⟨fun h => i1 p h rfl, i2⟩
theorem dd_mem {α : Type} [DecidableEq α] (U : List α) (x : α) : x ∈ dd eqB U ↔ x ∈ U := ⟨fun h => (dd_sub eqB U).subset h, indd⟩
/-- Elements that are not there yet, one by one. -/
def addN {α : Type} [DecidableEq α] (acc : List α) (x : α) : List α := if x ∈ acc then acc else acc ++ [x]
theorem addN_nodup {α : Type} [DecidableEq α] {acc : List α} {x : α} (h : acc.Nodup) : (addN acc x).Nodup := by
  unfold addN
  split
  · exact h
  · rename_i hx
    exact List.nodup_append.2 ⟨h, by simp, fun a ha b hb => by rw [List.mem_singleton.1 hb]; exact fun e => hx (e ▸ ha)⟩
theorem addN_mem {α : Type} [DecidableEq α] {acc : List α} {x y : α} : y ∈ addN acc x ↔ y ∈ acc ∨ y = x := by
  unfold addN
  split
  · rename_i hx
    exact ⟨.inl, fun h => h.elim id fun e => e ▸ hx⟩
  · simp
theorem addN_len {α : Type} [DecidableEq α] (acc : List α) (x : α) : (addN acc x).length ≤ acc.length + 1 := by
  unfold addN; split <;> simp
theorem foldl_addN {α : Type} [DecidableEq α] : ∀ (r acc : List α), acc.Nodup → (r.foldl addN acc).Nodup ∧ (∀ y, y ∈ r.foldl addN acc ↔ y ∈ acc ∨ y ∈ r) ∧ (r.foldl addN acc).length ≤ acc.length + r.length
  | [], acc, h => ⟨h, fun y => by simp, by simp⟩
  | x :: r, acc, h => by
    obtain ⟨i1, i2, i3⟩ := foldl_addN r (addN acc x) (addN_nodup h)
    have := addN_len acc x
    refine ⟨i1, fun y => ?_, by simp only [List.foldl_cons, List.length_cons]; omega⟩
    rw [List.foldl_cons, i2 y, addN_mem]; simp [or_assoc]
/-- The checks of a list whose every element passes. -/
theorem scanC_zero {α : Type} {st : Option α → α → Int} : ∀ (xs : List α) (p : Option α), scanC st p xs = 0 → ∀ (i : Nat) x, xs[i]? = some x → st (if i = 0 then p else xs[i - 1]?) x = 0
  | [], _, _, i, x, h => by simp at h
  | s :: r, p, h, i, x, hx => by
    simp only [scanC] at h
    split at h
    · rename_i h0
      match i with
      | 0 => simp at hx; subst hx; exact h0
      | i + 1 =>
        have := scanC_zero r (some s) h i x (by simpa using hx)
        rw [if_neg (by omega)]
        match i with
        | 0 => simpa using this
        | i + 1 => simpa using this
    · exact absurd h ‹_›
/-- Of a list whose neighbours stand in order, all do. -/
theorem strict_of {α : Type} {c : α → α → Int} (hc : Cmp3 c) : ∀ xs : List α, (∀ (i : Nat) x y, xs[i]? = some x → xs[i + 1]? = some y → c x y < 0) → xs.Pairwise (fun a b => c a b < 0)
  | [], _ => .nil
  | [x], _ => by simp
  | x :: y :: r, h => by
    have ih := strict_of hc (y :: r) (fun i a b h1 h2 => h (i + 1) a b (by simpa using h1) (by simpa using h2))
    have hxy := h 0 x y rfl rfl
    refine List.pairwise_cons.2 ⟨fun z hz => ?_, ih⟩
    rcases List.mem_cons.1 hz with rfl | hz
    · exact hxy
    · exact hc.tr hxy ((List.pairwise_cons.1 ih).1 z hz)
theorem srt_of {α : Type} {c : α → α → Int} (hc : Cmp3 c) {xs : List α} (h : xs.Pairwise (fun a b => c a b < 0)) : Srt c xs := h.imp fun {a b} hab hba => by have := hc.neg a b; omega
theorem nodup_of {α : Type} {c : α → α → Int} (hc : Cmp3 c) {xs : List α} (h : xs.Pairwise (fun a b => c a b < 0)) : xs.Nodup := h.imp fun {a b} hab e => by subst e; have := hc.zero a; omega
end Go.Beacon

/- Signals: their order, checks, Merge. No program in sight. -/
set_option linter.unusedVariables false
set_option linter.unusedSimpArgs false
namespace Go.Beacon
open Go Go.Eng

/-! the order -/
def sO (a b : Signal) : Int := orL [cmpI a.At b.At, Lib.compareBytes a.Device b.Device, Lib.compareBytes a.Rule b.Rule, cmpI a.Kind b.Kind]
theorem sO_3 : Cmp3 sO := (cmpI_3.on Signal.At).or ((cmpB_3.on Signal.Device).or ((cmpB_3.on Signal.Rule).or ((cmpI_3.on Signal.Kind).or .or0)))
theorem sbyMoment_eq (a b : Signal) : alarm_byMoment a b = some (sO a b) := by
  unfold alarm_byMoment
  rw [CompareI_eq, CompareI_eq]
  have h : cmp_Or_int [cmpI a.At b.At, Lib.compareBytes a.Device b.Device, Lib.compareBytes a.Rule b.Rule, cmpI a.Kind b.Kind] = some (sO a b) := gOr_eq _ (by simp)
  rw [h]; rfl
theorem SignalOrder_eq (a b : Signal) : Q_SignalOrder a b = some (sO a b) := by
  unfold Q_SignalOrder
  rw [CompareI_eq, CompareI_eq]
  have h : cmp_Or_int [cmpI a.At b.At, Lib.compareBytes a.Device b.Device, Lib.compareBytes a.Rule b.Rule, cmpI a.Kind b.Kind] = some (sO a b) := gOr_eq _ (by simp)
  rw [h]; rfl
/-! the checks -/
/-- Numbers that never leave their bounds. -/
def SgB (x : Signal) : Prop := (-4398046511104 ≤ x.At ∧ x.At ≤ 4398046511104) ∧ (-4398046511104 ≤ x.Until ∧ x.Until ≤ 4398046511104)
def momS (n : Int) : Bool := decide (0 ≤ n) && decide (n ≤ 345686399999)
def sgBad (s : Signal) : Int :=
  if momS s.At = false then 1 else if (keyB s.Device && keyB s.Rule) = false then 5 else if s.Kind < 1 ∨ 5 < s.Kind then 4 else if 3 ≤ s.Kind ∧ keyB s.By = false then 5 else if ¬ 3 ≤ s.Kind ∧ s.By ≠ [] then 3
  else if s.Kind = 4 ∧ (s.Until < s.At + 1 ∨ s.At + 2592000000 < s.Until ∨ 345686400000 < s.Until) then 1 else if ¬ s.Kind = 4 ∧ s.Until ≠ 0 then 3 else 0
def sgStep (prev : Option Signal) (s : Signal) : Int := if sgBad s ≠ 0 then sgBad s else match prev with
  | none => 0
  | some p => if sO s p ≤ 0 then 7 else 0
def chkS (xs : List Signal) : Int := if (5000 : Int) < xs.length then 2 else scanC sgStep none xs
theorem signalFault_eq {s : Signal} (hB : SgB s) : alarm_signalFault s = some (sgBad s) := by
  unfold SgB at hB
  unfold alarm_signalFault sgBad
  rw [Moment_eq, show (decide (0 ≤ s.At) && decide (s.At ≤ 345686399999)) = momS s.At from rfl]
  simp only [Key_eq, Option.bind_some]
  cases hm : momS s.At
  · simp
  · simp only [Bool.not_true, Bool.false_eq_true, if_false, Bool.true_eq_false]
    have key : alarm_signalFault_j1 s (!(keyB s.Device && keyB s.Rule)) = some (if (keyB s.Device && keyB s.Rule) = false then 5 else if s.Kind < 1 ∨ 5 < s.Kind then 4 else if 3 ≤ s.Kind ∧ keyB s.By = false then 5 else if ¬ 3 ≤ s.Kind ∧ s.By ≠ [] then 3
        else if s.Kind = 4 ∧ (s.Until < s.At + 1 ∨ s.At + 2592000000 < s.Until ∨ 345686400000 < s.Until) then 1 else if ¬ s.Kind = 4 ∧ s.Until ≠ 0 then 3 else 0) := by
      unfold alarm_signalFault_j1
      cases hk : (keyB s.Device && keyB s.Rule)
      · simp
      · simp only [Bool.not_true, Bool.false_eq_true, if_false, Bool.true_eq_false]
        rw [Out_eq, Key_eq]
        simp only [Option.bind_some]
        by_cases h3 : s.Kind < 1 ∨ 5 < s.Kind
        · rw [if_pos h3, if_pos (by simp only [Bool.or_eq_true, decide_eq_true_eq]; exact h3)]
        · rw [if_neg h3, if_neg (by simp only [Bool.or_eq_true, decide_eq_true_eq]; exact h3)]
          have j2 : ∀ c : Bool, c = decide (3 ≤ s.Kind ∧ keyB s.By = false) → alarm_signalFault_j2 s c = some (if 3 ≤ s.Kind ∧ keyB s.By = false then 5 else if ¬ 3 ≤ s.Kind ∧ s.By ≠ [] then 3
              else if s.Kind = 4 ∧ (s.Until < s.At + 1 ∨ s.At + 2592000000 < s.Until ∨ 345686400000 < s.Until) then 1 else if ¬ s.Kind = 4 ∧ s.Until ≠ 0 then 3 else 0) := by
            rintro c rfl
            unfold alarm_signalFault_j2 alarm_signalFault_j3 alarm_signalFault_j4 alarm_signalFault_j5
            rw [w64_in (by omega) (by omega), w64_in (by omega) (by omega), Out_eq]
            by_cases h4 : 3 ≤ s.Kind ∧ keyB s.By = false
            · rw [if_pos h4, decide_eq_true h4, if_pos rfl]
            · rw [if_neg h4, decide_eq_false h4, if_neg Bool.false_ne_true]
              by_cases h5 : ¬ 3 ≤ s.Kind ∧ s.By ≠ []
              · rw [if_pos h5, if_pos (by simp only [Bool.and_eq_true, decide_eq_true_eq]; exact h5)]
              · rw [if_neg h5, if_neg (by simp only [Bool.and_eq_true, decide_eq_true_eq]; exact h5)]
                by_cases h6 : s.Kind = 4 ∧ (s.Until < s.At + 1 ∨ s.At + 2592000000 < s.Until ∨ 345686400000 < s.Until)
                · rw [if_pos h6, if_pos (by simp only [Bool.and_eq_true, Bool.or_eq_true, decide_eq_true_eq]; omega)]
                · rw [if_neg h6, if_neg (by simp only [Bool.and_eq_true, Bool.or_eq_true, decide_eq_true_eq]; omega)]
                  by_cases h7 : ¬ s.Kind = 4 ∧ s.Until ≠ 0
                  · rw [if_pos h7, if_pos (by simp only [Bool.and_eq_true, decide_eq_true_eq]; exact h7)]
                  · rw [if_neg h7, if_neg (by simp only [Bool.and_eq_true, decide_eq_true_eq]; exact h7)]
          by_cases h4 : 3 ≤ s.Kind
          · rw [if_pos h4]; exact j2 _ (by cases keyB s.By <;> simp [h4])
          · rw [if_neg h4]; exact j2 _ (by simp [h4])
    cases hd : keyB s.Device
    · rw [hd] at key; simpa using key
    · rw [hd] at key; simpa using key
theorem CheckSignals_eq {xs : List Signal} (hB : ∀ x ∈ xs, SgB x) : alarm_CheckSignals xs = some (chkS xs) := by
  unfold alarm_CheckSignals chkS
  split
  · rfl
  · rename_i hl
    unfold alarm_CheckSignals_l1
    refine scan_all sgStep xs _ (fun {i s} h0 h1 hs => ?_) (by show alarm_CheckSignals_b1 xs _ = _; rw [alarm_CheckSignals_b1, if_neg (by omega)]; rfl)
    show alarm_CheckSignals_b1 xs i = _
    rw [alarm_CheckSignals_b1, if_pos h1, hs]
    simp only [Option.bind_some]
    rw [signalFault_eq (hB s (idx_mem hs))]
    unfold sgStep
    simp only [Option.bind_some]
    by_cases hb : sgBad s = 0
    · simp only [hb, ne_eq, not_true_eq_false, if_false]
      unfold alarm_CheckSignals_j1
      rw [w64_in (x := i + 1) (by omega) (by omega)]
      by_cases hi : 0 < i
      · obtain ⟨p, hp, _, _⟩ := idx_lt xs (i := i - 1) (by omega) (by omega)
        have hpa : prevOf xs i = some p := by unfold prevOf; rw [if_neg (by omega), hp]
        rw [hpa, if_pos hi, w64_in (by omega) (by omega), hp]
        simp only [Option.bind_some, sbyMoment_eq]
        by_cases hb : sO s p ≤ 0
        · simp [hb]
        · simp [hb]
      · have hpa : prevOf xs i = none := by unfold prevOf; rw [if_pos (by omega)]
        rw [hpa, if_neg hi]; simp
    · rw [if_pos hb, if_pos hb, if_neg hb]; rfl
theorem SignalsFault_eq {xs : List Signal} (hB : ∀ x ∈ xs, SgB x) : Q_SignalsFault xs = some (chkS xs) := by
  unfold Q_SignalsFault chkS
  split
  · rfl
  · rename_i hl
    unfold Q_SignalsFault_l1
    refine scan_all sgStep xs _ (fun {i s} h0 h1 hs => ?_) (by show Q_SignalsFault_b1 xs _ = _; rw [Q_SignalsFault_b1, if_neg (by omega)]; rfl)
    have hS := hB s (idx_mem hs)
    unfold SgB at hS
    show Q_SignalsFault_b1 xs i = _
    rw [Q_SignalsFault_b1, if_pos h1, hs]
    simp only [Option.bind_some]
    rw [QMomentF_eq, QKeyT_eq, QKeyT_eq]
    simp only [Option.bind_some]
    unfold sgStep sgBad
    have hmom : (momS s.At = false) ↔ ¬ (0 ≤ s.At ∧ s.At ≤ 345686399999) := by
      unfold momS
      rw [← Bool.decide_and, decide_eq_false_iff_not]
    by_cases hm : 0 ≤ s.At ∧ s.At ≤ 345686399999
    · rw [if_neg (by rw [if_pos hm]; simp), if_neg (c := momS s.At = false) (fun h => hmom.1 h hm)]
      have key : ∀ c : Bool, c = !(keyB s.Device && keyB s.Rule) → Q_SignalsFault_j1 xs i s c = some (if (if (keyB s.Device && keyB s.Rule) = false then (5 : Int) else if s.Kind < 1 ∨ 5 < s.Kind then 4 else if 3 ≤ s.Kind ∧ keyB s.By = false then 5 else if ¬ 3 ≤ s.Kind ∧ s.By ≠ [] then 3
          else if s.Kind = 4 ∧ (s.Until < s.At + 1 ∨ s.At + 2592000000 < s.Until ∨ 345686400000 < s.Until) then 1 else if ¬ s.Kind = 4 ∧ s.Until ≠ 0 then 3 else 0) ≠ 0 then .inr (if (keyB s.Device && keyB s.Rule) = false then 5 else if s.Kind < 1 ∨ 5 < s.Kind then 4 else if 3 ≤ s.Kind ∧ keyB s.By = false then 5 else if ¬ 3 ≤ s.Kind ∧ s.By ≠ [] then 3
          else if s.Kind = 4 ∧ (s.Until < s.At + 1 ∨ s.At + 2592000000 < s.Until ∨ 345686400000 < s.Until) then 1 else if ¬ s.Kind = 4 ∧ s.Until ≠ 0 then 3 else 0) else match prevOf xs i with
            | none => .inl (i + 1)
            | some p => if sO s p ≤ 0 then .inr 7 else .inl (i + 1)) := by
        rintro c rfl
        unfold Q_SignalsFault_j1
        cases hk : (keyB s.Device && keyB s.Rule)
        · simp
        · simp only [Bool.not_true, Bool.false_eq_true, if_false, Bool.true_eq_false]
          rw [Qin_eq, QKeyT_eq]
          simp only [Option.bind_some]
          by_cases h3 : s.Kind < 1 ∨ 5 < s.Kind
          · rw [if_pos h3, if_pos (by simp only [Bool.not_eq_true', Bool.and_eq_false_iff, decide_eq_false_iff_not]; omega)]; simp
          · rw [if_neg h3, if_neg (by simp only [Bool.not_eq_true', Bool.and_eq_false_iff, decide_eq_false_iff_not]; omega)]
            have j2 : ∀ c : Bool, c = decide (3 ≤ s.Kind ∧ keyB s.By = false) → Q_SignalsFault_j2 xs i s c = some (if (if 3 ≤ s.Kind ∧ keyB s.By = false then (5 : Int) else if ¬ 3 ≤ s.Kind ∧ s.By ≠ [] then 3
                else if s.Kind = 4 ∧ (s.Until < s.At + 1 ∨ s.At + 2592000000 < s.Until ∨ 345686400000 < s.Until) then 1 else if ¬ s.Kind = 4 ∧ s.Until ≠ 0 then 3 else 0) ≠ 0 then .inr (if 3 ≤ s.Kind ∧ keyB s.By = false then 5 else if ¬ 3 ≤ s.Kind ∧ s.By ≠ [] then 3
                else if s.Kind = 4 ∧ (s.Until < s.At + 1 ∨ s.At + 2592000000 < s.Until ∨ 345686400000 < s.Until) then 1 else if ¬ s.Kind = 4 ∧ s.Until ≠ 0 then 3 else 0) else match prevOf xs i with
                  | none => .inl (i + 1)
                  | some p => if sO s p ≤ 0 then .inr 7 else .inl (i + 1)) := by
              rintro c rfl
              unfold Q_SignalsFault_j2 Q_SignalsFault_j3 Q_SignalsFault_j4 Q_SignalsFault_j5
              rw [w64_in (by omega) (by omega), w64_in (by omega) (by omega), Qin_eq]
              by_cases h4 : 3 ≤ s.Kind ∧ keyB s.By = false
              · rw [if_pos h4, decide_eq_true h4, if_pos rfl]; simp
              · rw [if_neg h4, decide_eq_false h4, if_neg Bool.false_ne_true]
                by_cases h5 : ¬ 3 ≤ s.Kind ∧ s.By ≠ []
                · rw [if_pos h5, if_pos (by simp only [Bool.and_eq_true, decide_eq_true_eq]; exact h5)]; simp
                · rw [if_neg h5, if_neg (by simp only [Bool.and_eq_true, decide_eq_true_eq]; exact h5)]
                  by_cases h6 : s.Kind = 4 ∧ (s.Until < s.At + 1 ∨ s.At + 2592000000 < s.Until ∨ 345686400000 < s.Until)
                  · rw [if_pos h6, if_pos (by simp only [Bool.and_eq_true, Bool.not_eq_true', Bool.and_eq_false_iff, decide_eq_true_eq, decide_eq_false_iff_not]; omega)]; simp
                  · rw [if_neg h6, if_neg (by simp only [Bool.and_eq_true, Bool.not_eq_true', Bool.and_eq_false_iff, decide_eq_true_eq, decide_eq_false_iff_not]; omega)]
                    by_cases h7 : ¬ s.Kind = 4 ∧ s.Until ≠ 0
                    · rw [if_pos h7, if_pos (by simp only [Bool.and_eq_true, decide_eq_true_eq]; exact h7)]; simp
                    · rw [if_neg h7, if_neg (by simp only [Bool.and_eq_true, decide_eq_true_eq]; exact h7), if_neg (c := (0 : Int) ≠ 0) (by simp)]
                      unfold Q_SignalsFault_j6
                      rw [w64_in (x := i + 1) (by omega) (by omega)]
                      by_cases hi : 0 < i
                      · obtain ⟨p, hp, _, _⟩ := idx_lt xs (i := i - 1) (by omega) (by omega)
                        have hpa : prevOf xs i = some p := by unfold prevOf; rw [if_neg (by omega), hp]
                        rw [hpa, if_pos hi, w64_in (by omega) (by omega), hp]
                        simp only [Option.bind_some, SignalOrder_eq]
                        have hn := sO_3.neg p s
                        by_cases hb : sO s p ≤ 0
                        · rw [if_pos hb, if_pos (by simp only [decide_eq_true_eq]; omega)]; rfl
                        · rw [if_neg hb, if_neg (by simp only [decide_eq_true_eq]; omega)]
                      · have hpa : prevOf xs i = none := by unfold prevOf; rw [if_pos (by omega)]
                        rw [hpa, if_neg hi]; rfl
            by_cases h4 : 3 ≤ s.Kind
            · rw [if_pos h4]; exact j2 _ (by cases keyB s.By <;> simp [h4])
            · rw [if_neg h4]; exact j2 _ (by simp [h4])
      have fin : ∀ (b : Int), (some (if b ≠ 0 then Sum.inr b else match prevOf xs i with
            | none => Sum.inl (i + 1)
            | some p => if sO s p ≤ 0 then Sum.inr 7 else Sum.inl (i + 1)) : Option (Int ⊕ Int)) = some (if (if b ≠ 0 then b else match prevOf xs i with
            | none => 0
            | some p => if sO s p ≤ 0 then 7 else 0) = 0 then .inl (i + 1) else .inr (if b ≠ 0 then b else match prevOf xs i with
            | none => 0
            | some p => if sO s p ≤ 0 then 7 else 0)) := by
        intro b
        by_cases hb : b = 0
        · subst hb
          cases prevOf xs i with
          | none => simp
          | some p => by_cases h : sO s p ≤ 0 <;> simp [h]
        · rw [if_pos hb, if_pos hb, if_neg hb]
      rw [← fin]
      cases hd : keyB s.Device
      · have k := key true (by rw [hd]; rfl)
        rw [hd] at k; exact k
      · have k := key (!keyB s.Rule) (by rw [hd]; simp)
        rw [hd] at k; exact k
    · rw [if_pos (by rw [if_neg hm]; simp), if_pos (hmom.2 hm)]
      simp
/-! sorting and compacting -/
def ZS : Signal := ⟨0, 0, [], [], [], 0⟩
theorem sstable_len (f : Signal → Signal → Option Int) (xs : List Signal) (hl : (xs.length : Int) < 20) (hf : ∀ x ∈ xs, ∀ y ∈ xs, f x y = some (sO x y)) : ∃ Z, lenOk xs.length (fun r : List Signal => r.length) (slices_SortStableFunc_Signal_Signal xs f) = some Z ∧ Z.Perm xs ∧ Srt sO Z := by
  obtain ⟨Z, h1, h2, h3⟩ := gIns_eq f sO xs (by omega) hf (sO_3.ord xs)
  have h1' : slices_insertionSortCmpFunc_Signal xs 0 xs.length f = some Z := h1
  have hlen := h2.length_eq
  refine ⟨Z, ?_, h2, h3⟩
  have hs : slices_stableCmpFunc_Signal xs xs.length f = some Z := by
    unfold slices_stableCmpFunc_Signal slices_stableCmpFunc_Signal_l1
    rw [iter_eq, slices_stableCmpFunc_Signal_b1, if_neg (by simp only; omega), map_inr_after]
    unfold slices_stableCmpFunc_Signal_k3
    simp only
    rw [len_ok h1' hlen]
    simp only [Option.bind_some]
    unfold slices_stableCmpFunc_Signal_l2
    rw [iter_eq, slices_stableCmpFunc_Signal_b2, if_neg (by simp only; omega), map_inr_after]
  refine len_ok ?_ hlen
  unfold slices_SortStableFunc_Signal_Signal
  rw [len_ok hs hlen]; rfl
theorem scompactF_eq (f : Signal → Signal → Option Bool) (e : Signal → Signal → Bool) (xs : List Signal) (hl : (xs.length : Int) ≤ 100000) (hf : ∀ x ∈ xs, ∀ y ∈ xs, f x y = some (e x y)) : slices_CompactFunc_Signal_Signal xs f = some (dd e xs) := gCptF_eq ZS f e xs hl hf
end Go.Beacon

/- Signals: Merge, firings, the lists that are drawn. No program in sight. -/
set_option linter.unusedVariables false
set_option linter.unusedSimpArgs false
namespace Go.Beacon
open Go Go.Eng

theorem chkS_ok {xs : List Signal} (h : chkS xs = 0) : xs.Pairwise (fun a b => sO a b < 0) ∧ ∀ x ∈ xs, sgBad x = 0 := by
  unfold chkS at h
  split at h
  · cases h
  · have hz := scanC_zero xs none h
    refine ⟨strict_of sO_3 xs (fun i x y hx hy => ?_), fun x hx => ?_⟩
    · have := hz (i + 1) y hy
      rw [if_neg (by omega), show i + 1 - 1 = i by omega, hx] at this
      unfold sgStep at this
      have hn := sO_3.neg x y
      split at this
      · rename_i h0; exact absurd this h0
      · simp only at this
        split at this
        · cases this
        · omega
    · obtain ⟨i, hi, rfl⟩ := List.getElem_of_mem hx
      have := hz i xs[i] (by simp [hi])
      unfold sgStep at this
      split at this
      · rename_i h0; exact absurd this h0
      · rename_i h0; simpa using h0
/-! Merge -/
end Go.Beacon

/- Signals: out of firings; lists that are drawn. No program in sight. -/
set_option linter.unusedVariables false
set_option linter.unusedSimpArgs false
namespace Go.Beacon
open Go Go.Eng

/-! lists that are drawn -/
def SGP (P : Signal → Prop) (k : Int) (l : List Signal) : Prop := (l.length : Int) ≤ k ∧ ∀ x ∈ l, P x
def SgB0 (x : Signal) : Prop := (0 ≤ x.At ∧ x.At ≤ 1000) ∧ (0 ≤ x.Until ∧ x.Until ≤ 2000)
abbrev SG := SGP SgB
abbrev SG0 := SGP SgB0
theorem SGP.perm {P : Signal → Prop} {k : Int} {l Z : List Signal} (h : SGP P k l) (hp : Z.Perm l) : SGP P k Z := ⟨by rw [hp.length_eq]; exact h.1, fun c hc => h.2 c (hp.mem_iff.1 hc)⟩
theorem SGP.sub {P : Signal → Prop} {k : Int} {l Z : List Signal} (h : SGP P k l) (hp : Z.Sublist l) : SGP P k Z := ⟨by have := hp.length_le; have := h.1; omega, fun c hc => h.2 c (hp.subset hc)⟩
theorem SGP.snoc {P : Signal → Prop} {k : Int} {l : List Signal} (h : SGP P k l) {c : Signal} (hc : P c) : SGP P (k + 1) (l ++ [c]) :=
  ⟨by have := h.1; simp; omega, fun x hx => by
    rcases List.mem_append.1 hx with e | e
    · exact h.2 x e
    · rw [List.mem_singleton] at e; subst e; exact hc⟩
theorem SGP.mono {P Q : Signal → Prop} {k : Int} {l : List Signal} (h : SGP P k l) (hp : ∀ x, P x → Q x) : SGP Q k l := ⟨h.1, fun x hx => hp x (h.2 x hx)⟩
theorem SGP.set {P : Signal → Prop} {k : Int} {l : List Signal} (h : SGP P k l) {c : Signal} (hc : P c) (i : Nat) : SGP P k (l.set i c) := ⟨by simpa using h.1, inset h.2 hc⟩
theorem SgB0.w {x : Signal} (h : SgB0 x) : SgB x := by unfold SgB0 at h; unfold SgB; omega
theorem mem3 {a b c v : Int} (h : v ∈ [a, b, c]) : v = a ∨ v = b ∨ v = c := by simpa using h
theorem mem4 {a b c d v : Int} (h : v ∈ [a, b, c, d]) : v = a ∨ v = b ∨ v = c ∨ v = d := by simpa using h
theorem Signals_k {s : Stm} {p : Bool} {many K : Int} (hs : SOk s K) (hm : 0 ≤ many ∧ many ≤ 15) (hK : 200 ≤ K) : Gen (Stream_Signals s many p) (K - 200) (SG many) := by
  refine Gen.of ?_
  unfold Stream_Signals
  refine Ok.gen (Next_k hs (by omega) (by omega) (by omega)) (fun v0 s0 hv0 q0 => ?_)
  dsimp only
  unfold Stream_Signals_l1
  refine Ok.iter (fun x : List Int × Int × List Signal × Int × Int => (many - x.2.2.2.2).toNat) (fun x : List Int × Int × List Signal × Int × Int => 0 ≤ x.2.2.2.2 ∧ x.2.2.2.2 ≤ many ∧ SOk ⟨x.1, x.2.1⟩ (K - 190 + 10 * (many - x.2.2.2.2)) ∧ SG0 x.2.2.2.2 x.2.2.1 ∧ (0 ≤ x.2.2.2.1 ∧ x.2.2.2.1 ≤ 20 + 40 * x.2.2.2.2)) ?_ _ ⟨by simp, by simp only; omega, q0.less (by simp only; omega), ⟨by simp, by simp⟩, by simp only; omega⟩
  rintro ⟨L, a, l, t, n⟩ ⟨g0, g1, g2, g3, g4⟩
  simp only at g0 g1 g2 g3 g4 ⊢
  have hll := g3.1
  unfold Stream_Signals_b1
  by_cases hn : n < many
  · rw [if_pos hn]
    refine Ok.gen (Pick_k g2 (by omega) (by simp) (by simp)) (fun p1 s1 h1 q1 => ?_)
    refine Ok.gen (Some_k q1 (by omega) (by simp) (by simp)) (fun p2 s2 h2 q2 => ?_)
    refine Ok.gen (Some_k q2 (by omega) (by simp) (by simp)) (fun p3 s3 h3 q3 => ?_)
    dsimp only
    have j3 : ∀ (x16 x17 : Str × Stm) (kd : Int) (q : Str) (L' : List Int) (a' u : Int), (0 ≤ u ∧ u ≤ 1000) → SOk ⟨L', a'⟩ (K - 190 + 10 * (many - n - 1) + 1) →
        Ok (Stream_Signals_j3 l t n x16 x17 kd q L' a' u) (Stp (fun x : List Int × Int × List Signal × Int × Int => (many - x.2.2.2.2).toNat) (fun x : List Int × Int × List Signal × Int × Int => 0 ≤ x.2.2.2.2 ∧ x.2.2.2.2 ≤ many ∧ SOk ⟨x.1, x.2.1⟩ (K - 190 + 10 * (many - x.2.2.2.2)) ∧ SG0 x.2.2.2.2 x.2.2.1 ∧ (0 ≤ x.2.2.2.1 ∧ x.2.2.2.1 ≤ 20 + 40 * x.2.2.2.2)) (fun r => SG many r.1 ∧ SOk r.2 (K - 200)) (L, a, l, t, n)) := by
      intro x16 x17 kd q L' a' u hu hs'
      unfold Stream_Signals_j3
      refine Ok.app (by simp; omega) ?_
      refine Ok.gen (Pick_k hs' (by omega) (by simp) (by simp)) (fun w s5 hw q5 => ?_)
      have hw' : 0 ≤ w ∧ w ≤ 40 := pick_le hw (by decide)
      dsimp only
      refine Ok.ret ?_
      rw [w64_in (x := t + w) (by omega) (by omega), w64_in (x := n + 1) (by omega) (by omega)]
      exact ⟨⟨by simp only; omega, by simp only; omega, q5.less (by simp only; omega), g3.snoc (by unfold SgB0; simp only; omega), by simp only; omega⟩, by simp only; omega⟩
    have j2 : ∀ (x16 x17 : Str × Stm) (kd : Int) (L' : List Int) (a' : Int) (q : Str), SOk ⟨L', a'⟩ (K - 190 + 10 * (many - n - 1) + 2) →
        Ok (Stream_Signals_j2 l t n x16 x17 kd L' a' q) (Stp (fun x : List Int × Int × List Signal × Int × Int => (many - x.2.2.2.2).toNat) (fun x : List Int × Int × List Signal × Int × Int => 0 ≤ x.2.2.2.2 ∧ x.2.2.2.2 ≤ many ∧ SOk ⟨x.1, x.2.1⟩ (K - 190 + 10 * (many - x.2.2.2.2)) ∧ SG0 x.2.2.2.2 x.2.2.1 ∧ (0 ≤ x.2.2.2.1 ∧ x.2.2.2.1 ≤ 20 + 40 * x.2.2.2.2)) (fun r => SG many r.1 ∧ SOk r.2 (K - 200)) (L, a, l, t, n)) := by
      intro x16 x17 kd L' a' q hs'
      unfold Stream_Signals_j2
      split
      · refine Ok.gen (Pick_k hs' (by omega) (by simp) (by simp)) (fun w s5 hw q5 => ?_)
        have hw' : 0 ≤ w ∧ w ≤ 50 := pick_le hw (by decide)
        dsimp only
        rw [w64_in (by omega) (by omega)]
        exact j3 _ _ _ _ _ _ _ (by omega) (q5.less (by omega))
      · exact j3 _ _ _ _ _ _ _ (by omega) (hs'.less (by omega))
    have j1 : ∀ (x16 x17 : Str × Stm) (kd : Int) (L' : List Int) (a' : Int), SOk ⟨L', a'⟩ (K - 190 + 10 * (many - n - 1) + 3) →
        Ok (Stream_Signals_j1 l t n x16 x17 L' a' kd) (Stp (fun x : List Int × Int × List Signal × Int × Int => (many - x.2.2.2.2).toNat) (fun x : List Int × Int × List Signal × Int × Int => 0 ≤ x.2.2.2.2 ∧ x.2.2.2.2 ≤ many ∧ SOk ⟨x.1, x.2.1⟩ (K - 190 + 10 * (many - x.2.2.2.2)) ∧ SG0 x.2.2.2.2 x.2.2.1 ∧ (0 ≤ x.2.2.2.1 ∧ x.2.2.2.1 ≤ 20 + 40 * x.2.2.2.2)) (fun r => SG many r.1 ∧ SOk r.2 (K - 200)) (L, a, l, t, n)) := by
      intro x16 x17 kd L' a' hs'
      unfold Stream_Signals_j1
      split
      · refine Ok.gen (Some_k hs' (by omega) (by simp) (by simp)) (fun w s5 hw q5 => ?_)
        exact j2 _ _ _ _ _ _ (q5.less (by omega))
      · exact j2 _ _ _ _ _ _ (hs'.less (by omega))
    split
    · refine Ok.gen (Pick_k q3 (by omega) (by simp) (by simp)) (fun p4 s4 h4 q4 => ?_)
      exact j1 _ _ _ _ _ (q4.less (by omega))
    · exact j1 _ _ _ _ _ (q3.less (by omega))
  · rw [if_neg hn]
    refine Ok.inr ?_
    unfold Stream_Signals_k7
    have hl' : SG0 many l := ⟨by omega, g3.2⟩
    obtain ⟨Z, z1, z2, _⟩ := sstable_len (fun y0 y1 => Q_SignalOrder y0 y1) l (by omega) (fun x hx y hy => SignalOrder_eq x y)
    rw [z1]
    simp only [Option.bind_some]
    refine Ok.gen (Flip_k g2 (by omega) (by omega) (by omega)) (fun b s5 _ q5 => ?_)
    dsimp only
    have j5 : ∀ (Y : List Signal) (L' : List Int) (a' : Int) (c : Bool), SG0 many Y → (c = true → 0 < (Y.length : Int)) → SOk ⟨L', a'⟩ (K - 194) → Ok (Stream_Signals_j5 Y L' a' c) (fun r => SG many r.1 ∧ SOk r.2 (K - 200)) := by
      intro Y L' a' c hY hc hs'
      have hYl := hY.1
      unfold Stream_Signals_j5 Stream_Signals_j6
      split
      · rename_i h
        have := hc h
        refine Ok.gen (Next_k hs' (by omega) (by omega) (by omega)) (fun u s6 hu q6 => ?_)
        dsimp only
        refine Ok.idx hu.1 hu.2 (fun p hp hpm => ?_)
        have hpB := hY.2 p hpm
        unfold SgB0 at hpB
        refine Ok.gen (Pick_k q6 (by omega) (by simp) (by simp)) (fun v s7 hv q7 => ?_)
        refine Ok.gen (Odd_k q7 (by omega) (by omega) (by omega) (by omega)) (fun w s8 _ q8 => ?_)
        refine Ok.gen (Some_k q8 (by omega) (by simp) (by simp)) (fun x s9 _ q9 => ?_)
        dsimp only
        rw [w64_in (x := p.At + 2592000000) (by omega) (by omega), w64_in (x := p.At + 2592000000 + 1) (by omega) (by omega)]
        refine Ok.gen (Pick_k q9 (by omega) (by simp) (by simp)) (fun y s10 hy q10 => ?_)
        have h1 := mem3 hv
        have h2 := mem4 hy
        rw [List.set_set, List.set_set, List.set_set]
        exact Ok.ret ⟨(hY.mono fun x => SgB0.w).set (by unfold SgB; simp only; omega) _, q10.less (by omega)⟩
      · exact Ok.ret ⟨hY.mono fun x => SgB0.w, hs'.less (by omega)⟩
    have j4 : ∀ (Y : List Signal), SG0 many Y → Ok (Stream_Signals_j4 (b, s5) Y) (fun r => SG many r.1 ∧ SOk r.2 (K - 200)) := by
      intro Y hY
      unfold Stream_Signals_j4
      split
      · rename_i h
        refine Ok.gen (Flip_k q5 (by omega) (by omega) (by omega)) (fun c s6 _ q6 => ?_)
        exact j5 Y _ _ c hY (fun _ => h) (q6.less (by omega))
      · exact j5 Y _ _ false hY (fun h => by cases h) (q5.less (by omega))
    split
    · rw [scompactF_eq (fun y0 y1 => Stream_Signals_1x y0 y1) (fun x y => decide (sO x y = 0)) Z (by have := z2.length_eq; omega) (fun x _ y _ => by unfold Stream_Signals_1x; rw [SignalOrder_eq]; rfl)]
      exact j4 _ ((hl'.perm z2).sub (dd_sub _ _))
    · exact j4 _ (hl'.perm z2)
/-! times and firings -/
theorem Time_k {s : Stm} {K : Int} (hs : SOk s K) (hK : 10 ≤ K) : Gen (Stream_Time s) (K - 10) (fun v => -1 ≤ v ∧ v ≤ 345686400000) := by
  refine Gen.of ?_
  unfold Stream_Time
  refine Ok.gen (Next_k hs (by omega) (by omega) (by omega)) (fun a s1 ha q1 => ?_)
  refine Ok.gen (Next_k q1 (by omega) (by omega) (by omega)) (fun b s2 hb q2 => ?_)
  refine Ok.gen (Pick_k q2 (by omega) (by simp) (by simp)) (fun c s3 hc q3 => ?_)
  have hc' : -1 ≤ c ∧ c ≤ 345686400000 := pick_le hc (by decide)
  dsimp only
  refine Ok.gen (Pick_k q3 (by omega) (by simp) (by simp)) (fun d s4 hd q4 => ?_)
  refine Ok.ret ⟨?_, q4.less (by omega)⟩
  simp only [List.mem_cons, List.not_mem_nil, or_false] at hd
  simp only
  omega
/-! signals out of firings -/
end Go.Beacon

/- Alarms one by one: what a signal does to a life, and to a track of the reference. No program in sight. -/
set_option linter.unusedVariables false
set_option linter.unusedSimpArgs false
namespace Go.Beacon
open Go Go.Eng

/-! lives -/
def setLast (l : List Window) (t : Int) : List Window := l.set (l.length - 1) ⟨(l.getD (l.length - 1) ⟨0, 0⟩).From, t⟩
theorem setLast_len (l : List Window) (t : Int) : (setLast l t).length = l.length := by unfold setLast; simp
abbrev upS (n : Int) : Prop := n = 1 ∨ n = 2
def lTurn (x : Alarm_life) (st t : Int) : Alarm_life :=
  ⟨x.name_, st, t, x.raises_, x.shelved_,
    if upS st ∧ ¬ upS x.state_ then (if upS x.state_ ∧ ¬ upS st then setLast x.up_ t else x.up_) ++ [⟨t, 345686400000⟩] else if upS x.state_ ∧ ¬ upS st then setLast x.up_ t else x.up_,
    if st = 1 then (if x.state_ = 1 then setLast x.fresh_ t else x.fresh_) ++ [⟨t, 345686400000⟩] else if x.state_ = 1 then setLast x.fresh_ t else x.fresh_,
    x.aside_, x.acks_, x.waits_⟩
def lRaise (x : Alarm_life) (t : Int) : Alarm_life := ⟨x.name_, x.state_, x.since_, x.raises_ ++ [t], x.shelved_, x.up_, x.fresh_, x.aside_, x.acks_, x.waits_⟩
def lAck (x : Alarm_life) (t : Int) : Alarm_life := ⟨x.name_, x.state_, x.since_, x.raises_, x.shelved_, x.up_, x.fresh_, x.aside_, x.acks_ ++ [t], x.waits_ ++ [t - x.raises_.getD (x.raises_.length - 1) 0]⟩
def lfw (x : Alarm_life) (s : Signal) : Int × Alarm_life :=
  if s.Kind = 1 then if upS x.state_ then (6, x) else (0, lRaise (lTurn x 1 s.At) s.At)
  else if s.Kind = 2 then if x.state_ = 1 then (0, lTurn x 3 s.At) else if x.state_ = 2 then (0, lTurn x 0 s.At) else (11, x)
  else if s.Kind = 3 then if x.state_ = 3 then (0, lAck (lTurn x 0 s.At) s.At) else if x.state_ = 1 then (0, lAck (lTurn x 2 s.At) s.At) else (11, x)
  else if s.Kind = 4 then if s.At < x.shelved_ then (11, x) else (0, ⟨x.name_, x.state_, x.since_, x.raises_, s.Until, x.up_, x.fresh_, x.aside_ ++ [⟨s.At, s.Until⟩], x.acks_, x.waits_⟩)
  else if x.shelved_ ≤ s.At then (11, x) else (0, ⟨x.name_, x.state_, x.since_, x.raises_, s.At, x.up_, x.fresh_, setLast x.aside_ s.At, x.acks_, x.waits_⟩)
/-- What holds of a life behind at most k signals. -/
structure LI (k : Int) (x : Alarm_life) : Prop where
  fresh : x.state_ = 1 → x.fresh_ ≠ []
  up : upS x.state_ → x.up_ ≠ []
  raised : x.state_ ≠ 0 → x.raises_ ≠ []
  aside : 0 < x.shelved_ → x.aside_ ≠ []
  rB : ∀ t ∈ x.raises_, 0 ≤ t ∧ t ≤ 4398046511104
  l1 : (x.raises_.length : Int) ≤ k
  l2 : (x.up_.length : Int) ≤ k
  l3 : (x.fresh_.length : Int) ≤ k
  l4 : (x.aside_.length : Int) ≤ k
  l5 : (x.acks_.length : Int) ≤ k
  l6 : (x.waits_.length : Int) ≤ k
theorem idx_last {α : Type} {l : List α} (h : l ≠ []) (d : α) : idx l ((l.length : Int) - 1) = some (l.getD (l.length - 1) d) := by
  have : 0 < l.length := List.length_pos_iff.2 h
  unfold idx
  rw [if_pos (by omega), show ((l.length : Int) - 1).toNat = l.length - 1 by omega, List.getD_eq_getElem?_getD, List.getElem?_eq_getElem (by omega)]; rfl
theorem turn1_eq {l : List Window} (h : l ≠ []) (hl : (l.length : Int) ≤ 1000000) : alarm_life_turn_1x l = some ((l.length : Int) - 1) := by
  have : 0 < l.length := List.length_pos_iff.2 h
  unfold alarm_life_turn_1x
  rw [w64_in (by omega) (by omega), idx_last h ⟨0, 0⟩]; rfl
theorem setLast_of {l : List Window} (h : l ≠ []) (t : Int) {w : Window} (hw : idx l ((l.length : Int) - 1) = some w) : l.set ((l.length : Int) - 1).toNat ⟨w.From, t⟩ = setLast l t := by
  have : 0 < l.length := List.length_pos_iff.2 h
  rw [idx_last h ⟨0, 0⟩] at hw
  unfold setLast
  rw [← Option.some.inj hw, show ((l.length : Int) - 1).toNat = l.length - 1 by omega]
theorem turn_eq {k : Int} {x : Alarm_life} (h : LI k x) (hk : k ≤ 1000) (st t : Int) : alarm_life_turn x st t = some (lTurn x st t) := by
  have hl2 := h.l2; have hl3 := h.l3
  have hu : ∀ n : Int, (decide (n = 1) || decide (n = 2)) = decide (upS n) := fun n => by rw [Bool.decide_or]
  unfold alarm_life_turn
  rw [hu, hu]
  have j7 : ∀ (f u : List Window), alarm_life_turn_j7 x st t f u = some ⟨x.name_, st, t, x.raises_, x.shelved_, u, f, x.aside_, x.acks_, x.waits_⟩ := fun _ _ => rfl
  have j5 : ∀ (u f : List Window), (u.length : Int) ≤ k → alarm_life_turn_j5 x st t (decide (upS x.state_)) (decide (upS st)) u f = some ⟨x.name_, st, t, x.raises_, x.shelved_, if upS st ∧ ¬ upS x.state_ then u ++ [⟨t, 345686400000⟩] else u, f, x.aside_, x.acks_, x.waits_⟩ := by
    intro u f hul
    unfold alarm_life_turn_j5 alarm_life_turn_j6
    have hc : (decide (upS st) && !decide (upS x.state_)) = decide (upS st ∧ ¬ upS x.state_) := by simp
    rw [hc]
    by_cases hq : upS st ∧ ¬ upS x.state_
    · rw [decide_eq_true hq, if_pos rfl, if_pos hq, app_le (by simp; omega)]; rfl
    · rw [decide_eq_false hq, if_neg (by simp), if_neg hq]; rfl
  have j4 : ∀ (f u : List Window), (u.length : Int) ≤ k → (f.length : Int) ≤ k → alarm_life_turn_j4 x st t (decide (upS x.state_)) (decide (upS st)) f u = some ⟨x.name_, st, t, x.raises_, x.shelved_, if upS st ∧ ¬ upS x.state_ then u ++ [⟨t, 345686400000⟩] else u, if st = 1 then f ++ [⟨t, 345686400000⟩] else f, x.aside_, x.acks_, x.waits_⟩ := by
    intro f u hul hfl
    unfold alarm_life_turn_j4
    by_cases h1 : st = 1
    · rw [if_pos h1, if_pos h1, app_le (by simp; omega)]; exact j5 u _ hul
    · rw [if_neg h1, if_neg h1]; exact j5 u f hul
  have j2 : ∀ (f : List Window), (f.length : Int) ≤ k → alarm_life_turn_j2 x st t (decide (upS x.state_)) (decide (upS st)) f = some ⟨x.name_, st, t, x.raises_, x.shelved_, if upS st ∧ ¬ upS x.state_ then (if upS x.state_ ∧ ¬ upS st then setLast x.up_ t else x.up_) ++ [⟨t, 345686400000⟩] else if upS x.state_ ∧ ¬ upS st then setLast x.up_ t else x.up_, if st = 1 then f ++ [⟨t, 345686400000⟩] else f, x.aside_, x.acks_, x.waits_⟩ := by
    intro f hfl
    unfold alarm_life_turn_j2 alarm_life_turn_j3
    have hc : (decide (upS x.state_) && !decide (upS st)) = decide (upS x.state_ ∧ ¬ upS st) := by simp
    rw [hc]
    by_cases hq : upS x.state_ ∧ ¬ upS st
    · rw [decide_eq_true hq, if_pos rfl]
      have hne := h.up hq.1
      rw [turn1_eq hne (by omega)]
      simp only [Option.bind_some]
      rw [idx_last hne ⟨0, 0⟩]
      simp only [Option.bind_some]
      rw [setLast_of hne t (idx_last hne ⟨0, 0⟩), j4 _ _ (by rw [setLast_len]; exact hl2) hfl]
      simp only [if_pos hq]
    · rw [decide_eq_false hq, if_neg (by simp), j4 _ _ hl2 hfl]
      simp only [if_neg hq]
  unfold alarm_life_turn_j1 lTurn
  by_cases h1 : x.state_ = 1
  · rw [if_pos h1]
    have hne := h.fresh h1
    rw [turn1_eq hne (by omega)]
    simp only [Option.bind_some]
    rw [idx_last hne ⟨0, 0⟩]
    simp only [Option.bind_some]
    rw [setLast_of hne t (idx_last hne ⟨0, 0⟩), j2 _ (by rw [setLast_len]; exact hl3)]
    simp only [if_pos h1]
  · rw [if_neg h1, j2 _ hl3]
    simp only [if_neg h1]
theorem follow_eq {k : Int} {x : Alarm_life} (h : LI k x) (hk : k ≤ 1000) {s : Signal} (h0 : 0 ≤ s.At) (hB : SgB s) (hK : 1 ≤ s.Kind ∧ s.Kind ≤ 5) : alarm_life_follow x s = some (lfw x s) := by
  unfold SgB at hB
  have hl1 := h.l1; have hl5 := h.l5; have hl6 := h.l6; have hl4 := h.l4
  have hu : ∀ n : Int, (decide (n = 1) || decide (n = 2)) = decide (upS n) := fun n => by rw [Bool.decide_or]
  unfold alarm_life_follow lfw
  by_cases k1 : s.Kind = 1
  · rw [if_pos k1, if_pos k1, hu]
    unfold alarm_life_follow_j1
    by_cases hq : upS x.state_
    · rw [decide_eq_true hq, if_pos rfl, if_pos hq]
    · rw [decide_eq_false hq, if_neg (by simp), if_neg hq, turn_eq h hk]
      simp only [Option.bind_some]
      rw [app_le (by show (x.raises_.length + 1 : Nat) ≤ _; omega)]; rfl
  · rw [if_neg k1, if_neg k1]
    -- clear and ack
    have low : ∀ (hne : x.state_ ≠ 0 ∨ s.Kind = 2), alarm_life_lower_j8 = alarm_life_lower_j8 := fun _ => rfl
    have ack : ∀ y : Alarm_life, y.raises_ = x.raises_ → y.acks_ = x.acks_ → y.waits_ = x.waits_ → x.raises_ ≠ [] → ¬ s.Kind = 2 → alarm_life_lower_j2 s y.name_.device_ y.name_.rule_ y.state_ y.since_ y.raises_ y.shelved_ y.up_ y.fresh_ y.aside_ y.acks_ y.waits_ = some (0, lAck y s.At) := by
      intro y e1 e2 e3 hne h2
      unfold alarm_life_lower_j2 alarm_life_lower_j8 lAck
      have hlen : 0 < x.raises_.length := List.length_pos_iff.2 hne
      have hbl : 0 ≤ x.raises_.getD (x.raises_.length - 1) 0 ∧ x.raises_.getD (x.raises_.length - 1) 0 ≤ 4398046511104 := h.rB _ (by rw [List.getD_eq_getElem?_getD, List.getElem?_eq_getElem (by omega)]; simp)
      rw [if_pos h2, e1, e2, e3, app_le (by simp; omega)]
      simp only [Option.bind_some]
      rw [w64_in (by omega) (by omega), idx_last hne 0]
      simp only [Option.bind_some]
      rw [app_le (by simp; omega), w64_in (by omega) (by omega)]; rfl
    have clr : ∀ y : Alarm_life, s.Kind = 2 → alarm_life_lower_j2 s y.name_.device_ y.name_.rule_ y.state_ y.since_ y.raises_ y.shelved_ y.up_ y.fresh_ y.aside_ y.acks_ y.waits_ = some (0, y) := by
      intro y h2
      unfold alarm_life_lower_j2 alarm_life_lower_j8
      rw [if_neg (fun z => z h2)]
    by_cases k2 : s.Kind = 2
    · rw [if_pos k2, if_pos k2]
      unfold alarm_life_follow_j2 alarm_life_lower alarm_life_lower_j1
      rw [decide_eq_true k2, if_pos rfl, Bool.true_and]
      by_cases s1 : x.state_ = 1
      · rw [decide_eq_true s1, if_pos rfl, if_pos s1, turn_eq h hk]
        simp only [Option.bind_some]
        rw [clr _ k2]; rfl
      · rw [decide_eq_false s1, if_neg (by simp), if_neg s1]
        unfold alarm_life_lower_j3
        by_cases s2 : x.state_ = 2
        · rw [decide_eq_true s2, Bool.true_and, if_pos rfl, if_pos s2]
          unfold alarm_life_lower_j4 alarm_life_lower_j6
          rw [if_pos (by rfl), turn_eq h hk]
          simp only [Option.bind_some]
          rw [clr _ k2]; rfl
        · rw [decide_eq_false s2, if_neg (by simp), if_neg s2]
          unfold alarm_life_lower_j5 alarm_life_lower_j4 alarm_life_lower_j7
          rw [if_neg (by simp [k2]), if_neg (by simp [k2])]; rfl
    · rw [if_neg k2, if_neg k2]
      unfold alarm_life_follow_j2
      by_cases k3 : s.Kind = 3
      · rw [decide_eq_true k3, if_pos rfl, if_pos k3]
        unfold alarm_life_lower alarm_life_lower_j1
        rw [decide_eq_false k2, if_neg (by simp)]
        unfold alarm_life_lower_j3
        rw [if_neg (by simp)]
        unfold alarm_life_lower_j5 alarm_life_lower_j4
        by_cases s3 : x.state_ = 3
        · rw [if_pos (by simp [k2, s3]), if_pos s3, turn_eq h hk]
          simp only [Option.bind_some]
          unfold alarm_life_lower_j6
          rw [ack (lTurn x 0 s.At) rfl rfl rfl (h.raised (by omega)) k2]; rfl
        · rw [if_neg (by simp [s3]), if_neg s3]
          unfold alarm_life_lower_j7
          by_cases s1 : x.state_ = 1
          · rw [if_pos (by simp [k2, s1]), if_pos s1, turn_eq h hk]
            simp only [Option.bind_some]
            unfold alarm_life_lower_j6
            rw [ack (lTurn x 2 s.At) rfl rfl rfl (h.raised (by omega)) k2]; rfl
          · rw [if_neg (by simp [s1]), if_neg s1]; rfl
      · rw [decide_eq_false k3, if_neg (by simp), if_neg k3]
        by_cases k4 : s.Kind = 4
        · rw [if_pos k4, if_pos k4]
          by_cases hs : s.At < x.shelved_
          · rw [if_pos hs, if_pos hs]
          · rw [if_neg hs, if_neg hs, app_le (by simp; omega)]; rfl
        · rw [if_neg k4, if_neg k4]
          by_cases hs : x.shelved_ ≤ s.At
          · rw [if_pos hs, if_pos hs]
          · rw [if_neg hs, if_neg hs]
            have hne := h.aside (by omega)
            rw [w64_in (by omega) (by omega), idx_last hne ⟨0, 0⟩]
            simp only [Option.bind_some]
            rw [setLast_of hne s.At (idx_last hne ⟨0, 0⟩)]
theorem tfresh {x : Alarm_life} {st t : Int} (h : st = 1) : (lTurn x st t).fresh_ ≠ [] := by
  unfold lTurn
  simp only [h, if_true]
  simp
theorem tup {k : Int} {x : Alarm_life} (h : LI k x) {st t : Int} (hs : upS st) : (lTurn x st t).up_ ≠ [] := by
  unfold lTurn
  simp only
  by_cases hx : upS x.state_
  · rw [if_neg (fun z => z.2 hx), if_neg (fun z => z.2 hs)]; exact h.up hx
  · rw [if_pos ⟨hs, hx⟩]; simp
theorem tupl (x : Alarm_life) (st t : Int) : (lTurn x st t).up_.length ≤ x.up_.length + 1 := by
  unfold lTurn
  simp only
  repeat' split
  all_goals simp [setLast_len]
theorem tfrl (x : Alarm_life) (st t : Int) : (lTurn x st t).fresh_.length ≤ x.fresh_.length + 1 := by
  unfold lTurn
  simp only
  repeat' split
  all_goals simp [setLast_len]
theorem LI.mono {k k' : Int} {x : Alarm_life} (h : LI k x) (hk : k ≤ k') : LI k' x :=
  ⟨h.fresh, h.up, h.raised, h.aside, h.rB, by have := h.l1; omega, by have := h.l2; omega, by have := h.l3; omega, by have := h.l4; omega, by have := h.l5; omega, by have := h.l6; omega⟩
theorem LI.turn {k : Int} {x : Alarm_life} (h : LI k x) {st t : Int} (hr : st ≠ 0 → x.raises_ ≠ []) : LI (k + 1) (lTurn x st t) :=
  ⟨fun h1 => tfresh h1, fun h1 => tup h h1, hr, h.aside, h.rB, by have := h.l1; show (x.raises_.length : Int) ≤ _; omega, by have := h.l2; have := tupl x st t; omega, by have := h.l3; have := tfrl x st t; omega, by have := h.l4; show (x.aside_.length : Int) ≤ _; omega, by have := h.l5; show (x.acks_.length : Int) ≤ _; omega, by have := h.l6; show (x.waits_.length : Int) ≤ _; omega⟩
theorem LI.ack {k : Int} {x : Alarm_life} (h : LI k x) {st t : Int} (hr : st ≠ 0 → x.raises_ ≠ []) (u : Int) : LI (k + 1) (lAck (lTurn x st t) u) := by
  have q := h.turn (t := t) hr
  refine ⟨q.fresh, q.up, q.raised, q.aside, q.rB, q.l1, q.l2, q.l3, q.l4, ?_, ?_⟩
  · have := h.l5; show ((x.acks_ ++ [u]).length : Int) ≤ _; simp; omega
  · have := h.l6; show ((x.waits_ ++ [u - x.raises_.getD (x.raises_.length - 1) 0]).length : Int) ≤ _; simp; omega
theorem LI.step {k : Int} {x : Alarm_life} (h : LI k x) {s : Signal} (h0 : 0 ≤ s.At) (hB : SgB s) : LI (k + 1) (lfw x s).2 := by
  unfold SgB at hB
  have hl4 := h.l4
  have same : LI (k + 1) x := h.mono (by omega)
  unfold lfw
  split
  · split
    · exact same
    · have hl1 := h.l1
      have hl2 := h.l2; have hl3 := h.l3; have hl5 := h.l5; have hl6 := h.l6
      have t2 := tupl x 1 s.At; have t3 := tfrl x 1 s.At
      refine ⟨fun _ => tfresh rfl, fun _ => tup h (.inl rfl), fun _ => by show x.raises_ ++ [s.At] ≠ []; simp, h.aside, ?_, ?_, ?_, ?_, ?_, ?_, ?_⟩
      · intro t ht
        rcases List.mem_append.1 (show t ∈ x.raises_ ++ [s.At] from ht) with e | e
        · exact h.rB t e
        · rw [List.mem_singleton] at e; subst e; omega
      · show ((x.raises_ ++ [s.At]).length : Int) ≤ _; simp; omega
      · show ((lTurn x 1 s.At).up_.length : Int) ≤ _; omega
      · show ((lTurn x 1 s.At).fresh_.length : Int) ≤ _; omega
      · show (x.aside_.length : Int) ≤ _; omega
      · show (x.acks_.length : Int) ≤ _; omega
      · show (x.waits_.length : Int) ≤ _; omega
  · split
    · split
      · rename_i s1; exact h.turn fun _ => h.raised (by omega)
      · split
        · exact h.turn fun z => absurd rfl z
        · exact same
    · split
      · split
        · exact h.ack (fun z => absurd rfl z) _
        · split
          · rename_i s1; exact h.ack (fun _ => h.raised (by omega)) _
          · exact same
      · split
        · split
          · exact same
          · exact ⟨same.fresh, same.up, same.raised, fun _ => by show x.aside_ ++ _ ≠ []; simp, same.rB, same.l1, same.l2, same.l3, by show ((x.aside_ ++ _).length : Int) ≤ _; simp; omega, same.l5, same.l6⟩
        · split
          · exact same
          · rename_i hs
            have hne := h.aside (by omega)
            have hpos : 0 < x.aside_.length := List.length_pos_iff.2 hne
            exact ⟨same.fresh, same.up, same.raised, fun _ => by
              show setLast x.aside_ s.At ≠ []
              rw [← List.length_pos_iff, setLast_len]; exact hpos, same.rB, same.l1, same.l2, same.l3, by show ((setLast x.aside_ s.At).length : Int) ≤ _; rw [setLast_len]; omega, same.l5, same.l6⟩
/-! tracks of the reference -/
def tDone (t : Fleetref1_track) (s : Signal) (st : Int) (w : Window) : Fleetref1_track := ⟨t.device_, t.rule_, t.done_ ++ [s], st, w⟩
abbrev onS (t : Fleetref1_track) (s : Signal) : Prop := t.shelved_.From ≤ s.At ∧ s.At < t.shelved_.To
def tkw (t : Fleetref1_track) (s : Signal) : Int × Fleetref1_track :=
  if s.Kind = 1 then if upS t.state_ then (6, t) else (0, tDone t s 1 t.shelved_)
  else if s.Kind = 2 then if t.state_ = 1 then (0, tDone t s 3 t.shelved_) else if t.state_ = 2 then (0, tDone t s 0 t.shelved_) else (11, t)
  else if s.Kind = 3 then if t.state_ = 3 then (0, tDone t s 0 t.shelved_) else if t.state_ = 1 then (0, tDone t s 2 t.shelved_) else (11, t)
  else if s.Kind = 4 then if onS t s then (11, t) else (0, tDone t s t.state_ ⟨s.At, s.Until⟩)
  else if onS t s then (0, tDone t s t.state_ ⟨0, 0⟩) else (11, t)
theorem step_eq {t : Fleetref1_track} (hl : (t.done_.length : Int) ≤ 1000) (s : Signal) : Q_track_step t s = some (tkw t s) := by
  have hu : (decide (t.state_ = 1) || decide (t.state_ = 2)) = decide (upS t.state_) := by rw [Bool.decide_or]
  have j3 : ∀ st a b : Int, Q_track_step_j3 t s st a b = some (0, tDone t s st ⟨a, b⟩) := fun st a b => by
    unfold Q_track_step_j3
    rw [app_le (by simp; omega)]; rfl
  unfold Q_track_step Q_track_step_j1 tkw
  rw [hu]
  unfold Q_track_step_j2
  by_cases k1 : s.Kind = 1
  · rw [if_pos k1, if_pos k1]
    by_cases hq : upS t.state_
    · rw [decide_eq_true hq, if_pos rfl, if_pos hq]
    · rw [decide_eq_false hq, if_neg (by simp), if_neg hq, j3]
  · rw [if_neg k1, if_neg k1]
    by_cases k2 : s.Kind = 2
    · rw [if_pos k2, if_pos k2]
      by_cases s1 : t.state_ = 1
      · rw [decide_eq_true (show upS t.state_ from .inl s1), if_neg (by simp), if_pos s1, s1]
        unfold Q_track_step_j4
        rw [show mgetO (mset (mset ([] : List (Int × Int)) 1 3) 2 0) 1 0 = some 3 by decide]
        simp only [Option.bind_some, j3]
      · by_cases s2 : t.state_ = 2
        · rw [decide_eq_true (show upS t.state_ from .inr s2), if_neg (by simp), if_neg s1, if_pos s2, s2]
          unfold Q_track_step_j4
          rw [show mgetO (mset (mset ([] : List (Int × Int)) 1 3) 2 0) 2 0 = some 0 by decide]
          simp only [Option.bind_some, j3]
        · rw [decide_eq_false (show ¬ upS t.state_ from fun z => z.elim s1 s2), if_pos (by simp), if_neg s1, if_neg s2]
    · rw [if_neg k2, if_neg k2]
      by_cases k3 : s.Kind = 3
      · rw [if_pos k3, if_pos k3]
        unfold Q_track_step_j6 Q_track_step_j5 Q_track_step_j4
        by_cases s3 : t.state_ = 3
        · rw [if_neg (by simp [s3]), if_pos s3, s3]
          rw [show mgetO (mset (mset ([] : List (Int × Int)) 1 2) 3 0) 3 0 = some 0 by decide]
          simp only [Option.bind_some, j3]
        · by_cases s1 : t.state_ = 1
          · rw [if_neg (by simp [s1]), if_neg s3, if_pos s1, s1]
            rw [show mgetO (mset (mset ([] : List (Int × Int)) 1 2) 3 0) 1 0 = some 2 by decide]
            simp only [Option.bind_some, j3]
          · rw [if_pos (by simp [s1, s3]), if_neg s3, if_neg s1]
      · rw [if_neg k3, if_neg k3]
        have ho : (decide (t.shelved_.From ≤ s.At) && decide (s.At < t.shelved_.To)) = decide (onS t s) := by rw [Bool.decide_and]
        rw [ho]
        unfold Q_track_step_j7 Q_track_step_j5 Q_track_step_j4
        by_cases k4 : s.Kind = 4
        · rw [if_pos k4, if_pos k4]
          by_cases hq : onS t s
          · rw [decide_eq_true hq, if_pos rfl, if_pos hq]
          · rw [decide_eq_false hq, if_neg (by simp), if_neg hq, j3]
        · rw [if_neg k4, if_neg k4]
          by_cases hq : onS t s
          · rw [decide_eq_true hq, if_neg (by simp), if_pos hq, j3]
          · rw [decide_eq_false hq, if_pos (by simp), if_neg hq]
/-! a life and its track -/
def raisesOf (l : List Signal) : List Int := (l.filter (fun s => decide (s.Kind = 1))).map Signal.At
def sinceOf (l : List Signal) : Int := l.foldl (fun a s => if s.Kind ≤ 3 then s.At else a) 0
structure RT (T : Int) (x : Alarm_life) (t : Fleetref1_track) : Prop where
  dev : x.name_.device_ = t.device_
  rul : x.name_.rule_ = t.rule_
  st : x.state_ = t.state_
  raises : x.raises_ = raisesOf t.done_
  since : x.since_ = sinceOf t.done_
  from_ : t.shelved_.From ≤ T
  sh : x.shelved_ = t.shelved_.To ∨ (x.shelved_ ≤ T ∧ t.shelved_.To ≤ T)
theorem raisesOf_snoc (l : List Signal) (s : Signal) : raisesOf (l ++ [s]) = if s.Kind = 1 then raisesOf l ++ [s.At] else raisesOf l := by
  unfold raisesOf
  rw [List.filter_append]
  by_cases h : s.Kind = 1 <;> simp [h]
theorem sinceOf_snoc (l : List Signal) (s : Signal) : sinceOf (l ++ [s]) = if s.Kind ≤ 3 then s.At else sinceOf l := by
  unfold sinceOf
  rw [List.foldl_append]; rfl
theorem RT.mono {T T' : Int} {x : Alarm_life} {t : Fleetref1_track} (h : RT T x t) (hT : T ≤ T') : RT T' x t :=
  ⟨h.dev, h.rul, h.st, h.raises, h.since, by have := h.from_; omega, h.sh.imp id fun z => ⟨by omega, by omega⟩⟩
theorem RT.step {T : Int} {x : Alarm_life} {t : Fleetref1_track} (h : RT T x t) {s : Signal} (hT : T ≤ s.At) (h0 : 0 ≤ s.At) (hK : 1 ≤ s.Kind ∧ s.Kind ≤ 5) : (lfw x s).1 = (tkw t s).1 ∧ RT s.At (lfw x s).2 (tkw t s).2 := by
  have hm := h.mono hT
  have hst := h.st
  have turn : ∀ (y : Alarm_life) (st : Int), y.name_ = x.name_ → y.state_ = st → y.since_ = s.At → y.shelved_ = x.shelved_ → s.Kind ≤ 3 → (y.raises_ = if s.Kind = 1 then x.raises_ ++ [s.At] else x.raises_) → RT s.At y (tDone t s st t.shelved_) := by
    intro y st e1 e2 e3 e4 hk e5
    refine ⟨by rw [e1]; exact h.dev, by rw [e1]; exact h.rul, e2, ?_, ?_, hm.from_, by rw [e4]; exact hm.sh⟩
    · show y.raises_ = raisesOf (t.done_ ++ [s])
      rw [raisesOf_snoc, ← h.raises]; exact e5
    · show y.since_ = sinceOf (t.done_ ++ [s])
      rw [sinceOf_snoc, if_pos hk]; exact e3
  unfold lfw tkw
  rw [← hst]
  by_cases k1 : s.Kind = 1
  · rw [if_pos k1, if_pos k1]
    by_cases hq : upS x.state_
    · rw [if_pos hq, if_pos hq]; exact ⟨rfl, hm⟩
    · rw [if_neg hq, if_neg hq]; exact ⟨rfl, turn _ 1 rfl rfl rfl rfl (by omega) (by rw [if_pos k1]; rfl)⟩
  · rw [if_neg k1, if_neg k1]
    by_cases k2 : s.Kind = 2
    · rw [if_pos k2, if_pos k2]
      by_cases s1 : x.state_ = 1
      · rw [if_pos s1, if_pos s1]; exact ⟨rfl, turn _ 3 rfl rfl rfl rfl (by omega) (by rw [if_neg k1]; rfl)⟩
      · rw [if_neg s1, if_neg s1]
        by_cases s2 : x.state_ = 2
        · rw [if_pos s2, if_pos s2]; exact ⟨rfl, turn _ 0 rfl rfl rfl rfl (by omega) (by rw [if_neg k1]; rfl)⟩
        · rw [if_neg s2, if_neg s2]; exact ⟨rfl, hm⟩
    · rw [if_neg k2, if_neg k2]
      by_cases k3 : s.Kind = 3
      · rw [if_pos k3, if_pos k3]
        by_cases s3 : x.state_ = 3
        · rw [if_pos s3, if_pos s3]; exact ⟨rfl, turn _ 0 rfl rfl rfl rfl (by omega) (by rw [if_neg k1]; rfl)⟩
        · rw [if_neg s3, if_neg s3]
          by_cases s1 : x.state_ = 1
          · rw [if_pos s1, if_pos s1]; exact ⟨rfl, turn _ 2 rfl rfl rfl rfl (by omega) (by rw [if_neg k1]; rfl)⟩
          · rw [if_neg s1, if_neg s1]; exact ⟨rfl, hm⟩
      · rw [if_neg k3, if_neg k3]
        have hon : onS t s ↔ s.At < x.shelved_ := by
          have := hm.from_
          rcases h.sh with e | e
          · rw [e]; exact ⟨fun z => z.2, fun z => ⟨this, z⟩⟩
          · exact ⟨fun z => by have := z.2; omega, fun z => by omega⟩
        have put : ∀ (y : Alarm_life) (w : Window), y.name_ = x.name_ → y.state_ = x.state_ → y.since_ = x.since_ → y.raises_ = x.raises_ → w.From ≤ s.At → (y.shelved_ = w.To ∨ (y.shelved_ ≤ s.At ∧ w.To ≤ s.At)) → RT s.At y (tDone t s x.state_ w) := by
          intro y w e1 e2 e3 e4 e5 e6
          refine ⟨by rw [e1]; exact h.dev, by rw [e1]; exact h.rul, e2, ?_, ?_, e5, e6⟩
          · show y.raises_ = raisesOf (t.done_ ++ [s])
            rw [raisesOf_snoc, if_neg k1, e4]; exact h.raises
          · show y.since_ = sinceOf (t.done_ ++ [s])
            rw [sinceOf_snoc, if_neg (by omega), e3]; exact h.since
        by_cases k4 : s.Kind = 4
        · rw [if_pos k4, if_pos k4]
          by_cases hs : s.At < x.shelved_
          · rw [if_pos hs, if_pos (hon.2 hs)]; exact ⟨rfl, hm⟩
          · rw [if_neg hs, if_neg (fun z => hs (hon.1 z))]; exact ⟨rfl, put _ _ rfl rfl rfl rfl (Int.le_refl _) (.inl rfl)⟩
        · rw [if_neg k4, if_neg k4]
          by_cases hs : s.At < x.shelved_
          · rw [if_neg (by omega), if_pos (hon.2 hs)]; exact ⟨rfl, put _ _ rfl rfl rfl rfl h0 (.inr ⟨Int.le_refl _, h0⟩)⟩
          · rw [if_pos (by omega), if_neg (fun z => hs (hon.1 z))]; exact ⟨rfl, hm⟩
end Go.Beacon

/- All alarms of signals: the house, and the reference's tracks. No program in sight. -/
set_option linter.unusedVariables false
set_option linter.unusedSimpArgs false
namespace Go.Beacon
open Go Go.Eng

/-! names -/
def nmO (a b : Alarm_name) : Int := orL [Lib.compareBytes a.device_ b.device_, Lib.compareBytes a.rule_ b.rule_]
theorem nmO_3 : Cmp3 nmO := (cmpB_3.on Alarm_name.device_).or ((cmpB_3.on Alarm_name.rule_).or .or0)
theorem nmO_zero {a b : Alarm_name} (h : nmO a b = 0) : a = b := by
  have h1 := cmpB_zero (orL_zero h _ (by simp) : Lib.compareBytes a.device_ b.device_ = 0)
  have h2 := cmpB_zero (orL_zero h _ (by simp) : Lib.compareBytes a.rule_ b.rule_ = 0)
  cases a; cases b
  simp only at h1 h2
  rw [h1, h2]
def nmS (s : Signal) : Alarm_name := ⟨s.Device, s.Rule⟩
theorem newHouse1_eq (x y : Alarm_life) : alarm_newHouse_1x x y = some (nmO x.name_ y.name_) := by
  unfold alarm_newHouse_1x alarm_byName
  have h : cmp_Or_int [Lib.compareBytes x.name_.device_ y.name_.device_, Lib.compareBytes x.name_.rule_ y.name_.rule_] = some (nmO x.name_ y.name_) := gOr_eq _ (by simp)
  rw [h]; rfl
theorem tracks2_eq (x y : Fleetref1_track) : Q_tracksAt_2x x y = some (nmO ⟨x.device_, x.rule_⟩ ⟨y.device_, y.rule_⟩) := by
  unfold Q_tracksAt_2x
  have h : cmp_Or_int [Lib.compareBytes x.device_ y.device_, Lib.compareBytes x.rule_ y.rule_] = some (nmO ⟨x.device_, x.rule_⟩ ⟨y.device_, y.rule_⟩) := gOr_eq _ (by simp)
  rw [h]; rfl
def nms (l : List Signal) : List Alarm_name := (l.map nmS).foldl addN []
theorem nms_nodup (l : List Signal) : (nms l).Nodup := (foldl_addN _ _ (by simp)).1
theorem nms_mem (l : List Signal) (n : Alarm_name) : n ∈ nms l ↔ n ∈ l.map nmS := by
  unfold nms; rw [(foldl_addN _ _ (by simp)).2.1 n]; simp
theorem nms_len (l : List Signal) : (nms l).length ≤ l.length := by
  have := (foldl_addN (l.map nmS) ([] : List Alarm_name) (by simp)).2.2
  unfold nms; simpa using this
theorem nms_snoc (l : List Signal) (s : Signal) : nms (l ++ [s]) = addN (nms l) (nmS s) := by
  unfold nms; rw [List.map_append, List.foldl_append]; rfl
theorem nm_lt (a b : Alarm_name) : KLt.lt a b = (KLt.lt a.device_ b.device_ || (decide (a.device_ = b.device_) && KLt.lt a.rule_ b.rule_)) := by
  show (KLt.lt a.device_ b.device_ || (decide (a.device_ = b.device_) && (KLt.lt a.rule_ b.rule_ || (decide (a.rule_ = b.rule_) && false)))) = _
  simp
instance : LKey Alarm_name where
  irr a := by rw [nm_lt, LKey.irr, LKey.irr]; simp
  tr {a b c} h1 h2 := by
    rw [nm_lt] at *
    simp only [Bool.or_eq_true, Bool.and_eq_true, decide_eq_true_eq] at *
    rcases h1 with h1 | ⟨e1, h1⟩
    · rcases h2 with h2 | ⟨e2, h2⟩
      · exact .inl (LKey.tr h1 h2)
      · exact .inl (by rw [← e2]; exact h1)
    · rcases h2 with h2 | ⟨e2, h2⟩
      · exact .inl (by rw [e1]; exact h2)
      · exact .inr ⟨e1.trans e2, LKey.tr h1 h2⟩
  tri a b := by
    rw [nm_lt, nm_lt]
    simp only [Bool.or_eq_true, Bool.and_eq_true, decide_eq_true_eq]
    rcases LKey.tri a.device_ b.device_ with h | h | h
    · exact .inl (.inl h)
    · rcases LKey.tri a.rule_ b.rule_ with g | g | g
      · exact .inl (.inr ⟨h, g⟩)
      · right; left; cases a; cases b; simp only at h g; rw [h, g]
      · exact .inr (.inr (.inr ⟨h.symm, g⟩))
    · exact .inr (.inr (.inl h))
/-- Two strictly sorted lists of the same names. -/
theorem sn_unique {A B : List Alarm_name} (ha : A.Pairwise (fun a b => nmO a b < 0)) (hb : B.Pairwise (fun a b => nmO a b < 0)) (h : ∀ n, n ∈ A ↔ n ∈ B) : A = B :=
  srt_unique ((List.perm_ext_iff_of_nodup (nodup_of nmO_3 ha) (nodup_of nmO_3 hb)).2 h) (srt_of nmO_3 ha) (srt_of nmO_3 hb) (fun a _ b _ k1 k2 => by
    have := nmO_3.neg a b
    exact nmO_zero (by omega))
/-- The places of a list. -/
def places (n : Nat) : List Int := (List.range n).map fun (i : Nat) => (i : Int)
theorem places_succ (n : Nat) : places (n + 1) = places n ++ [(n : Int)] := by unfold places; rw [List.range_succ, List.map_append]; rfl
theorem places_len (n : Nat) : (places n).length = n := by unfold places; simp
theorem places_mem {n : Nat} {i : Int} : i ∈ places n ↔ 0 ≤ i ∧ i < n := by
  unfold places
  simp only [List.mem_map, List.mem_range]
  constructor
  · rintro ⟨a, h, rfl⟩; omega
  · rintro ⟨h1, h2⟩; exact ⟨i.toNat, by omega, by omega⟩
theorem places_idx {n : Nat} {i : Int} (h : 0 ≤ i ∧ i < n) : idx (places n) i = some i := by
  unfold idx places
  rw [if_pos h.1, List.getElem?_map, List.getElem?_range (by omega)]
  simp only [Option.map_some, Option.some.injEq]; omega
def at_ {α : Type} (d : α) (l : List α) (i : Int) : α := l.getD i.toNat d
theorem at_idx {α : Type} {d : α} {l : List α} {i : Int} (h0 : 0 ≤ i) (h1 : i < l.length) : idx l i = some (at_ d l i) := by
  unfold idx at_
  rw [if_pos h0, List.getD_eq_getElem?_getD, List.getElem?_eq_getElem (by omega)]; rfl
theorem idx_map' {α β : Type} (f : α → β) (xs : List α) (i : Int) : idx (xs.map f) i = (idx xs i).map f := by
  unfold idx
  split
  · rw [List.getElem?_map]
  · rfl
/-- Numbers of objects, sorted by the objects' names: the sorted names. -/
theorem sort_names {V : Type} (fn : V → V → Option Int) (key : V → Alarm_name) (hfn : ∀ x y, fn x y = some (nmO (key x) (key y))) (M : List Alarm_name) (hM : M.Nodup) (hl : (M.length : Int) ≤ 1000) (G : Alarm_name → V) (hG : ∀ n, key (G n) = n) :
    ∃ r, sortA fn (M.map G) (places M.length) = some r ∧ r.Perm (places M.length) ∧ (r.map (at_ ⟨[], []⟩ M)).Pairwise (fun a b => nmO a b < 0) := by
  have hin : ∀ i ∈ places M.length, idx (M.map G) i = some (G (at_ ⟨[], []⟩ M i)) := fun i hi => by
    have := places_mem.1 hi
    rw [idx_map', at_idx this.1 this.2]; rfl
  obtain ⟨r, r1, r2, r3⟩ := sortO_eq (fun i j => (idx (M.map G) i).bind fun x => (idx (M.map G) j).bind fun y => fn x y) (fun i j => nmO (at_ ⟨[], []⟩ M i) (at_ ⟨[], []⟩ M j)) (places M.length) (by rw [places_len]; omega)
    (fun a ha b hb => by rw [hin a ha, hin b hb]; simp only [Option.bind_some]; rw [hfn, hG, hG]) ((nmO_3.on (at_ ⟨[], []⟩ M)).ord _)
  refine ⟨r, r1, r2, ?_⟩
  have hnd : r.Nodup := r2.nodup_iff.2 (by
    unfold places
    exact List.Pairwise.map (S := (· ≠ ·)) (fun (i : Nat) => (i : Int)) (fun a b h e => h (by have e1 : (a : Int) = b := e; omega)) List.nodup_range)
  rw [List.pairwise_map]
  have hs : r.Pairwise (fun a b => ¬ nmO (at_ ⟨[], []⟩ M b) (at_ ⟨[], []⟩ M a) < 0) := r3
  refine (hs.and hnd).imp_of_mem (fun {a b} ha hb h => ?_)
  have h1 := places_mem.1 (r2.mem_iff.1 ha)
  have h2 := places_mem.1 (r2.mem_iff.1 hb)
  have hn := nmO_3.neg (at_ ⟨[], []⟩ M a) (at_ ⟨[], []⟩ M b)
  by_cases h0 : nmO (at_ ⟨[], []⟩ M a) (at_ ⟨[], []⟩ M b) = 0
  · exfalso
    have e := nmO_zero h0
    unfold at_ at e
    rw [List.getD_eq_getElem?_getD, List.getD_eq_getElem?_getD, List.getElem?_eq_getElem (by omega), List.getElem?_eq_getElem (by omega)] at e
    have := (List.getElem_inj hM).1 e
    exact h.2 (by omega)
  · have := h.1; omega
/-! the house -/
def life0 (n : Alarm_name) : Alarm_life := ⟨n, 0, 0, [], 0, [], [], [], [], []⟩
/-- A house that has the lives F of the names N. -/
structure HK (H : Alarm_house) (N : List Alarm_name) (F : Alarm_name → Alarm_life) (ix : Alarm_name → Int) : Prop where
  one : ∀ n ∈ N, mget? H.all_ n = some (ix n) ∧ idx H.ar0 (ix n) = some (F n)
  non : ∀ n, n ∉ N → mget? H.all_ n = none
  ord : H.order_ = N.map ix
  inj : ∀ m ∈ N, ∀ n ∈ N, ix m = ix n → m = n
theorem idx_setI {α : Type} {l : List α} {i j : Int} {v u : α} (h : idx l i = some u) : idx (l.set i.toNat v) j = if i = j then some v else idx l j := by
  obtain ⟨h0, h1, _⟩ := idx_some h
  by_cases e : i = j
  · subst e; rw [if_pos rfl]; exact idx_set_self h
  · rw [if_neg e]
    unfold idx
    split
    · rw [List.getElem?_set_ne (by omega)]
    · rfl
def updF {V : Type} (F : Alarm_name → V) (n : Alarm_name) (v : V) : Alarm_name → V := fun m => if m = n then v else F m
theorem HK.set {H : Alarm_house} {N : List Alarm_name} {F : Alarm_name → Alarm_life} {ix : Alarm_name → Int} (h : HK H N F ix) {n : Alarm_name} (hn : n ∈ N) (v : Alarm_life) : HK ⟨H.all_, H.order_, H.ar0.set (ix n).toNat v⟩ N (updF F n v) ix := by
  refine ⟨fun m hm => ⟨(h.one m hm).1, ?_⟩, h.non, h.ord, h.inj⟩
  show idx (H.ar0.set (ix n).toNat v) (ix m) = _
  rw [idx_setI (h.one n hn).2]
  unfold updF
  by_cases e : m = n
  · subst e; rw [if_pos rfl, if_pos rfl]
  · rw [if_neg (fun z => e (h.inj m hm n hn z.symm)), if_neg e]; exact (h.one m hm).2
/-- The place of a name. -/
def pos (M : List Alarm_name) (n : Alarm_name) : Int := (M.idxOf n : Int)
theorem pos_at {M : List Alarm_name} {n : Alarm_name} (h : n ∈ M) : 0 ≤ pos M n ∧ pos M n < M.length ∧ idx M (pos M n) = some n := by
  have := List.idxOf_lt_length_of_mem h
  unfold pos
  refine ⟨by omega, by omega, ?_⟩
  unfold idx
  rw [if_pos (by omega), Int.toNat_natCast, List.getElem?_eq_getElem this, List.getElem_idxOf]
theorem pos_inj {M : List Alarm_name} {m n : Alarm_name} (hm : m ∈ M) (hn : n ∈ M) (h : pos M m = pos M n) : m = n := by
  have h1 := (pos_at hm).2.2; have h2 := (pos_at hn).2.2
  rw [h, h2] at h1
  exact (Option.some.inj h1).symm
theorem pos_app {M : List Alarm_name} {m n : Alarm_name} (hm : m ∈ M) : pos (M ++ [n]) m = pos M m := by
  unfold pos; rw [List.idxOf_append, if_pos hm]
theorem pos_new {M : List Alarm_name} {n : Alarm_name} (hn : n ∉ M) : pos (M ++ [n]) n = M.length := by
  unfold pos
  rw [List.idxOf_append, if_neg hn]; simp
theorem newHouse_eq (l : List Signal) (hl : (l.length : Int) ≤ 1000) : ∃ H N ix, alarm_newHouse l = some H ∧ HK H N life0 ix ∧ N.Pairwise (fun a b => nmO a b < 0) ∧ ∀ n, n ∈ N ↔ n ∈ l.map nmS := by
  let Inv : Int → (List (Alarm_name × Int) × List Alarm_name) → Prop := fun i s => s.2 = nms (l.take i.toNat) ∧ SM s.1 ∧ ∀ n, mget? s.1 n = if n ∈ s.2 then some (pos s.2 n) else none
  let stp : (List (Alarm_name × Int) × List Alarm_name) → Signal → (List (Alarm_name × Int) × List Alarm_name) := fun s x => if nmS x ∈ s.2 then s else (mset s.1 (nmS x) (s.2.length : Int), s.2 ++ [nmS x])
  have main := iter_foldl (A := Alarm_house) l (fun (s : List (Alarm_name × Int) × List Alarm_name) (i : Int) => (s.1, s.2.map life0, places s.2.length, i)) (fun x : (List (Alarm_name × Int)) × (List Alarm_life) × (List Int) × Int => alarm_newHouse_b1 l x.1 x.2.1 x.2.2.1 x.2.2.2) stp Inv (fun s => alarm_newHouse_k2 s.1 (s.2.map life0) (places s.2.length))
    (fun s i x h0 h1 hx hv => by
      obtain ⟨v1, v2, v3⟩ := hv
      have ht : l.take (i + 1).toNat = l.take i.toNat ++ [x] := take_succ h0 hx
      have hlen := nms_len (l.take i.toNat)
      rw [← v1] at hlen
      have hll : (l.take i.toNat).length ≤ l.length := by rw [List.length_take]; exact Nat.min_le_right _ _
      have hnx : (⟨x.Device, x.Rule⟩ : Alarm_name) = nmS x := rfl
      show alarm_newHouse_b1 l s.1 (s.2.map life0) (places s.2.length) i = some (.inl ((stp s x).1, (stp s x).2.map life0, places (stp s x).2.length, i + 1)) ∧ Inv (i + 1) (stp s x)
      rw [alarm_newHouse_b1, if_pos h1, hx]
      simp only [Option.bind_some]
      rw [hnx, v3 (nmS x)]
      unfold alarm_newHouse_j1
      rw [w64_in (by omega) (by omega)]
      by_cases hm : nmS x ∈ s.2
      · rw [if_pos hm]
        have es : stp s x = s := if_pos hm
        rw [es]
        refine ⟨rfl, ?_, v2, v3⟩
        rw [ht, nms_snoc, ← v1]
        unfold addN; rw [if_pos hm]
      · rw [if_neg hm]
        have es : stp s x = (mset s.1 (nmS x) (s.2.length : Int), s.2 ++ [nmS x]) := if_neg hm
        rw [es, casesO_none]
        have hg : inB (s.2.map life0).length ((s.1.map Prod.snd) ++ places s.2.length) = some () := by
          unfold inB
          rw [if_pos]
          intro j hj
          rw [List.length_map]
          rcases List.mem_append.1 hj with h | h
          · obtain ⟨⟨n, v⟩, he, rfl⟩ := List.mem_map.1 h
            have hgv := (SM.get_iff v2).2 he
            rw [v3 n] at hgv
            split at hgv
            · rename_i hn
              obtain rfl := Option.some.inj hgv
              exact ⟨(pos_at hn).1, (pos_at hn).2.1⟩
            · cases hgv
          · exact places_mem.1 h
        rw [hg]
        simp only [Option.bind_some]
        rw [app_le (by rw [places_len]; simp; omega)]
        simp only [Option.bind_some, List.length_map]
        refine ⟨?_, ?_, v2.set _ _, fun n => ?_⟩
        · rw [List.map_append, List.length_append, List.length_singleton, places_succ]; rfl
        · rw [ht, nms_snoc, ← v1]
          unfold addN; rw [if_neg hm]
        · rw [mget_mset, v3 n]
          by_cases e : nmS x = n
          · subst e
            rw [if_pos rfl, if_pos (by simp), pos_new hm]
          · rw [if_neg e]
            by_cases hn : n ∈ s.2
            · rw [if_pos hn, if_pos (by simp [hn]), pos_app hn]
            · rw [if_neg hn, if_neg (by simp [hn]; exact fun z => e z.symm)])
    (fun s hv => by
      show alarm_newHouse_b1 l s.1 _ _ l.length = _
      rw [alarm_newHouse_b1, if_neg (by omega)]) ([], []) ⟨rfl, SM.nil, fun n => rfl⟩
  have hInv : Inv l.length (l.foldl stp ([], [])) := by
    have key : ∀ (k : Nat), k ≤ l.length → Inv k ((l.take k).foldl stp ([], [])) := by
      intro k
      induction k with
      | zero => intro _; exact ⟨rfl, SM.nil, fun n => rfl⟩
      | succ k ih =>
        intro hk
        obtain ⟨v1, v2, v3⟩ := ih (by omega)
        have hx : idx l (k : Int) = some l[k] := by unfold idx; rw [if_pos (by omega), Int.toNat_natCast, List.getElem?_eq_getElem (by omega)]
        have ht : l.take (k + 1) = l.take k ++ [l[k]] := by rw [List.take_succ_eq_append_getElem]
        generalize hs : (l.take k).foldl stp ([], []) = s at v1 v2 v3
        have e : (l.take (k + 1)).foldl stp ([], []) = stp s l[k] := by rw [ht, List.foldl_append, hs]; rfl
        rw [e]
        have hk1 : ((k + 1 : Nat) : Int).toNat = k + 1 := by omega
        have hk0 : ((k : Nat) : Int).toNat = k := by omega
        rw [hk0] at v1
        by_cases hm : nmS l[k] ∈ s.2
        · have es : stp s l[k] = s := if_pos hm
          rw [es]
          refine ⟨?_, v2, v3⟩
          rw [hk1, ht, nms_snoc, ← v1]
          unfold addN; rw [if_pos hm]
        · have es : stp s l[k] = (mset s.1 (nmS l[k]) (s.2.length : Int), s.2 ++ [nmS l[k]]) := if_neg hm
          rw [es]
          refine ⟨?_, v2.set _ _, fun n => ?_⟩
          · rw [hk1, ht, nms_snoc, ← v1]
            unfold addN; rw [if_neg hm]
          · show mget? (mset s.1 (nmS l[k]) (s.2.length : Int)) n = if n ∈ s.2 ++ [nmS l[k]] then some (pos (s.2 ++ [nmS l[k]]) n) else none
            rw [mget_mset, v3 n]
            by_cases e : nmS l[k] = n
            · subst e
              rw [if_pos rfl, if_pos (by simp), pos_new hm]
            · rw [if_neg e]
              by_cases hn : n ∈ s.2
              · rw [if_pos hn, if_pos (by simp [hn]), pos_app hn]
              · rw [if_neg hn, if_neg (by simp [hn]; exact fun z => e z.symm)]
    have := key l.length (Nat.le_refl _)
    rwa [List.take_length] at this
  generalize l.foldl stp ([], []) = s at main hInv
  obtain ⟨v1, v2, v3⟩ := hInv
  rw [Int.toNat_natCast, List.take_length] at v1
  have hnd : s.2.Nodup := by rw [v1]; exact nms_nodup l
  have hln : s.2.length ≤ l.length := by rw [v1]; exact nms_len l
  obtain ⟨r, r1, r2, r3⟩ := sort_names (fun y0 y1 => alarm_newHouse_1x y0 y1) Alarm_life.name_ newHouse1_eq s.2 hnd (by omega) life0 (fun n => rfl)
  refine ⟨⟨s.1, r, s.2.map life0⟩, r.map (at_ ⟨[], []⟩ s.2), pos s.2, ?_, ?_, r3, ?_⟩
  · unfold alarm_newHouse alarm_newHouse_l1
    refine main.trans ?_
    unfold alarm_newHouse_k2
    rw [r1]; rfl
  · have hmem : ∀ n, n ∈ r.map (at_ ⟨[], []⟩ s.2) ↔ n ∈ s.2 := by
      intro n
      rw [List.mem_map]
      constructor
      · rintro ⟨i, hi, rfl⟩
        have := places_mem.1 (r2.mem_iff.1 hi)
        exact idx_mem (at_idx this.1 this.2)
      · intro hn
        have hp := pos_at hn
        refine ⟨pos s.2 n, r2.mem_iff.2 (places_mem.2 ⟨hp.1, hp.2.1⟩), ?_⟩
        have := at_idx (d := (⟨[], []⟩ : Alarm_name)) hp.1 hp.2.1
        rw [hp.2.2] at this
        exact (Option.some.inj this).symm
    refine ⟨fun n hn => ?_, fun n hn => ?_, ?_, fun m hm n hn => pos_inj ((hmem m).1 hm) ((hmem n).1 hn)⟩
    · have hn' := (hmem n).1 hn
      exact ⟨by rw [v3 n, if_pos hn'], by rw [idx_map', (pos_at hn').2.2]; rfl⟩
    · rw [v3 n, if_neg (fun z => hn ((hmem n).2 z))]
    · rw [List.map_map]
      refine (List.map_congr_left (g := id) fun i hi => ?_).trans (List.map_id r) |>.symm
      have hi' := places_mem.1 (r2.mem_iff.1 hi)
      have e1 := at_idx (d := (⟨[], []⟩ : Alarm_name)) hi'.1 hi'.2
      have hn := idx_mem e1
      have e2 := (pos_at hn).2
      show pos s.2 (at_ ⟨[], []⟩ s.2 i) = i
      have h0 := idx_some e1; have h3 := idx_some e2.2
      have : i.toNat = (pos s.2 (at_ ⟨[], []⟩ s.2 i)).toNat := by
        have a1 := List.getElem?_eq_some_iff.1 h0.2.2
        have a2 := List.getElem?_eq_some_iff.1 h3.2.2
        obtain ⟨b1, c1⟩ := a1
        obtain ⟨b2, c2⟩ := a2
        exact (List.getElem_inj hnd).1 (c1.trans c2.symm)
      omega
  · intro n
    rw [← nms_mem, ← v1, List.mem_map]
    constructor
    · rintro ⟨i, hi, rfl⟩
      have := places_mem.1 (r2.mem_iff.1 hi)
      exact idx_mem (at_idx this.1 this.2)
    · intro hn
      have hp := pos_at hn
      refine ⟨pos s.2 n, r2.mem_iff.2 (places_mem.2 ⟨hp.1, hp.2.1⟩), ?_⟩
      have := at_idx (d := (⟨[], []⟩ : Alarm_name)) hp.1 hp.2.1
      rw [hp.2.2] at this
      exact (Option.some.inj this).symm
end Go.Beacon

/- All alarms behind the signals up to a moment: the house and the reference's tracks; refused signals. No program in sight. -/
set_option linter.unusedVariables false
set_option linter.unusedSimpArgs false
namespace Go.Beacon
open Go Go.Eng

/-- Signals that pass their checks. -/
structure VS (l : List Signal) : Prop where
  ord : l.Pairwise (fun a b => sO a b < 0)
  bnd : ∀ s ∈ l, SgB s
  mom : ∀ s ∈ l, 0 ≤ s.At ∧ s.At ≤ 345686399999
  kind : ∀ s ∈ l, 1 ≤ s.Kind ∧ s.Kind ≤ 5
  key : ∀ s ∈ l, keyB s.Device = true ∧ keyB s.Rule = true
  till : ∀ s ∈ l, s.Kind = 4 → s.At + 1 ≤ s.Until ∧ s.Until ≤ 345686400000
  len : (l.length : Int) ≤ 15
theorem VS_of {l : List Signal} (h : SG 15 l) (hc : chkS l = 0) : VS l := by
  obtain ⟨h1, h2⟩ := chkS_ok hc
  have hb : ∀ s ∈ l, (0 ≤ s.At ∧ s.At ≤ 345686399999) ∧ (1 ≤ s.Kind ∧ s.Kind ≤ 5) ∧ (keyB s.Device = true ∧ keyB s.Rule = true) ∧ (s.Kind = 4 → s.At + 1 ≤ s.Until ∧ s.Until ≤ 345686400000) := by
    intro s hs
    have := h2 s hs
    unfold sgBad at this
    by_cases c1 : momS s.At = false
    · rw [if_pos c1] at this; cases this
    rw [if_neg c1] at this
    by_cases c2 : (keyB s.Device && keyB s.Rule) = false
    · rw [if_pos c2] at this; cases this
    rw [if_neg c2] at this
    by_cases c3 : s.Kind < 1 ∨ 5 < s.Kind
    · rw [if_pos c3] at this; cases this
    rw [if_neg c3] at this
    by_cases c4 : 3 ≤ s.Kind ∧ keyB s.By = false
    · rw [if_pos c4] at this; cases this
    rw [if_neg c4] at this
    by_cases c5 : ¬ 3 ≤ s.Kind ∧ s.By ≠ []
    · rw [if_pos c5] at this; cases this
    rw [if_neg c5] at this
    by_cases c6 : s.Kind = 4 ∧ (s.Until < s.At + 1 ∨ s.At + 2592000000 < s.Until ∨ 345686400000 < s.Until)
    · rw [if_pos c6] at this; cases this
    refine ⟨?_, by omega, ?_, fun h4 => by omega⟩
    · unfold momS at c1
      rw [← Bool.decide_and, Bool.not_eq_false, decide_eq_true_eq] at c1
      exact c1
    · rw [Bool.not_eq_false, Bool.and_eq_true] at c2
      exact c2
  exact ⟨h1, h.2, fun s hs => (hb s hs).1, fun s hs => (hb s hs).2.1, fun s hs => (hb s hs).2.2.1, fun s hs => (hb s hs).2.2.2, h.1⟩
theorem sO_at {a b : Signal} (h : sO a b < 0) : a.At ≤ b.At := by
  unfold sO at h
  rw [orL_cons] at h
  by_cases h0 : cmpI a.At b.At = 0
  · have := cmpI_zero h0; omega
  · rw [if_pos h0] at h
    unfold cmpI at h
    split at h
    · omega
    · split at h <;> omega
theorem VS.at_le {l : List Signal} (h : VS l) : l.Pairwise (fun a b => a.At ≤ b.At) := h.ord.imp sO_at
theorem VS.sub {l p : List Signal} (h : VS l) (hp : p.Sublist l) : VS p :=
  ⟨h.ord.sublist hp, fun s hs => h.bnd s (hp.subset hs), fun s hs => h.mom s (hp.subset hs), fun s hs => h.kind s (hp.subset hs), fun s hs => h.key s (hp.subset hs), fun s hs => h.till s (hp.subset hs), by have := hp.length_le; have := h.len; omega⟩
/-- The signals up to a moment. -/
def pre (l : List Signal) (m : Int) : List Signal := l.filter (fun s => decide (s.At ≤ m))
theorem pre_sub (l : List Signal) (m : Int) : (pre l m).Sublist l := List.filter_sublist
theorem pre_stop : ∀ {l : List Signal}, l.Pairwise (fun a b => a.At ≤ b.At) → ∀ {m : Int} {s : Signal} {a b : List Signal}, l = a ++ s :: b → m < s.At → pre l m = pre a m := by
  intro l hl m s a b e hm
  subst e
  unfold pre
  rw [List.filter_append]
  have : (s :: b).filter (fun s => decide (s.At ≤ m)) = [] := by
    rw [List.filter_eq_nil_iff]
    intro x hx
    have h2 := (List.pairwise_append.1 hl).2.1
    rcases List.mem_cons.1 hx with rfl | hx
    · simp; omega
    · have := (List.pairwise_cons.1 h2).1 x hx
      simp; omega
  rw [this, List.append_nil]
theorem pre_all {l : List Signal} {m : Int} (h : ∀ s ∈ l, s.At ≤ m) : pre l m = l := List.filter_eq_self.2 fun s hs => decide_eq_true (h s hs)
/-! folds over signals -/
def stepF (F : Alarm_name → Alarm_life) (s : Signal) : Alarm_name → Alarm_life := updF F (nmS s) (lfw (F (nmS s)) s).2
def stepG (G : Alarm_name → Fleetref1_track) (s : Signal) : Alarm_name → Fleetref1_track := updF G (nmS s) (tkw (G (nmS s)) s).2
def FL (p : List Signal) : Alarm_name → Alarm_life := p.foldl stepF life0
def track0 (n : Alarm_name) : Fleetref1_track := ⟨n.device_, n.rule_, [], 0, ⟨0, 0⟩⟩
def TL (p : List Signal) : Alarm_name → Fleetref1_track := p.foldl stepG track0
theorem FL_snoc (p : List Signal) (s : Signal) : FL (p ++ [s]) = stepF (FL p) s := by unfold FL; rw [List.foldl_append]; rfl
theorem TL_snoc (p : List Signal) (s : Signal) : TL (p ++ [s]) = stepG (TL p) s := by unfold TL; rw [List.foldl_append]; rfl
theorem LI0 (n : Alarm_name) : LI 0 (life0 n) := by
  refine ⟨fun h => ?_, fun h => ?_, fun h => absurd rfl h, fun h => ?_, fun t ht => ?_, by simp [life0], by simp [life0], by simp [life0], by simp [life0], by simp [life0], by simp [life0]⟩
  · simp [life0] at h
  · rcases h with h | h <;> simp [life0] at h
  · simp [life0] at h
  · simp [life0] at ht
theorem rev_ind {α : Type} {P : List α → Prop} (h0 : P []) (h1 : ∀ l a, P l → P (l ++ [a])) (l : List α) : P l := by
  have key : ∀ r : List α, P r.reverse := by
    intro r
    induction r with
    | nil => exact h0
    | cons a r ih => rw [List.reverse_cons]; exact h1 _ _ ih
  have := key l.reverse
  rwa [List.reverse_reverse] at this
theorem RT0 (n : Alarm_name) : RT 0 (life0 n) (track0 n) := ⟨rfl, rfl, rfl, rfl, rfl, Int.le_refl _, .inl rfl⟩
/-- What holds behind some signals: lives that are right, tracks that tell the same. -/
structure FoS (p : List Signal) : Prop where
  li : ∀ n, LI p.length (FL p n)
  rt : ∀ (T : Int), 0 ≤ T → (∀ s ∈ p, s.At ≤ T) → ∀ n, RT T (FL p n) (TL p n)
  nm : ∀ n, (FL p n).name_ = n
  tn : ∀ n, (TL p n).device_ = n.device_ ∧ (TL p n).rule_ = n.rule_
  dn : ∀ n, ((TL p n).done_.length : Int) ≤ p.length
  in0 : ∀ n, n ∉ p.map nmS → FL p n = life0 n ∧ TL p n = track0 n
theorem lfw_name (x : Alarm_life) (s : Signal) : (lfw x s).2.name_ = x.name_ := by
  unfold lfw
  repeat' split
  all_goals rfl
theorem tkw_name (t : Fleetref1_track) (s : Signal) : (tkw t s).2.device_ = t.device_ ∧ (tkw t s).2.rule_ = t.rule_ ∧ ((tkw t s).2.done_.length : Int) ≤ t.done_.length + 1 := by
  unfold tkw
  repeat' split
  all_goals exact ⟨rfl, rfl, by simp [tDone] <;> omega⟩
theorem FS_of : ∀ (p : List Signal), VS p → FoS p := by
  refine rev_ind ?_ ?_
  · intro _; exact ⟨LI0, fun T hT _ n => (RT0 n).mono hT, fun _ => rfl, fun _ => ⟨rfl, rfl⟩, fun _ => by simp [TL, track0], fun _ _ => ⟨rfl, rfl⟩⟩
  · intro p s ih hv
    have hp : VS p := hv.sub (List.sublist_append_left _ _)
    have ih := ih hp
    have hs : s ∈ p ++ [s] := by simp
    have hlen : ((p ++ [s]).length : Int) = p.length + 1 := by simp
    have hm := hv.mom s hs
    have hat : ∀ x ∈ p, x.At ≤ s.At := fun x hx => (List.pairwise_append.1 hv.at_le).2.2 x hx s (by simp)
    have st : ∀ n, RT s.At (FL p n) (TL p n) := ih.rt s.At hm.1 hat
    refine ⟨fun n => ?_, fun T hT hTs n => ?_, fun n => ?_, fun n => ?_, fun n => ?_, fun n hn => ?_⟩
    · rw [FL_snoc, hlen]
      unfold stepF updF
      split
      · exact (ih.li _).step hm.1 (hv.bnd s hs)
      · exact (ih.li n).mono (by omega)
    · rw [FL_snoc, TL_snoc]
      unfold stepF stepG updF
      split
      · exact ((st (nmS s)).step (Int.le_refl _) hm.1 (hv.kind s hs)).2.mono (hTs s hs)
      · exact (st n).mono (hTs s hs)
    · rw [FL_snoc]
      unfold stepF updF
      split
      · rename_i e; rw [lfw_name, ih.nm]; exact e.symm
      · exact ih.nm n
    · rw [TL_snoc]
      unfold stepG updF
      split
      · rename_i e
        have := tkw_name (TL p (nmS s)) s
        rw [this.1, this.2.1, e]; exact ih.tn _
      · exact ih.tn n
    · rw [TL_snoc, hlen]
      unfold stepG updF
      split
      · have := (tkw_name (TL p (nmS s)) s).2.2
        have := ih.dn (nmS s)
        omega
      · have := ih.dn n; omega
    · rw [List.map_append, List.mem_append] at hn
      have h1 : n ∉ p.map nmS := fun z => hn (.inl z)
      have h2 : n ≠ nmS s := fun z => hn (.inr (by simp [z]))
      rw [FL_snoc, TL_snoc]
      unfold stepF stepG updF
      rw [if_neg h2, if_neg h2]
      exact ih.in0 n h1
theorem step_same {p : List Signal} {s : Signal} (hv : VS (p ++ [s])) : (lfw (FL p (nmS s)) s).1 = (tkw (TL p (nmS s)) s).1 := by
  have hs : s ∈ p ++ [s] := by simp
  have ih := FS_of p (hv.sub (List.sublist_append_left _ _))
  exact ((ih.rt s.At (hv.mom s hs).1 (fun x hx => (List.pairwise_append.1 hv.at_le).2.2 x hx s (by simp)) (nmS s)).step (Int.le_refl _) (hv.mom s hs).1 (hv.kind s hs)).1
/-! the house follows -/
theorem hfollow {H : Alarm_house} {N : List Alarm_name} {p : List Signal} {ix : Alarm_name → Int} (h : HK H N (FL p) ix) {s : Signal} (hv : VS (p ++ [s])) (hn : nmS s ∈ N) :
    alarm_house_follow_c0x1x H s = some ((lfw (FL p (nmS s)) s).1, ⟨H.all_, H.order_, H.ar0.set (ix (nmS s)).toNat (lfw (FL p (nmS s)) s).2⟩) ∧ HK ⟨H.all_, H.order_, H.ar0.set (ix (nmS s)).toNat (lfw (FL p (nmS s)) s).2⟩ N (FL (p ++ [s])) ix := by
  have hs : s ∈ p ++ [s] := by simp
  have ih := FS_of p (hv.sub (List.sublist_append_left _ _))
  have hl := hv.len
  have hlen : ((p ++ [s]).length : Int) = p.length + 1 := by simp
  refine ⟨?_, by rw [FL_snoc]; exact h.set hn _⟩
  unfold alarm_house_follow_c0x1x
  have := h.one (nmS s) hn
  rw [show (⟨s.Device, s.Rule⟩ : Alarm_name) = nmS s from rfl, this.1, casesO_some, this.2]
  simp only [Option.bind_some]
  rw [follow_eq (ih.li _) (by omega) (hv.mom s hs).1 (hv.bnd s hs) (hv.kind s hs)]
  rfl
theorem at_eq {l : List Signal} (hv : VS l) (m : Int) : ∃ H N ix, alarm_at l m = some H ∧ HK H N (FL (pre l m)) ix ∧ N.Pairwise (fun a b => nmO a b < 0) ∧ ∀ n, n ∈ N ↔ n ∈ l.map nmS := by
  have hl := hv.len
  obtain ⟨H0, N, ix, h1, h2, h3, h4⟩ := newHouse_eq l (by omega)
  have main : Ok (alarm_at l m) (fun H => HK H N (FL (pre l m)) ix) := by
    unfold alarm_at
    rw [h1]
    simp only [Option.bind_some]
    unfold alarm_at_l1
    refine Ok.rangeS (R := fun H => HK H N (FL (pre l m)) ix) l.length (fun (s : Alarm_house) (i : Int) => (s.all_, s.ar0, s.order_, i)) (fun i s => HK s N (FL (pre (l.take i.toNat) m)) ix) (fun s i g0 g1 hk => ?_) H0 h2
    show Ok (alarm_at_b1 l m s.all_ s.ar0 s.order_ i) _
    unfold alarm_at_b1 alarm_at_j1
    by_cases hi : i < l.length
    · rw [if_pos hi]
      refine Ok.idx g0 hi (fun x hx hxm => ?_)
      have ht : l.take (i + 1).toNat = l.take i.toNat ++ [x] := take_succ g0 hx
      rw [w64_in (x := i + 1) (by omega) (by omega)]
      by_cases hm : x.At ≤ m
      · rw [if_pos hm]
        have hp : pre (l.take (i + 1).toNat) m = pre (l.take i.toNat) m ++ [x] := by
          rw [ht]; unfold pre; rw [List.filter_append]; simp [hm]
        have hsub : (pre (l.take i.toNat) m ++ [x]).Sublist l := by rw [← hp]; exact (pre_sub _ _).trans (List.take_sublist _ _)
        obtain ⟨e1, e2⟩ := hfollow hk (hv.sub hsub) ((h4 _).2 (List.mem_map.2 ⟨x, hxm, rfl⟩))
        rw [show (⟨s.all_, s.order_, s.ar0⟩ : Alarm_house) = s from rfl, e1]
        refine ⟨_, rfl, .inl ⟨_, rfl, by omega, ?_⟩⟩
        rw [hp]; exact e2
      · rw [if_neg hm]
        refine ⟨_, rfl, .inl ⟨s, rfl, by omega, ?_⟩⟩
        have hp : pre (l.take (i + 1).toNat) m = pre (l.take i.toNat) m := by
          rw [ht]; unfold pre; rw [List.filter_append]; simp [hm]
        rw [hp]; exact hk
    · rw [if_neg hi]
      refine ⟨_, rfl, .inr ⟨s, rfl, ?_⟩⟩
      have : i.toNat = l.length := by omega
      rw [this, List.take_length] at hk
      exact hk
  obtain ⟨H, e1, e2⟩ := main
  exact ⟨H, N, ix, e1, e2, h3, h4⟩
/-! refused signals -/
def rfs : List Signal → List Signal → List Refused
  | _, [] => []
  | p, s :: r => (if (lfw (FL p (nmS s)) s).1 ≠ 0 then [⟨(p.length : Int), (lfw (FL p (nmS s)) s).1⟩] else []) ++ rfs (p ++ [s]) r
theorem rfs_snoc : ∀ (r p : List Signal) (s : Signal), rfs p (r ++ [s]) = rfs p r ++ (if (lfw (FL (p ++ r) (nmS s)) s).1 ≠ 0 then [⟨((p ++ r).length : Int), (lfw (FL (p ++ r) (nmS s)) s).1⟩] else [])
  | [], p, s => by simp [rfs]
  | x :: r, p, s => by
    rw [List.cons_append]
    unfold rfs
    rw [rfs_snoc r (p ++ [x]) s]
    simp [List.append_assoc]
theorem rfs_len : ∀ (r p : List Signal), (rfs p r).length ≤ r.length
  | [], p => by simp [rfs]
  | x :: r, p => by
    unfold rfs
    have := rfs_len r (p ++ [x])
    rw [List.length_append, List.length_cons]
    split <;> simp <;> omega
/-! the reference's tracks -/
theorem idxs_map {V : Type} (M : List Alarm_name) (G : Alarm_name → V) : ∀ (r : List Int), (∀ i ∈ r, 0 ≤ i ∧ i < (M.length : Int)) → idxs (M.map G) r = some ((r.map (at_ ⟨[], []⟩ M)).map G)
  | [], _ => rfl
  | i :: r, h => by
    unfold idxs
    have := h i (by simp)
    rw [idx_map', at_idx (d := (⟨[], []⟩ : Alarm_name)) this.1 this.2, idxs_map M G r (fun j hj => h j (by simp [hj]))]
    rfl
theorem places_at (M : List Alarm_name) : (places M.length).map (at_ ⟨[], []⟩ M) = M := by
  unfold places
  rw [List.map_map]
  apply List.ext_getElem?
  intro i
  rw [List.getElem?_map]
  by_cases h : i < M.length
  · rw [List.getElem?_range h, List.getElem?_eq_getElem h]
    simp [at_, List.getD_eq_getElem?_getD, List.getElem?_eq_getElem h]
  · rw [List.getElem?_eq_none (by simpa using h), List.getElem?_eq_none (by omega)]; rfl
theorem findI_pos (P : Alarm_name → Bool) (n : Alarm_name) (hP : ∀ m, P m = decide (m = n)) : ∀ (M : List Alarm_name) (i : Int), findI P M i = if n ∈ M then i + pos M n else -1
  | [], i => by simp [findI]
  | m :: M, i => by
    unfold findI
    rw [hP]
    by_cases e : m = n
    · subst e
      rw [decide_eq_true rfl, if_pos rfl, if_pos (by simp)]
      unfold pos; simp
    · rw [decide_eq_false e, if_neg (by simp), findI_pos P n hP M (i + 1)]
      by_cases hm : n ∈ M
      · rw [if_pos hm, if_pos (by simp [hm])]
        unfold pos
        rw [List.idxOf_cons, show (m == n) = false by simpa using e]; simp; omega
      · rw [if_neg hm, if_neg (by simp [hm]; exact fun z => e z.symm)]
theorem IndexT_eq (L : List Fleetref1_track) (s : Signal) (hl : (L.length : Int) ≤ 1000) : slices_IndexFunc__Q_track_Q_track L (fun y0 => some (Q_tracksAt_1x y0 s)) = some (findI (fun t => Q_tracksAt_1x t s) L 0) :=
  gIndexFunc_eq L (fun y0 => some (Q_tracksAt_1x y0 s)) (fun t => Q_tracksAt_1x t s) (fun _ _ => rfl) (by omega)
theorem findI_map {α β : Type} (f : α → β) (P : β → Bool) : ∀ (l : List α) (i : Int), findI P (l.map f) i = findI (fun x => P (f x)) l i
  | [], _ => rfl
  | x :: r, i => by
    rw [List.map_cons]
    unfold findI
    rw [findI_map f P r]
theorem map_set_upd {V : Type} {M : List Alarm_name} (hn : M.Nodup) {n : Alarm_name} (h : n ∈ M) (G : Alarm_name → V) (v : V) : (M.map G).set (pos M n).toNat v = M.map (updF G n v) := by
  have hp := List.idxOf_lt_length_of_mem h
  apply List.ext_getElem?
  intro i
  unfold pos
  rw [Int.toNat_natCast]
  by_cases e : M.idxOf n = i
  · subst e
    rw [List.getElem?_set_self (by simpa using hp), List.getElem?_map, List.getElem?_eq_getElem hp, List.getElem_idxOf]
    simp [updF]
  · rw [List.getElem?_set_ne e, List.getElem?_map, List.getElem?_map]
    cases hq : M[i]? with
    | none => rfl
    | some m =>
      have : m ≠ n := fun z => by
        subst z
        obtain ⟨b, c⟩ := List.getElem?_eq_some_iff.1 hq
        have hh : M[M.idxOf m]'hp = M[i]'b := by rw [List.getElem_idxOf, c]
        exact e ((List.getElem_inj hn).1 hh)
      simp [updF, this]
theorem tracksAt_eq {l : List Signal} (hv : VS l) (m : Int) : ∃ N : List Alarm_name, Q_tracksAt l m = some (N.map (TL (pre l m)), rfs [] (pre l m)) ∧ N.Pairwise (fun a b => nmO a b < 0) ∧ ∀ n, n ∈ N ↔ n ∈ (pre l m).map nmS := by
  have hl := hv.len
  have tail : ∀ (p : List Signal), VS p → ∃ N : List Alarm_name, Q_tracksAt_j1 ((nms p).map (TL p)) (places (nms p).length) (rfs [] p) = some (N.map (TL p), rfs [] p) ∧ N.Pairwise (fun a b => nmO a b < 0) ∧ ∀ n, n ∈ N ↔ n ∈ p.map nmS := by
    intro p hp
    have hpl := hp.len
    have hln := nms_len p
    have hf := FS_of p hp
    obtain ⟨r, r1, r2, r3⟩ := sort_names (fun y0 y1 => Q_tracksAt_2x y0 y1) (fun t => ⟨t.device_, t.rule_⟩) tracks2_eq (nms p) (nms_nodup p) (by omega) (TL p) (fun n => by
      have := hf.tn n
      rw [this.1, this.2])
    have hr : ∀ i ∈ r, 0 ≤ i ∧ i < ((nms p).length : Int) := fun i hi => places_mem.1 (r2.mem_iff.1 hi)
    refine ⟨r.map (at_ ⟨[], []⟩ (nms p)), ?_, r3, fun n => ?_⟩
    · unfold Q_tracksAt_j1
      rw [r1]
      simp only [Option.bind_some]
      rw [idxs_map _ _ _ hr]; rfl
    · rw [← nms_mem, List.mem_map]
      constructor
      · rintro ⟨i, hi, rfl⟩
        have := hr i hi
        exact idx_mem (at_idx this.1 this.2)
      · intro hn
        have hp := pos_at hn
        refine ⟨pos (nms p) n, r2.mem_iff.2 (places_mem.2 ⟨hp.1, hp.2.1⟩), ?_⟩
        have := at_idx (d := (⟨[], []⟩ : Alarm_name)) hp.1 hp.2.1
        rw [hp.2.2] at this
        exact (Option.some.inj this).symm
  have main : Ok (Q_tracksAt l m) (fun R => ∃ N : List Alarm_name, R = (N.map (TL (pre l m)), rfs [] (pre l m)) ∧ N.Pairwise (fun a b => nmO a b < 0) ∧ ∀ n, n ∈ N ↔ n ∈ (pre l m).map nmS) := by
    unfold Q_tracksAt Q_tracksAt_l1
    refine Ok.rangeS (σ := List Signal) l.length (fun (p : List Signal) (i : Int) => ((nms p).map (TL p), places (nms p).length, rfs [] p, i)) (fun i p => p = l.take i.toNat ∧ pre p m = p) (fun p i g0 g1 hk => ?_) [] ⟨rfl, rfl⟩
    obtain ⟨k1, k2⟩ := hk
    show Ok (Q_tracksAt_b1 l m ((nms p).map (TL p)) (places (nms p).length) (rfs [] p) i) _
    unfold Q_tracksAt_b1
    have hpl : ((l.take i.toNat).length : Int) ≤ 15 := by rw [List.length_take]; omega
    have hln := nms_len p
    have hVp : VS p := hv.sub (by rw [k1]; exact List.take_sublist _ _)
    have fin : pre l m = p → Ok (Option.map Sum.inr (Q_tracksAt_j1 ((nms p).map (TL p)) (places (nms p).length) (rfs [] p))) (fun r => (∃ s', r = Sum.inl ((nms s').map (TL s'), places (nms s').length, rfs [] s', i + 1) ∧ i < l.length ∧ (s' = l.take (i + 1).toNat ∧ pre s' m = s')) ∨ ∃ a, r = Sum.inr a ∧ ∃ N : List Alarm_name, a = (N.map (TL (pre l m)), rfs [] (pre l m)) ∧ N.Pairwise (fun a b => nmO a b < 0) ∧ ∀ n, n ∈ N ↔ n ∈ (pre l m).map nmS) := by
      intro hp
      obtain ⟨N, n1, n2, n3⟩ := tail p hVp
      rw [n1]
      refine ⟨_, rfl, .inr ⟨_, rfl, N, by rw [hp], n2, by rw [hp]; exact n3⟩⟩
    by_cases hi : i < l.length
    · rw [if_pos hi]
      refine Ok.idx g0 hi (fun x hx hxm => ?_)
      have ht : l.take (i + 1).toNat = l.take i.toNat ++ [x] := take_succ g0 hx
      by_cases hm : m < x.At
      · rw [if_pos hm]
        refine fin ?_
        have hd := idx_drop hx
        have : l = l.take i.toNat ++ x :: l.drop (i + 1).toNat := by rw [← hd, List.take_append_drop]
        rw [pre_stop hv.at_le this hm, ← k1]; exact k2
      · rw [if_neg hm]
        have hVx : VS (p ++ [x]) := hv.sub (by rw [k1, ← ht]; exact List.take_sublist _ _)
        have hf := FS_of p hVp
        have hple : (p.length : Int) = i := by rw [k1, List.length_take]; omega
        rw [idxs_map _ _ _ (fun j hj => places_mem.1 hj), places_at]
        simp only [Option.bind_some]
        rw [IndexT_eq _ _ (by simp; omega), findI_map, findI_pos _ (nmS x) (fun n => by
          have := hf.tn n
          unfold Q_tracksAt_1x Q_tracksAt_1x_j1
          rw [this.1, this.2, ← Bool.decide_and]
          refine decide_eq_decide.2 ⟨fun z => ?_, fun z => by subst z; exact ⟨rfl, rfl⟩⟩
          unfold nmS; cases n; simp only at z; rw [z.1, z.2])]
        simp only [Option.bind_some]
        -- what follows the finding
        have j2 : ∀ (M : List Alarm_name) (hM : M.Nodup) (hMm : nmS x ∈ M), M = nms (p ++ [x]) → Ok (Q_tracksAt_j2 (rfs [] p) i x (M.map (TL p)) (places M.length) (pos M (nmS x))) (fun r => (∃ s', r = Sum.inl ((nms s').map (TL s'), places (nms s').length, rfs [] s', i + 1) ∧ i < l.length ∧ (s' = l.take (i + 1).toNat ∧ pre s' m = s')) ∨ ∃ a, r = Sum.inr a ∧ ∃ N : List Alarm_name, a = (N.map (TL (pre l m)), rfs [] (pre l m)) ∧ N.Pairwise (fun a b => nmO a b < 0) ∧ ∀ n, n ∈ N ↔ n ∈ (pre l m).map nmS) := by
          intro M hM hMm hMe
          have hpos := pos_at hMm
          unfold Q_tracksAt_j2 Q_tracksAt_j3
          rw [places_idx ⟨hpos.1, hpos.2.1⟩]
          simp only [Option.bind_some]
          rw [idx_map', hpos.2.2]
          simp only [Option.map_some, Option.bind_some]
          have hdn := hf.dn (nmS x)
          rw [step_eq (by omega)]
          simp only [Option.bind_some]
          have hsame := step_same hVx
          have hr := rfs_snoc p [] x
          rw [List.nil_append, hple] at hr
          have hrl := rfs_len p []
          have hset : (M.map (TL p)).set (pos M (nmS x)).toNat (tkw (TL p (nmS x)) x).2 = (nms (p ++ [x])).map (TL (p ++ [x])) := by
            rw [map_set_upd hM hMm, TL_snoc, ← hMe]; rfl
          rw [hset, w64_in (x := i + 1) (by omega) (by omega)]
          have hnew : p ++ [x] = l.take (i + 1).toNat ∧ pre (p ++ [x]) m = p ++ [x] := by
            refine ⟨by rw [ht, k1], ?_⟩
            unfold pre at k2 ⊢
            rw [List.filter_append, k2]
            have : x.At ≤ m := by omega
            simp [this]
          rw [← hsame]
          by_cases h0 : (lfw (FL p (nmS x)) x).1 = 0
          · rw [if_neg (by simpa using h0)]
            rw [if_neg (by simpa using h0), List.append_nil] at hr
            exact ⟨_, rfl, .inl ⟨p ++ [x], by rw [hr, hMe], hi, hnew⟩⟩
          · rw [if_pos h0, app_le (by simp; omega)]
            rw [if_pos h0] at hr
            exact ⟨_, rfl, .inl ⟨p ++ [x], by rw [hr, hMe], hi, hnew⟩⟩
        by_cases hmm : nmS x ∈ nms p
        · rw [if_pos hmm]
          have hpos := pos_at hmm
          rw [if_neg (by omega), Int.zero_add]
          exact j2 (nms p) (nms_nodup p) hmm (by rw [nms_snoc]; unfold addN; rw [if_pos hmm])
        · rw [if_neg hmm, if_pos (by omega)]
          have hg : inB ((nms p).map (TL p)).length (places (nms p).length) = some () := by
            unfold inB
            rw [if_pos]
            intro j hj
            rw [List.length_map]; exact places_mem.1 hj
          rw [hg]
          simp only [Option.bind_some]
          rw [app_le (by rw [places_len]; simp; omega)]
          simp only [Option.bind_some, List.length_map]
          have hM : nms (p ++ [x]) = nms p ++ [nmS x] := by rw [nms_snoc]; unfold addN; rw [if_neg hmm]
          have e0 : TL p (nmS x) = ⟨x.Device, x.Rule, [], 0, ⟨0, 0⟩⟩ := (hf.in0 (nmS x) (fun z => hmm ((nms_mem p _).2 z))).2
          have := j2 (nms p ++ [nmS x]) (by rw [← hM]; exact nms_nodup _) (by simp) hM.symm
          rw [pos_new hmm, List.length_append, List.length_singleton, places_succ, List.map_append] at this
          rw [places_len, ← e0]
          exact this
    · rw [if_neg hi]
      refine fin ?_
      have : i.toNat = l.length := by omega
      rw [this, List.take_length] at k1
      rw [← k1]; exact k2
  obtain ⟨R, e1, N, rfl, e3, e4⟩ := main
  exact ⟨N, e1, e3, e4⟩
end Go.Beacon

/- Alarms at a moment: the house and the reference tell the same. No program in sight. -/
set_option linter.unusedVariables false
set_option linter.unusedSimpArgs false
namespace Go.Beacon
open Go Go.Eng

def lShelf (x : Alarm_life) (m : Int) : Int := if m < x.shelved_ then x.shelved_ else 0
def lView (x : Alarm_life) (m : Int) : Alarm := ⟨x.name_.device_, x.name_.rule_, x.state_, x.since_, (x.raises_.length : Int), lShelf x m⟩
def lIs (x : Alarm_life) (m : Int) : Bool := decide (x.state_ ≠ 0) || decide (0 < lShelf x m)
theorem view_eq (x : Alarm_life) (m : Int) : alarm_life_view x m = (lView x m, lIs x m) := by
  unfold alarm_life_view alarm_life_view_j1 alarm_life_view_j2 lView lIs lShelf
  by_cases h : m < x.shelved_
  · rw [if_pos h, if_pos h]
    by_cases h0 : x.state_ = 0
    · simp [h0]
    · simp [h0]
  · rw [if_neg h, if_neg h]
    by_cases h0 : x.state_ = 0
    · simp [h0]
    · simp [h0]
def tShelf (t : Fleetref1_track) (m : Int) : Int := if t.shelved_.From ≤ m ∧ m < t.shelved_.To then t.shelved_.To else 0
def tAlarm (t : Fleetref1_track) (m : Int) : Alarm := ⟨t.device_, t.rule_, t.state_, sinceOf t.done_, ((raisesOf t.done_).length : Int), tShelf t m⟩
def alStep (a : Int × Int) (s : Signal) : Int × Int := (if s.Kind ≤ 3 then s.At else a.1, if s.Kind = 1 then a.2 + 1 else a.2)
theorem alStep_fold : ∀ (l : List Signal) (a : Int × Int), l.foldl alStep a = (l.foldl (fun a s => if s.Kind ≤ 3 then s.At else a) a.1, a.2 + (raisesOf l).length)
  | [], a => by simp [raisesOf]
  | s :: r, a => by
    rw [List.foldl_cons, alStep_fold r]
    unfold alStep raisesOf
    by_cases h : s.Kind = 1
    · simp [h]; omega
    · simp [h]
theorem alarm_eq {t : Fleetref1_track} (hl : (t.done_.length : Int) ≤ 1000) (m : Int) : Q_track_alarm t m = some (tAlarm t m) := by
  unfold Q_track_alarm Q_track_alarm_l1
  have main := iter_foldl (A := Alarm) t.done_ (fun (s : Int × Int) (i : Int) => (s.1, s.2, i)) (fun x : Int × Int × Int => Q_track_alarm_b1 t m x.1 x.2.1 x.2.2) alStep (fun i s => 0 ≤ s.2 ∧ s.2 ≤ i) (fun s => Q_track_alarm_j3 t s.1 s.2 ((decide (t.shelved_.From ≤ m)) && (decide (m < t.shelved_.To))))
    (fun s i x h0 h1 hx hv => by
      refine ⟨?_, ?_⟩
      · show Q_track_alarm_b1 t m s.1 s.2 i = _
        rw [Q_track_alarm_b1, if_pos h1, hx]
        simp only [Option.bind_some]
        unfold Q_track_alarm_j1 Q_track_alarm_j2 alStep
        rw [w64_in (x := i + 1) (by omega) (by omega), w64_in (x := s.2 + 1) (by omega) (by omega)]
        by_cases a1 : x.Kind ≤ 3 <;> by_cases a2 : x.Kind = 1 <;> simp [a1, a2]
      · unfold alStep
        simp only
        split <;> omega)
    (fun s hv => by
      show Q_track_alarm_b1 t m s.1 s.2 t.done_.length = _
      rw [Q_track_alarm_b1, if_neg (by omega)]) (0, 0) ⟨by simp, by simp⟩
  refine main.trans ?_
  rw [alStep_fold]
  unfold Q_track_alarm_j3 Q_track_alarm_j4 tAlarm tShelf
  rw [← Bool.decide_and]
  by_cases h : t.shelved_.From ≤ m ∧ m < t.shelved_.To
  · rw [decide_eq_true h, if_pos rfl, if_pos h]; simp [sinceOf]
  · rw [decide_eq_false h, if_neg (by simp), if_neg h]; simp [sinceOf]
theorem RT.view {m : Int} {x : Alarm_life} {t : Fleetref1_track} (h : RT m x t) : lView x m = tAlarm t m := by
  unfold lView tAlarm
  rw [h.dev, h.rul, h.st, h.since, h.raises]
  have : lShelf x m = tShelf t m := by
    unfold lShelf tShelf
    have := h.from_
    rcases h.sh with e | e
    · rw [e]
      by_cases hm : m < t.shelved_.To
      · rw [if_pos hm, if_pos ⟨this, hm⟩]
      · rw [if_neg hm, if_neg (fun z => hm z.2)]
    · rw [if_neg (by omega), if_neg (fun z => by omega)]
  rw [this]
theorem RT.is {m : Int} {x : Alarm_life} {t : Fleetref1_track} (h : RT m x t) : lIs x m = (decide ((tAlarm t m).State ≠ 0) || decide (0 < (tAlarm t m).Shelved)) := by
  rw [← h.view]; rfl
theorem foldl_fm {α β : Type} (p : α → Bool) (f : α → β) : ∀ (xs : List α) (acc : List β), xs.foldl (fun acc x => if p x = true then acc ++ [f x] else acc) acc = acc ++ (xs.filter p).map f
  | [], acc => by simp
  | x :: r, acc => by
    rw [List.foldl_cons, foldl_fm p f r, List.filter_cons]
    cases p x <;> simp
/-- What the alarms of some names are. -/
def als (N : List Alarm_name) (F : Alarm_name → Alarm_life) (m : Int) : List Alarm := (N.filter (fun n => lIs (F n) m)).map (fun n => lView (F n) m)
theorem als_len (N : List Alarm_name) (F : Alarm_name → Alarm_life) (m : Int) : (als N F m).length ≤ N.length := by
  unfold als; rw [List.length_map]; exact List.length_filter_le _ _
theorem N_len {N : List Alarm_name} (hs : N.Pairwise (fun a b => nmO a b < 0)) {l : List Signal} (h : ∀ n, n ∈ N ↔ n ∈ l.map nmS) : N.length ≤ l.length := by
  have hp : N.Perm (nms l) := (List.perm_ext_iff_of_nodup (nodup_of nmO_3 hs) (nms_nodup l)).2 fun n => (h n).trans (nms_mem l n).symm
  rw [hp.length_eq]; exact nms_len l
theorem lShelf0 {m : Int} (hm : 0 ≤ m) (n : Alarm_name) : lShelf (life0 n) m = 0 := by
  unfold lShelf life0
  simp only
  rw [if_neg (by omega)]
theorem lIs0 {m : Int} (hm : 0 ≤ m) {n : Alarm_name} : lIs (life0 n) m = false := by
  unfold lIs
  rw [lShelf0 hm]; simp [life0]
/-- Names that have no alarm do not count. -/
theorem als_same {l : List Signal} (hv : VS l) {m : Int} (hm : 0 ≤ m) {N N' : List Alarm_name} (h1 : N.Pairwise (fun a b => nmO a b < 0)) (h2 : ∀ n, n ∈ N ↔ n ∈ l.map nmS) (h3 : N'.Pairwise (fun a b => nmO a b < 0)) (h4 : ∀ n, n ∈ N' ↔ n ∈ (pre l m).map nmS) : als N (FL (pre l m)) m = als N' (FL (pre l m)) m := by
  unfold als
  have hf := FS_of _ (hv.sub (pre_sub l m))
  rw [sn_unique (A := N.filter fun n => lIs (FL (pre l m) n) m) (B := N'.filter fun n => lIs (FL (pre l m) n) m) (h1.filter _) (h3.filter _) (fun n => by
    rw [List.mem_filter, List.mem_filter]
    refine ⟨fun ⟨a, b⟩ => ⟨?_, b⟩, fun ⟨a, b⟩ => ⟨?_, b⟩⟩
    · by_cases hn : n ∈ (pre l m).map nmS
      · exact (h4 n).2 hn
      · rw [(hf.in0 n hn).1, lIs0 hm] at b
        cases b
    · have := (h4 n).1 a
      obtain ⟨s, hs, rfl⟩ := List.mem_map.1 this
      exact (h2 _).2 (List.mem_map.2 ⟨s, (pre_sub l m).subset hs, rfl⟩))]
theorem pre_at (l : List Signal) (m : Int) : ∀ s ∈ pre l m, s.At ≤ m := fun s hs => by
  have := (List.mem_filter.1 hs).2
  simpa using this
theorem AlarmsAt_eq {l : List Signal} (hv : VS l) {m : Int} (hm : 0 ≤ m) : ∃ N' : List Alarm_name, Q_AlarmsAt l m = some (als N' (FL (pre l m)) m) ∧ N'.Pairwise (fun a b => nmO a b < 0) ∧ ∀ n, n ∈ N' ↔ n ∈ (pre l m).map nmS := by
  obtain ⟨N', t1, t2, t3⟩ := tracksAt_eq hv m
  have hf := FS_of _ (hv.sub (pre_sub l m))
  have hl := hv.len
  have hpl := (pre_sub l m).length_le
  have hN := N_len t2 t3
  refine ⟨N', ?_, t2, t3⟩
  unfold Q_AlarmsAt
  rw [t1]
  simp only [Option.bind_some]
  unfold Q_AlarmsAt_l1
  have main := iter_foldl (A := List Alarm) N' (fun (s : List Alarm) (i : Int) => (s, i)) (fun x : (List Alarm) × Int => Q_AlarmsAt_b1 m (N'.map (TL (pre l m)), rfs [] (pre l m)) x.1 x.2) (fun acc n => if lIs (FL (pre l m) n) m = true then acc ++ [lView (FL (pre l m) n) m] else acc) (fun i s => (s.length : Int) ≤ i) (fun s => some s)
    (fun s i n h0 h1 hx hv2 => by
      have hrt := hf.rt m hm (pre_at l m) n
      refine ⟨?_, by by_cases hi : lIs (FL (pre l m) n) m = true <;> simp only [hi, if_true, if_false, Bool.false_eq_true, List.length_append, List.length_singleton] <;> omega⟩
      show Q_AlarmsAt_b1 m _ s i = _
      rw [Q_AlarmsAt_b1, if_pos (by simpa using h1)]
      simp only
      rw [idx_map', hx]
      simp only [Option.map_some, Option.bind_some]
      have hd := hf.dn n
      rw [alarm_eq (by omega)]
      simp only [Option.bind_some]
      unfold Q_AlarmsAt_j1 Q_AlarmsAt_j2
      rw [w64_in (x := i + 1) (by omega) (by omega), ← hrt.is, hrt.view]
      by_cases hi : lIs (FL (pre l m) n) m = true
      · rw [if_pos hi, if_pos hi, app_le (by simp; omega)]; rfl
      · rw [if_neg hi, if_neg hi])
    (fun s hv2 => by
      show Q_AlarmsAt_b1 m _ s N'.length = _
      rw [Q_AlarmsAt_b1, if_neg (by simp)]) [] (by simp)
  refine main.trans ?_
  rw [foldl_fm (fun n => lIs (FL (pre l m) n) m) (fun n => lView (FL (pre l m) n) m)]; rfl
/-! one alarm -/
theorem nameFault_eq {l : List Signal} (hB : ∀ x ∈ l, SgB x) (d r : Str) : alarm_nameFault l d r = some (orL [chkS l, if keyB d = true then 0 else 5, if keyB r = true then 0 else 5]) := by
  unfold alarm_nameFault alarm_nameFault_j1
  rw [CheckSignals_eq hB, Key_eq, Key_eq]
  simp only [Option.bind_some]
  rw [orL_cons]
  by_cases hc : chkS l = 0
  · simp only [hc, ne_eq, not_true_eq_false, if_false]
    cases keyB d <;> cases keyB r <;> simp [orL]
  · rw [if_pos hc, if_pos hc]
theorem orL4 (a b c e : Int) : orL [a, b, c, e] = if orL [a, b, c] ≠ 0 then orL [a, b, c] else e := by
  by_cases h1 : a = 0 <;> by_cases h2 : b = 0 <;> by_cases h3 : c = 0 <;> simp [orL, h1, h2, h3]
  intro h; omega
theorem AlarmOf_eq {l : List Signal} (hB : ∀ x ∈ l, SgB x) (hv : chkS l = 0 → VS l) (d r : Str) (m : Int) :
    alarm_AlarmOf l d r m = some (if orL [chkS l, if keyB d = true then 0 else 5, if keyB r = true then 0 else 5, if 0 ≤ m ∧ m ≤ 345686399999 then 0 else 1] ≠ 0 then (⟨[], [], 0, 0, 0, 0⟩, orL [chkS l, if keyB d = true then 0 else 5, if keyB r = true then 0 else 5, if 0 ≤ m ∧ m ≤ 345686399999 then 0 else 1])
      else (lView (FL (pre l m) ⟨d, r⟩) m, 0)) := by
  unfold alarm_AlarmOf
  rw [nameFault_eq hB]
  simp only [Option.bind_some]
  rw [orL4]
  by_cases he : orL [chkS l, if keyB d = true then 0 else 5, if keyB r = true then 0 else 5] = 0
  · have hc : chkS l = 0 := orL_zero he _ (by simp)
    have hv := hv hc
    simp only [he, ne_eq, not_true_eq_false, if_false]
    rw [Moment_eq]
    by_cases hm : 0 ≤ m ∧ m ≤ 345686399999
    · simp only [hm, and_self, decide_true, Bool.and_self, Bool.not_true, Bool.false_eq_true, if_true, if_false, not_true_eq_false]
      obtain ⟨H, N, ix, a1, a2, a3, a4⟩ := at_eq hv m
      rw [a1]
      simp only [Option.bind_some]
      by_cases hn : (⟨d, r⟩ : Alarm_name) ∈ N
      · rw [(a2.one _ hn).1, casesO_some, (a2.one _ hn).2]
        simp only [Option.bind_some]
        rw [view_eq]
      · rw [a2.non _ hn, casesO_none]
        have hf := FS_of _ (hv.sub (pre_sub l m))
        rw [(hf.in0 ⟨d, r⟩ (fun z => hn ((a4 _).2 (by
          obtain ⟨s, hs, e⟩ := List.mem_map.1 z
          exact List.mem_map.2 ⟨s, (pre_sub l m).subset hs, e⟩)))).1]
        unfold lView
        rw [lShelf0 hm.1]; rfl
    · rw [if_pos (by rw [← Bool.decide_and, decide_eq_false hm]; rfl), if_neg hm, if_pos (by simp)]
  · generalize orL [chkS l, if keyB d = true then 0 else 5, if keyB r = true then 0 else 5] = e at he ⊢
    simp [he]
theorem AlarmAt_eq {l : List Signal} (hv : VS l) (d r : Str) {m : Int} (hm : 0 ≤ m) : Q_AlarmAt l d r m = some (lView (FL (pre l m) ⟨d, r⟩) m) := by
  obtain ⟨N', t1, t2, t3⟩ := tracksAt_eq hv m
  have hf := FS_of _ (hv.sub (pre_sub l m))
  have hl := hv.len
  have hpl := (pre_sub l m).length_le
  have hN := N_len t2 t3
  unfold Q_AlarmAt
  rw [t1]
  simp only [Option.bind_some]
  unfold Q_AlarmAt_l1
  have key : ∀ (k : Nat) (i : Int), 0 ≤ i → i + k = N'.length → iter (fun x : Int => Q_AlarmAt_b1 d r m (N'.map (TL (pre l m)), rfs [] (pre l m)) x) i = some (if (⟨d, r⟩ : Alarm_name) ∈ N'.drop i.toNat then lView (FL (pre l m) ⟨d, r⟩) m else ⟨d, r, 0, 0, 0, 0⟩) := by
    intro k
    induction k with
    | zero =>
      intro i h0 h1
      rw [iter_eq, Q_AlarmAt_b1, if_neg (by simp; omega), map_inr_after, List.drop_of_length_le (by omega), if_neg (by simp)]
    | succ k ih =>
      intro i h0 h1
      obtain ⟨n, hx, _, hd⟩ := idx_lt N' h0 (by omega)
      rw [iter_eq, Q_AlarmAt_b1, if_pos (by simp; omega)]
      simp only
      rw [idx_map', hx]
      simp only [Option.map_some, Option.bind_some]
      have hnm := hf.tn n
      unfold Q_AlarmAt_j1
      rw [hnm.1, hnm.2, ← Bool.decide_and, hd]
      by_cases e : n.device_ = d ∧ n.rule_ = r
      · have en : n = ⟨d, r⟩ := by cases n; simp only at e; rw [e.1, e.2]
        have hdn := hf.dn n
        rw [decide_eq_true e, if_pos rfl, alarm_eq (by omega)]
        simp only [Option.bind_some, map_inr_after]
        rw [if_pos (by rw [en]; simp), ← (hf.rt m hm (pre_at l m) n).view, en]
      · have en : (⟨d, r⟩ : Alarm_name) ≠ n := fun z => e (by rw [← z]; exact ⟨rfl, rfl⟩)
        rw [decide_eq_false e, if_neg (by simp), w64_in (by omega) (by omega)]
        simp only [Option.bind_some, after_inl]
        rw [ih (i + 1) (by omega) (by omega)]
        simp only [List.mem_cons, en, false_or]
  rw [key N'.length 0 (by omega) (by omega)]
  by_cases hn : (⟨d, r⟩ : Alarm_name) ∈ N'
  · rw [if_pos (by simpa using hn)]
  · rw [if_neg (by simpa using hn), (hf.in0 ⟨d, r⟩ (fun z => hn ((t3 _).2 z))).1]
    unfold lView
    rw [lShelf0 hm]; rfl
theorem alarmed_eq : L_alarmed = some true := by
  unfold L_alarmed L_alarmed_j1
  have hB : ∀ x ∈ [(⟨1, 1, [100], [114], [], 0⟩ : Signal)], SgB x := by
    intro x hx
    rw [List.mem_singleton] at hx
    subst hx
    unfold SgB; simp
  have hc : chkS [(⟨1, 1, [100], [114], [], 0⟩ : Signal)] = 0 := by decide
  rw [AlarmOf_eq hB (fun h => VS_of ⟨by simp, hB⟩ h)]
  rw [if_neg (by rw [hc]; decide)]
  simp only [Option.bind_some]
  decide
end Go.Beacon

/- Windows in order, the moments of signals, and the times of the reference. No program in sight. -/
set_option linter.unusedVariables false
set_option linter.unusedSimpArgs false
namespace Go.Beacon
open Go Go.Eng

/-! windows apart -/
structure NF (W : List Window) : Prop where
  pw : W.Pairwise (fun a b => a.To < b.From)
  ok : ∀ w ∈ W, w.From < w.To
def cov (W : List Window) (t : Int) : Prop := ∃ w ∈ W, w.From ≤ t ∧ t < w.To
theorem NF.tail {a : Window} {W : List Window} (h : NF (a :: W)) : NF W ∧ a.From < a.To ∧ ∀ w ∈ W, a.To < w.From :=
  ⟨⟨(List.pairwise_cons.1 h.pw).2, fun w hw => h.ok w (List.mem_cons_of_mem _ hw)⟩, h.ok a (List.mem_cons_self ..), (List.pairwise_cons.1 h.pw).1⟩
theorem cov_cons {a : Window} {W : List Window} {t : Int} : cov (a :: W) t ↔ (a.From ≤ t ∧ t < a.To) ∨ cov W t := by
  unfold cov
  simp
theorem nf_unique : ∀ {A B : List Window}, NF A → NF B → (∀ t, cov A t ↔ cov B t) → A = B
  | [], [], _, _, _ => rfl
  | [], b :: B, _, hb, h => by
    have := (h b.From).2 (cov_cons.2 (.inl ⟨Int.le_refl _, hb.tail.2.1⟩))
    obtain ⟨w, hw, _⟩ := this
    cases hw
  | a :: A, [], ha, _, h => by
    have := (h a.From).1 (cov_cons.2 (.inl ⟨Int.le_refl _, ha.tail.2.1⟩))
    obtain ⟨w, hw, _⟩ := this
    cases hw
  | a :: A, b :: B, ha, hb, h => by
    obtain ⟨a1, a2, a3⟩ := ha.tail
    obtain ⟨b1, b2, b3⟩ := hb.tail
    have f1 : b.From ≤ a.From := by
      rcases cov_cons.1 ((h a.From).1 (cov_cons.2 (.inl ⟨Int.le_refl _, a2⟩))) with e | ⟨w, hw, e⟩
      · exact e.1
      · have := b3 w hw; omega
    have f2 : a.From ≤ b.From := by
      rcases cov_cons.1 ((h b.From).2 (cov_cons.2 (.inl ⟨Int.le_refl _, b2⟩))) with e | ⟨w, hw, e⟩
      · exact e.1
      · have := a3 w hw; omega
    have t1 : b.To ≤ a.To := by
      by_cases hlt : a.To < b.To
      · rcases cov_cons.1 ((h a.To).2 (cov_cons.2 (.inl ⟨by omega, hlt⟩))) with e | ⟨w, hw, e⟩
        · omega
        · have := a3 w hw; omega
      · omega
    have t2 : a.To ≤ b.To := by
      by_cases hlt : b.To < a.To
      · rcases cov_cons.1 ((h b.To).1 (cov_cons.2 (.inl ⟨by omega, hlt⟩))) with e | ⟨w, hw, e⟩
        · omega
        · have := b3 w hw; omega
      · omega
    have e : a = b := by
      cases a; cases b
      simp only at f1 f2 t1 t2
      rw [Int.le_antisymm f2 f1, Int.le_antisymm t2 t1]
    subst e
    rw [nf_unique a1 b1 fun t => ⟨fun ⟨w, hw, e⟩ => by
      rcases cov_cons.1 ((h t).1 (cov_cons.2 (.inr ⟨w, hw, e⟩))) with e' | e'
      · have := a3 w hw; omega
      · exact e', fun ⟨w, hw, e⟩ => by
      rcases cov_cons.1 ((h t).2 (cov_cons.2 (.inr ⟨w, hw, e⟩))) with e' | e'
      · have := b3 w hw; omega
      · exact e'⟩]
/-! moments -/
theorem srtI_perm (l : List Int) : (srtI l).Perm l := List.mergeSort_perm l _
theorem srtI_srt (l : List Int) : Srt cmpI (srtI l) := by
  have h := List.pairwise_mergeSort (le := fun x y : Int => decide (x ≤ y)) (fun a b c h1 h2 => by
    rw [decide_eq_true_eq] at *; omega) (fun a b => by
    rw [Bool.or_eq_true, decide_eq_true_eq, decide_eq_true_eq]; omega) l
  exact h.imp (fun {a b} hab hba => by
    rw [decide_eq_true_eq] at hab
    unfold cmpI at hba
    split at hba
    · omega
    · split at hba <;> omega)
/-- Moments that rise. -/
def SI (l : List Int) : Prop := l.Pairwise (fun a b => a < b)
theorem dd_SI (l : List Int) : SI (dd eqB (srtI l)) ∧ ∀ t, t ∈ dd eqB (srtI l) ↔ t ∈ l := by
  have hs := srtI_srt l
  have hn := dd_all cmpI_3 hs (fun a _ b _ h => cmpI_zero h)
  refine ⟨?_, fun t => (dd_mem _ t).trans (srtI_perm l).mem_iff⟩
  have h2 : Srt cmpI (dd eqB (srtI l)) := List.Pairwise.sublist (dd_sub eqB _) hs
  exact List.Pairwise.imp₂ (fun a b h1 h2 => by
    have : ¬ b < a := fun h => h1 (by unfold cmpI; rw [if_pos h]; omega)
    omega) h2 hn
def momL (l : List Signal) : List Int := l.foldl (fun acc s => if s.Kind = 4 then acc ++ [s.At, s.Until] else acc ++ [s.At]) [0, 345686400000]
theorem momL_fold : ∀ (l : List Signal) (acc : List Int), (l.foldl (fun acc s => if s.Kind = 4 then acc ++ [s.At, s.Until] else acc ++ [s.At]) acc).length ≤ acc.length + 2 * l.length ∧ ∀ t, t ∈ l.foldl (fun acc s => if s.Kind = 4 then acc ++ [s.At, s.Until] else acc ++ [s.At]) acc ↔ t ∈ acc ∨ ∃ s ∈ l, t = s.At ∨ (s.Kind = 4 ∧ t = s.Until)
  | [], acc => by simp
  | s :: r, acc => by
    rw [List.foldl_cons]
    have ih := momL_fold r (if s.Kind = 4 then acc ++ [s.At, s.Until] else acc ++ [s.At])
    refine ⟨?_, fun t => ?_⟩
    · have := ih.1
      have h2 : (if s.Kind = 4 then acc ++ [s.At, s.Until] else acc ++ [s.At]).length ≤ acc.length + 2 := by split <;> simp
      simp only [List.length_cons]; omega
    · rw [ih.2 t]
      by_cases h : s.Kind = 4
      · simp [h, or_assoc]
      · simp [h, or_assoc]
structure Mom (l : List Signal) (M : List Int) : Prop where
  srt : SI M
  mem : ∀ t, t ∈ M ↔ t = 0 ∨ t = 345686400000 ∨ ∃ s ∈ l, t = s.At ∨ (s.Kind = 4 ∧ t = s.Until)
  len : (M.length : Int) ≤ 40
theorem icompact_eq (xs : List Int) (hl : (xs.length : Int) ≤ 100000) : slices_Compact_int_int xs = some (dd eqB xs) := gCpt_eq 0 xs hl
theorem moments_eq {l : List Signal} (hv : VS l) : ∃ M, Q_signalMoments l = some M ∧ Mom l M := by
  have hl := hv.len
  have hf := momL_fold l [0, 345686400000]
  have hm : (momL l).length ≤ 2 + 2 * l.length := hf.1
  have hp := (srtI_perm (momL l)).length_eq
  refine ⟨dd eqB (srtI (momL l)), ?_, (dd_SI _).1, fun t => ?_, ?_⟩
  · unfold Q_signalMoments Q_signalMoments_l1
    have main := iter_foldl (A := List Int) l (fun (s : List Int) (i : Int) => (s, i)) (fun x : (List Int) × Int => Q_signalMoments_b1 l x.1 x.2) (fun acc s => if s.Kind = 4 then acc ++ [s.At, s.Until] else acc ++ [s.At]) (fun i s => (s.length : Int) ≤ 2 + 2 * i) Q_signalMoments_k2
      (fun s i x h0 h1 hx hv2 => by
        refine ⟨?_, by split <;> simp <;> omega⟩
        show Q_signalMoments_b1 l s i = _
        rw [Q_signalMoments_b1, if_pos h1, hx]
        simp only [Option.bind_some]
        rw [app_le (by simp; omega)]
        simp only [Option.bind_some]
        unfold Q_signalMoments_j1
        rw [w64_in (x := i + 1) (by omega) (by omega)]
        by_cases h4 : x.Kind = 4
        · rw [if_pos h4, if_pos h4, app_le (by simp; omega)]
          simp only [Option.bind_some, List.append_assoc]; rfl
        · rw [if_neg h4, if_neg h4])
      (fun s hv2 => by
        show Q_signalMoments_b1 l s l.length = _
        rw [Q_signalMoments_b1, if_neg (by omega)]) [0, 345686400000] (by simp)
    refine main.trans ?_
    show Q_signalMoments_k2 (momL l) = _
    unfold Q_signalMoments_k2 slices_Sort_int_int sort1
    rw [if_pos (by omega)]
    unfold lenOk
    simp only [Option.bind_some]
    rw [if_pos hp]
    simp only [Option.bind_some]
    rw [icompact_eq _ (by omega)]; rfl
  · rw [(dd_SI _).2 t]
    show t ∈ momL l ↔ _
    unfold momL
    rw [hf.2 t]
    simp [or_assoc]
  · have := dd_len eqB (srtI (momL l))
    omega
theorem SI.idx_lt {M : List Int} (h : SI M) {i j a b : Int} (ha : idx M i = some a) (hb : idx M j = some b) (hij : i < j) : a < b := by
  obtain ⟨i0, i1, i2⟩ := idx_some ha
  obtain ⟨j0, j1, j2⟩ := idx_some hb
  have := List.pairwise_iff_getElem.1 h i.toNat j.toNat (by omega) (by omega) (by omega)
  rw [List.getElem?_eq_getElem (by omega)] at i2 j2
  rw [← Option.some.inj i2, ← Option.some.inj j2]; exact this
/-- Nothing lies between a moment and the next. -/
theorem SI.gap {M : List Int} (h : SI M) {i a b : Int} (ha : idx M i = some a) (hb : idx M (i + 1) = some b) {t : Int} (ht : t ∈ M) : t ≤ a ∨ b ≤ t := by
  obtain ⟨k, hk, rfl⟩ := List.getElem_of_mem ht
  have hk' : idx M (k : Int) = some M[k] := by
    unfold idx
    rw [if_pos (by omega), show ((k : Int)).toNat = k by omega, List.getElem?_eq_getElem hk]
  by_cases h1 : (k : Int) ≤ i
  · left
    by_cases e : (k : Int) = i
    · rw [e] at hk'; rw [hk'] at ha; rw [Option.some.inj ha]; exact Int.le_refl _
    · have := h.idx_lt hk' ha (by omega); omega
  · right
    by_cases e : (k : Int) = i + 1
    · rw [e] at hk'; rw [hk'] at hb; rw [Option.some.inj hb]; exact Int.le_refl _
    · have := h.idx_lt hb hk' (by omega); omega
theorem Mom.first {l : List Signal} {M : List Int} (h : Mom l M) (hv : VS l) : idx M 0 = some 0 ∧ idx M ((M.length : Int) - 1) = some 345686400000 ∧ 2 ≤ (M.length : Int) := by
  have bnd : ∀ t ∈ M, 0 ≤ t ∧ t ≤ 345686400000 := by
    intro t ht
    rcases (h.mem t).1 ht with e | e | ⟨s, hs, e | ⟨e1, e2⟩⟩
    · omega
    · omega
    · have := hv.mom s hs; omega
    · have := hv.mom s hs; have := hv.till s hs e1; omega
  obtain ⟨i, hi, e0⟩ := List.getElem_of_mem ((h.mem 0).2 (.inl rfl))
  obtain ⟨j, hj, e1⟩ := List.getElem_of_mem ((h.mem 345686400000).2 (.inr (.inl rfl)))
  have hi0 : i = 0 := by
    by_cases hz : i = 0
    · exact hz
    · have := List.pairwise_iff_getElem.1 h.srt 0 i (by omega) hi (by omega)
      have := (bnd M[0] (List.getElem_mem _)).1
      omega
  have hjl : j = M.length - 1 := by
    by_cases hz : j = M.length - 1
    · exact hz
    · have := List.pairwise_iff_getElem.1 h.srt j (M.length - 1) hj (by omega) (by omega)
      have := (bnd (M[M.length - 1]'(by omega)) (List.getElem_mem _)).2
      omega
  have h2 : 2 ≤ M.length := by
    by_cases hz : M.length = 1
    · have : i = j := by omega
      subst this; omega
    · omega
  subst hi0
  refine ⟨?_, ?_, by omega⟩
  · unfold idx
    rw [if_pos (by omega), show ((0 : Int)).toNat = 0 by rfl, List.getElem?_eq_getElem hi, e0]
  · unfold idx
    rw [if_pos (by omega), show ((M.length : Int) - 1).toNat = j by omega, List.getElem?_eq_getElem hj, e1]
theorem pre_same {l : List Signal} {a b : Int} (h : ∀ s ∈ l, s.At ≤ a ↔ s.At ≤ b) : pre l a = pre l b := by
  unfold pre
  exact List.filter_congr fun s hs => by rw [decide_eq_decide]; exact h s hs
/-! the times of the reference -/
/-- What the times of the reference cover. -/
theorem times_eq {l : List Signal} (hv : VS l) (d r : Str) (U : Int → Bool) (fnd : Alarm → Option Bool) (hf : ∀ t, 0 ≤ t → fnd (lView (FL (pre l t) ⟨d, r⟩) t) = some (U t))
    (hU : ∀ t u, 0 ≤ t → t ≤ u → (∀ s ∈ l, ¬ (t < s.At ∧ s.At ≤ u)) → (∀ s ∈ l, s.Kind = 4 → ¬ (t < s.Until ∧ s.Until ≤ u)) → U u = U t) :
    ∃ W, Q_timesOf l d r fnd = some W ∧ NF W ∧ (∀ t, cov W t ↔ 0 ≤ t ∧ t < 345686400000 ∧ U t = true) ∧ (W.length : Int) ≤ 40 := by
  obtain ⟨M, m1, m2⟩ := moments_eq hv
  obtain ⟨g0, g1, g2⟩ := m2.first hv
  have hml := m2.len
  unfold Q_timesOf
  rw [m1]
  simp only [Option.bind_some]
  unfold Q_timesOf_l1
  have key : ∀ (k : Nat) (W : List Window) (i T : Int), 0 ≤ i → i + k = (M.length : Int) - 1 → idx M i = some T → NF W → (∀ w ∈ W, w.To ≤ T) → (∀ t, cov W t ↔ 0 ≤ t ∧ t < T ∧ U t = true) → (W.length : Int) ≤ i →
      ∃ W', iter (fun x : (List Window) × Int => Q_timesOf_b1 l d r fnd M x.1 x.2) (W, i) = some W' ∧ NF W' ∧ (∀ t, cov W' t ↔ 0 ≤ t ∧ t < 345686400000 ∧ U t = true) ∧ (W'.length : Int) ≤ 40 := by
    intro k
    induction k with
    | zero =>
      intro W i T h0 h1 hT hW hto hc hl
      have hi : i = (M.length : Int) - 1 := by omega
      subst hi
      rw [g1] at hT
      have hT := Option.some.inj hT
      subst hT
      refine ⟨W, ?_, hW, hc, by omega⟩
      rw [iter_eq]
      show (Q_timesOf_b1 l d r fnd M W _).bind _ = _
      rw [Q_timesOf_b1, w64_in (x := (M.length : Int) - 1) (by omega) (by omega), if_neg (by omega), map_inr_after]
    | succ k ih =>
      intro W i T h0 h1 hT hW hto hc hl
      have hT0 : 0 ≤ T := by
        by_cases e : i = 0
        · subst e; rw [g0] at hT; have := Option.some.inj hT; omega
        · have := m2.srt.idx_lt g0 hT (by omega); omega
      obtain ⟨T', hT', _, _⟩ := Go.Beacon.idx_lt M (i := i + 1) (by omega) (by omega)
      have hlt := m2.srt.idx_lt hT hT' (by omega)
      have hsame : ∀ t, T ≤ t → t < T' → U t = U T := fun t t1 t2 => hU T t hT0 t1 (fun s hs z => by
        rcases m2.srt.gap hT hT' ((m2.mem s.At).2 (.inr (.inr ⟨s, hs, .inl rfl⟩))) with e | e <;> omega) (fun s hs h4 z => by
        rcases m2.srt.gap hT hT' ((m2.mem s.Until).2 (.inr (.inr ⟨s, hs, .inr ⟨h4, rfl⟩⟩))) with e | e <;> omega)
      rw [iter_eq]
      show ∃ W', (Q_timesOf_b1 l d r fnd M W i).bind _ = some W' ∧ _
      rw [Q_timesOf_b1, w64_in (x := (M.length : Int) - 1) (by omega) (by omega), if_pos (by omega), hT]
      simp only [Option.bind_some]
      rw [AlarmAt_eq hv d r hT0]
      simp only [Option.bind_some]
      rw [hf T hT0]
      simp only [Option.bind_some]
      have hw1 : w64 (i + 1) = i + 1 := w64_in (by omega) (by omega)
      -- the next round
      have next : ∀ W2 : List Window, NF W2 → (∀ w ∈ W2, w.To ≤ T') → (∀ t, cov W2 t ↔ 0 ≤ t ∧ t < T' ∧ U t = true) → (W2.length : Int) ≤ i + 1 →
          ∃ W', (some (Sum.inl (W2, w64 (i + 1))) : Option (((List Window) × Int) ⊕ (List Window))).bind (after (iter fun x : (List Window) × Int => Q_timesOf_b1 l d r fnd M x.1 x.2)) = some W' ∧ NF W' ∧ (∀ t, cov W' t ↔ 0 ≤ t ∧ t < 345686400000 ∧ U t = true) ∧ (W'.length : Int) ≤ 40 := by
        intro W2 a1 a2 a3 a4
        rw [hw1]
        simp only [Option.bind_some, after_inl]
        exact ih W2 (i + 1) T' (by omega) (by omega) hT' a1 a2 a3 a4
      by_cases hu : U T = true
      · rw [hu, if_neg (by simp)]
        have app' : (∀ w ∈ W, w.To ≠ T) → ∃ W', (Q_timesOf_j2 M W i false).bind (after (iter fun x : (List Window) × Int => Q_timesOf_b1 l d r fnd M x.1 x.2)) = some W' ∧ NF W' ∧ (∀ t, cov W' t ↔ 0 ≤ t ∧ t < 345686400000 ∧ U t = true) ∧ (W'.length : Int) ≤ 40 := by
          intro hne
          unfold Q_timesOf_j2
          rw [if_neg (by simp), hT, hw1, hT']
          simp only [Option.bind_some]
          rw [app_le (by simp; omega)]
          simp only [Option.bind_some]
          unfold Q_timesOf_j3 Q_timesOf_j1
          refine next _ ⟨?_, ?_⟩ ?_ ?_ (by simp; omega)
          · rw [List.pairwise_append]
            refine ⟨hW.pw, List.pairwise_singleton _ _, fun a ha b hb => ?_⟩
            rw [List.mem_singleton] at hb
            subst hb
            have := hto a ha; have := hne a ha
            show a.To < T; omega
          · intro w hw
            rcases List.mem_append.1 hw with e | e
            · exact hW.ok w e
            · rw [List.mem_singleton] at e; subst e; exact hlt
          · intro w hw
            rcases List.mem_append.1 hw with e | e
            · have := hto w e; omega
            · rw [List.mem_singleton] at e; subst e; exact Int.le_refl _
          · intro t
            have h1 : cov (W ++ [(⟨T, T'⟩ : Window)]) t ↔ cov W t ∨ (T ≤ t ∧ t < T') := by
              unfold cov
              constructor
              · rintro ⟨w, hw, e⟩
                rcases List.mem_append.1 hw with e' | e'
                · exact .inl ⟨w, e', e⟩
                · rw [List.mem_singleton] at e'; subst e'; exact .inr e
              · rintro (⟨w, hw, e⟩ | e)
                · exact ⟨w, List.mem_append_left _ hw, e⟩
                · exact ⟨⟨T, T'⟩, by simp, e⟩
            rw [h1, hc t]
            constructor
            · rintro (⟨a, b, c⟩ | ⟨a, b⟩)
              · exact ⟨a, by omega, c⟩
              · exact ⟨by omega, b, by rw [hsame t a b]; exact hu⟩
            · rintro ⟨a, b, c⟩
              by_cases ht : t < T
              · exact .inl ⟨a, ht, c⟩
              · exact .inr ⟨by omega, b⟩
        by_cases hne : W = []
        · subst hne
          rw [if_neg (by simp)]
          exact app' (by simp)
        · have hpos : 0 < W.length := List.length_pos_iff.2 hne
          rw [if_pos (by omega), w64_in (x := (W.length : Int) - 1) (by omega) (by omega), idx_last hne ⟨0, 0⟩]
          simp only [Option.bind_some]
          obtain ⟨V, w, rfl⟩ : ∃ V w, W = V ++ [w] := ⟨W.dropLast, W.getLast hne, (List.dropLast_concat_getLast hne).symm⟩
          have hgl : (V ++ [w]).getD ((V ++ [w]).length - 1) ⟨0, 0⟩ = w := by simp
          rw [hgl]
          have hp := List.pairwise_append.1 hW.pw
          by_cases he : w.To = T
          · rw [decide_eq_true he]
            unfold Q_timesOf_j2
            rw [if_pos rfl, hw1, hT']
            simp only [Option.bind_some]
            rw [w64_in (x := (((V ++ [w]).length : Nat) : Int) - 1) (by omega) (by omega), idx_last hne ⟨0, 0⟩, hgl]
            simp only [Option.bind_some]
            have hset : (V ++ [w]).set ((((V ++ [w]).length : Nat) : Int) - 1).toNat (⟨w.From, T'⟩ : Window) = V ++ [(⟨w.From, T'⟩ : Window)] := by
              rw [show ((((V ++ [w]).length : Nat) : Int) - 1).toNat = V.length by simp, List.set_append_right _ _ (by omega)]
              simp
            rw [hset]
            unfold Q_timesOf_j3 Q_timesOf_j1
            have hwo := hW.ok w (by simp)
            refine next _ ⟨?_, ?_⟩ ?_ ?_ (by simp at hl ⊢; omega)
            · rw [List.pairwise_append]
              refine ⟨hp.1, List.pairwise_singleton _ _, fun a ha b hb => ?_⟩
              rw [List.mem_singleton] at hb
              subst hb
              exact hp.2.2 a ha w (by simp)
            · intro x hx
              rcases List.mem_append.1 hx with e | e
              · exact hW.ok x (List.mem_append_left _ e)
              · rw [List.mem_singleton] at e; subst e; show w.From < T'; omega
            · intro x hx
              rcases List.mem_append.1 hx with e | e
              · have := hto x (List.mem_append_left _ e); omega
              · rw [List.mem_singleton] at e; subst e; exact Int.le_refl _
            · intro t
              have h1 : cov (V ++ [(⟨w.From, T'⟩ : Window)]) t ↔ cov (V ++ [w]) t ∨ (T ≤ t ∧ t < T') := by
                unfold cov
                constructor
                · rintro ⟨x, hx, e⟩
                  rcases List.mem_append.1 hx with e' | e'
                  · exact .inl ⟨x, List.mem_append_left _ e', e⟩
                  · rw [List.mem_singleton] at e'; subst e'
                    simp only at e
                    by_cases ht : t < T
                    · exact .inl ⟨w, by simp, e.1, by omega⟩
                    · exact .inr ⟨by omega, e.2⟩
                · rintro (⟨x, hx, e⟩ | e)
                  · rcases List.mem_append.1 hx with e' | e'
                    · exact ⟨x, List.mem_append_left _ e', e⟩
                    · rw [List.mem_singleton] at e'; subst e'
                      exact ⟨⟨x.From, T'⟩, by simp, e.1, by show t < T'; omega⟩
                  · exact ⟨⟨w.From, T'⟩, by simp, by show w.From ≤ t; omega, e.2⟩
              rw [h1, hc t]
              constructor
              · rintro (⟨a, b, c⟩ | ⟨a, b⟩)
                · exact ⟨a, by omega, c⟩
                · exact ⟨by omega, b, by rw [hsame t a b]; exact hu⟩
              · rintro ⟨a, b, c⟩
                by_cases ht : t < T
                · exact .inl ⟨a, ht, c⟩
                · exact .inr ⟨by omega, b⟩
          · rw [decide_eq_false he]
            refine app' fun x hx => ?_
            rcases List.mem_append.1 hx with e | e
            · have := hp.2.2 x e w (by simp)
              have := hto w (by simp)
              have := hW.ok w (by simp)
              omega
            · rw [List.mem_singleton] at e; subst e; exact he
      · have hu' : U T = false := by simpa using hu
        rw [hu', if_pos (by rfl)]
        unfold Q_timesOf_j1
        refine next W hW (fun w hw => by have := hto w hw; omega) (fun t => ?_) (by omega)
        rw [hc t]
        constructor
        · rintro ⟨a, b, c⟩; exact ⟨a, by omega, c⟩
        · rintro ⟨a, b, c⟩
          refine ⟨a, ?_, c⟩
          by_cases ht : t < T
          · exact ht
          · rw [hsame t (by omega) b, hu'] at c; cases c
  exact key (M.length - 1) [] 0 0 (by omega) (by omega) g0 ⟨List.Pairwise.nil, by simp⟩ (by simp) (fun t => ⟨fun z => (by obtain ⟨w, hw, _⟩ := z; cases hw), fun z => (by obtain ⟨a, b, _⟩ := z; omega)⟩) (by simp)
end Go.Beacon

/- The times in which an alarm is active. No program in sight. -/
set_option linter.unusedVariables false
set_option linter.unusedSimpArgs false
namespace Go.Beacon
open Go Go.Eng

/-- What is so of the windows in which an alarm was up. -/
structure UI (p : List Signal) (n : Alarm_name) (x : Alarm_life) : Prop where
  pw : x.up_.Pairwise (fun a b => a.To < b.From)
  on : upS x.state_ → ∃ u f, x.up_ = u ++ [⟨f, 345686400000⟩] ∧ (∃ s ∈ p, s.At = f) ∧ ∀ w ∈ u, w.From ≤ w.To ∧ 0 ≤ w.From ∧ ∃ s ∈ p, nmS s = n ∧ s.Kind = 2 ∧ s.At = w.To
  off : ¬ upS x.state_ → ∀ w ∈ x.up_, w.From ≤ w.To ∧ 0 ≤ w.From ∧ ∃ s ∈ p, nmS s = n ∧ s.Kind = 2 ∧ s.At = w.To
  cv : ∀ t, cov x.up_ t ↔ 0 ≤ t ∧ t < 345686400000 ∧ upS (FL (pre p t) n).state_
theorem setLast_snoc (u : List Window) (w : Window) (t : Int) : setLast (u ++ [w]) t = u ++ [⟨w.From, t⟩] := by
  unfold setLast
  rw [List.set_append_right _ _ (by simp)]
  simp
theorem cov_snoc {W : List Window} {w : Window} {t : Int} : cov (W ++ [w]) t ↔ cov W t ∨ (w.From ≤ t ∧ t < w.To) := by
  unfold cov
  constructor
  · rintro ⟨x, hx, e⟩
    rcases List.mem_append.1 hx with e' | e'
    · exact .inl ⟨x, e', e⟩
    · rw [List.mem_singleton] at e'; subst e'; exact .inr e
  · rintro (⟨x, hx, e⟩ | e)
    · exact ⟨x, List.mem_append_left _ hx, e⟩
    · exact ⟨w, by simp, e⟩
/-- Kinds 1 and 2 of one name at one moment: first 1, then 2. -/
theorem sO_kind {a b : Signal} (h : sO a b < 0) (hn : nmS a = nmS b) (ha : a.At = b.At) : a.Kind < b.Kind := by
  have hd : a.Device = b.Device := congrArg Alarm_name.device_ hn
  have hr : a.Rule = b.Rule := congrArg Alarm_name.rule_ hn
  unfold sO at h
  rw [ha, hd, hr] at h
  rw [orL_cons, cmpI_3.zero, if_neg (by simp), orL_cons, cmpB_3.zero, if_neg (by simp), orL_cons, cmpB_3.zero, if_neg (by simp), orL_cons] at h
  unfold cmpI at h
  split at h
  · assumption
  · split at h
    · rw [if_pos (by omega)] at h; omega
    · rw [if_neg (by omega)] at h; simp [orL] at h
/-- How a signal can change the windows. -/
theorem lfw_up (x : Alarm_life) (s : Signal) (hK : 1 ≤ s.Kind) :
    ((upS (lfw x s).2.state_ ↔ upS x.state_) ∧ (lfw x s).2.up_ = x.up_) ∨
    (s.Kind = 1 ∧ ¬ upS x.state_ ∧ upS (lfw x s).2.state_ ∧ (lfw x s).2.up_ = x.up_ ++ [⟨s.At, 345686400000⟩]) ∨
    (s.Kind = 2 ∧ upS x.state_ ∧ ¬ upS (lfw x s).2.state_ ∧ (lfw x s).2.up_ = setLast x.up_ s.At) := by
  have tt : ∀ st : Int, (lTurn x st s.At).state_ = st := fun _ => rfl
  have n3 : ¬ upS 3 := by unfold upS; omega
  have n0 : ¬ upS 0 := by unfold upS; omega
  unfold lfw
  by_cases k1 : s.Kind = 1
  · rw [if_pos k1]
    by_cases hq : upS x.state_
    · rw [if_pos hq]; exact .inl ⟨Iff.rfl, rfl⟩
    · rw [if_neg hq]
      refine .inr (.inl ⟨k1, hq, .inl rfl, ?_⟩)
      show (lTurn x 1 s.At).up_ = _
      unfold lTurn
      simp only
      rw [if_pos ⟨.inl rfl, hq⟩, if_neg (fun z => hq z.1)]
  · rw [if_neg k1]
    by_cases k2 : s.Kind = 2
    · rw [if_pos k2]
      have dn : ∀ st : Int, ¬ upS st → upS x.state_ → (lTurn x st s.At).up_ = setLast x.up_ s.At := by
        intro st h1 h2
        unfold lTurn
        simp only
        rw [if_neg (fun z => h1 z.1), if_pos ⟨h2, h1⟩]
      by_cases s1 : x.state_ = 1
      · rw [if_pos s1]; exact .inr (.inr ⟨k2, .inl s1, n3, dn 3 n3 (.inl s1)⟩)
      · rw [if_neg s1]
        by_cases s2 : x.state_ = 2
        · rw [if_pos s2]; exact .inr (.inr ⟨k2, .inr s2, n0, dn 0 n0 (.inr s2)⟩)
        · rw [if_neg s2]; exact .inl ⟨Iff.rfl, rfl⟩
    · rw [if_neg k2]
      by_cases k3 : s.Kind = 3
      · rw [if_pos k3]
        by_cases s3 : x.state_ = 3
        · rw [if_pos s3]
          have hx : ¬ upS x.state_ := by rw [s3]; exact n3
          refine .inl ⟨⟨fun z => absurd z n0, fun z => absurd z hx⟩, ?_⟩
          show (lTurn x 0 s.At).up_ = _
          unfold lTurn
          simp only
          rw [if_neg (fun z => n0 z.1), if_neg (fun z => hx z.1)]
        · rw [if_neg s3]
          by_cases s1 : x.state_ = 1
          · rw [if_pos s1]
            have hx : upS x.state_ := .inl s1
            refine .inl ⟨⟨fun _ => hx, fun _ => .inr rfl⟩, ?_⟩
            show (lTurn x 2 s.At).up_ = _
            unfold lTurn
            simp only
            rw [if_neg (fun z => z.2 hx), if_neg (fun z => z.2 (.inr rfl))]
          · rw [if_neg s1]; exact .inl ⟨Iff.rfl, rfl⟩
      · rw [if_neg k3]
        by_cases k4 : s.Kind = 4
        · rw [if_pos k4]
          split <;> exact .inl ⟨Iff.rfl, rfl⟩
        · rw [if_neg k4]
          split <;> exact .inl ⟨Iff.rfl, rfl⟩
theorem pre_snoc (p : List Signal) (s : Signal) (t : Int) : pre (p ++ [s]) t = if s.At ≤ t then pre p t ++ [s] else pre p t := by
  unfold pre
  rw [List.filter_append]
  by_cases h : s.At ≤ t <;> simp [h]
theorem UI_of (n : Alarm_name) : ∀ (p : List Signal), VS p → UI p n (FL p n) := by
  refine rev_ind ?_ ?_
  · intro _
    have h0 : ¬ upS (life0 n).state_ := by show ¬ upS 0; unfold upS; omega
    refine ⟨List.Pairwise.nil, fun h => absurd h h0, fun _ w hw => (by cases hw), fun t => ⟨fun z => (by obtain ⟨w, hw, _⟩ := z; cases hw), fun z => absurd z.2.2 h0⟩⟩
  · intro p s ih hv
    have hp : VS p := hv.sub (List.sublist_append_left _ _)
    have ih := ih hp
    have hs : s ∈ p ++ [s] := by simp
    have hm := hv.mom s hs
    have hat : ∀ x ∈ p, x.At ≤ s.At := fun x hx => (List.pairwise_append.1 hv.at_le).2.2 x hx s (by simp)
    have hord : ∀ x ∈ p, sO x s < 0 := fun x hx => (List.pairwise_append.1 hv.ord).2.2 x hx s (by simp)
    have hsub : ∀ {q : Signal → Prop}, (∃ x ∈ p, q x) → ∃ x ∈ p ++ [s], q x := fun ⟨x, hx, e⟩ => ⟨x, List.mem_append_left _ hx, e⟩
    -- the state at a moment
    have late : ∀ t, s.At ≤ t → pre (p ++ [s]) t = p ++ [s] := fun t ht => pre_all fun x hx => by
      rcases List.mem_append.1 hx with e | e
      · have := hat x e; omega
      · rw [List.mem_singleton] at e; subst e; exact ht
    have early : ∀ t, t < s.At → pre (p ++ [s]) t = pre p t := fun t ht => by rw [pre_snoc, if_neg (by omega)]
    have latep : ∀ t, s.At ≤ t → pre p t = p := fun t ht => pre_all fun x hx => by have := hat x hx; omega
    by_cases hn : n = nmS s
    · have hst : FL (p ++ [s]) n = (lfw (FL p n) s).2 := by
        rw [FL_snoc]; unfold stepF updF; rw [if_pos hn, hn]
      rw [hst]
      -- coverage: before and behind the signal
      have cv' : ∀ W : List Window, (∀ t, t < s.At → (cov W t ↔ cov (FL p n).up_ t)) → (∀ t, s.At ≤ t → (cov W t ↔ t < 345686400000 ∧ upS (lfw (FL p n) s).2.state_)) → ∀ t, cov W t ↔ 0 ≤ t ∧ t < 345686400000 ∧ upS (FL (pre (p ++ [s]) t) n).state_ := by
        intro W c1 c2 t
        by_cases ht : s.At ≤ t
        · rw [late t ht, c2 t ht, hst]
          exact ⟨fun ⟨a, b⟩ => ⟨by omega, a, b⟩, fun ⟨_, a, b⟩ => ⟨a, b⟩⟩
        · rw [early t (by omega), c1 t (by omega)]; exact ih.cv t
      have c2p : ∀ t, s.At ≤ t → (cov (FL p n).up_ t ↔ t < 345686400000 ∧ upS (FL p n).state_) := fun t ht => by
        rw [ih.cv t, latep t ht]
        exact ⟨fun ⟨_, a, b⟩ => ⟨a, b⟩, fun ⟨a, b⟩ => ⟨by omega, a, b⟩⟩
      rcases lfw_up (FL p n) s (hv.kind s hs).1 with ⟨e1, e2⟩ | ⟨k, e1, e2, e3⟩ | ⟨k, e1, e2, e3⟩
      · refine ⟨by rw [e2]; exact ih.pw, fun h => ?_, fun h => ?_, cv' _ (fun t _ => by rw [e2]) (fun t ht => by rw [e2, e1]; exact c2p t ht)⟩
        · obtain ⟨u, f, a, b, c⟩ := ih.on (e1.1 h)
          exact ⟨u, f, by rw [e2]; exact a, hsub b, fun w hw => ⟨(c w hw).1, (c w hw).2.1, hsub (c w hw).2.2⟩⟩
        · rw [e2]
          have c := ih.off (fun z => h (e1.2 z))
          exact fun w hw => ⟨(c w hw).1, (c w hw).2.1, hsub (c w hw).2.2⟩
      · have c := ih.off e1
        have hlt : ∀ w ∈ (FL p n).up_, w.To < s.At := by
          intro w hw
          obtain ⟨_, _, x, hx, a, b, d⟩ := c w hw
          have h1 := hat x hx
          by_cases he : x.At = s.At
          · have := sO_kind (hord x hx) (by rw [a, hn]) he; omega
          · omega
        refine ⟨?_, fun _ => ⟨(FL p n).up_, s.At, e3, ⟨s, hs, rfl⟩, fun w hw => ⟨(c w hw).1, (c w hw).2.1, hsub (c w hw).2.2⟩⟩, fun h => absurd e2 h, cv' _ (fun t ht => ?_) (fun t ht => ?_)⟩
        · rw [e3, List.pairwise_append]
          refine ⟨ih.pw, List.pairwise_singleton _ _, fun a ha b hb => ?_⟩
          rw [List.mem_singleton] at hb; subst hb
          exact hlt a ha
        · rw [e3, cov_snoc]
          exact ⟨fun z => z.elim id (fun z => by have := z.1; simp only at this; omega), .inl⟩
        · rw [e3, cov_snoc]
          refine ⟨fun z => ⟨?_, e2⟩, fun z => .inr ⟨ht, z.1⟩⟩
          rcases z with z | z
          · exact ((c2p t ht).1 z).1
          · exact z.2
      · obtain ⟨u, f, a, ⟨x, hx, b⟩, c⟩ := ih.on e1
        have hu : (lfw (FL p n) s).2.up_ = u ++ [⟨f, s.At⟩] := by rw [e3, a, setLast_snoc]
        have hf : f ≤ s.At ∧ 0 ≤ f := by rw [← b]; exact ⟨hat x hx, (hp.mom x hx).1⟩
        have hpw := ih.pw
        rw [a, List.pairwise_append] at hpw
        have uTo : ∀ w ∈ u, w.To ≤ s.At := fun w hw => by
          obtain ⟨_, _, y, hy, _, _, d⟩ := c w hw
          rw [← d]; exact hat y hy
        refine ⟨?_, fun h => absurd h e2, fun _ w hw => ?_, cv' _ (fun t ht => ?_) (fun t ht => ?_)⟩
        · rw [hu, List.pairwise_append]
          refine ⟨hpw.1, List.pairwise_singleton _ _, fun y hy z hz => ?_⟩
          rw [List.mem_singleton] at hz; subst hz
          exact hpw.2.2 y hy ⟨f, 345686400000⟩ (by simp)
        · rw [hu] at hw
          rcases List.mem_append.1 hw with e | e
          · exact ⟨(c w e).1, (c w e).2.1, hsub (c w e).2.2⟩
          · rw [List.mem_singleton] at e; subst e
            exact ⟨hf.1, hf.2, s, hs, hn.symm, k, rfl⟩
        · rw [hu, a, cov_snoc, cov_snoc]
          simp only
          exact ⟨fun z => z.imp id fun z => ⟨z.1, by omega⟩, fun z => z.imp id fun z => ⟨z.1, ht⟩⟩
        · rw [hu, cov_snoc]
          simp only
          refine ⟨fun z => ?_, fun z => absurd z.2 e2⟩
          rcases z with ⟨w, hw, z1, z2⟩ | z
          · have := uTo w hw; omega
          · omega
    · have hst : FL (p ++ [s]) n = FL p n := by
        rw [FL_snoc]; unfold stepF updF; rw [if_neg hn]
      rw [hst]
      refine ⟨ih.pw, fun h => ?_, fun h w hw => ?_, fun t => ?_⟩
      · obtain ⟨u, f, a, b, c⟩ := ih.on h
        exact ⟨u, f, a, hsub b, fun w hw => ⟨(c w hw).1, (c w hw).2.1, hsub (c w hw).2.2⟩⟩
      · have c := ih.off h w hw
        exact ⟨c.1, c.2.1, hsub c.2.2⟩
      · rw [ih.cv t]
        by_cases ht : s.At ≤ t
        · rw [late t ht, latep t ht, hst]
        · rw [early t (by omega)]
/-! windows that last -/
def lastW (W : List Window) : List Window := W.filter fun w => !decide (w.To ≤ w.From)
theorem lasting_eq {W : List Window} (h : (W.length : Int) ≤ 1000) : alarm_lasting W = some (lastW W) := by
  unfold alarm_lasting slices_Clone_Window_Window
  rw [app_le (by simp; omega)]
  simp only [Option.bind_some, List.nil_append]
  rw [show slices_DeleteFunc_Window_Window W (fun y0 => some (alarm_lasting_1x y0)) = gDel (⟨0, 0⟩ : Window) W (fun y0 => some (alarm_lasting_1x y0)) from rfl, gDel_eq _ _ alarm_lasting_1x W (by omega) (fun _ _ => rfl)]
  rfl
theorem lastW_cov (W : List Window) (t : Int) : cov (lastW W) t ↔ cov W t := by
  unfold cov lastW
  constructor
  · rintro ⟨w, hw, e⟩; exact ⟨w, (List.mem_filter.1 hw).1, e⟩
  · rintro ⟨w, hw, e⟩; exact ⟨w, List.mem_filter.2 ⟨hw, by simp; omega⟩, e⟩
theorem lastW_NF {W : List Window} (h : W.Pairwise (fun a b => a.To < b.From)) : NF (lastW W) :=
  ⟨h.sublist List.filter_sublist, fun w hw => by have := (List.mem_filter.1 hw).2; simpa using this⟩
theorem Active_eq {l : List Signal} (hB : ∀ x ∈ l, SgB x) (hv : chkS l = 0 → VS l) (d r : Str) :
    alarm_Active l d r = some (if orL [chkS l, if keyB d = true then 0 else 5, if keyB r = true then 0 else 5] ≠ 0 then ([], orL [chkS l, if keyB d = true then 0 else 5, if keyB r = true then 0 else 5]) else (lastW (FL l ⟨d, r⟩).up_, 0)) := by
  unfold alarm_Active
  rw [nameFault_eq hB]
  simp only [Option.bind_some]
  by_cases he : orL [chkS l, if keyB d = true then 0 else 5, if keyB r = true then 0 else 5] = 0
  · have hc : chkS l = 0 := orL_zero he _ (by simp)
    have hv := hv hc
    have hl := hv.len
    simp only [he, ne_eq, not_true_eq_false, if_false]
    obtain ⟨H, N, ix, a1, a2, a3, a4⟩ := at_eq hv 345686400000
    have hpre : pre l 345686400000 = l := pre_all fun s hs => by have := hv.mom s hs; omega
    rw [hpre] at a2
    have hf := FS_of _ hv
    rw [a1]
    simp only [Option.bind_some]
    by_cases hn : (⟨d, r⟩ : Alarm_name) ∈ N
    · rw [(a2.one _ hn).1, casesO_some, (a2.one _ hn).2]
      simp only [Option.bind_some]
      have h2 := (hf.li ⟨d, r⟩).l2
      rw [lasting_eq (by omega)]; rfl
    · rw [a2.non _ hn, casesO_none, (hf.in0 ⟨d, r⟩ (fun z => hn ((a4 _).2 z))).1]
      rfl
  · rw [if_pos he, if_pos he]
theorem isUp_eq (x : Alarm_life) (m : Int) : Q_isUp (lView x m) = decide (upS x.state_) := by
  unfold Q_isUp Q_isUp_j1 lView
  rw [← Bool.decide_or]
theorem ActiveTimes_eq {l : List Signal} (hv : VS l) (d r : Str) : Q_ActiveTimes l d r = some (lastW (FL l ⟨d, r⟩).up_) := by
  obtain ⟨W, w1, w2, w3, w4⟩ := times_eq hv d r (fun t => decide (upS (FL (pre l t) ⟨d, r⟩).state_)) (fun y0 => some (Q_isUp y0)) (fun t ht => by rw [isUp_eq]) (fun t u h0 h1 h2 h3 => by
    rw [pre_same (a := u) (b := t) (fun s hs => ⟨fun z => by
      by_cases e : s.At ≤ t
      · exact e
      · exact absurd ⟨by omega, z⟩ (h2 s hs), fun z => by omega⟩)])
  have hu := UI_of ⟨d, r⟩ l hv
  unfold Q_ActiveTimes
  rw [w1]
  simp only [Option.bind_some]
  rw [nf_unique w2 (lastW_NF hu.pw) (fun t => by rw [lastW_cov, hu.cv t, w3 t, decide_eq_true_iff])]
end Go.Beacon

/- The next change of the alarms. No program in sight. -/
set_option linter.unusedVariables false
set_option linter.unusedSimpArgs false
namespace Go.Beacon
open Go Go.Eng

/-! what is seen of an alarm -/
def seenW (x : Alarm_life) (m : Int) : Alarm_seen := if lIs x m = true then ⟨lView x m, true⟩ else ⟨⟨[], [], 0, 0, 0, 0⟩, false⟩
theorem changes1_eq (x : Alarm_life) (m : Int) : alarm_house_changes_1x x m = seenW x m := by
  unfold alarm_house_changes_1x alarm_house_changes_1x_j1 seenW
  rw [view_eq]
  cases h : lIs x m <;> rfl
def nmA (a : Alarm) : Alarm_name := ⟨a.Device, a.Rule⟩
theorem nmA_view (x : Alarm_life) (m : Int) : nmA (lView x m) = x.name_ := rfl
theorem als_cons (n : Alarm_name) (N : List Alarm_name) (F : Alarm_name → Alarm_life) (m : Int) : als (n :: N) F m = if lIs (F n) m = true then lView (F n) m :: als N F m else als N F m := by
  unfold als
  rw [List.filter_cons]
  split <;> rfl
theorem als_name {N : List Alarm_name} {F : Alarm_name → Alarm_life} (hF : ∀ n, (F n).name_ = n) {m : Int} {a : Alarm} (h : a ∈ als N F m) : nmA a ∈ N := by
  unfold als at h
  obtain ⟨n, hn, rfl⟩ := List.mem_map.1 h
  rw [nmA_view, hF]; exact (List.mem_filter.1 hn).1
theorem als_eq_iff {F G : Alarm_name → Alarm_life} (hF : ∀ n, (F n).name_ = n) (hG : ∀ n, (G n).name_ = n) (a b : Int) : ∀ {N : List Alarm_name}, N.Nodup → (als N F a = als N G b ↔ ∀ n ∈ N, seenW (F n) a = seenW (G n) b)
  | [], _ => by simp [als]
  | n :: N, hn => by
    have h1 := List.nodup_cons.1 hn
    have ih := als_eq_iff hF hG a b h1.2
    rw [als_cons, als_cons]
    simp only [List.mem_cons, forall_eq_or_imp]
    rw [← ih]
    unfold seenW
    by_cases p : lIs (F n) a = true <;> by_cases q : lIs (G n) b = true
    · simp only [p, q, if_true, List.cons.injEq, Alarm_seen.mk.injEq, and_true]
    · simp only [p, q, if_true, if_false, Bool.false_eq_true]
      refine ⟨fun z => ?_, fun z => by simp at z⟩
      have : nmA (lView (F n) a) ∈ N := als_name (F := G) hG (m := b) (by rw [← z]; simp)
      rw [nmA_view, hF] at this
      exact absurd this h1.1
    · simp only [p, q, if_true, if_false, Bool.false_eq_true]
      refine ⟨fun z => ?_, fun z => by simp at z⟩
      have : nmA (lView (G n) b) ∈ N := als_name (F := F) hF (m := a) (by rw [z]; simp)
      rw [nmA_view, hG] at this
      exact absurd this h1.1
    · simp only [p, q, if_false, Bool.false_eq_true, true_and]
/-- Something changes at a moment. -/
def chgB (l : List Signal) (N : List Alarm_name) (t : Int) : Bool := N.any fun n => decide (seenW (FL (pre l t) n) t ≠ seenW (FL (pre l (t - 1)) n) (t - 1))
theorem chgB_als {l : List Signal} (hv : VS l) {N : List Alarm_name} (hn : N.Nodup) (t : Int) : decide (als N (FL (pre l t)) t = als N (FL (pre l (t - 1))) (t - 1)) = !chgB l N t := by
  have h1 := FS_of _ (hv.sub (pre_sub l t))
  have h2 := FS_of _ (hv.sub (pre_sub l (t - 1)))
  have := als_eq_iff h1.nm h2.nm t (t - 1) hn
  cases hc : chgB l N t with
  | false =>
    rw [Bool.not_false, decide_eq_true_eq, this]
    intro n hN
    unfold chgB at hc
    rw [List.any_eq_false] at hc
    have := hc n hN
    simpa using this
  | true =>
    rw [Bool.not_true, decide_eq_false_iff_not, this]
    unfold chgB at hc
    rw [List.any_eq_true] at hc
    obtain ⟨n, hN, e⟩ := hc
    intro z
    rw [decide_eq_true_eq] at e
    exact e (z n hN)
structure Nms (l : List Signal) (N : List Alarm_name) : Prop where
  srt : N.Pairwise (fun a b => nmO a b < 0)
  mem : ∀ n, n ∈ N ↔ n ∈ l.map nmS
theorem AlarmsAtN {l : List Signal} (hv : VS l) {N : List Alarm_name} (hN : Nms l N) {m : Int} (hm : 0 ≤ m) : Q_AlarmsAt l m = some (als N (FL (pre l m)) m) := by
  obtain ⟨N', b1, b2, b3⟩ := AlarmsAt_eq hv hm
  rw [b1, als_same hv hm hN.srt hN.mem b2 b3]
theorem EqA' {a b : List Alarm} (h : (a.length : Int) ≤ 100000) : slices_Equal_Alarm_Alarm a b = some (decide (a = b)) := gEqual_eq a b (by omega)
/-- The reference: the first moment at which something changes. -/
def nextG (l : List Signal) (N : List Alarm_name) (at_ : Int) (t : Int) : Option (Int × Bool) := if at_ < t ∧ t < 345686400000 ∧ chgB l N t = true then some (t, true) else none
theorem NextAlarms_find {l : List Signal} (hv : VS l) {N : List Alarm_name} (hN : Nms l N) {at_ : Int} (h0 : 0 ≤ at_) {M : List Int} (hM : Q_signalMoments l = some M) (hm : Mom l M) : Q_NextAlarms l at_ = some (findE (nextG l N at_) (0, false) M) := by
  have hml := hm.len
  have hl := hv.len
  have hnl := N_len hN.srt hN.mem
  unfold Q_NextAlarms
  rw [hM]
  simp only [Option.bind_some]
  unfold Q_NextAlarms_l1
  refine iter_find M (fun x : Int => Q_NextAlarms_b1 l at_ M x) (nextG l N at_) (0, false) (by omega) (fun i x i0 i1 hx => ?_) ?_
  · show Q_NextAlarms_b1 l at_ M i = _
    rw [Q_NextAlarms_b1, if_pos i1, hx]
    simp only [Option.bind_some]
    have j : ∀ c : Bool, Q_NextAlarms_j1 i x c = if c = true then some (.inr (x, true)) else some (.inl (i + 1)) := by
      intro c
      unfold Q_NextAlarms_j1
      rw [w64_in (by omega) (by omega)]
      cases c <;> rfl
    unfold nextG
    by_cases a1 : at_ < x
    · rw [if_pos a1]
      by_cases a2 : x < 345686400000
      · rw [if_pos a2, AlarmsAtN hv hN (by omega)]
        simp only [Option.bind_some]
        rw [w64_in (x := x - 1) (by omega) (by omega), AlarmsAtN hv hN (by omega)]
        simp only [Option.bind_some]
        have hle := als_len N (FL (pre l x)) x
        rw [EqA' (by omega), chgB_als hv (nodup_of nmO_3 hN.srt)]
        simp only [Option.bind_some, Bool.not_not]
        rw [j]
        cases hc : chgB l N x
        · rw [if_neg (by simp), if_neg (fun z => by cases z.2.2)]
        · rw [if_pos rfl, if_pos ⟨a1, a2, rfl⟩]
      · rw [if_neg a2, j, if_neg (by simp), if_neg (fun z => a2 z.2.1)]
    · rw [if_neg a1, j, if_neg (by simp), if_neg (fun z => a1 z.1)]
  · show Q_NextAlarms_b1 l at_ M M.length = _
    rw [Q_NextAlarms_b1, if_neg (by omega)]; rfl
theorem findE_none {α A : Type} {g : α → Option A} {e : A} : ∀ {M : List α}, (∀ x ∈ M, g x = none) → findE g e M = e
  | [], _ => rfl
  | x :: r, h => by
    unfold findE
    rw [h x (by simp)]
    exact findE_none fun y hy => h y (List.mem_cons_of_mem _ hy)
theorem findE_hit {A : Type} {g : Int → Option A} {e v : A} {t : Int} (hg : g t = some v) : ∀ {M : List Int}, SI M → t ∈ M → (∀ u ∈ M, u < t → g u = none) → findE g e M = v
  | [], _, ht, _ => by cases ht
  | x :: r, hs, ht, h => by
    have h1 := List.pairwise_cons.1 hs
    unfold findE
    rcases List.mem_cons.1 ht with rfl | ht
    · rw [hg]
    · rw [h x (by simp) (h1.1 t ht)]
      exact findE_hit hg h1.2 ht fun u hu => h u (List.mem_cons_of_mem _ hu)
/-- What a search of the next change tells. -/
def NextR (l : List Signal) (N : List Alarm_name) (at_ : Int) (M : List Int) (r : Int × Bool × Int) : Prop :=
  r.2.2 = 0 ∧ ((r.2.1 = true ∧ at_ < r.1 ∧ r.1 < 345686400000 ∧ chgB l N r.1 = true ∧ (∀ u, at_ < u → u < r.1 → chgB l N u = false) ∧ r.1 ∈ M) ∨ (r.2.1 = false ∧ r.1 = 0 ∧ ∀ u, at_ < u → u < 345686400000 → chgB l N u = false))
theorem NextR_find {l : List Signal} {N : List Alarm_name} {at_ : Int} {M : List Int} (hm : Mom l M) {r : Int × Bool × Int} (h : NextR l N at_ M r) : r = ((findE (nextG l N at_) (0, false) M).1, (findE (nextG l N at_) (0, false) M).2, 0) := by
  obtain ⟨a, b, c⟩ := r
  obtain ⟨h0, h⟩ := h
  simp only at h0 h
  subst h0
  rcases h with ⟨rfl, h1, h2, h3, h4, h5⟩ | ⟨rfl, rfl, h1⟩
  · rw [findE_hit (v := (a, true)) (t := a) (by unfold nextG; rw [if_pos ⟨h1, h2, h3⟩]) hm.srt h5 (fun u _ hu => by
      unfold nextG
      rw [if_neg (fun z => by rw [h4 u z.1 hu] at z; cases z.2.2)])]
  · rw [findE_none (fun u _ => by
      unfold nextG
      rw [if_neg (fun z => by rw [h1 u z.1 z.2.1] at z; cases z.2.2)])]
/-! the program -/
theorem sh_mom {l : List Signal} {M : List Int} (hm : Mom l M) (n : Alarm_name) : ∀ p : List Signal, (∀ s ∈ p, s ∈ l) → (FL p n).shelved_ ∈ M := by
  refine rev_ind ?_ ?_
  · intro _; exact (hm.mem 0).2 (.inl rfl)
  · intro p s ih h
    have ih := ih fun x hx => h x (List.mem_append_left _ hx)
    have hs := h s (by simp)
    have hat : s.At ∈ M := (hm.mem _).2 (.inr (.inr ⟨s, hs, .inl rfl⟩))
    rw [FL_snoc]
    unfold stepF updF
    split
    · rename_i e
      rw [e] at ih
      have tt : ∀ st : Int, (lTurn (FL p (nmS s)) st s.At).shelved_ = (FL p (nmS s)).shelved_ := fun _ => rfl
      unfold lfw
      split
      · split <;> exact ih
      · split
        · split
          · exact ih
          · split <;> exact ih
        · split
          · split
            · exact ih
            · split <;> exact ih
          · split
            · rename_i k4
              split
              · exact ih
              · exact (hm.mem _).2 (.inr (.inr ⟨s, hs, .inr ⟨k4, rfl⟩⟩))
            · split
              · exact ih
              · exact hat
    · exact ih
/-- Between two moments at which something can be otherwise, nothing is. -/
theorem quiet {l : List Signal} {N : List Alarm_name} {now next t : Int} (h1 : now < t) (h2 : t < next) (hs : ∀ s ∈ l, s.At ≤ now ∨ next ≤ s.At) (hx : ∀ n ∈ N, now < (FL (pre l now) n).shelved_ → next ≤ (FL (pre l now) n).shelved_) : chgB l N t = false := by
  have e1 : pre l t = pre l now := pre_same fun s h => by rcases hs s h with e | e <;> omega
  have e2 : pre l (t - 1) = pre l now := pre_same fun s h => by rcases hs s h with e | e <;> omega
  unfold chgB
  rw [List.any_eq_false]
  intro n hn
  rw [e1, e2]
  simp only [ne_eq, decide_not, Bool.not_eq_true', decide_eq_false_iff_not, Decidable.not_not]
  have hsh : lShelf (FL (pre l now) n) t = lShelf (FL (pre l now) n) (t - 1) := by
    unfold lShelf
    by_cases hc : now < (FL (pre l now) n).shelved_
    · have := hx n hn hc
      rw [if_pos (by omega), if_pos (by omega)]
    · rw [if_neg (by omega), if_neg (by omega)]
  unfold seenW lIs lView
  rw [hsh]
theorem changes_eq {H : Alarm_house} {N : List Alarm_name} {p xs : List Signal} {ix : Alarm_name → Int} (h : HK H N (FL p) ix) (hv : VS (p ++ xs)) (hn : ∀ s ∈ xs, nmS s ∈ N) (hN : N.length ≤ 15) {t : Int} (h0 : 0 ≤ t ∧ t ≤ 345686400000) :
    Ok (alarm_house_changes_c0x1x H xs t) (fun r => r.1 = N.any (fun n => decide (seenW (FL (p ++ xs) n) t ≠ seenW (FL p n) (t - 1))) ∧ HK r.2 N (FL (p ++ xs)) ix) := by
  have hl := hv.len
  have hxl : (xs.length : Int) ≤ 15 := by simp at hl; omega
  unfold alarm_house_changes_c0x1x alarm_house_changes_c0x1x_l1
  have main := iter_foldl (A := Bool × Alarm_house) N (fun (s : List Alarm_seen) (i : Int) => (s, i)) (fun x : (List Alarm_seen) × Int => alarm_house_changes_c0x1x_b1 H xs t x.1 x.2) (fun acc n => acc ++ [seenW (FL p n) (t - 1)]) (fun i s => (s.length : Int) = i) (fun s => alarm_house_changes_c0x1x_l2 xs t s H.all_ H.ar0 H.order_ 0)
    (fun s i n i0 i1 hx hv2 => by
      refine ⟨?_, by simp; omega⟩
      show alarm_house_changes_c0x1x_b1 H xs t s i = _
      rw [alarm_house_changes_c0x1x_b1, if_pos (by rw [h.ord]; simp; omega), h.ord, idx_map', hx]
      simp only [Option.map_some, Option.bind_some]
      rw [(h.one n (idx_mem hx)).2]
      simp only [Option.bind_some]
      rw [changes1_eq, w64_in (x := t - 1) (by omega) (by omega), app_le (by simp; omega), w64_in (x := i + 1) (by omega) (by omega)]; rfl)
    (fun s hv2 => by
      show alarm_house_changes_c0x1x_b1 H xs t s N.length = _
      rw [alarm_house_changes_c0x1x_b1, if_neg (by rw [h.ord]; simp)]) [] (by simp)
  have main : iter (fun x : (List Alarm_seen) × Int => alarm_house_changes_c0x1x_b1 H xs t x.1 x.2) ([], 0) = _ := main
  rw [main, foldl_map, List.nil_append]
  unfold alarm_house_changes_c0x1x_l2
  refine Ok.rangeS xs.length (fun (s : Alarm_house) (i : Int) => (s.all_, s.ar0, s.order_, i)) (fun i s => HK s N (FL (p ++ xs.take i.toNat)) ix) (fun s i g0 g1 hk => ?_) H (by simpa using h)
  show Ok (alarm_house_changes_c0x1x_b2 xs t _ s.all_ s.ar0 s.order_ i) _
  unfold alarm_house_changes_c0x1x_b2
  by_cases hi : i < xs.length
  · rw [if_pos hi]
    refine Ok.idx g0 hi (fun x hx hxm => ?_)
    have ht : xs.take (i + 1).toNat = xs.take i.toNat ++ [x] := take_succ g0 hx
    have hsub : (p ++ xs.take i.toNat ++ [x]).Sublist (p ++ xs) := by
      rw [List.append_assoc, ← ht]; exact (List.Sublist.refl p).append (List.take_sublist _ _)
    obtain ⟨e1, e2⟩ := hfollow hk (hv.sub hsub) (hn x hxm)
    rw [show (⟨s.all_, s.order_, s.ar0⟩ : Alarm_house) = s from rfl, e1, w64_in (x := i + 1) (by omega) (by omega)]
    refine ⟨_, rfl, .inl ⟨_, rfl, by omega, ?_⟩⟩
    rw [ht, ← List.append_assoc]; exact e2
  · rw [if_neg hi]
    have hit : i.toNat = xs.length := by omega
    rw [hit, List.take_length] at hk
    refine Ok.inr ?_
    simp only [reduceCtorEq, false_and, exists_false, Sum.inr.injEq, false_or, exists_eq_left']
    unfold alarm_house_changes_c0x1x_l3
    have fnd := iter_find N (fun x : Int => alarm_house_changes_c0x1x_b3 t (N.map fun n => seenW (FL p n) (t - 1)) s.all_ s.ar0 s.order_ x) (fun n => if seenW (FL (p ++ xs) n) t ≠ seenW (FL p n) (t - 1) then some (true, s) else none) (false, s) (by omega)
      (fun j n j0 j1 hx => by
        show alarm_house_changes_c0x1x_b3 t _ s.all_ s.ar0 s.order_ j = _
        rw [alarm_house_changes_c0x1x_b3, if_pos (by rw [hk.ord]; simp; omega), hk.ord, idx_map', hx]
        simp only [Option.map_some, Option.bind_some]
        rw [(hk.one n (idx_mem hx)).2]
        simp only [Option.bind_some]
        rw [idx_map', hx]
        simp only [Option.map_some, Option.bind_some]
        rw [changes1_eq, w64_in (x := j + 1) (by omega) (by omega)]
        by_cases hc : seenW (FL (p ++ xs) n) t ≠ seenW (FL p n) (t - 1)
        · rw [if_pos hc, if_pos hc, ← hk.ord]
        · rw [if_neg hc, if_neg hc])
      (by
        show alarm_house_changes_c0x1x_b3 t _ s.all_ s.ar0 s.order_ N.length = _
        rw [alarm_house_changes_c0x1x_b3, if_neg (by rw [hk.ord]; simp)]; rfl)
    refine ⟨_, fnd, ?_⟩
    have key : ∀ L : List Alarm_name, findE (fun n => if seenW (FL (p ++ xs) n) t ≠ seenW (FL p n) (t - 1) then some (true, s) else none) (false, s) L = (L.any (fun n => decide (seenW (FL (p ++ xs) n) t ≠ seenW (FL p n) (t - 1))), s) := by
      intro L
      induction L with
      | nil => rfl
      | cons n r ih =>
        unfold findE
        rw [List.any_cons]
        by_cases hc : seenW (FL (p ++ xs) n) t ≠ seenW (FL p n) (t - 1)
        · simp only [hc, if_true, decide_true, Bool.true_or, ne_eq, not_false_eq_true]
        · rw [if_neg hc]
          simp only [hc, decide_false, Bool.false_or]
          exact ih
    rw [key N]
    exact ⟨rfl, hk⟩
/-- The signals of one moment are passed over. -/
theorem skip_eq {l : List Signal} (hv : VS l) (a : List (Alarm_name × Int)) (b : List Alarm_life) (c : List Int) (i next : Int) : ∀ (n : Nat) (k : Int), 0 ≤ k → k + n = l.length → (∀ s ∈ l.drop k.toNat, next ≤ s.At) →
    ∃ k', k ≤ k' ∧ k' ≤ l.length ∧ (∀ s ∈ (l.drop k.toNat).take (k'.toNat - k.toNat), s.At = next) ∧ (∀ s ∈ l.drop k'.toNat, next < s.At) ∧ iter (fun x : Int => alarm_NextChange_b3 l a b c i next x) k = alarm_NextChange_k5 l a b c i next k' := by
  have hl := hv.len
  intro n
  induction n with
  | zero =>
    intro k k0 k1 h
    refine ⟨k, by omega, by omega, by simp, ?_, ?_⟩
    · rw [List.drop_of_length_le (by omega)]; simp
    · rw [iter_eq]
      show (alarm_NextChange_b3 l a b c i next k).bind _ = _
      rw [alarm_NextChange_b3, if_neg (by omega)]
      unfold alarm_NextChange_j4
      rw [if_neg (by simp), map_inr_after]
  | succ n ih =>
    intro k k0 k1 h
    obtain ⟨x, hx, hxm, hd⟩ := Go.Beacon.idx_lt l k0 (by omega)
    rw [iter_eq]
    have hb : alarm_NextChange_b3 l a b c i next k = alarm_NextChange_j4 l a b c i next k (decide (x.At = next)) := by
      rw [alarm_NextChange_b3, if_pos (by omega), hx]; rfl
    by_cases he : x.At = next
    · obtain ⟨k', a1, a2, a3, a4, a5⟩ := ih (k + 1) (by omega) (by omega) (fun s hs => h s (by rw [hd]; exact List.mem_cons_of_mem _ hs))
      refine ⟨k', by omega, a2, ?_, a4, ?_⟩
      · rw [hd, show k'.toNat - k.toNat = (k'.toNat - (k + 1).toNat) + 1 by omega, List.take_succ_cons]
        intro s hs
        rcases List.mem_cons.1 hs with rfl | hs
        · exact he
        · exact a3 s hs
      · show (alarm_NextChange_b3 l a b c i next k).bind _ = _
        rw [hb, decide_eq_true he]
        unfold alarm_NextChange_j4
        rw [if_pos rfl, w64_in (by omega) (by omega)]
        simp only [Option.bind_some, after_inl]
        exact a5
    · refine ⟨k, by omega, by omega, by simp, ?_, ?_⟩
      · have hp := hv.at_le.sublist (List.drop_sublist k.toNat l)
        rw [hd] at hp ⊢
        have hx2 := h x (by rw [hd]; simp)
        intro s hs
        rcases List.mem_cons.1 hs with rfl | hs
        · omega
        · have := (List.pairwise_cons.1 hp).1 s hs; omega
      · show (alarm_NextChange_b3 l a b c i next k).bind _ = _
        rw [hb, decide_eq_false he]
        unfold alarm_NextChange_j4
        rw [if_neg (by simp), map_inr_after]
theorem NextChange_eq {l : List Signal} (hv : VS l) (hc : chkS l = 0) {at_ : Int} (hm : 0 ≤ at_ ∧ at_ ≤ 345686399999) : ∃ r, alarm_NextChange l at_ = some (r.1, r.2, 0) ∧ Q_NextAlarms l at_ = some r := by
  obtain ⟨H, N, ix, a1, a2, a3, a4⟩ := at_eq hv at_
  obtain ⟨M, m1, m2⟩ := moments_eq hv
  have hN : Nms l N := ⟨a3, a4⟩
  have hl := hv.len
  have hnl := N_len a3 a4
  have main : Ok (alarm_NextChange l at_) (NextR l N at_ M) := by
    unfold alarm_NextChange
    rw [CheckSignals_eq hv.bnd, hc]
    simp only [Option.bind_some]
    rw [if_neg (by simp), Moment_eq, if_neg (by simp [hm.1, hm.2]), a1]
    simp only [Option.bind_some]
    rw [show slices_IndexFunc_Signal_Signal l (fun y0 => some (alarm_NextChange_1x y0 at_)) = some (findI (fun y0 => alarm_NextChange_1x y0 at_) l 0) from gIndexFunc_eq l _ (fun y0 => alarm_NextChange_1x y0 at_) (fun _ _ => rfl) (by omega)]
    simp only [Option.bind_some]
    -- the loop
    have loop : ∀ (i : Int), 0 ≤ i → i ≤ l.length → (∀ s ∈ l.take i.toNat, s.At ≤ at_) → (∀ s ∈ l.drop i.toNat, at_ < s.At) → Ok (alarm_NextChange_j1 l at_ H i) (NextR l N at_ M) := by
      intro i i0 i1 hlo hhi
      unfold alarm_NextChange_j1 alarm_NextChange_l1
      refine Ok.iter (fun x : (List (Alarm_name × Int)) × (List Alarm_life) × (List Int) × Int × Int => (345686400000 - x.2.2.2.2).toNat)
        (fun x => HK ⟨x.1, x.2.2.1, x.2.1⟩ N (FL (pre l x.2.2.2.2)) ix ∧ (at_ ≤ x.2.2.2.2 ∧ x.2.2.2.2 < 345686400000) ∧ (0 ≤ x.2.2.2.1 ∧ x.2.2.2.1 ≤ l.length) ∧ (∀ s ∈ l.take x.2.2.2.1.toNat, s.At ≤ x.2.2.2.2) ∧ (∀ s ∈ l.drop x.2.2.2.1.toNat, x.2.2.2.2 < s.At) ∧ ∀ u, at_ < u → u ≤ x.2.2.2.2 → chgB l N u = false) ?_ _ ⟨a2, ⟨Int.le_refl at_, by show at_ < 345686400000; omega⟩, ⟨i0, i1⟩, hlo, hhi, fun u h1 h2 => absurd (show u ≤ at_ from h2) (by omega)⟩
      rintro ⟨al, ar, od, i, now⟩ ⟨hk, ⟨n0, n1⟩, ⟨i0, i1⟩, lo, hi, qu⟩
      simp only at hk n0 n1 i0 i1 lo hi qu
      show Ok (alarm_NextChange_b1 l al ar od i now) _
      have hpre : pre l now = l.take i.toNat := by
        conv => lhs; rw [← List.take_append_drop i.toNat l]
        unfold pre
        rw [List.filter_append, List.filter_eq_self.2 (fun s hs => decide_eq_true (lo s hs)), List.filter_eq_nil_iff.2 (fun s hs => by have := hi s hs; simp; omega), List.append_nil]
      -- the shelved ones
      have step : ∀ first : Int, now < first → (first < 345686400000 → first ∈ M) → (∀ s ∈ l.drop i.toNat, first ≤ s.At) → Ok (alarm_NextChange_j2 l al ar od i now first) (Stp (fun x : (List (Alarm_name × Int)) × (List Alarm_life) × (List Int) × Int × Int => (345686400000 - x.2.2.2.2).toNat)
        (fun x => HK ⟨x.1, x.2.2.1, x.2.1⟩ N (FL (pre l x.2.2.2.2)) ix ∧ (at_ ≤ x.2.2.2.2 ∧ x.2.2.2.2 < 345686400000) ∧ (0 ≤ x.2.2.2.1 ∧ x.2.2.2.1 ≤ l.length) ∧ (∀ s ∈ l.take x.2.2.2.1.toNat, s.At ≤ x.2.2.2.2) ∧ (∀ s ∈ l.drop x.2.2.2.1.toNat, x.2.2.2.2 < s.At) ∧ ∀ u, at_ < u → u ≤ x.2.2.2.2 → chgB l N u = false) (NextR l N at_ M) (al, ar, od, i, now)) := by
        intro first f0 f1 f2
        unfold alarm_NextChange_j2 alarm_NextChange_l2
        refine Ok.rangeS N.length (fun (s : Int) (j : Int) => (s, j)) (fun j s => now < s ∧ s ≤ first ∧ (s < 345686400000 → s ∈ M) ∧ ∀ n ∈ N.take j.toNat, now < (FL (pre l now) n).shelved_ → s ≤ (FL (pre l now) n).shelved_) (fun s j g0 g1 hs => ?_) first ⟨f0, Int.le_refl _, f1, by simp⟩
        obtain ⟨s0, s1, s2, s3⟩ := hs
        show Ok (alarm_NextChange_b2 l al ar od i now s j) _
        have hord : od = N.map ix := hk.ord
        unfold alarm_NextChange_b2
        by_cases hj : j < N.length
        · rw [if_pos (by rw [hord]; simp; omega)]
          obtain ⟨n, hx, hxm, hd⟩ := Go.Beacon.idx_lt N g0 hj
          rw [hord, idx_map', hx]
          simp only [Option.map_some, Option.bind_some]
          have hone : idx ar (ix n) = some (FL (pre l now) n) := (hk.one n hxm).2
          rw [hone]
          simp only [Option.bind_some]
          have ht : N.take (j + 1).toNat = N.take j.toNat ++ [n] := take_succ g0 hx
          unfold alarm_NextChange_j3
          rw [w64_in (x := j + 1) (by omega) (by omega)]
          by_cases hc : now < (FL (pre l now) n).shelved_
          · rw [if_pos hc]
            refine ⟨_, rfl, .inl ⟨_, rfl, by omega, by omega, by omega, fun hlt => ?_, fun x hx2 h2 => ?_⟩⟩
            · by_cases hle : s ≤ (FL (pre l now) n).shelved_
              · rw [Int.min_eq_left hle] at hlt ⊢; exact s2 hlt
              · rw [Int.min_eq_right (by omega)]; exact sh_mom m2 n _ (fun y hy => (pre_sub l now).subset hy)
            · rw [ht] at hx2
              rcases List.mem_append.1 hx2 with e | e
              · have := s3 x e h2; omega
              · rw [List.mem_singleton] at e; subst e; omega
          · rw [if_neg hc]
            refine ⟨_, rfl, .inl ⟨_, rfl, by omega, s0, s1, s2, fun x hx2 h2 => ?_⟩⟩
            rw [ht] at hx2
            rcases List.mem_append.1 hx2 with e | e
            · exact s3 x e h2
            · rw [List.mem_singleton] at e; subst e; exact absurd h2 hc
        · rw [if_neg (by rw [hord]; simp; omega)]
          have hjt : j.toNat = N.length := by omega
          rw [hjt, List.take_length] at s3
          refine Ok.inr ?_
          simp only [reduceCtorEq, false_and, exists_false, Sum.inr.injEq, false_or, exists_eq_left']
          have hsig : ∀ x ∈ l, x.At ≤ now ∨ s ≤ x.At := by
            intro x hx
            rw [← List.take_append_drop i.toNat l] at hx
            rcases List.mem_append.1 hx with e | e
            · exact .inl (lo x e)
            · have := f2 x e; exact .inr (by omega)
          have hq : ∀ u, at_ < u → u < s → chgB l N u = false := by
            intro u h1 h2
            by_cases hu : u ≤ now
            · exact qu u h1 hu
            · exact quiet (now := now) (next := s) (by omega) h2 hsig s3
          unfold alarm_NextChange_k6
          by_cases hE : 345686400000 ≤ s
          · rw [if_pos hE]
            exact ⟨_, rfl, rfl, .inr ⟨rfl, rfl, fun u h1 h2 => hq u h1 (by omega)⟩⟩
          · rw [if_neg hE]
            unfold alarm_NextChange_l3
            obtain ⟨k', b1, b2, b3, b4, b5⟩ := skip_eq hv al ar od i s (l.length - i.toNat) i i0 (by omega) (fun x hx => by have := f2 x hx; omega)
            rw [b5]
            unfold alarm_NextChange_k5
            refine Ok.slc i0 b1 b2 (fun ys hys hyl => ?_)
            rw [← hys] at b3
            have hsplit : l = l.take i.toNat ++ (ys ++ l.drop k'.toNat) := by
              rw [hys]
              conv => lhs; rw [← List.take_append_drop i.toNat l]
              congr 1
              conv => lhs; rw [← List.take_append_drop (k'.toNat - i.toNat) (l.drop i.toNat)]
              rw [List.drop_drop, show i.toNat + (k'.toNat - i.toNat) = k'.toNat by omega]
            have htk : l.take k'.toNat = l.take i.toNat ++ ys := by
              rw [hys, show k'.toNat = i.toNat + (k'.toNat - i.toNat) by omega, List.take_add]
              simp
            have hsub : (pre l now ++ ys).Sublist l := by
              rw [hpre, ← htk]; exact List.take_sublist _ _
            have hpn : pre l s = pre l now ++ ys := by
              rw [hpre, ← htk]
              conv => lhs; rw [← List.take_append_drop k'.toNat l]
              unfold pre
              rw [List.filter_append, List.filter_eq_self.2 (fun x hx => decide_eq_true (by
                rw [htk] at hx
                rcases List.mem_append.1 hx with e | e
                · have := lo x e; omega
                · have := b3 x e; omega)), List.filter_eq_nil_iff.2 (fun x hx => by have := b4 x hx; simp; omega), List.append_nil]
            have hpn1 : pre l (s - 1) = pre l now := pre_same fun x hx => by rcases hsig x hx with e | e <;> omega
            obtain ⟨r, e1, e2, e3⟩ := changes_eq hk (hv.sub hsub) (fun x hx => (a4 _).2 (List.mem_map.2 ⟨x, hsub.subset (List.mem_append_right _ hx), rfl⟩)) (by omega) (t := s) ⟨by omega, by omega⟩
            rw [e1]
            simp only [Option.bind_some]
            have hch : r.1 = chgB l N s := by
              rw [e2]; unfold chgB; rw [hpn, hpn1]
            by_cases hr : r.1 = true
            · rw [if_pos hr]
              exact ⟨_, rfl, rfl, .inl ⟨rfl, by show at_ < s; omega, by show s < _; omega, by rw [← hch]; exact hr, hq, s2 (by omega)⟩⟩
            · rw [if_neg hr]
              refine ⟨_, rfl, ⟨?_, ⟨by show at_ ≤ s; omega, by show s < _; omega⟩, ⟨by show 0 ≤ k'; omega, b2⟩, ?_, b4, ?_⟩, ?_⟩
              · show HK r.2 N (FL (pre l s)) ix
                rw [hpn]; exact e3
              · intro x hx
                rw [htk] at hx
                rcases List.mem_append.1 hx with e | e
                · have := lo x e; show x.At ≤ s; omega
                · have := b3 x e; show x.At ≤ s; omega
              · intro u h1 h2
                by_cases hu : u = s
                · subst hu; rw [← hch]; simpa using hr
                · exact hq u h1 (by have : u ≤ s := h2; omega)
              · show (345686400000 - s).toNat < (345686400000 - now).toNat
                omega
      unfold alarm_NextChange_b1
      by_cases hi2 : i < l.length
      · rw [if_pos hi2]
        obtain ⟨x, hx, hxm, hd⟩ := Go.Beacon.idx_lt l i0 hi2
        rw [hx]
        simp only [Option.bind_some]
        refine step x.At (hi x (by rw [hd]; simp)) (fun _ => (m2.mem _).2 (.inr (.inr ⟨x, hxm, .inl rfl⟩))) (fun s hs => ?_)
        have hp := hv.at_le.sublist (List.drop_sublist i.toNat l)
        rw [hd] at hp hs
        rcases List.mem_cons.1 hs with rfl | hs
        · exact Int.le_refl _
        · exact (List.pairwise_cons.1 hp).1 s hs
      · rw [if_neg hi2]
        refine step 345686400000 n1 (fun h => by omega) (fun s hs => ?_)
        rw [List.drop_of_length_le (by omega)] at hs
        cases hs
    rcases findI_first (fun y0 => alarm_NextChange_1x y0 at_) l 0 (by omega) with ⟨e1, e2⟩ | ⟨e1, e2, e3, y, e4, e5⟩
    · rw [e1, if_pos (by omega)]
      refine loop l.length (by omega) (by omega) (fun s hs => ?_) (fun s hs => ?_)
      · have := e2 s (List.mem_of_mem_take hs)
        unfold alarm_NextChange_1x at this
        rw [decide_eq_false_iff_not] at this
        omega
      · rw [List.drop_of_length_le (by omega)] at hs; cases hs
    · generalize findI (fun y0 => alarm_NextChange_1x y0 at_) l 0 = k at e1 e2 e3 e4 e5 ⊢
      rw [if_neg (by omega)]
      rw [show (k - 0).toNat = k.toNat by simp] at e3 e4
      refine loop k e1 (by omega) (fun s hs => ?_) (fun s hs => ?_)
      · have := e3 s hs
        unfold alarm_NextChange_1x at this
        rw [decide_eq_false_iff_not] at this
        omega
      · have hp := hv.at_le.sublist (List.drop_sublist k.toNat l)
        have hlt : k.toNat < l.length := by omega
        rw [List.drop_eq_getElem_cons hlt] at hp hs
        have hy : l[k.toNat] = y := by
          rw [List.getElem?_eq_getElem hlt] at e4; exact Option.some.inj e4
        unfold alarm_NextChange_1x at e5
        rw [decide_eq_true_eq] at e5
        rcases List.mem_cons.1 hs with rfl | hs
        · rw [hy]; exact e5
        · have := (List.pairwise_cons.1 hp).1 s hs
          rw [hy] at this; omega
  obtain ⟨r, r1, r2⟩ := main
  refine ⟨findE (nextG l N at_) (0, false) M, ?_, NextAlarms_find hv hN hm.1 m1 m2⟩
  rw [r1, NextR_find m2 r2]
end Go.Beacon

/- The times in which an alarm flaps. No program in sight. -/
set_option linter.unusedVariables false
set_option linter.unusedSimpArgs false
namespace Go.Beacon
open Go Go.Eng

/-! the moments at which an alarm was raised -/
theorem raises_sub (n : Alarm_name) : ∀ p : List Signal, (FL p n).raises_.Sublist (p.map Signal.At) := by
  refine rev_ind ?_ ?_
  · exact List.Sublist.refl _
  · intro p s ih
    rw [FL_snoc, List.map_append]
    unfold stepF updF
    have same : (FL p n).raises_.Sublist (p.map Signal.At ++ [s].map Signal.At) := ih.trans (List.sublist_append_left _ _)
    split
    · rename_i e
      rw [e] at ih same
      have tt : ∀ st : Int, (lTurn (FL p (nmS s)) st s.At).raises_ = (FL p (nmS s)).raises_ := fun _ => rfl
      unfold lfw
      split
      · split
        · exact same
        · show ((FL p (nmS s)).raises_ ++ [s.At]).Sublist _
          exact ih.append (List.Sublist.refl _)
      · split
        · split
          · exact same
          · split <;> exact same
        · split
          · split
            · exact same
            · split <;> exact same
          · split
            · split <;> exact same
            · split <;> exact same
    · exact same
theorem fold_one {α : Type} {n : Alarm_name} (X : List α) : ∀ (N : List Alarm_name) (acc : List α), N.Nodup → N.foldl (fun acc m => acc ++ (if m = n then X else [])) acc = acc ++ (if n ∈ N then X else [])
  | [], acc, _ => by simp
  | m :: N, acc, h => by
    have h1 := List.nodup_cons.1 h
    rw [List.foldl_cons, fold_one X N _ h1.2]
    by_cases e : m = n
    · subst e
      rw [if_pos rfl, if_neg h1.1, if_pos (List.mem_cons_self ..), List.append_nil]
    · rw [if_neg e, List.append_nil]
      by_cases hn : n ∈ N
      · rw [if_pos hn, if_pos (List.mem_cons_of_mem _ hn)]
      · rw [if_neg hn, if_neg (fun z => by
          rcases List.mem_cons.1 z with z | z
          · exact e z.symm
          · exact hn z)]
theorem raises1_eq (d r : Str) (j : Int) (t : Fleetref1_track) (hl : (t.done_.length : Int) ≤ 1000) (hj : 0 ≤ j ∧ j ≤ 1000) (acc : List Int) (ha : (acc.length : Int) ≤ 100000) : Q_raisesOf_l2 d r j t acc 0 = some (.inl (acc ++ (if (⟨t.device_, t.rule_⟩ : Alarm_name) = ⟨d, r⟩ then raisesOf t.done_ else []), j + 1)) := by
  unfold Q_raisesOf_l2
  have main := iter_foldl (A := ((List Int) × Int) ⊕ (List Int)) t.done_ (fun (s : List Int) (i : Int) => (s, i)) (fun x : (List Int) × Int => Q_raisesOf_b2 d r j t x.1 x.2) (fun acc s => if (decide (t.device_ = d) && (decide (t.rule_ = r) && decide (s.Kind = 1))) = true then acc ++ [s.At] else acc) (fun i s => (s.length : Int) ≤ 100000 + i) (fun s => some (.inl (s, j + 1)))
    (fun s i x i0 i1 hx hv2 => by
      refine ⟨?_, by
        split
        · rw [List.length_append, List.length_singleton]; omega
        · omega⟩
      show Q_raisesOf_b2 d r j t s i = _
      rw [Q_raisesOf_b2, if_pos i1, hx]
      simp only [Option.bind_some]
      unfold Q_raisesOf_j1 Q_raisesOf_j2
      rw [w64_in (x := i + 1) (by omega) (by omega)]
      split
      · rw [app_le (by simp; omega)]; rfl
      · rfl)
    (fun s hv2 => by
      show Q_raisesOf_b2 d r j t s t.done_.length = _
      rw [Q_raisesOf_b2, if_neg (by omega), w64_in (x := j + 1) (by omega) (by omega)]) acc (by omega)
  refine main.trans ?_
  rw [foldl_fm (fun s : Signal => decide (t.device_ = d) && (decide (t.rule_ = r) && decide (s.Kind = 1))) Signal.At]
  by_cases e : (⟨t.device_, t.rule_⟩ : Alarm_name) = ⟨d, r⟩
  · rw [if_pos e]
    have e1 : t.device_ = d := congrArg Alarm_name.device_ e
    have e2 : t.rule_ = r := congrArg Alarm_name.rule_ e
    rw [decide_eq_true e1, decide_eq_true e2]
    simp only [Bool.true_and]; rfl
  · rw [if_neg e]
    have : ∀ s : Signal, (decide (t.device_ = d) && (decide (t.rule_ = r) && decide (s.Kind = 1))) = false := by
      intro s
      by_cases e1 : t.device_ = d
      · have e2 : ¬ t.rule_ = r := fun z => e (by rw [e1, z])
        simp [e2]
      · simp [e1]
    simp only [this]
    simp
theorem raisesOf_eq {l : List Signal} (hv : VS l) (d r : Str) : Q_raisesOf l d r = some (FL l ⟨d, r⟩).raises_ := by
  obtain ⟨N, t1, t2, t3⟩ := tracksAt_eq hv 345686400000
  have hpre : pre l 345686400000 = l := pre_all fun s hs => by have := hv.mom s hs; omega
  rw [hpre] at t1 t3
  have hf := FS_of _ hv
  have hl := hv.len
  have hN := N_len t2 t3
  have hd := nodup_of nmO_3 t2
  unfold Q_raisesOf
  rw [t1]
  simp only [Option.bind_some]
  unfold Q_raisesOf_l1
  have hdl : (raisesOf (TL l ⟨d, r⟩).done_).length ≤ 15 := by
    have h1 := hf.dn ⟨d, r⟩
    have h2 : (raisesOf (TL l ⟨d, r⟩).done_).length ≤ (TL l ⟨d, r⟩).done_.length := by
      unfold raisesOf; rw [List.length_map]; exact List.length_filter_le _ _
    omega
  have main := iter_foldl (A := List Int) N (fun (s : List Int) (i : Int) => (s, i)) (fun x : (List Int) × Int => Q_raisesOf_b1 d r (N.map (TL l), rfs [] l) x.1 x.2) (fun acc n => acc ++ (if n = ⟨d, r⟩ then raisesOf (TL l ⟨d, r⟩).done_ else [])) (fun i s => (s.length : Int) ≤ 15 * i) (fun s => some s)
    (fun s i n i0 i1 hx hv2 => by
      refine ⟨?_, by rw [List.length_append]; split <;> simp <;> omega⟩
      show Q_raisesOf_b1 d r _ s i = _
      rw [Q_raisesOf_b1, if_pos (by simpa using i1)]
      simp only
      rw [idx_map', hx]
      simp only [Option.map_some, Option.bind_some]
      have hdn := hf.dn n
      have htn := hf.tn n
      rw [raises1_eq d r i (TL l n) (by omega) (by omega) s (by omega), htn.1, htn.2]
      by_cases e : n = ⟨d, r⟩
      · subst e; rfl
      · rw [if_neg e, if_neg (fun z => e (by cases n; exact z))])
    (fun s hv2 => by
      show Q_raisesOf_b1 d r _ s N.length = _
      rw [Q_raisesOf_b1, if_neg (by simp)]) [] (by simp)
  refine main.trans ?_
  rw [fold_one _ N [] hd, List.nil_append]
  by_cases hn : (⟨d, r⟩ : Alarm_name) ∈ N
  · rw [if_pos hn]
    have := (hf.rt 345686400000 (by omega) (fun s hs => by have := hv.mom s hs; omega) ⟨d, r⟩).raises
    rw [this]
  · rw [if_neg hn, (hf.in0 ⟨d, r⟩ (fun z => hn ((t3 _).2 z))).1]; rfl
/-! flapping -/
def flF (f : Flap) : Int := if (2 ≤ f.Many ∧ f.Many ≤ 1000) ∧ (1 ≤ f.Window ∧ f.Window ≤ 2592000000) ∧ 1 ≤ f.Calm ∧ f.Calm ≤ 2592000000 then 0 else 1
theorem flF_prog (f : Flap) : alarm_flapFault f = flF f := by
  unfold alarm_flapFault alarm_flapFault_j1 flF
  rw [Out_eq, Out_eq, Out_eq]
  by_cases h : (2 ≤ f.Many ∧ f.Many ≤ 1000) ∧ (1 ≤ f.Window ∧ f.Window ≤ 2592000000) ∧ 1 ≤ f.Calm ∧ f.Calm ≤ 2592000000
  · rw [if_pos h, if_neg]
    simp only [Bool.or_eq_true, decide_eq_true_eq]; omega
  · rw [if_neg h, if_pos]
    simp only [Bool.or_eq_true, decide_eq_true_eq]; omega
theorem flF_ref (f : Flap) : Q_FlapFault f = flF f := by
  unfold Q_FlapFault Q_FlapFault_j1 flF
  rw [Qin_eq, Qin_eq, Qin_eq]
  by_cases h : (2 ≤ f.Many ∧ f.Many ≤ 1000) ∧ (1 ≤ f.Window ∧ f.Window ≤ 2592000000) ∧ 1 ≤ f.Calm ∧ f.Calm ≤ 2592000000
  · rw [if_pos h, if_neg]
    simp only [Bool.or_eq_true, Bool.not_eq_true', Bool.and_eq_false_iff, decide_eq_false_iff_not]; omega
  · rw [if_neg h, if_pos]
    simp only [Bool.or_eq_true, Bool.not_eq_true', Bool.and_eq_false_iff, decide_eq_false_iff_not]; omega
def clampW (w : Window) : Window := ⟨w.From, min w.To 345686400000⟩
theorem clamp_loop (W : List Window) (h : (W.length : Int) ≤ 1000) : alarm_flaps_l3 W W 0 = some (W.map clampW) := by
  unfold alarm_flaps_l3
  have key : ∀ (k : Nat) (i : Int) (Z : List Window), 0 ≤ i → i + k = W.length → Z.length = W.length → Z.take i.toNat = (W.take i.toNat).map clampW → Z.drop i.toNat = W.drop i.toNat →
      iter (fun x : (List Window) × Int => alarm_flaps_b3 W x.1 x.2) (Z, i) = some (W.map clampW) := by
    intro k
    induction k with
    | zero =>
      intro i Z h0 h1 h2 h3 h4
      rw [iter_eq]
      show (alarm_flaps_b3 W Z i).bind _ = _
      rw [alarm_flaps_b3, if_neg (by omega), map_inr_after]
      rw [List.take_of_length_le (by omega), List.take_of_length_le (by omega)] at h3
      rw [h3]
    | succ k ih =>
      intro i Z h0 h1 h2 h3 h4
      obtain ⟨w, hw, _, hd⟩ := Go.Beacon.idx_lt W h0 (by omega)
      obtain ⟨z, hz, _, hdz⟩ := Go.Beacon.idx_lt Z h0 (by omega)
      rw [hd, hdz] at h4
      have hzw : z = w := (List.cons.inj h4).1
      have h5 := (List.cons.inj h4).2
      subst hzw
      rw [iter_eq]
      show (alarm_flaps_b3 W Z i).bind _ = _
      rw [alarm_flaps_b3, if_pos (by omega), hz]
      simp only [Option.bind_some, after_inl]
      rw [w64_in (x := i + 1) (by omega) (by omega)]
      have hi : i.toNat < Z.length := by omega
      refine ih (i + 1) _ (by omega) (by omega) (by rw [List.length_set]; exact h2) ?_ ?_
      · rw [show (i + 1).toNat = i.toNat + 1 by omega, List.take_add_one, List.take_add_one, List.map_append, ← h3]
        have e1 : (Z.set i.toNat (⟨z.From, min z.To 345686400000⟩ : Window)).take i.toNat = Z.take i.toNat := by
          rw [List.take_set_of_le (Nat.le_refl _)]
        rw [e1, List.getElem?_set_self hi]
        congr 1
        rw [(idx_some hw).2.2]; rfl
      · rw [show (i + 1).toNat = i.toNat + 1 by omega, List.drop_set_of_lt (by omega)]
        rw [show (i + 1).toNat = i.toNat + 1 by omega] at h5
        exact h5
  exact key W.length 0 W (by omega) (by omega) rfl (by simp) rfl
/-- The number of the late ones in a list that rises. -/
theorem late_count {R : List Int} (hs : R.Pairwise (· ≤ ·)) {i fst c : Int} {x : Int} (h0 : 0 ≤ fst) (h1 : fst ≤ i) (h2 : i < R.length) (hlo : ∀ y ∈ R.take fst.toNat, y ≤ c) (hx : idx R fst = some x) (hc : c < x) :
    (((R.take (i + 1).toNat).filter (fun y => decide (c < y))).length : Int) = i - fst + 1 := by
  have hsp : R.take (i + 1).toNat = R.take fst.toNat ++ (R.drop fst.toNat).take ((i + 1).toNat - fst.toNat) := by
    rw [show (i + 1).toNat = fst.toNat + ((i + 1).toNat - fst.toNat) by omega, List.take_add]
    simp
  rw [hsp, List.filter_append, List.filter_eq_nil_iff.2 (fun y hy => by have := hlo y hy; simp; omega), List.nil_append, List.filter_eq_self.2 (fun y hy => ?_)]
  · rw [List.length_take, List.length_drop]; omega
  · have hd := idx_drop hx
    have hp := hs.sublist (List.drop_sublist fst.toNat R)
    rw [hd] at hp
    have hy := List.mem_of_mem_take hy
    rw [hd] at hy
    refine decide_eq_true ?_
    rcases List.mem_cons.1 hy with rfl | hy
    · exact hc
    · have := (List.pairwise_cons.1 hp).1 y hy; omega
theorem first_loop (f : Flap) {R : List Int} (out : List Window) (i r : Int) (hi : idx R i = some r) (hrl : (R.length : Int) ≤ 1000) (hr : 0 ≤ r ∧ r ≤ 345686400000) (hw : 1 ≤ f.Window ∧ f.Window ≤ 2592000000) : ∀ (n : Nat) (fst : Int), 0 ≤ fst → fst + n = i → (∀ y ∈ R.take fst.toNat, y ≤ r - f.Window) →
    ∃ fst' x, 0 ≤ fst' ∧ fst' ≤ i ∧ (∀ y ∈ R.take fst'.toNat, y ≤ r - f.Window) ∧ idx R fst' = some x ∧ r - f.Window < x ∧ alarm_flaps_l2 f R out i r fst = alarm_flaps_k4 f out i r fst' := by
  obtain ⟨i0, i1, _⟩ := idx_some hi
  intro n
  induction n with
  | zero =>
    intro fst h0 h1 hlo
    have e : fst = i := by omega
    subst e
    refine ⟨fst, r, h0, by omega, hlo, hi, by omega, ?_⟩
    unfold alarm_flaps_l2
    rw [iter_eq]
    show (alarm_flaps_b2 f R out fst r fst).bind _ = _
    rw [alarm_flaps_b2, hi]
    simp only [Option.bind_some]
    rw [w64_in (by omega) (by omega), if_neg (by omega), map_inr_after]
  | succ n ih =>
    intro fst h0 h1 hlo
    obtain ⟨x, hx, hxm, hd⟩ := Go.Beacon.idx_lt R h0 (by omega)
    by_cases hc : x ≤ r - f.Window
    · have ht : R.take (fst + 1).toNat = R.take fst.toNat ++ [x] := take_succ h0 hx
      obtain ⟨fst', x', a1, a2, a3, a4, a5, a6⟩ := ih (fst + 1) (by omega) (by omega) (fun y hy => by
        rw [ht] at hy
        rcases List.mem_append.1 hy with e | e
        · exact hlo y e
        · rw [List.mem_singleton] at e; subst e; exact hc)
      refine ⟨fst', x', a1, a2, a3, a4, a5, ?_⟩
      rw [← a6]
      unfold alarm_flaps_l2
      conv => lhs; rw [iter_eq]
      show (alarm_flaps_b2 f R out i r fst).bind _ = _
      rw [alarm_flaps_b2, hx]
      simp only [Option.bind_some]
      rw [w64_in (x := r - f.Window) (by omega) (by omega), if_pos hc, w64_in (x := fst + 1) (by omega) (by omega)]
      simp only [Option.bind_some, after_inl]
    · refine ⟨fst, x, h0, by omega, hlo, hx, by omega, ?_⟩
      unfold alarm_flaps_l2
      rw [iter_eq]
      show (alarm_flaps_b2 f R out i r fst).bind _ = _
      rw [alarm_flaps_b2, hx]
      simp only [Option.bind_some]
      rw [w64_in (by omega) (by omega), if_neg hc, map_inr_after]
theorem many_loop (f : Flap) {R : List Int} (out : List Window) (i r : Int) (hi : idx R i = some r) (hrl : (R.length : Int) ≤ 1000) (hR : ∀ y ∈ R, 0 ≤ y ∧ y ≤ 345686400000) (hw : 1 ≤ f.Window ∧ f.Window ≤ 2592000000) :
    Q_FlapTimes_l2 f R out i r (R.take (i + 1).toNat) 0 0 = Q_FlapTimes_k5 f out i r (((R.take (i + 1).toNat).filter (fun y => decide (r - f.Window < y))).length : Int) := by
  obtain ⟨i0, i1, _⟩ := idx_some hi
  have hr := hR r (idx_mem hi)
  unfold Q_FlapTimes_l2
  have hlen : ((R.take (i + 1).toNat).length : Int) = i + 1 := by rw [List.length_take]; omega
  have main := iter_foldl (A := ((List Window) × Int) ⊕ (List Window)) (R.take (i + 1).toNat) (fun (s : Int) (j : Int) => (s, j)) (fun x : Int × Int => Q_FlapTimes_b2 f R out i r (R.take (i + 1).toNat) x.1 x.2) (fun acc y => if decide (r - f.Window < y) = true then acc + 1 else acc) (fun j s => 0 ≤ s ∧ s ≤ j) (fun s => Q_FlapTimes_k5 f out i r s)
    (fun s j x j0 j1 hx hv2 => by
      refine ⟨?_, by split <;> omega⟩
      show Q_FlapTimes_b2 f R out i r _ s j = _
      rw [Q_FlapTimes_b2, if_pos j1]
      have hxs : idxS R 0 (R.take (i + 1).toNat).length j = some x := by
        unfold idxS
        rw [if_pos ⟨by omega, j0, j1⟩, show (0 : Int) + j = j by omega]
        obtain ⟨_, _, e⟩ := idx_some hx
        unfold idx
        rw [if_pos j0]
        rw [List.getElem?_take] at e
        split at e
        · exact e
        · cases e
      rw [hxs]
      simp only [Option.bind_some]
      unfold Q_FlapTimes_j1
      rw [w64_in (x := j + 1) (by omega) (by omega), w64_in (x := r - f.Window) (by omega) (by omega), w64_in (x := s + 1) (by omega) (by omega)]
      by_cases hc : r - f.Window < x
      · rw [if_pos hc, if_pos (decide_eq_true hc)]
      · rw [if_neg hc, if_neg (by simpa using hc)])
    (fun s hv2 => by
      show Q_FlapTimes_b2 f R out i r _ s _ = _
      rw [Q_FlapTimes_b2, if_neg (by omega)]) 0 (by omega)
  refine main.trans ?_
  have cnt : ∀ (L : List Int) (a : Int), L.foldl (fun acc y => if decide (r - f.Window < y) = true then acc + 1 else acc) a = a + (L.filter (fun y => decide (r - f.Window < y))).length := by
    intro L
    induction L with
    | nil => intro a; simp
    | cons y L ih =>
      intro a
      rw [List.foldl_cons, ih, List.filter_cons]
      by_cases hc : decide (r - f.Window < y) = true
      · rw [if_pos hc, if_pos hc, List.length_cons]; omega
      · rw [if_neg hc, if_neg hc]
  rw [cnt, Int.zero_add]
/-- One round, both ways. -/
def flOut (f : Flap) (out : List Window) (r many : Int) : List Window :=
  if out ≠ [] ∧ r ≤ (out.getD (out.length - 1) ⟨0, 0⟩).To then setLast out (r + f.Calm) else if f.Many ≤ many then out ++ [⟨r, r + f.Calm⟩] else out
theorem flOut_len (f : Flap) (out : List Window) (r many : Int) : (flOut f out r many).length ≤ out.length + 1 := by
  unfold flOut
  split
  · rw [setLast_len]; omega
  · split <;> simp
theorem prog_round (f : Flap) (out : List Window) (hl : (out.length : Int) ≤ 1000) (i r fst : Int) (hi : 0 ≤ i ∧ i ≤ 1000) (hr : 0 ≤ r ∧ r ≤ 345686400000) (hf : 0 ≤ fst ∧ fst ≤ i) (hc : 1 ≤ f.Calm ∧ f.Calm ≤ 2592000000) : alarm_flaps_k4 f out i r fst = some (.inl (flOut f out r (i - fst + 1), fst, i + 1)) := by
  have j1 : ∀ c : Bool, (c = true → out ≠ []) → alarm_flaps_j1 f out i r fst c = some (.inl (if c = true then setLast out (r + f.Calm) else if f.Many ≤ i - fst + 1 then out ++ [⟨r, r + f.Calm⟩] else out, fst, i + 1)) := by
    intro c hne
    unfold alarm_flaps_j1 alarm_flaps_j3 alarm_flaps_j2
    rw [w64_in (x := i + 1) (by omega) (by omega), w64_in (x := r + f.Calm) (by omega) (by omega), w64_in (x := i - fst) (by omega) (by omega), w64_in (x := i - fst + 1) (by omega) (by omega)]
    cases c with
    | true =>
      have hne := hne rfl
      have hpos : 0 < out.length := List.length_pos_iff.2 hne
      rw [if_pos rfl, if_pos rfl, w64_in (x := (out.length : Int) - 1) (by omega) (by omega), idx_last hne ⟨0, 0⟩]
      simp only [Option.bind_some]
      rw [setLast_of hne _ (idx_last hne ⟨0, 0⟩)]
    | false =>
      simp only [Bool.false_eq_true, if_false]
      by_cases hm : f.Many ≤ i - fst + 1
      · rw [if_pos hm, if_pos hm, app_le (by simp; omega)]; rfl
      · rw [if_neg hm, if_neg hm]
  unfold alarm_flaps_k4 flOut
  rw [w64_in (x := (out.length : Int) - 1) (by omega) (by omega)]
  by_cases hne : out = []
  · subst hne
    rw [if_neg (by simp), j1 _ (by simp)]
    simp
  · have hpos : 0 < out.length := List.length_pos_iff.2 hne
    rw [if_pos (by omega), idx_last hne ⟨0, 0⟩]
    simp only [Option.bind_some]
    rw [j1 _ (fun _ => hne)]
    simp only [decide_eq_true_eq, ne_eq, hne, not_false_eq_true, true_and]
theorem map_setLast (out : List Window) (t : Int) (h : out ≠ []) : setLast (out.map clampW) (min t 345686400000) = (setLast out t).map clampW := by
  obtain ⟨V, w, rfl⟩ : ∃ V w, out = V ++ [w] := ⟨out.dropLast, out.getLast h, (List.dropLast_concat_getLast h).symm⟩
  rw [List.map_append, List.map_singleton, setLast_snoc, setLast_snoc, List.map_append]; rfl
theorem ref_round (f : Flap) (out : List Window) (hl : (out.length : Int) ≤ 1000) (i r many : Int) (hi : 0 ≤ i ∧ i ≤ 1000) (hr : 0 ≤ r ∧ r ≤ 345686400000) (hc : 1 ≤ f.Calm ∧ f.Calm ≤ 2592000000) : Q_FlapTimes_k5 f (out.map clampW) i r many = some (.inl ((flOut f out r many).map clampW, i + 1)) := by
  have hml : ((out.map clampW).length : Int) = out.length := by simp
  have j1 : ∀ c : Bool, (c = true → out ≠ []) → Q_FlapTimes_j2 f (out.map clampW) i r many c = some (.inl ((if c = true then setLast out (r + f.Calm) else if f.Many ≤ many then out ++ [⟨r, r + f.Calm⟩] else out).map clampW, i + 1)) := by
    intro c hne
    unfold Q_FlapTimes_j2 Q_FlapTimes_j4 Q_FlapTimes_j3
    rw [w64_in (x := i + 1) (by omega) (by omega), w64_in (x := r + f.Calm) (by omega) (by omega)]
    cases c with
    | true =>
      have hne := hne rfl
      have hpos : 0 < out.length := List.length_pos_iff.2 hne
      have hne2 : out.map clampW ≠ [] := by simpa using hne
      rw [if_pos rfl, if_pos rfl, w64_in (x := ((out.map clampW).length : Int) - 1) (by omega) (by omega), idx_last hne2 ⟨0, 0⟩]
      simp only [Option.bind_some]
      rw [setLast_of hne2 _ (idx_last hne2 ⟨0, 0⟩), map_setLast out _ hne]
    | false =>
      simp only [Bool.false_eq_true, if_false]
      by_cases hm : f.Many ≤ many
      · rw [if_pos hm, if_pos hm, app_le (by simp; omega), List.map_append]; rfl
      · rw [if_neg hm, if_neg hm]
  unfold Q_FlapTimes_k5 flOut
  rw [w64_in (x := ((out.map clampW).length : Int) - 1) (by omega) (by omega)]
  by_cases hne : out = []
  · subst hne
    rw [if_neg (by simp)]
    have := j1 false (by simp)
    rw [List.map_nil] at this
    rw [List.map_nil, this]
    simp
  · have hpos : 0 < out.length := List.length_pos_iff.2 hne
    have hne2 : out.map clampW ≠ [] := by simpa using hne
    rw [if_pos (by omega), idx_last hne2 ⟨0, 0⟩]
    simp only [Option.bind_some]
    rw [j1 _ (fun _ => hne)]
    have hlast : ((out.map clampW).getD ((out.map clampW).length - 1) ⟨0, 0⟩).To = min (out.getD (out.length - 1) ⟨0, 0⟩).To 345686400000 := by
      obtain ⟨V, w, rfl⟩ : ∃ V w, out = V ++ [w] := ⟨out.dropLast, out.getLast hne, (List.dropLast_concat_getLast hne).symm⟩
      simp [clampW]
    rw [hlast]
    have hle : r ≤ min (out.getD (out.length - 1) ⟨0, 0⟩).To 345686400000 ↔ r ≤ (out.getD (out.length - 1) ⟨0, 0⟩).To := by omega
    simp only [hle, decide_eq_true_eq, ne_eq, hne, not_false_eq_true, true_and]
theorem flaps_both (f : Flap) (hf : flF f = 0) {R : List Int} (hrl : (R.length : Int) ≤ 1000) (hs : R.Pairwise (· ≤ ·)) (hR : ∀ y ∈ R, 0 ≤ y ∧ y ≤ 345686400000) : ∃ W, alarm_flaps f R = some W ∧ Q_FlapTimes_l1 f R [] 0 = some W ∧ (W.length : Int) ≤ 1000 := by
  have hb : (2 ≤ f.Many ∧ f.Many ≤ 1000) ∧ (1 ≤ f.Window ∧ f.Window ≤ 2592000000) ∧ 1 ≤ f.Calm ∧ f.Calm ≤ 2592000000 := by
    unfold flF at hf
    split at hf
    · assumption
    · cases hf
  unfold alarm_flaps alarm_flaps_l1 Q_FlapTimes_l1
  have key : ∀ (k : Nat) (i fst : Int) (out : List Window), 0 ≤ i → i + k = R.length → 0 ≤ fst → fst ≤ i → (out.length : Int) ≤ i → (∀ y ∈ R.take fst.toNat, ∀ z ∈ R.drop i.toNat, y ≤ z - f.Window) →
      ∃ W, iter (fun x : (List Window) × Int × Int => alarm_flaps_b1 f R x.1 x.2.1 x.2.2) (out, fst, i) = some W ∧ iter (fun x : (List Window) × Int => Q_FlapTimes_b1 f R x.1 x.2) (out.map clampW, i) = some W ∧ (W.length : Int) ≤ 1000 := by
    intro k
    induction k with
    | zero =>
      intro i fst out h0 h1 h2 h3 h4 h5
      refine ⟨out.map clampW, ?_, ?_, by simp; omega⟩
      · rw [iter_eq]
        show (alarm_flaps_b1 f R out fst i).bind _ = _
        rw [alarm_flaps_b1, if_neg (by omega), map_inr_after, clamp_loop out (by omega)]
      · rw [iter_eq]
        show (Q_FlapTimes_b1 f R (out.map clampW) i).bind _ = _
        rw [Q_FlapTimes_b1, if_neg (by omega), map_inr_after]
    | succ k ih =>
      intro i fst out h0 h1 h2 h3 h4 h5
      obtain ⟨r, hr, hrm, hd⟩ := Go.Beacon.idx_lt R h0 (by omega)
      have hrb := hR r hrm
      obtain ⟨fst', x, a1, a2, a3, a4, a5, a6⟩ := first_loop f out i r hr hrl hrb hb.2.1 (i - fst).toNat fst h2 (by omega) (fun y hy => h5 y hy r (by rw [hd]; simp))
      have hcnt := late_count hs a1 a2 (by omega) a3 a4 a5
      have hlen := flOut_len f out r (i - fst' + 1)
      have hp := hs.sublist (List.drop_sublist i.toNat R)
      rw [hd] at hp
      obtain ⟨W, w1, w2, w3⟩ := ih (i + 1) fst' (flOut f out r (i - fst' + 1)) (by omega) (by omega) a1 (by omega) (by omega) (fun y hy z hz => by
        have := a3 y hy
        have := (List.pairwise_cons.1 hp).1 z hz
        omega)
      refine ⟨W, ?_, ?_, w3⟩
      · rw [iter_eq]
        show (alarm_flaps_b1 f R out fst i).bind _ = _
        rw [alarm_flaps_b1, if_pos (by omega), hr]
        simp only [Option.bind_some]
        rw [a6, prog_round f out (by omega) i r fst' ⟨h0, by omega⟩ hrb ⟨a1, a2⟩ hb.2.2]
        simp only [Option.bind_some, after_inl]
        exact w1
      · rw [iter_eq]
        show (Q_FlapTimes_b1 f R (out.map clampW) i).bind _ = _
        rw [Q_FlapTimes_b1, if_pos (by omega), hr]
        simp only [Option.bind_some]
        rw [w64_in (x := i + 1) (by omega) (by omega), slc_in (by omega) (by omega) (by omega)]
        simp only [Option.bind_some]
        rw [show (R.drop (0 : Int).toNat).take ((i + 1).toNat - (0 : Int).toNat) = R.take (i + 1).toNat by simp, many_loop f _ i r hr hrl hR hb.2.1, hcnt, ref_round f out (by omega) i r _ ⟨h0, by omega⟩ hrb hb.2.2]
        simp only [Option.bind_some, after_inl]
        exact w2
  exact key R.length 0 0 [] (by omega) (by omega) (by omega) (by omega) (by simp) (by simp)
theorem Flapping_eq {l : List Signal} (hB : ∀ x ∈ l, SgB x) (hv : chkS l = 0 → VS l) (f : Flap) (d r : Str) :
    (orL [flF f, orL [chkS l, if keyB d = true then 0 else 5, if keyB r = true then 0 else 5]] ≠ 0 → alarm_Flapping f l d r = some ([], orL [flF f, orL [chkS l, if keyB d = true then 0 else 5, if keyB r = true then 0 else 5]])) ∧
    (orL [flF f, orL [chkS l, if keyB d = true then 0 else 5, if keyB r = true then 0 else 5]] = 0 → ∃ W, alarm_Flapping f l d r = some (W, 0) ∧ Q_FlapTimes f l d r = some W ∧ (W.length : Int) ≤ 1000) := by
  unfold alarm_Flapping
  rw [nameFault_eq hB, flF_prog]
  simp only [Option.bind_some]
  rw [First_eq _ (by simp)]
  simp only [Option.bind_some]
  refine ⟨fun he => by rw [if_pos he], fun he => ?_⟩
  rw [if_neg (by simp [he])]
  have hf : flF f = 0 := orL_zero he _ (by simp)
  have he2 := orL_zero he (orL [chkS l, if keyB d = true then 0 else 5, if keyB r = true then 0 else 5]) (by simp)
  have hc : chkS l = 0 := orL_zero he2 _ (by simp)
  have hv := hv hc
  have hl := hv.len
  obtain ⟨H, N, ix, a1, a2, a3, a4⟩ := at_eq hv 345686400000
  have hpre : pre l 345686400000 = l := pre_all fun s hs => by have := hv.mom s hs; omega
  rw [hpre] at a2
  have hfs := FS_of _ hv
  have hsub := raises_sub ⟨d, r⟩ l
  have hlen := (hfs.li ⟨d, r⟩).l1
  obtain ⟨W, w1, w2, w3⟩ := flaps_both f hf (R := (FL l ⟨d, r⟩).raises_) (by omega) (((List.pairwise_map.2 hv.at_le).sublist hsub)) (fun y hy => by
    obtain ⟨s, hs, rfl⟩ := List.mem_map.1 (hsub.subset hy)
    have := hv.mom s hs; omega)
  refine ⟨W, ?_, ?_, w3⟩
  · rw [a1]
    simp only [Option.bind_some]
    by_cases hn : (⟨d, r⟩ : Alarm_name) ∈ N
    · rw [(a2.one _ hn).1, casesO_some, (a2.one _ hn).2]
      simp only [Option.bind_some]
      rw [w1]; rfl
    · rw [a2.non _ hn, casesO_none]
      rw [(hfs.in0 ⟨d, r⟩ (fun z => hn ((a4 _).2 z))).1] at w1
      have e : alarm_flaps f [] = some [] := by
        unfold alarm_flaps alarm_flaps_l1
        rw [iter_eq]
        show (alarm_flaps_b1 f [] [] 0 0).bind _ = _
        rw [alarm_flaps_b1, if_neg (by simp), map_inr_after, clamp_loop [] (by simp)]; rfl
      have : some W = some [] := by rw [← w1]; exact e
      rw [Option.some.inj this]
  · unfold Q_FlapTimes
    rw [raisesOf_eq hv]
    simp only [Option.bind_some]
    exact w2
end Go.Beacon

/- The law AlarmsTimed. No program in sight. -/
set_option linter.unusedVariables false
set_option linter.unusedSimpArgs false
namespace Go.Beacon
open Go Go.Eng

theorem Flap_k {s : Stm} {K : Int} (hs : SOk s K) (hK : 20 ≤ K) : Gen (Stream_Flap s) (K - 20) (fun _ => True) := by
  refine Gen.of ?_
  unfold Stream_Flap
  refine Ok.gen (Pick_k hs (by omega) (by simp) (by simp)) (fun a s1 _ q1 => ?_)
  refine Ok.gen (Pick_k q1 (by omega) (by simp) (by simp)) (fun b s2 _ q2 => ?_)
  refine Ok.gen (Pick_k q2 (by omega) (by simp) (by simp)) (fun c s3 _ q3 => ?_)
  refine Ok.gen (Flip_k q3 (by omega) (by omega) (by omega)) (fun d s4 _ q4 => ?_)
  dsimp only
  unfold Stream_Flap_j1
  split
  · refine Ok.gen (Odd_k q4 (by omega) (by omega) (by omega) (by omega)) (fun e s5 _ q5 => ?_)
    refine Ok.gen (Odd_k q5 (by omega) (by omega) (by omega) (by omega)) (fun g s6 _ q6 => ?_)
    refine Ok.gen (Odd_k q6 (by omega) (by omega) (by omega) (by omega)) (fun h s7 _ q7 => ?_)
    exact Ok.ret ⟨trivial, q7.less (by omega)⟩
  · exact Ok.ret ⟨trivial, q4.less (by omega)⟩
theorem OrE_eq (xs : List Int) (h : (xs.length : Int) ≤ 1000) : cmp_Or_Errno xs = some (orL xs) := gOr_eq xs (by omega)
theorem EqW {a b : List Window} (h : (a.length : Int) ≤ 100000) : slices_Equal_Window_Window a b = some (decide (a = b)) := gEqual_eq a b (by omega)
theorem orL_nest (a b c : Int) : orL [a, orL [b, c]] = orL [a, b, c] := by
  by_cases ha : a = 0 <;> by_cases hb : b = 0 <;> by_cases hc : c = 0 <;> simp [orL, ha, hb, hc]
theorem orL_nest3 (z a b c : Int) : orL [z, orL [a, b, c]] = orL [z, a, orL [b, c]] := by
  by_cases hz : z = 0 <;> by_cases ha : a = 0 <;> by_cases hb : b = 0 <;> by_cases hc : c = 0 <;> simp [orL, hz, ha, hb, hc]
theorem at_main (x : List Signal) (sx : Stm) (f : Flap) (sf : Stm) (at_ : Int) (sa : Stm) (d : Str) (sd : Stm) (r : Str) (sr : Stm) (hx : SG 15 x) :
    L_AlarmsTimed_j1 (x, sx) (f, sf) (at_, sa) (d, sd) (r, sr) (chkS x) (orL [if keyB d = true then 0 else 5, if keyB r = true then 0 else 5]) false = some true := by
  have hv : chkS x = 0 → VS x := VS_of hx
  have hmf : Q_MomentFault at_ = if 0 ≤ at_ ∧ at_ ≤ 345686399999 then 0 else 1 := QMomentF_eq at_
  have j3 : L_AlarmsTimed_j3 (x, sx) (f, sf) (d, sd) (r, sr) (chkS x) (orL [if keyB d = true then 0 else 5, if keyB r = true then 0 else 5]) false = some true := by
    unfold L_AlarmsTimed_j3
    rw [if_neg (by simp)]
    dsimp only
    obtain ⟨f1, f2⟩ := Flapping_eq hx.2 hv f d r
    rw [orL_nest3] at f1 f2
    have fin : (L_alarmed).bind (fun v35 => L_AlarmsTimed_j4 v35) = some true := by rw [alarmed_eq]; rfl
    by_cases he : orL [flF f, chkS x, orL [if keyB d = true then 0 else 5, if keyB r = true then 0 else 5]] = 0
    · obtain ⟨W, w1, w2, w3⟩ := f2 he
      rw [w1, flF_ref]
      simp only [Option.bind_some]
      rw [OrE_eq _ (by simp)]
      simp only [Option.bind_some]
      rw [he, if_pos rfl, if_neg (by simp), w2]
      simp only [Option.bind_some]
      rw [EqW (by omega)]
      simp only [decide_true, Option.bind_some, if_true]
      exact fin
    · rw [f1 he, flF_ref]
      simp only [Option.bind_some]
      rw [OrE_eq _ (by simp)]
      simp only [Option.bind_some]
      rw [if_pos trivial, if_pos he]
      exact fin
  unfold L_AlarmsTimed_j1
  rw [if_neg (by simp)]
  dsimp only
  rw [hmf, OrE_eq _ (by simp)]
  unfold L_AlarmsTimed_j2
  by_cases hc : chkS x = 0
  · by_cases hm : 0 ≤ at_ ∧ at_ ≤ 345686399999
    · obtain ⟨p, p1, p2⟩ := NextChange_eq (hv hc) hc hm
      have e0 : orL [chkS x, if 0 ≤ at_ ∧ at_ ≤ 345686399999 then 0 else 1] = 0 := by rw [hc, if_pos hm]; rfl
      rw [p1, p2]
      simp only [Option.bind_some, e0, if_true]
      simp only [ne_eq, not_true_eq_false, decide_false, Bool.false_or, bne_self_eq_false]
      exact j3
    · have e1 : alarm_NextChange x at_ = some (0, false, 1) := by
        unfold alarm_NextChange
        rw [CheckSignals_eq hx.2, hc]
        simp only [Option.bind_some]
        rw [if_neg (by simp), Moment_eq, if_pos (by rw [← Bool.decide_and, decide_eq_false hm]; rfl)]
      have e0 : orL [chkS x, if 0 ≤ at_ ∧ at_ ≤ 345686399999 then 0 else 1] = 1 := by rw [hc, if_neg hm]; rfl
      rw [e1]
      simp only [Option.bind_some, e0]
      rw [if_neg (by simp)]
      exact j3
  · have e1 : alarm_NextChange x at_ = some (0, false, chkS x) := by
      unfold alarm_NextChange
      rw [CheckSignals_eq hx.2]
      simp only [Option.bind_some]
      rw [if_pos hc]
    have e0 : orL [chkS x, if 0 ≤ at_ ∧ at_ ≤ 345686399999 then 0 else 1] = chkS x := by rw [orL_cons, if_pos hc]
    rw [e1]
    simp only [Option.bind_some, e0]
    rw [if_neg hc]
    simp only [ne_eq, not_true_eq_false, decide_false, Bool.false_or, bne_self_eq_false]
    exact j3
theorem AlarmsTimed_plain (L : List Int) : L_AlarmsTimed L = some true := by
  have key : Ok (L_AlarmsTimed L) (fun r => r = true) := by
    unfold L_AlarmsTimed
    refine Ok.gen (Range_k (s := ⟨L, 0⟩) (K := 10000) ⟨by simp, by simp⟩ (by omega) (by omega) (by omega) (by omega)) (fun m s0 hm q0 => ?_)
    dsimp only
    refine Ok.gen (Signals_k q0 (by omega) (by omega)) (fun x s1 hx q1 => ?_)
    refine Ok.gen (Flap_k q1 (by omega)) (fun f s2 _ q2 => ?_)
    refine Ok.gen (Time_k q2 (by omega)) (fun at_ s3 hat q3 => ?_)
    refine Ok.gen (Some_k q3 (by omega) (by simp) (by simp)) (fun d s4 _ q4 => ?_)
    refine Ok.gen (Some_k q4 (by omega) (by simp) (by simp)) (fun r s5 _ q5 => ?_)
    have hx15 : SG 15 x := ⟨by have := hx.1; omega, hx.2⟩
    have hv : chkS x = 0 → VS x := VS_of hx15
    have fin := at_main x s1 f s2 at_ s3 d s4 r s5 hx15
    dsimp only
    rw [SignalsFault_eq hx15.2, QKeyF_eq, QKeyF_eq]
    simp only [Option.bind_some]
    rw [OrE_eq _ (by simp)]
    simp only [Option.bind_some]
    rw [Active_eq hx15.2 hv, OrE_eq _ (by simp)]
    simp only [Option.bind_some]
    rw [orL_nest]
    by_cases he : orL [chkS x, if keyB d = true then 0 else 5, if keyB r = true then 0 else 5] = 0
    · have hc : chkS x = 0 := orL_zero he _ (by simp)
      have h2 := ((FS_of _ (hv hc)).li ⟨d, r⟩).l2
      have hxl := (hv hc).len
      have hll : (lastW (FL x ⟨d, r⟩).up_).length ≤ (FL x ⟨d, r⟩).up_.length := List.length_filter_le _ _
      rw [he]
      simp only [ne_eq, not_true_eq_false, if_false, if_true]
      rw [ActiveTimes_eq (hv hc)]
      simp only [Option.bind_some]
      rw [EqW (by omega)]
      simp only [decide_true, Bool.not_true, Option.bind_some]
      exact ⟨true, fin, rfl⟩
    · rw [if_pos he]
      simp only [ne_eq, not_true_eq_false, if_false]
      rw [if_neg he]
      exact ⟨true, fin, rfl⟩
  obtain ⟨r, h1, rfl⟩ := key
  exact h1
end Go.Beacon

