/- Plain facts on what the functions compute. No program in sight. -/
import Derived.Test.YtkggljololbmiaaGreatDoorSerP
import Derived.Test.YtkggljololbmiaaGreatDoorPlBA
import Derived.Lib.AtoiTie
import Derived.Lib.AtoiBound
import Derived.Laws.RangeString
import Derived.Lib.MapLaws
import Derived.Lib.ValidLaws
import Derived.Lib.TrimUEq
import Derived.Lib.ItoaLen
/- Plain facts of the streams that make inputs: each ends, and what it hands out is within bounds. No program in sight. -/
set_option linter.unusedVariables false
set_option linter.unusedSimpArgs false
namespace Go.Beacon
open Go Go.Eng

abbrev Stm := Fleetmake_Stream
/-- At least k more numbers can be drawn. -/
def SOk (s : Stm) (k : Int) : Prop := 0 ≤ s.at_ ∧ s.at_ + k ≤ 4611686018427387904
theorem SOk.less {s : Stm} {k k' : Int} (h : SOk s k) (hk : k' ≤ k) : SOk s k' := ⟨h.1, by have := h.2; omega⟩
def Gen {α : Type} (m : Option (α × Stm)) (k : Int) (P : α → Prop) : Prop := ∃ v s', m = some (v, s') ∧ P v ∧ SOk s' k
theorem Gen.bind {α β : Type} {m : Option (α × Stm)} {k k' : Int} {P : α → Prop} {Q : β → Prop} {f : α × Stm → Option (β × Stm)} (h : Gen m k P) (hf : ∀ v s', P v → SOk s' k → Gen (f (v, s')) k' Q) : Gen (m.bind f) k' Q := by
  obtain ⟨v, s', rfl, h1, h2⟩ := h
  exact hf v s' h1 h2
theorem Gen.ret {α : Type} {v : α} {s : Stm} {k : Int} {P : α → Prop} (h1 : P v) (h2 : SOk s k) : Gen (some (v, s)) k P := ⟨v, s, rfl, h1, h2⟩
theorem Gen.mono {α : Type} {m : Option (α × Stm)} {k k' : Int} {P Q : α → Prop} (h : Gen m k P) (hk : k' ≤ k) (hp : ∀ v, P v → Q v) : Gen m k' Q := by
  obtain ⟨v, s', e, h1, h2⟩ := h
  exact ⟨v, s', e, hp v h1, h2.less hk⟩

theorem Below_ok (x : Int) {n : Int} (h1 : 1 ≤ n) (h2 : n ≤ 4611686018427387904) : ∃ v, Below x n = some v ∧ 0 ≤ v ∧ v < n := by
  unfold Below Below_j1
  rw [if_neg (by omega), rem_ne (by omega)]
  have a1 := Int.lt_tmod_of_pos x (show 0 < n by omega)
  have a2 := Int.tmod_lt_of_pos x (show 0 < n by omega)
  simp only [Option.bind_some]
  split
  · exact ⟨_, rfl, by rw [w64_in] <;> omega, by rw [w64_in] <;> omega⟩
  · exact ⟨_, rfl, by omega, by omega⟩

theorem Next_ok {s : Stm} {n k : Int} (hs : SOk s (k + 1)) (h1 : 1 ≤ n) (h2 : n ≤ 4611686018427387904) (hk : 0 ≤ k) : Gen (Stream_Next s n) k (fun v => 0 ≤ v ∧ v < n) := by
  obtain ⟨a1, a2⟩ := hs
  have e1 : w64 (s.at_ + 1) = s.at_ + 1 := by rw [w64_in] <;> omega
  have e2 : w64 (s.at_ + 1 - 1) = s.at_ := by rw [w64_in] <;> omega
  unfold Stream_Next
  split
  · obtain ⟨v, hv, h3, h4⟩ := Below_ok (w64 (w64 (s.at_ + 1) * 7919)) h1 h2
    rw [hv]
    exact Gen.ret ⟨h3, h4⟩ ⟨by show 0 ≤ w64 (s.at_ + 1); omega, by show w64 (s.at_ + 1) + k ≤ _; omega⟩
  · rename_i hl
    have hl' : (0 : Int) < s.L.length := by omega
    rw [e1, e2, rem_pos hl' a1, quo_ne (by omega)]
    simp only [Option.bind_some]
    obtain ⟨x, hx, _, _⟩ := idx_lt s.L (i := s.at_ % s.L.length) (Int.emod_nonneg _ (by omega)) (Int.emod_lt_of_pos _ hl')
    rw [hx]
    simp only [Option.bind_some]
    obtain ⟨u, hu, _, _⟩ := Below_ok x (n := 1073741824) (by omega) (by omega)
    rw [hu]
    simp only [Option.bind_some]
    obtain ⟨v, hv, h3, h4⟩ := Below_ok (w64 (u + w64 (w64 (s.at_.tdiv s.L.length) * w64 (7919 + s.at_ % s.L.length)))) h1 h2
    rw [hv]
    exact Gen.ret ⟨h3, h4⟩ ⟨by simp only; omega, by simp only; omega⟩

theorem Pick_ok {s : Stm} {l : List Int} {k : Int} (hs : SOk s (k + 1)) (h1 : l ≠ []) (h2 : l.length ≤ 1000) (hk : 0 ≤ k) : Gen (Stream_Pick s l) k (fun v => v ∈ l) := by
  unfold Stream_Pick
  have hl : 0 < l.length := List.length_pos_iff.2 h1
  refine Gen.bind (Next_ok hs (by omega) (by omega) hk) (fun v s' hv hs' => ?_)
  obtain ⟨x, hx, hm, _⟩ := idx_lt l hv.1 hv.2
  simp only [hx, Option.bind_some]
  exact Gen.ret hm hs'
theorem Range_ok {s : Stm} {a b k : Int} (hs : SOk s (k + 1)) (hab : a ≤ b) (ha : -1152921504606846976 ≤ a) (hb : b ≤ 1152921504606846976) (hk : 0 ≤ k) : Gen (Stream_Range s a b) k (fun v => a ≤ v ∧ v ≤ b) := by
  unfold Stream_Range
  have e1 : w64 (b - a) = b - a := by rw [w64_in] <;> omega
  have e2 : w64 (b - a + 1) = b - a + 1 := by rw [w64_in] <;> omega
  rw [if_neg (by omega), e1, e2]
  refine Gen.bind (Next_ok hs (by omega) (by omega) hk) (fun v s' hv hs' => ?_)
  refine Gen.ret ?_ hs'
  simp only
  rw [w64_in] <;> omega
theorem Flip_ok {s : Stm} {n k : Int} (hs : SOk s (k + 1)) (h1 : 1 ≤ n) (h2 : n ≤ 4611686018427387904) (hk : 0 ≤ k) : Gen (Stream_Flip s n) k (fun _ => True) := by
  unfold Stream_Flip
  exact Gen.bind (Next_ok hs h1 h2 hk) (fun v s' hv hs' => Gen.ret trivial hs')
theorem Some_ok {s : Stm} {l : List Str} {k : Int} (hs : SOk s (k + 1)) (h1 : l ≠ []) (h2 : l.length ≤ 1000) (hk : 0 ≤ k) : Gen (Stream_Some s l) k (fun v => v ∈ l) := by
  unfold Stream_Some
  have hl : 0 < l.length := List.length_pos_iff.2 h1
  refine Gen.bind (Next_ok hs (by omega) (by omega) hk) (fun v s' hv hs' => ?_)
  obtain ⟨x, hx, hm, _⟩ := idx_lt l hv.1 hv.2
  simp only [hx, Option.bind_some]
  exact Gen.ret hm hs'
theorem Odd_ok {s : Stm} {a b k : Int} (hs : SOk s (k + 2)) (hab : a ≤ b) (ha : -1099511627776 ≤ a) (hb : b ≤ 1099511627776) (hk : 0 ≤ k) : Gen (Stream_Odd s a b) k (fun v => -1099511627777 ≤ v ∧ v ≤ 1099511627777) := by
  unfold Stream_Odd
  refine Gen.bind (Flip_ok (k := k + 1) (hs.less (by omega)) (by omega) (by omega) (by omega)) (fun v s' hv hs' => ?_)
  simp only
  split
  · refine Gen.bind (Pick_ok hs' (by simp) (by simp) hk) (fun v s' hv hs' => Gen.ret ?_ hs')
    have e1 : w64 (a - 1) = a - 1 := by rw [w64_in] <;> omega
    have e2 : w64 (b + 1) = b + 1 := by rw [w64_in] <;> omega
    rw [e1, e2] at hv
    simp only [List.mem_cons, List.not_mem_nil, or_false] at hv
    simp only; omega
  · refine Gen.bind (Range_ok hs' hab (by omega) (by omega) hk) (fun v s' hv hs' => Gen.ret ?_ hs')
    simp only; omega
end Go.Beacon

/- Plain facts of keys: the program's check and the reference's. No program in sight. -/
set_option linter.unusedVariables false
set_option linter.unusedSimpArgs false
namespace Go.Beacon
open Go Go.Eng

theorem Out_eq (n lo hi : Int) : base_Out n lo hi = (decide (n < lo) || decide (hi < n)) := rfl
theorem Qin_eq (n lo hi : Int) : Q_in n lo hi = (decide (lo ≤ n) && decide (n ≤ hi)) := rfl
/-! keys -/
def okN (n : Nat) : Bool := (decide (97 ≤ n) && decide (n ≤ 122)) || (decide (48 ≤ n) && decide (n ≤ 57)) || decide (n = 45) || decide (n = 95)
def keyB : Str → Bool
  | [] => false
  | c :: r => decide ((c :: r).length ≤ 40) && (decide (97 ≤ c.toNat) && decide (c.toNat ≤ 122)) && (c :: r).all (fun c => okN c.toNat)
theorem keyB_cons (c : UInt8) (r : Str) : keyB (c :: r) = (decide ((c :: r).length ≤ 40) && (decide (97 ≤ c.toNat) && decide (c.toNat ≤ 122)) && (c :: r).all (fun c => okN c.toNat)) := rfl
theorem Key_loop (s : Str) (hl : s.length ≤ 40) : base_Key_l1 s 0 = some (s.all (fun c => okN c.toNat)) := by
  unfold base_Key_l1
  rw [iter_find s (fun x : Int => base_Key_b1 s x) (fun c => if okN c.toNat = true then none else some false) true (by omega), findE_bool]
  · intro i c h0 h1 hc
    have hB : (if (97 : Int) ≤ (c.toNat : Int) then if (c.toNat : Int) ≤ (122 : Int) then !true else if (48 : Int) ≤ (c.toNat : Int) then if (c.toNat : Int) ≤ (57 : Int) then !true else if (c.toNat : Int) = (45 : Int) then !true else decide (¬ ((c.toNat : Int) = (95 : Int))) else if (c.toNat : Int) = (45 : Int) then !true else decide (¬ ((c.toNat : Int) = (95 : Int))) else if (48 : Int) ≤ (c.toNat : Int) then if (c.toNat : Int) ≤ (57 : Int) then !true else if (c.toNat : Int) = (45 : Int) then !true else decide (¬ ((c.toNat : Int) = (95 : Int))) else if (c.toNat : Int) = (45 : Int) then !true else decide (¬ ((c.toNat : Int) = (95 : Int)))) = !okN c.toNat := by
      unfold okN
      rw [Bool.eq_iff_iff]
      repeat' split
      all_goals simp
      all_goals omega
    rw [base_Key_b1, if_pos h1, hc]
    simp only [Option.bind_some]
    rw [hB]
    unfold base_Key_j2
    rw [w64_in (by omega) (by omega)]
    cases okN c.toNat <;> rfl
  · rw [base_Key_b1, if_neg (by omega)]; rfl
theorem Key_eq (s : Str) : base_Key s = some (keyB s) := by
  unfold base_Key base_Key_j1
  cases s with
  | nil => simp [keyB]
  | cons c r =>
    rw [if_neg (by simp)]
    have hc : idx (c :: r) 0 = some c := rfl
    rw [hc]
    simp only [Option.bind_some]
    by_cases hl : (c :: r).length ≤ 40
    · rw [if_neg (by omega), Key_loop _ hl, keyB_cons]
      by_cases h1 : (c.toNat : Int) < 97
      · rw [if_pos h1]
        have : decide (97 ≤ c.toNat) = false := by simp; omega
        rw [this]; simp
      · rw [if_neg h1]
        have e1 : decide (97 ≤ c.toNat) = true := by simp; omega
        by_cases h2 : (122 : Int) < c.toNat
        · rw [if_pos (by simpa using h2)]
          have : decide (c.toNat ≤ 122) = false := by simp; omega
          rw [this]; simp
        · rw [if_neg (by simpa using h2)]
          have : decide (c.toNat ≤ 122) = true := by simp; omega
          rw [e1, this, decide_eq_true hl]; simp
    · rw [if_pos (by omega), keyB_cons, decide_eq_false hl]; simp
theorem chars_fin : ∀ n : Fin 256, decide (UInt8.ofNat n.val ∈ ([97, 98, 99, 100, 101, 102, 103, 104, 105, 106, 107, 108, 109, 110, 111, 112, 113, 114, 115, 116, 117, 118, 119, 120, 121, 122, 48, 49, 50, 51, 52, 53, 54, 55, 56, 57, 45, 95] : List UInt8)) = okN n.val := by decide +kernel
theorem low_fin : ∀ n : Fin 256, decide (UInt8.ofNat n.val ∈ ([97, 98, 99, 100, 101, 102, 103, 104, 105, 106, 107, 108, 109, 110, 111, 112, 113, 114, 115, 116, 117, 118, 119, 120, 121, 122] : List UInt8)) = (decide (97 ≤ n.val) && decide (n.val ≤ 122)) := by decide +kernel
theorem u8_fin {p : UInt8 → Bool} {q : Nat → Bool} (h : ∀ n : Fin 256, p (UInt8.ofNat n.val) = q n.val) (c : UInt8) : p c = q c.toNat := by
  have := h ⟨c.toNat, c.toNat_lt⟩
  simpa using this
end Go.Beacon

/- Plain facts: loops by a measure, products within bounds, quotients rounded down. No program in sight. -/
set_option linter.unusedVariables false
set_option linter.unusedSimpArgs false
namespace Go.Beacon
open Go Go.Eng

/-- A loop whose rounds keep something and make a number smaller ends; what its last round tells holds. -/
theorem iter_inv {S A : Type} (f : S → Option (S ⊕ A)) (m : S → Nat) (Inv : S → Prop) (R : A → Prop)
    (h : ∀ s, Inv s → (∃ s', f s = some (.inl s') ∧ Inv s' ∧ m s' < m s) ∨ (∃ a, f s = some (.inr a) ∧ R a)) : ∀ s, Inv s → ∃ a, iter f s = some a ∧ R a := by
  have key : ∀ (n : Nat) s, m s ≤ n → Inv s → ∃ a, iter f s = some a ∧ R a := by
    intro n
    induction n with
    | zero =>
      intro s hm hi
      rcases h s hi with ⟨s', _, _, h3⟩ | ⟨a, h1, h2⟩
      · omega
      · exact ⟨a, by rw [iter_eq, h1]; rfl, h2⟩
    | succ n ih =>
      intro s hm hi
      rcases h s hi with ⟨s', h1, h2, h3⟩ | ⟨a, h1, h2⟩
      · obtain ⟨a, h4, h5⟩ := ih s' (by omega) h2
        exact ⟨a, by rw [iter_eq, h1]; simpa using h4, h5⟩
      · exact ⟨a, by rw [iter_eq, h1]; rfl, h2⟩
  exact fun s hi => key (m s) s (Nat.le_refl _) hi
end Go.Beacon

/- Strings cut at one byte. No program in sight. -/
set_option linter.unusedVariables false
set_option linter.unusedSimpArgs false
namespace Go.Beacon
open Go Go.Eng

/-- A string cut at each byte c. -/
def splitC (c : UInt8) : Str → List Str
  | [] => [[]]
  | b :: r => if b = c then [] :: splitC c r else match splitC c r with
    | [] => [[b]]
    | h :: t => (b :: h) :: t
theorem splitC_ne (c : UInt8) : ∀ s, splitC c s ≠ []
  | [] => by simp [splitC]
  | b :: r => by
    unfold splitC
    split
    · simp
    · split <;> simp
theorem splitC_length (c : UInt8) : ∀ s, (splitC c s).length ≤ s.length + 1
  | [] => by simp [splitC]
  | b :: r => by
    have ih := splitC_length c r
    unfold splitC
    split
    · simp; omega
    · split
      · simp
      · rename_i h t e; rw [e] at ih; simp at ih ⊢; omega
theorem splitC_part (c : UInt8) : ∀ s, ∀ x ∈ splitC c s, x.length ≤ s.length ∧ c ∉ x
  | [] => by simp [splitC]
  | b :: r => by
    have ih := splitC_part c r
    intro x hx
    unfold splitC at hx
    split at hx
    · rcases List.mem_cons.1 hx with rfl | hx
      · simp
      · have := ih x hx; simp; exact ⟨by omega, this.2⟩
    · rename_i hb
      split at hx
      · rename_i e; exact absurd e (splitC_ne c r)
      · rename_i h t e
        rw [e] at ih
        rcases List.mem_cons.1 hx with rfl | hx
        · have := ih h (by simp); simp; exact ⟨this.1, fun e => hb e.symm, this.2⟩
        · have := ih x (by simp [hx]); simp; exact ⟨by omega, this.2⟩
theorem split_C (c : UInt8) : ∀ s, Lib.split s [c] = splitC c s
  | [] => rfl
  | b :: r => by
    have ih := split_C c r
    unfold Lib.split at ih ⊢
    unfold splitC
    by_cases hb : b = c
    · subst hb
      have hix : Lib.index (b :: r) [b] = 0 := by rw [Lib.index]; simp [List.isPrefixOf]
      rw [if_pos rfl, Lib.count_cons_eq, Nat.add_comm, Lib.splitK, hix, ← ih]
      simp
    · rw [if_neg hb, Lib.count_cons_ne b c r hb, ← ih]
      have hp : ([c] : List UInt8).isPrefixOf (b :: r) = false := by simp [List.isPrefixOf, Ne.symm hb]
      have hix : Lib.index (b :: r) [c] = if Lib.index r [c] == -1 then -1 else Lib.index r [c] + 1 := by rw [Lib.index, hp]; simp
      by_cases hm : Lib.index r [c] = -1
      · rw [Lib.count_miss hm]; rfl
      · have hge := Lib.index_ge r [c]
        obtain ⟨j, hj⟩ : ∃ j : Nat, Lib.index r [c] = j := ⟨(Lib.index r [c]).toNat, by omega⟩
        have hix' : Lib.index (b :: r) [c] = ((j + 1 : Nat) : Int) := by rw [hix, if_neg (fun e => hm (beq_iff_eq.1 e)), hj]; omega
        rw [Lib.count_hit (by simp) hj, Nat.add_comm]
        have n1 : ¬ ((((j + 1 : Nat) : Int) == -1) = true) := fun h => by have := beq_iff_eq.1 h; omega
        have n2 : ¬ ((((j : Nat) : Int) == -1) = true) := fun h => by have := beq_iff_eq.1 h; omega
        simp only [Lib.splitK, hix', hj, if_neg n1, if_neg n2]
        simp [List.take_succ_cons]
/-- strings.Split at one byte. -/
theorem splitO_eq {s : Str} {c : UInt8} (h : s.length ≤ 1000000000) : splitO s [c] = some (splitC c s) := by
  unfold splitO
  rw [if_pos ⟨by omega, by simp⟩]
  congr 1
  have h1 := Lib.splitB_data ⟨#[c]⟩ 0 (Lib.countB ⟨s.toArray⟩ ⟨#[c]⟩) ⟨s.toArray⟩
  rw [← split_C]
  exact h1
/-- What is cut comes together again. -/
def joinC (c : UInt8) : List Str → Str
  | [] => []
  | [x] => x
  | x :: y :: r => x ++ c :: joinC c (y :: r)
theorem joinC_split (c : UInt8) : ∀ s, joinC c (splitC c s) = s
  | [] => rfl
  | b :: r => by
    have ih := joinC_split c r
    unfold splitC
    cases e : splitC c r with
    | nil => exact absurd e (splitC_ne c r)
    | cons h t =>
      rw [e] at ih
      split
      · rename_i hb; rw [joinC, ih, hb]; rfl
      · cases t with
        | nil => rw [joinC] at ih; subst ih; rfl
        | cons y t => rw [joinC] at ih ⊢; rw [← ih]; rfl
end Go.Beacon

/- Numbers in their one spelling: what both readers of numbers take. No program in sight. -/
set_option linter.unusedVariables false
set_option linter.unusedSimpArgs false
namespace Go.Beacon
open Go Go.Eng

def isDig (c : UInt8) : Bool := decide (48 ≤ c.toNat) && decide (c.toNat ≤ 57)
theorem isDig_val {c : UInt8} (h : isDig c = true) : Lib.digitVal c = some (c.toNat - 48) := by
  unfold isDig at h; simp at h
  unfold Lib.digitVal; rw [if_pos h]
theorem val_dig {c : UInt8} {d : Nat} (h : Lib.digitVal c = some d) : isDig c = true ∧ d = c.toNat - 48 ∧ UInt8.ofNat (48 + d) = c := by
  obtain ⟨h1, h2, h3⟩ := Lib.digitVal_eq h
  refine ⟨by unfold isDig; simp; omega, h3, ?_⟩
  apply UInt8.toNat_inj.1
  rw [UInt8.toNat_ofNat']
  omega
theorem decFrom_all : ∀ (l : Str) (acc : Nat), l.all isDig = true → ∃ m, Lib.decFrom acc l = some m
  | [], acc, _ => ⟨acc, rfl⟩
  | b :: r, acc, h => by
    simp only [List.all_cons, Bool.and_eq_true] at h
    obtain ⟨m, hm⟩ := decFrom_all r (acc * 10 + (b.toNat - 48)) h.2
    exact ⟨m, by rw [Lib.decFrom, isDig_val h.1]; exact hm⟩
theorem all_decFrom : ∀ (l : Str) (acc m : Nat), Lib.decFrom acc l = some m → l.all isDig = true
  | [], _, _, _ => rfl
  | b :: r, acc, m, h => by
    rw [Lib.decFrom] at h
    cases hd : Lib.digitVal b with
    | none => rw [hd] at h; simp at h
    | some d =>
      rw [hd] at h
      simp only [List.all_cons, (val_dig hd).1, Bool.true_and]
      exact all_decFrom r _ m h
theorem dec_grow : ∀ (l : Str) (acc m : Nat), 0 < acc → Lib.decFrom acc l = some m → Lib.decDigits m = Lib.decDigits acc ++ l
  | [], acc, m, _, h => by simp only [Lib.decFrom, Option.some.injEq] at h; simp [h]
  | b :: r, acc, m, ha, h => by
    rw [Lib.decFrom] at h
    cases hd : Lib.digitVal b with
    | none => rw [hd] at h; simp at h
    | some d =>
      rw [hd] at h
      obtain ⟨h1, h2, h3⟩ := Lib.digitVal_eq hd
      have ih := dec_grow r (acc * 10 + d) m (by omega) h
      rw [ih, Lib.decDigits, dif_neg (by omega)]
      rw [show (acc * 10 + d) / 10 = acc by omega, show (acc * 10 + d) % 10 = d by omega, (val_dig hd).2.2]
      simp
theorem decFrom_append : ∀ (l r : Str) (acc : Nat), Lib.decFrom acc (l ++ r) = (Lib.decFrom acc l).bind fun a => Lib.decFrom a r
  | [], r, acc => rfl
  | b :: l, r, acc => by
    rw [List.cons_append, Lib.decFrom, Lib.decFrom]
    cases Lib.digitVal b with
    | none => rfl
    | some d => exact decFrom_append l r _
theorem decFrom_digs (m : Nat) : Lib.decFrom 0 (Lib.decDigits m) = some m := by
  induction m using Nat.strongRecOn with
  | _ m ih =>
    have key : ∀ d, d < 10 → Lib.digitVal (UInt8.ofNat (48 + d)) = some d := by
      intro d hd
      unfold Lib.digitVal; rw [UInt8.toNat_ofNat']
      rw [if_pos (by omega)]; congr 1; omega
    rw [Lib.decDigits]
    split
    · rename_i h; rw [Lib.decFrom, key m h]; simp [Lib.decFrom]
    · rw [decFrom_append, ih (m / 10) (by omega)]
      simp only [Option.bind_some]
      rw [Lib.decFrom, key (m % 10) (by omega)]
      simp only [Lib.decFrom]
      congr 1; omega
theorem digits_fin : ∀ n : Fin 256, decide (UInt8.ofNat n.val ∈ ([48, 49, 50, 51, 52, 53, 54, 55, 56, 57] : List UInt8)) = (decide (48 ≤ n.val) && decide (n.val ≤ 57)) := by decide +kernel
theorem mem_dig (c : UInt8) : decide (c ∈ ([48, 49, 50, 51, 52, 53, 54, 55, 56, 57] : List UInt8)) = isDig c :=
  u8_fin (p := fun c => decide (c ∈ ([48, 49, 50, 51, 52, 53, 54, 55, 56, 57] : List UInt8))) (q := fun n => decide (48 ≤ n) && decide (n ≤ 57)) digits_fin c
theorem atoiAll_of {s : Str} {n : Int} (hl : s.length ≤ 18) (h : Lib.atoi s = some n) : Lib.atoiAll s = .ok n := by
  rw [Lib.atoiAll_short s hl, h]; rfl
theorem atoiO_eq {s : Str} {n : Int} (hl : s.length ≤ 18) (h : Lib.atoi s = some n) : atoiO s = some (n, true) := by
  unfold atoiO; rw [if_pos (by omega), atoiAll_of hl h]
theorem itoa_in {n : Int} (h1 : -9223372036854775808 ≤ n) (h2 : n ≤ 9223372036854775807) : itoaO n = some (Lib.itoa n) := by unfold itoaO; rw [if_pos ⟨h1, h2⟩]
end Go.Beacon

/- Runes of ASCII text; numbers of eight digits. No program in sight. -/
set_option linter.unusedVariables false
set_option linter.unusedSimpArgs false
namespace Go.Beacon
open Go Go.Eng

theorem runeAt_ascii {s : Str} {q : Nat} (h : q < s.length) (ha : s[q].toNat < 128) : runeAt s q = (s[q].toNat : Int) ∧ runeW s q = 1 := by
  have hs : q < (⟨s.toArray⟩ : ByteArray).size := by simpa [ByteArray.size] using h
  have e : (⟨s.toArray⟩ : ByteArray)[q]'hs = s[q] := by
    show (s.toArray)[q] = s[q]
    simp
  have := decode_ascii ⟨s.toArray⟩ q hs (by rw [e]; exact ha)
  unfold runeAt runeW
  rw [this, e]
  exact ⟨rfl, rfl⟩

/-- As many zeros as are wanting. -/
def zeros (n : Nat) : Str := List.replicate n 48
theorem decFrom_zeros : ∀ (k acc : Nat), Lib.decFrom acc (zeros k) = some (acc * 10 ^ k)
  | 0, acc => by simp [zeros, Lib.decFrom]
  | k + 1, acc => by
    have ih := decFrom_zeros k (acc * 10)
    have e : zeros (k + 1) = 48 :: zeros k := rfl
    rw [e]
    have : Lib.decFrom acc (48 :: zeros k) = Lib.decFrom (acc * 10 + 0) (zeros k) := rfl
    rw [this, Nat.add_zero, ih, Nat.pow_succ]
    congr 1
    rw [Nat.mul_assoc, Nat.mul_comm 10]
theorem decFrom_shift : ∀ (l : Str) (a b m : Nat), Lib.decFrom b l = some m → Lib.decFrom (a + b) l = some (a * 10 ^ l.length + m)
  | [], a, b, m, h => by
    have : b = m := Option.some.inj h
    subst this
    simp [Lib.decFrom]
  | c :: l, a, b, m, h => by
    unfold Lib.decFrom at h ⊢
    cases hc : Lib.digitVal c with
    | none => rw [hc] at h; cases h
    | some d =>
      rw [hc] at h
      simp only [Option.bind_some] at h ⊢
      have := decFrom_shift l (a * 10) (b * 10 + d) m h
      rw [show (a + b) * 10 + d = a * 10 + (b * 10 + d) by omega, this]
      congr 1
      rw [List.length_cons, Nat.pow_succ, Nat.mul_assoc, Nat.mul_comm 10]
theorem decDigits_len {n k : Nat} (h : n < 10 ^ k) (hk : 1 ≤ k) : (Lib.decDigits n).length ≤ k := by
  induction k generalizing n with
  | zero => omega
  | succ k ih =>
    rw [Lib.decDigits]
    split
    · simp
    · rename_i h10
      rw [List.length_append, List.length_singleton]
      rcases Nat.eq_zero_or_pos k with hk0 | hk0
      · subst hk0; simp at h; omega
      · have := ih (n := n / 10) (by rw [Nat.pow_succ] at h; omega) hk0
        omega
/-- A number in eight digits. -/
def eight (n : Nat) : Str := zeros (8 - (Lib.decDigits n).length) ++ Lib.decDigits n
theorem eight_len {n : Nat} (h : n < 100000000) : (eight n).length = 8 := by
  have := decDigits_len (k := 8) (n := n) (by simpa using h) (by omega)
  unfold eight zeros
  rw [List.length_append, List.length_replicate]
  omega
theorem eight_val {n : Nat} : Lib.decFrom 0 (eight n) = some n := by
  unfold eight
  rw [decFrom_append, decFrom_zeros, Option.bind_some, Nat.zero_mul]
  exact decFrom_digs n
theorem eight_dig {n : Nat} : (eight n).all isDig = true := all_decFrom _ _ _ eight_val
theorem eight_of {l : Str} {n : Nat} (hl : l.length = 8) (h : Lib.decFrom 0 l = some n) : eight n = l := by
  have h1 := dec_grow l 1 (1 * 10 ^ l.length + n) (by omega) (by have := decFrom_shift l 1 0 n h; simpa using this)
  have hn : n < 100000000 := by
    have := Lib.decFrom_lt l 0 n h
    rw [hl] at this
    simpa using this
  have h2 := dec_grow (eight n) 1 (1 * 10 ^ (eight n).length + n) (by omega) (by have := decFrom_shift (eight n) 1 0 n eight_val; simpa using this)
  rw [eight_len hn] at h2
  rw [hl, h2] at h1
  exact List.append_cancel_left h1
theorem itoa_eight {n : Int} (h0 : 0 ≤ n) (h1 : n < 100000000) : Lib.itoa (100000000 + n) = 49 :: eight n.toNat := by
  have hn : n.toNat < 100000000 := by omega
  have h2 := dec_grow (eight n.toNat) 1 (1 * 10 ^ (eight n.toNat).length + n.toNat) (by omega) (by have := decFrom_shift (eight n.toNat) 1 0 n.toNat eight_val; simpa using this)
  rw [eight_len hn] at h2
  have e1 : Lib.decDigits 1 = [49] := by rw [Lib.decDigits, dif_pos (by omega)]; rfl
  rw [e1] at h2
  have e : (100000000 + n).toNat = 1 * 10 ^ 8 + n.toNat := by omega
  unfold Lib.itoa
  rw [if_neg (by omega), e, h2]
  rfl
end Go.Beacon

/- Names: keys with points between. No program in sight. -/
set_option linter.unusedVariables false
set_option linter.unusedSimpArgs false
namespace Go.Beacon
open Go Go.Eng

/-- A string cut at the first byte c. -/
def cut1 (c : UInt8) : Str → Str × Str × Bool
  | [] => ([], [], false)
  | b :: r => if b = c then ([], r, true) else (b :: (cut1 c r).1, (cut1 c r).2.1, (cut1 c r).2.2)
theorem cut1_miss (c : UInt8) : ∀ s, (cut1 c s).2.2 = false → (cut1 c s).1 = s ∧ (cut1 c s).2.1 = []
  | [] => fun _ => ⟨rfl, rfl⟩
  | b :: r => by
    have ih := cut1_miss c r
    unfold cut1
    split
    · intro h; cases h
    · intro h; have := ih h; simp [this]
theorem cut_C (c : UInt8) : ∀ s, Lib.cut s [c] = cut1 c s
  | [] => rfl
  | b :: r => by
    have ih := cut_C c r
    unfold Lib.cut at ih ⊢
    unfold cut1
    by_cases hb : b = c
    · subst hb
      have hix : Lib.index (b :: r) [b] = 0 := by rw [Lib.index]; simp [List.isPrefixOf]
      rw [if_pos rfl, hix]; simp
    · rw [if_neg hb, ← ih]
      have hp : ([c] : List UInt8).isPrefixOf (b :: r) = false := by simp [List.isPrefixOf, Ne.symm hb]
      have hix : Lib.index (b :: r) [c] = if Lib.index r [c] == -1 then -1 else Lib.index r [c] + 1 := by rw [Lib.index, hp]; simp
      by_cases hm : Lib.index r [c] = -1
      · rw [hix, hm]; simp
      · have hge := Lib.index_ge r [c]
        have hn : ¬ ((Lib.index r [c] == -1) = true) := fun e => hm (beq_iff_eq.1 e)
        obtain ⟨j, hj⟩ : ∃ j : Nat, Lib.index r [c] = j := ⟨(Lib.index r [c]).toNat, by omega⟩
        have hix' : Lib.index (b :: r) [c] = ((j + 1 : Nat) : Int) := by rw [hix, if_neg hn, hj]; omega
        rw [hix', hj, if_pos (by omega), if_pos (by omega)]
        simp
theorem cutO_eq {s : Str} {c : UInt8} (h : s.length ≤ 1000000000) : cutO s [c] = some (cut1 c s) := by
  unfold cutO
  rw [if_pos (by omega), cut_C]
theorem split_cut (c : UInt8) : ∀ s, splitC c s = if (cut1 c s).2.2 = true then (cut1 c s).1 :: splitC c (cut1 c s).2.1 else [s]
  | [] => rfl
  | b :: r => by
    have ih := split_cut c r
    have e1 : splitC c (b :: r) = (if b = c then [] :: splitC c r else match splitC c r with
      | [] => [[b]]
      | h :: t => (b :: h) :: t) := rfl
    rw [e1]
    unfold cut1
    by_cases hb : b = c
    · rw [if_pos hb, if_pos hb]; rfl
    · rw [if_neg hb, if_neg hb, ih]
      by_cases hc : (cut1 c r).2.2 = true
      · simp [hc]
      · simp [hc]
theorem cut1_len (c : UInt8) : ∀ s, (cut1 c s).1.length ≤ s.length ∧ (cut1 c s).2.1.length ≤ s.length
  | [] => ⟨Nat.le_refl _, Nat.le_refl _⟩
  | b :: r => by
    have ih := cut1_len c r
    unfold cut1
    split
    · simp
    · simp; omega
/-- A name: at most k keys with points between. -/
def dotB (k : Nat) (s : Str) : Bool := decide ((splitC 46 s).length ≤ k) && (splitC 46 s).all keyB
theorem Dotted_loop (most : Nat) (hm : most ≤ 1000) : ∀ (k : Nat) (s : Str) (n : Int), 0 ≤ n → n + k = most → s.length ≤ 1000000000 → base_Dotted_l1 most s n = some (dotB k s)
  | 0, s, n, h0, hn, hs => by
    have hne := splitC_ne 46 s
    have hp : 0 < (splitC 46 s).length := List.length_pos_iff.2 hne
    unfold base_Dotted_l1
    rw [iter_eq]
    show (match base_Dotted_b1 most s n with | _ => _) = _
    rw [base_Dotted_b1, if_neg (by omega)]
    simp only [Option.map_some, Option.bind_some]
    unfold dotB
    rw [decide_eq_false (by omega)]; rfl
  | k + 1, s, n, h0, hn, hs => by
    have ih := Dotted_loop most hm k (cut1 46 s).2.1 (n + 1) (by omega) (by omega) (by have := (cut1_len 46 s).2; omega)
    unfold base_Dotted_l1 at ih ⊢
    rw [iter_eq]
    show (match base_Dotted_b1 most s n with | _ => _) = _
    rw [base_Dotted_b1, if_pos (by omega), cutO_eq hs]
    simp only [Option.bind_some, Key_eq]
    unfold dotB
    rw [split_cut 46 s]
    by_cases hk : keyB (cut1 46 s).1 = true
    · by_cases hc : (cut1 46 s).2.2 = true
      · simp only [hk, hc, Bool.not_true, Bool.false_eq_true, if_false, if_true]
        rw [w64_in (by omega) (by omega)]
        refine ih.trans ?_
        unfold dotB
        simp [hk]
      · have hs' := cut1_miss 46 s (by simpa using hc)
        rw [hs'.1] at hk
        simp [hk, hc, hs'.1]
    · by_cases hc : (cut1 46 s).2.2 = true
      · simp [hk, hc]
      · have hs' := cut1_miss 46 s (by simpa using hc)
        rw [hs'.1] at hk
        simp [hk, hc, hs'.1]
end Go.Beacon

/- Strings without marks; letters: the checks of the program and of the reference. No program in sight. -/
set_option linter.unusedVariables false
set_option linter.unusedSimpArgs false
namespace Go.Beacon
open Go Go.Eng

/-! letters -/
end Go.Beacon

/- Trimming. No program in sight. -/
set_option linter.unusedVariables false
set_option linter.unusedSimpArgs false
namespace Go.Beacon
open Go Go.Eng

theorem dropW_nil {α : Type} (p : α → Bool) : ∀ l : List α, l.dropWhile p = [] ↔ l.all p = true
  | [] => by simp
  | x :: r => by
    rw [List.dropWhile_cons]
    cases h : p x with
    | true => simp only [if_true, List.all_cons, h, Bool.true_and]; exact dropW_nil p r
    | false => simp [h]
theorem trimS_nil (l cs : Str) : Lib.trimS l cs = [] ↔ l.all (fun c => decide (c ∈ cs)) = true := by
  have hc : ∀ c : UInt8, cs.contains c = decide (c ∈ cs) := fun c => by rw [Bool.eq_iff_iff]; simp
  unfold Lib.trimS Lib.trimLeftS Lib.trimRightS
  rw [dropW_nil, List.all_reverse]
  constructor
  · intro h
    have hd : (l.reverse.dropWhile (cs.contains ·)) = [] := by
      cases hh : l.reverse.dropWhile (cs.contains ·) with
      | nil => rfl
      | cons a b =>
        have h1 := List.head?_dropWhile_not (fun c => cs.contains c) l.reverse
        rw [hh] at h h1
        simp only [List.head?_cons] at h1
        simp only [List.all_cons, Bool.and_eq_true] at h
        rw [h.1] at h1; simp at h1
    rw [dropW_nil, List.all_reverse] at hd
    simpa [hc] using hd
  · intro h
    have hd : l.reverse.dropWhile (cs.contains ·) = [] := by
      rw [dropW_nil, List.all_reverse]; simpa [hc] using h
    rw [hd]; rfl
theorem trimO_eq {s cs : Str} (h1 : s.length ≤ 100000) (h2 : cs.length ≤ 100000) (h3 : cs.all (fun b => decide (b.toNat < 128)) = true) : trimO s cs = some (Lib.trimS s cs) := by
  unfold trimO; rw [if_pos ⟨by omega, by omega, h3⟩]
end Go.Beacon

/- Keys as the first reference tells them: by trimming. No program in sight. -/
set_option linter.unusedVariables false
set_option linter.unusedSimpArgs false
namespace Go.Beacon
open Go Go.Eng

theorem QKeyT_eq (s : Str) : Q_Key s = some (keyB s) := by
  unfold Q_Key Q_Key_j1
  rw [Qin_eq]
  cases s with
  | nil => rfl
  | cons c r =>
    by_cases hl : (c :: r).length ≤ 40
    · rw [if_pos (by simp; simp at hl; omega), trimO_eq (by omega) (by simp) (by decide)]
      simp only [Option.bind_some]
      have e : (c :: r).all (fun c => decide (c ∈ ([97, 98, 99, 100, 101, 102, 103, 104, 105, 106, 107, 108, 109, 110, 111, 112, 113, 114, 115, 116, 117, 118, 119, 120, 121, 122, 48, 49, 50, 51, 52, 53, 54, 55, 56, 57, 45, 95] : List UInt8))) = (c :: r).all (fun c => okN c.toNat) := by
        congr 1; funext c
        exact u8_fin (p := fun c => decide (c ∈ ([97, 98, 99, 100, 101, 102, 103, 104, 105, 106, 107, 108, 109, 110, 111, 112, 113, 114, 115, 116, 117, 118, 119, 120, 121, 122, 48, 49, 50, 51, 52, 53, 54, 55, 56, 57, 45, 95] : List UInt8))) chars_fin c
      have e2 := u8_fin (p := fun c => decide (c ∈ ([97, 98, 99, 100, 101, 102, 103, 104, 105, 106, 107, 108, 109, 110, 111, 112, 113, 114, 115, 116, 117, 118, 119, 120, 121, 122] : List UInt8))) (q := fun n => decide (97 ≤ n) && decide (n ≤ 122)) low_fin c
      rw [keyB_cons, decide_eq_true hl, Bool.true_and, ← e, ← e2]
      by_cases ht : Lib.trimS (c :: r) ([97, 98, 99, 100, 101, 102, 103, 104, 105, 106, 107, 108, 109, 110, 111, 112, 113, 114, 115, 116, 117, 118, 119, 120, 121, 122, 48, 49, 50, 51, 52, 53, 54, 55, 56, 57, 45, 95] : Str) = []
      · rw [if_pos ht, (trimS_nil _ _).1 ht, Bool.and_true]
        have i0 : idx (c :: r) 0 = some c := rfl
        rw [i0]
        simp only [Option.bind_some, indexByteI, toU8]
        congr 1
        have := indexByte_nonneg ([97, 98, 99, 100, 101, 102, 103, 104, 105, 106, 107, 108, 109, 110, 111, 112, 113, 114, 115, 116, 117, 118, 119, 120, 121, 122] : List UInt8) c
        rw [decide_eq_decide]
        constructor
        · intro h; exact Classical.byContradiction fun h' => by have := this.2 h'; omega
        · intro h; have h' := mt this.1 (fun h' => h' h); omega
      · rw [if_neg ht]
        have : (c :: r).all (fun c => decide (c ∈ ([97, 98, 99, 100, 101, 102, 103, 104, 105, 106, 107, 108, 109, 110, 111, 112, 113, 114, 115, 116, 117, 118, 119, 120, 121, 122, 48, 49, 50, 51, 52, 53, 54, 55, 56, 57, 45, 95] : List UInt8))) = false := by
          rw [← Bool.not_eq_true]; exact fun h => ht ((trimS_nil _ _).2 h)
        rw [this, Bool.and_false]
    · rw [if_neg (by simp; simp at hl; omega), keyB_cons, decide_eq_false hl]; rfl
end Go.Beacon

/- Parts of queries and items: both checks tell the same. No program in sight. -/
set_option linter.unusedVariables false
set_option linter.unusedSimpArgs false
namespace Go.Beacon
open Go Go.Eng

def propB (s : Str) : Bool := decide (s.length ≤ 40) && dotB 5 s
theorem Property_eq {s : Str} (h : s.length ≤ 1000000000) : item_Property s = some (propB s) := by
  unfold item_Property item_Property_j1 propB
  by_cases c : s.length ≤ 40
  · rw [if_pos (by omega)]
    unfold base_Dotted
    rw [show (5 : Int) = ((5 : Nat) : Int) from rfl, Dotted_loop 5 (by omega) 5 s 0 (by omega) (by omega) h]
    simp [c]
  · rw [if_neg (by omega)]; simp [c]
theorem PropName_eq {s : Str} (h : s.length ≤ 1000000000) : Q_PropName s = some (propB s) := by
  unfold Q_PropName Q_PropName_j1 propB dotB
  rw [splitO_eq h]
  simp only [Option.bind_some]
  have hl := splitC_length 46 s
  by_cases c : s.length ≤ 40
  · rw [if_pos (by omega)]
    by_cases d : (splitC 46 s).length ≤ 5
    · rw [if_pos (by omega)]
      have hc : slices_ContainsFunc_string_string (splitC 46 s) (fun y0 => Q_PropName_1x y0) = some ((splitC 46 s).any (fun x => !keyB x)) :=
        gContainsFunc_eq _ _ _ (fun x _ => by unfold Q_PropName_1x; rw [QKeyT_eq]; rfl) (by omega)
      rw [hc]
      simp only [Option.bind_some, Option.some.injEq]
      simp [c, d, List.all_eq_not_any_not]
    · rw [if_neg (by omega)]; simp [d]
  · rw [if_neg (by omega)]; simp [c]
/-! values -/
end Go.Beacon

/- Streams, in the form that is stepped by one text: what can still be drawn is counted down. No program in sight. -/
set_option linter.unusedVariables false
set_option linter.unusedSimpArgs false
namespace Go.Beacon
open Go Go.Eng

theorem Next_k {s : Stm} {n K : Int} (hs : SOk s K) (hK : 1 ≤ K) (h1 : 1 ≤ n) (h2 : n ≤ 4611686018427387904) : Gen (Stream_Next s n) (K - 1) (fun v => 0 ≤ v ∧ v < n) :=
  Next_ok (hs.less (by omega)) h1 h2 (by omega)
theorem Flip_k {s : Stm} {n K : Int} (hs : SOk s K) (hK : 1 ≤ K) (h1 : 1 ≤ n) (h2 : n ≤ 4611686018427387904) : Gen (Stream_Flip s n) (K - 1) (fun _ => True) :=
  Flip_ok (hs.less (by omega)) h1 h2 (by omega)
theorem Pick_k {s : Stm} {l : List Int} {K : Int} (hs : SOk s K) (hK : 1 ≤ K) (h1 : l ≠ []) (h2 : l.length ≤ 1000) : Gen (Stream_Pick s l) (K - 1) (fun v => v ∈ l) :=
  Pick_ok (hs.less (by omega)) h1 h2 (by omega)
theorem Some_k {s : Stm} {l : List Str} {K : Int} (hs : SOk s K) (hK : 1 ≤ K) (h1 : l ≠ []) (h2 : l.length ≤ 1000) : Gen (Stream_Some s l) (K - 1) (fun v => v ∈ l) :=
  Some_ok (hs.less (by omega)) h1 h2 (by omega)
theorem Odd_k {s : Stm} {a b K : Int} (hs : SOk s K) (hK : 2 ≤ K) (hab : a ≤ b) (ha : -1099511627776 ≤ a) (hb : b ≤ 1099511627776) : Gen (Stream_Odd s a b) (K - 2) (fun v => -1099511627777 ≤ v ∧ v ≤ 1099511627777) :=
  Odd_ok (hs.less (by omega)) hab ha hb (by omega)
end Go.Beacon

/- Plain functions that end, and what their results are like: one lemma for each step. No program in sight. -/
set_option linter.unusedVariables false
set_option linter.unusedSimpArgs false
namespace Go.Beacon
open Go Go.Eng

/-- It ends, and its result is so. -/
def Ok {α : Type} (m : Option α) (Q : α → Prop) : Prop := ∃ r, m = some r ∧ Q r
theorem Ok.ret {α : Type} {v : α} {Q : α → Prop} (h : Q v) : Ok (some v) Q := ⟨v, rfl, h⟩
theorem Ok.mono {α : Type} {m : Option α} {P Q : α → Prop} (h : Ok m P) (hp : ∀ v, P v → Q v) : Ok m Q := by
  obtain ⟨r, h1, h2⟩ := h; exact ⟨r, h1, hp r h2⟩
theorem Ok.bind {α β : Type} {m : Option α} {f : α → Option β} {P : α → Prop} {Q : β → Prop} (h : Ok m P) (hf : ∀ v, P v → Ok (f v) Q) : Ok (m.bind f) Q := by
  obtain ⟨r, rfl, h2⟩ := h; exact hf r h2
theorem Ok.is {α β : Type} {m : Option α} {v : α} {f : α → Option β} {Q : β → Prop} (h : m = some v) (hf : Ok (f v) Q) : Ok (m.bind f) Q := by rw [h]; exact hf
theorem Ok.inr {α β : Type} {m : Option β} {Q : α ⊕ β → Prop} (h : Ok m (fun r => Q (.inr r))) : Ok (Option.map .inr m) Q := by
  obtain ⟨r, rfl, h2⟩ := h; exact ⟨_, rfl, h2⟩
theorem Ok.gen {α β : Type} {m : Option (α × Stm)} {k : Int} {P : α → Prop} {f : α × Stm → Option β} {Q : β → Prop} (h : Gen m k P) (hf : ∀ v s', P v → SOk s' k → Ok (f (v, s')) Q) : Ok (m.bind f) Q := by
  obtain ⟨v, s', rfl, h1, h2⟩ := h; exact hf v s' h1 h2
theorem Gen.of {α : Type} {m : Option (α × Stm)} {k : Int} {P : α → Prop} (h : Ok m (fun r => P r.1 ∧ SOk r.2 k)) : Gen m k P := by
  obtain ⟨⟨v, s⟩, h1, h2, h3⟩ := h; exact ⟨v, s, h1, h2, h3⟩
theorem Ok.of {α : Type} {m : Option (α × Stm)} {k : Int} {P : α → Prop} (h : Gen m k P) : Ok m (fun r => P r.1 ∧ SOk r.2 k) := by
  obtain ⟨v, s, h1, h2, h3⟩ := h; exact ⟨(v, s), h1, h2, h3⟩
theorem Ok.idx {α β : Type} {xs : List α} {i : Int} {f : α → Option β} {Q : β → Prop} (h0 : 0 ≤ i) (h1 : i < xs.length) (hf : ∀ x, idx xs i = some x → x ∈ xs → Ok (f x) Q) : Ok ((idx xs i).bind f) Q := by
  obtain ⟨x, hx, hm, _⟩ := idx_lt xs h0 h1
  rw [hx]; exact hf x hx hm
theorem Ok.app {α β : Type} {xs ys : List α} {f : List α → Option β} {Q : β → Prop} (h : xs.length + ys.length ≤ 1000000000) (hf : Ok (f (xs ++ ys)) Q) : Ok ((app xs ys).bind f) Q := by
  rw [app_le h]; exact hf
theorem Ok.slc {α β : Type} {xs : List α} {a b : Int} {f : List α → Option β} {Q : β → Prop} (h0 : 0 ≤ a) (h1 : a ≤ b) (h2 : b ≤ xs.length) (hf : ∀ ys : List α, ys = (xs.drop a.toNat).take (b.toNat - a.toNat) → (ys.length : Int) = b - a → Ok (f ys) Q) : Ok ((slc xs a b).bind f) Q := by
  rw [slc_in h0 h1 h2]; exact hf _ rfl (by simp; omega)
theorem cat_le {a b : Str} (h : a.length + b.length ≤ 9223372036854775807) : catO a b = some (a ++ b) := by unfold catO; rw [if_pos h]
theorem Ok.cat {β : Type} {a b : Str} {f : Str → Option β} {Q : β → Prop} (h : a.length + b.length ≤ 9223372036854775807) (hf : Ok (f (a ++ b)) Q) : Ok ((catO a b).bind f) Q := by
  rw [cat_le h]; exact hf
/-- What a round of a loop may tell: it keeps something and makes a number smaller, or it is the last. -/
abbrev Stp {S A : Type} (m : S → Nat) (Inv : S → Prop) (R : A → Prop) (s : S) : S ⊕ A → Prop
  | .inl s' => Inv s' ∧ m s' < m s
  | .inr a => R a
theorem Ok.iter {S A : Type} {f : S → Option (S ⊕ A)} {R : A → Prop} (m : S → Nat) (Inv : S → Prop)
    (h : ∀ s, Inv s → Ok (f s) (Stp m Inv R s)) (s : S) (hs : Inv s) : Ok (iter f s) R := by
  refine iter_inv f m Inv R (fun s hi => ?_) s hs
  obtain ⟨r, h1, h2⟩ := h s hi
  cases r with
  | inl s' => exact .inl ⟨s', h1, h2.1, h2.2⟩
  | inr a => exact .inr ⟨a, h1, h2⟩
/-- A round of a loop over the places of a list. -/
abbrev Rng {A : Type} (N : Nat) (R : A → Prop) (i : Int) : Int ⊕ A → Prop
  | .inl j => j = i + 1 ∧ i < N
  | .inr a => R a
theorem Ok.range {A : Type} {f : Int → Option (Int ⊕ A)} {R : A → Prop} (N : Nat) (h : ∀ i : Int, 0 ≤ i → i ≤ N → Ok (f i) (Rng N R i)) : Ok (Eng.iter f 0) R := by
  refine Ok.iter (fun i : Int => N + 1 - i.toNat) (fun i : Int => 0 ≤ i ∧ i ≤ N) (fun i hi => ?_) 0 ⟨by omega, by omega⟩
  refine (h i hi.1 hi.2).mono (fun r hr => ?_)
  cases r with
  | inl j => simp only [Rng, Stp] at hr ⊢; omega
  | inr a => exact hr
theorem strR_len (n : Int) : (strR n).length ≤ 4 := by
  unfold strR Utf8.encode
  simp only
  repeat' split
  all_goals simp
end Go.Beacon

/- Models: their checks, and those that are drawn. No program in sight. -/
set_option linter.unusedVariables false
set_option linter.unusedSimpArgs false
namespace Go.Beacon
open Go Go.Eng

/-! scans by place -/
def stp {A : Type} (o : Option A) (i : Int) : Int ⊕ A := match o with
  | some a => .inr a
  | none => .inl (i + 1)
def scanO {α A : Type} (v : Int → α → Option A) (e : A) : List α → Int → A
  | [], _ => e
  | s :: r, i => match v i s with
    | some a => a
    | none => scanO v e r (i + 1)
theorem iter_scanO {α A : Type} (v : Int → α → Option A) (e : A) (xs : List α) (f : Int → Option (Int ⊕ A))
    (hf : ∀ (i : Int) s, 0 ≤ i → i < xs.length → idx xs i = some s → f i = some (stp (v i s) i))
    (he : f xs.length = some (.inr e)) : iter f 0 = some (scanO v e xs 0) := by
  have key : ∀ (n : Nat) (i : Int), 0 ≤ i → i + n = xs.length → iter f i = some (scanO v e (xs.drop i.toNat) i) := by
    intro n
    induction n with
    | zero =>
      intro i h0 hn
      obtain rfl : i = xs.length := by omega
      rw [iter_eq, he, List.drop_of_length_le (by omega)]; rfl
    | succ n ih =>
      intro i h0 hn
      obtain ⟨s, hs, _, hd⟩ := idx_lt xs h0 (by omega)
      rw [iter_eq, hf i s h0 (by omega) hs, hd]
      conv => rhs; unfold scanO
      cases hv : v i s with
      | some a => rfl
      | none =>
        simp only [Option.bind_some, after_inl]
        exact ih (i + 1) (by omega) (by omega)
  have := key xs.length 0 (by omega) (by omega)
  simpa using this
theorem leS_ops (a b : Str) : (Op.bytesLess a b || a == b) = decide (Lib.compareBytes a b ≤ 0) := by
  rw [less_iff, beq_cmp]
  rcases cmpB_vals a b with h | h | h <;> simp [h]
/-! types of properties -/
def MB (m : Model) : Prop := m.Prefix.length ≤ 100 ∧ m.Props.length ≤ 100 ∧ ∀ p ∈ m.Props, p.Name.length ≤ 100
def ptRest (p : PropType) : Option Int :=
  if p.Kind < 1 ∨ 3 < p.Kind then some 4 else if p.Kind = 2 ∧ (p.Low < -1000000000 ∨ p.High < p.Low ∨ 1000000000 < p.High) then some 1 else if ¬ p.Kind = 2 ∧ (p.Low ≠ 0 ∨ p.High ≠ 0) then some 3 else none
def ptV (l : List PropType) (i : Int) (p : PropType) : Option Int :=
  if propB p.Name = false then some 5 else match prevOf l i with
  | some q => if Lib.compareBytes p.Name q.Name ≤ 0 then some 7 else ptRest p
  | none => ptRest p
def ptsF (l : List PropType) : Int := scanO (ptV l) 0 l 0
theorem typesFault_eq {l : List PropType} (hl : l.length ≤ 100) (hn : ∀ p ∈ l, p.Name.length ≤ 100) : device_typesFault l = some (ptsF l) := by
  unfold device_typesFault device_typesFault_l1 ptsF
  refine iter_scanO (ptV l) 0 l _ (fun i s i0 i1 hs => ?_) (by show device_typesFault_b1 l _ = _; rw [device_typesFault_b1, if_neg (by omega)]; rfl)
  have hsn := hn s (idx_mem hs)
  show device_typesFault_b1 l i = _
  rw [device_typesFault_b1, if_pos i1, hs]
  simp only [Option.bind_some]
  rw [Property_eq (by omega)]
  simp only [Option.bind_some]
  unfold ptV
  cases hp : propB s.Name
  · simp [stp]
  simp only [Bool.not_true, Bool.false_eq_true, if_false, Bool.true_eq_false]
  have j1 : ∀ c : Bool, device_typesFault_j1 i s c = some (stp (if c = true then some 7 else ptRest s) i) := by
    intro c
    unfold device_typesFault_j1 device_typesFault_j2 device_typesFault_j3 ptRest
    rw [Out_eq, Out_eq, w64_in (x := i + 1) (by omega) (by omega)]
    cases c with
    | true => rfl
    | false =>
      simp only [Bool.false_eq_true, if_false]
      by_cases h1 : s.Kind < 1 ∨ 3 < s.Kind
      · rw [if_pos (by simp only [Bool.or_eq_true, decide_eq_true_eq]; exact h1), if_pos h1]; rfl
      · rw [if_neg (by simp only [Bool.or_eq_true, decide_eq_true_eq]; exact h1), if_neg h1]
        by_cases h2 : s.Kind = 2 ∧ (s.Low < -1000000000 ∨ s.High < s.Low ∨ 1000000000 < s.High)
        · rw [if_pos (by simp only [Bool.and_eq_true, Bool.or_eq_true, decide_eq_true_eq]; omega), if_pos h2]; rfl
        · rw [if_neg (by simp only [Bool.and_eq_true, Bool.or_eq_true, decide_eq_true_eq]; omega), if_neg h2]
          by_cases h3 : ¬ s.Kind = 2 ∧ (s.Low ≠ 0 ∨ s.High ≠ 0)
          · rw [if_pos (by simp only [Bool.and_eq_true, Bool.or_eq_true, decide_eq_true_eq]; exact h3), if_pos h3]; rfl
          · rw [if_neg (by simp only [Bool.and_eq_true, Bool.or_eq_true, decide_eq_true_eq]; exact h3), if_neg h3]; rfl
  by_cases hi : 0 < i
  · obtain ⟨p, hp, _, _⟩ := idx_lt l (i := i - 1) (by omega) (by omega)
    have hpa : prevOf l i = some p := by unfold prevOf; rw [if_neg (by omega), hp]
    rw [hpa, if_pos hi, w64_in (by omega) (by omega), hp]
    simp only [Option.bind_some]
    rw [j1, leS_ops]
    simp only [decide_eq_true_eq]
  · have hpa : prevOf l i = none := by unfold prevOf; rw [if_pos (by omega)]
    rw [hpa, if_neg hi, j1, if_neg (by simp)]
theorem typesR_eq {m : Model} (hl : m.Props.length ≤ 100) (hn : ∀ p ∈ m.Props, p.Name.length ≤ 100) (n2 : Int) (h2 : 0 ≤ n2 ∧ n2 ≤ 1000) : Q_ModelsFault_l2 n2 m 0 = some (if ptsF m.Props ≠ 0 then .inr (ptsF m.Props) else .inl (n2 + 1)) := by
  unfold Q_ModelsFault_l2
  have main := iter_scanO (fun i p => (ptV m.Props i p).map (Sum.inr : Int → Int ⊕ Int)) (.inl (n2 + 1)) m.Props (fun x : Int => Q_ModelsFault_b2 n2 m x) (fun i s i0 i1 hs => ?_) (by show Q_ModelsFault_b2 n2 m _ = _; rw [Q_ModelsFault_b2, if_neg (by omega), w64_in (by omega) (by omega)]; rfl)
  · refine main.trans ?_
    congr 1
    unfold ptsF
    have hz : ∀ (l : List PropType) (i : Int) p a, ptV l i p = some a → a ≠ 0 := by
      intro l i p a h
      have hr : ∀ p a, ptRest p = some a → a ≠ 0 := by
        intro p a h
        unfold ptRest at h
        split at h
        · rw [← Option.some.inj h]; decide
        · split at h
          · rw [← Option.some.inj h]; decide
          · split at h
            · rw [← Option.some.inj h]; decide
            · cases h
      unfold ptV at h
      split at h
      · rw [← Option.some.inj h]; decide
      · split at h
        · split at h
          · rw [← Option.some.inj h]; decide
          · exact hr _ _ h
        · exact hr _ _ h
    have key : ∀ (r : List PropType) (i : Int), scanO (fun i p => (ptV m.Props i p).map (Sum.inr : Int → Int ⊕ Int)) (.inl (n2 + 1)) r i = if scanO (ptV m.Props) 0 r i ≠ 0 then .inr (scanO (ptV m.Props) 0 r i) else .inl (n2 + 1) := by
      intro r
      induction r with
      | nil => intro i; rfl
      | cons p r ih =>
        intro i
        unfold scanO
        cases hv : ptV m.Props i p with
        | some a => simp only [Option.map_some]; rw [if_pos (hz _ _ _ _ hv)]
        | none => simp only [Option.map_none]; exact ih (i + 1)
    exact key m.Props 0
  · have hsn := hn s (idx_mem hs)
    show Q_ModelsFault_b2 n2 m i = _
    rw [Q_ModelsFault_b2, if_pos i1, hs]
    simp only [Option.bind_some]
    rw [PropName_eq (by omega)]
    simp only [Option.bind_some]
    unfold ptV
    cases hp : propB s.Name
    · simp [stp]
    simp only [Bool.not_true, Bool.false_eq_true, if_false, Bool.true_eq_false]
    have j3 : ∀ c : Bool, Q_ModelsFault_j3 i s c = some (stp ((if c = true then some 7 else ptRest s).map (Sum.inr : Int → Int ⊕ Int)) i) := by
      intro c
      unfold Q_ModelsFault_j3 Q_ModelsFault_j4 Q_ModelsFault_j5 ptRest
      rw [Qin_eq, Qin_eq, w64_in (x := i + 1) (by omega) (by omega)]
      cases c with
      | true => rfl
      | false =>
        simp only [Bool.false_eq_true, if_false]
        by_cases h1 : s.Kind < 1 ∨ 3 < s.Kind
        · rw [if_pos (by simp only [Bool.not_eq_true', Bool.and_eq_false_iff, decide_eq_false_iff_not]; omega), if_pos h1]; rfl
        · rw [if_neg (by simp only [Bool.not_eq_true', Bool.and_eq_false_iff, decide_eq_false_iff_not]; omega), if_neg h1]
          by_cases h2 : s.Kind = 2 ∧ (s.Low < -1000000000 ∨ s.High < s.Low ∨ 1000000000 < s.High)
          · rw [if_pos (by simp only [Bool.and_eq_true, Bool.or_eq_true, Bool.not_eq_true', Bool.and_eq_false_iff, decide_eq_true_eq, decide_eq_false_iff_not]; omega), if_pos h2]; rfl
          · rw [if_neg (by simp only [Bool.and_eq_true, Bool.or_eq_true, Bool.not_eq_true', Bool.and_eq_false_iff, decide_eq_true_eq, decide_eq_false_iff_not]; omega), if_neg h2]
            by_cases h3 : ¬ s.Kind = 2 ∧ (s.Low ≠ 0 ∨ s.High ≠ 0)
            · rw [if_pos (by simp only [Bool.and_eq_true, Bool.or_eq_true, decide_eq_true_eq]; exact h3), if_pos h3]; rfl
            · rw [if_neg (by simp only [Bool.and_eq_true, Bool.or_eq_true, decide_eq_true_eq]; exact h3), if_neg h3]; rfl
    by_cases hi : 0 < i
    · obtain ⟨p, hp, _, _⟩ := idx_lt m.Props (i := i - 1) (by omega) (by omega)
      have hpa : prevOf m.Props i = some p := by unfold prevOf; rw [if_neg (by omega), hp]
      rw [hpa, if_pos hi, w64_in (by omega) (by omega), hp]
      simp only [Option.bind_some]
      rw [j3, leS_ops]
      simp only [decide_eq_true_eq]
    · have hpa : prevOf m.Props i = none := by unfold prevOf; rw [if_pos (by omega)]
      rw [hpa, if_neg hi, j3, if_neg (by simp)]
/-! models -/
abbrev sCaps : Str := [65, 66, 67, 68, 69, 70, 71, 72, 73, 74, 75, 76, 77, 78, 79, 80, 81, 82, 83, 84, 85, 86, 87, 88, 89, 90]
def pfxB (s : Str) : Bool := (decide (2 ≤ s.length) && decide (s.length ≤ 4)) && decide (Lib.trimS s sCaps = [])
theorem isPrefix_eq {s : Str} (h : s.length ≤ 1000) : device_isPrefix s = some (pfxB s) := by
  unfold device_isPrefix device_isPrefix_j1 pfxB
  rw [Out_eq, trimO_eq (by omega) (by decide) (by decide)]
  by_cases c : 2 ≤ s.length ∧ s.length ≤ 4
  · rw [if_pos (by simp only [Bool.not_eq_true', Bool.or_eq_false_iff, decide_eq_false_iff_not]; omega)]
    simp [c.1, c.2]
  · rw [if_neg (by simp only [Bool.not_eq_true', Bool.or_eq_false_iff, decide_eq_false_iff_not]; omega)]
    rw [eq_comm]
    simp
    intro a b; exact absurd ⟨a, b⟩ c
def mdRest (l : List Model) (i : Int) (m : Model) : Option Int :=
  if pfxB m.Prefix = false then some 3 else if (l.take i.toNat).any (fun x => decide (x.Prefix = m.Prefix)) = true then some 6 else if 50 < m.Props.length then some 2 else if ptsF m.Props ≠ 0 then some (ptsF m.Props) else none
def mdV (l : List Model) (i : Int) (m : Model) : Option Int :=
  if keyB m.Key = false then some 5 else match prevOf l i with
  | some q => if Lib.compareBytes m.Key q.Key ≤ 0 then some 7 else mdRest l i m
  | none => mdRest l i m
def mdF (l : List Model) : Int := if 50 < l.length then 2 else scanO (mdV l) 0 l 0
theorem ContM (L : List Model) (fn : Model → Option Bool) (p : Model → Bool) (hf : ∀ x, fn x = some (p x)) (hl : (L.length : Int) ≤ 100000) : slices_ContainsFunc_Model_Model L fn = some (L.any p) :=
  gContainsFunc_eq L fn p (fun x _ => hf x) (by omega)
theorem CheckModels_eq {l : List Model} (h : ∀ m ∈ l, MB m) : device_CheckModels l = some (mdF l) := by
  unfold device_CheckModels mdF
  by_cases h50 : 50 < l.length
  · rw [if_pos (by omega), if_pos h50]
  rw [if_neg (by omega), if_neg h50]
  unfold device_CheckModels_l1
  refine iter_scanO (mdV l) 0 l _ (fun i s i0 i1 hs => ?_) (by show device_CheckModels_b1 l _ = _; rw [device_CheckModels_b1, if_neg (by omega)]; rfl)
  obtain ⟨b1, b2, b3⟩ := h s (idx_mem hs)
  show device_CheckModels_b1 l i = _
  rw [device_CheckModels_b1, if_pos i1, hs]
  simp only [Option.bind_some]
  rw [Key_eq]
  simp only [Option.bind_some]
  unfold mdV
  cases hk : keyB s.Key
  · simp [stp]
  simp only [Bool.not_true, Bool.false_eq_true, if_false, Bool.true_eq_false]
  have j1 : ∀ c : Bool, device_CheckModels_j1 l i s c = some (stp (if c = true then some 7 else mdRest l i s) i) := by
    intro c
    unfold device_CheckModels_j1 mdRest
    cases c with
    | true => rfl
    | false =>
      simp only [Bool.false_eq_true, if_false]
      rw [isPrefix_eq (by omega)]
      simp only [Option.bind_some]
      cases hp : pfxB s.Prefix
      · simp [stp]
      simp only [Bool.not_true, Bool.false_eq_true, if_false, Bool.true_eq_false]
      rw [slc_in (by omega) (by omega) (by omega)]
      simp only [Option.bind_some]
      rw [show (l.drop (0 : Int).toNat).take (i.toNat - (0 : Int).toNat) = l.take i.toNat by simp, ContM _ (fun y0 => some (device_CheckModels_1x y0 s)) (fun x => decide (x.Prefix = s.Prefix)) (fun _ => rfl) (by rw [List.length_take]; omega)]
      simp only [Option.bind_some]
      by_cases ha : (l.take i.toNat).any (fun x => decide (x.Prefix = s.Prefix)) = true
      · rw [if_pos ha, if_pos ha]; rfl
      rw [if_neg ha, if_neg ha]
      by_cases h5 : 50 < s.Props.length
      · rw [if_pos (by omega), if_pos h5]; rfl
      rw [if_neg (by omega), if_neg h5, typesFault_eq b2 b3]
      simp only [Option.bind_some]
      rw [w64_in (by omega) (by omega)]
      by_cases hz : ptsF s.Props ≠ 0
      · rw [if_pos hz, if_pos hz]; rfl
      · rw [if_neg hz, if_neg hz]; rfl
  by_cases hi : 0 < i
  · obtain ⟨p, hp, _, _⟩ := idx_lt l (i := i - 1) (by omega) (by omega)
    have hpa : prevOf l i = some p := by unfold prevOf; rw [if_neg (by omega), hp]
    rw [hpa, if_pos hi, w64_in (by omega) (by omega), hp]
    simp only [Option.bind_some]
    rw [j1, leS_ops]
    simp only [decide_eq_true_eq]
  · have hpa : prevOf l i = none := by unfold prevOf; rw [if_pos (by omega)]
    rw [hpa, if_neg hi, j1, if_neg (by simp)]
theorem upper_small : toUpperO ([97, 98, 99, 100, 101, 102, 103, 104, 105, 106, 107, 108, 109, 110, 111, 112, 113, 114, 115, 116, 117, 118, 119, 120, 121, 122] : Str) = some sCaps := by decide
theorem ModelsFault_eq {l : List Model} (h : ∀ m ∈ l, MB m) : Q_ModelsFault l = some (mdF l) := by
  unfold Q_ModelsFault mdF
  by_cases h50 : 50 < l.length
  · rw [if_pos (by omega), if_pos h50]
  rw [if_neg (by omega), if_neg h50]
  unfold Q_ModelsFault_l1
  refine iter_scanO (mdV l) 0 l _ (fun i s i0 i1 hs => ?_) (by show Q_ModelsFault_b1 l _ = _; rw [Q_ModelsFault_b1, if_neg (by omega)]; rfl)
  obtain ⟨b1, b2, b3⟩ := h s (idx_mem hs)
  show Q_ModelsFault_b1 l i = _
  rw [Q_ModelsFault_b1, if_pos i1, hs]
  simp only [Option.bind_some]
  rw [QKeyT_eq]
  simp only [Option.bind_some]
  unfold mdV
  cases hk : keyB s.Key
  · simp [stp]
  simp only [Bool.not_true, Bool.false_eq_true, if_false, Bool.true_eq_false]
  have j1 : ∀ c : Bool, Q_ModelsFault_j1 l i s c = some (stp (if c = true then some 7 else mdRest l i s) i) := by
    intro c
    unfold Q_ModelsFault_j1 mdRest
    cases c with
    | true => rfl
    | false =>
      simp only [Bool.false_eq_true, if_false]
      rw [Qin_eq, upper_small]
      simp only [Option.bind_some]
      rw [trimO_eq (by omega) (by decide) (by decide)]
      simp only [Option.bind_some]
      have j2 : ∀ c : Bool, Q_ModelsFault_j2 l i s c = some (stp (if c = true then some 3 else if (l.take i.toNat).any (fun x => decide (x.Prefix = s.Prefix)) = true then some 6 else if 50 < s.Props.length then some 2 else if ptsF s.Props ≠ 0 then some (ptsF s.Props) else none) i) := by
        intro c
        unfold Q_ModelsFault_j2
        cases c with
        | true => rfl
        | false =>
          simp only [Bool.false_eq_true, if_false]
          rw [slc_in (by omega) (by omega) (by omega)]
          simp only [Option.bind_some]
          rw [show (l.drop (0 : Int).toNat).take (i.toNat - (0 : Int).toNat) = l.take i.toNat by simp, ContM _ (fun y0 => some (Q_ModelsFault_1x y0 s)) (fun x => decide (x.Prefix = s.Prefix)) (fun _ => rfl) (by rw [List.length_take]; omega)]
          simp only [Option.bind_some]
          by_cases ha : (l.take i.toNat).any (fun x => decide (x.Prefix = s.Prefix)) = true
          · rw [if_pos ha, if_pos ha]; rfl
          rw [if_neg ha, if_neg ha]
          by_cases h5 : 50 < s.Props.length
          · rw [if_pos (by omega), if_pos h5]; rfl
          rw [if_neg (by omega), if_neg h5, typesR_eq b2 b3 i ⟨i0, by omega⟩]
          by_cases hz : ptsF s.Props ≠ 0
          · rw [if_pos hz, if_pos hz]; rfl
          · rw [if_neg hz, if_neg hz]; rfl
      have hpf : (pfxB s.Prefix = false) ↔ ¬ (2 ≤ s.Prefix.length ∧ s.Prefix.length ≤ 4) ∨ Lib.trimS s.Prefix sCaps ≠ [] := by
        unfold pfxB
        by_cases ht : Lib.trimS s.Prefix sCaps = []
        · simp only [ht, decide_true, Bool.and_true, ne_eq, not_true_eq_false, or_false, Bool.and_eq_false_iff, decide_eq_false_iff_not]
          omega
        · simp [ht]
      by_cases hc : 2 ≤ s.Prefix.length ∧ s.Prefix.length ≤ 4
      · rw [if_neg (by simp only [Bool.not_eq_true', Bool.and_eq_false_iff, decide_eq_false_iff_not]; omega), j2]
        by_cases ht : Lib.trimS s.Prefix sCaps = []
        · have hn : ¬ pfxB s.Prefix = false := fun z => by
            rcases hpf.1 z with z | z
            · exact z hc
            · exact z ht
          rw [if_neg hn, if_neg (by simp [ht])]
        · rw [if_pos (hpf.2 (.inr ht)), if_pos (by simp [ht])]
      · rw [if_pos (by simp only [Bool.not_eq_true', Bool.and_eq_false_iff, decide_eq_false_iff_not]; omega), j2, if_pos (hpf.2 (.inl hc)), if_pos rfl]
  by_cases hi : 0 < i
  · obtain ⟨p, hp, _, _⟩ := idx_lt l (i := i - 1) (by omega) (by omega)
    have hpa : prevOf l i = some p := by unfold prevOf; rw [if_neg (by omega), hp]
    rw [hpa, if_pos hi, w64_in (by omega) (by omega), hp]
    simp only [Option.bind_some]
    rw [j1, leS_ops]
    simp only [decide_eq_true_eq]
  · have hpa : prevOf l i = none := by unfold prevOf; rw [if_pos (by omega)]
    rw [hpa, if_neg hi, j1, if_neg (by simp)]
/-! the models that are drawn -/
theorem len_of {l : List Str} {v : Str} (h : v ∈ l) (hl : l.all (fun x => decide (x.length ≤ 40)) = true) : v.length ≤ 40 := by
  have := List.all_eq_true.1 hl v h
  exact of_decide_eq_true this
end Go.Beacon

/- The law PropsChecked. No program in sight. -/
set_option linter.unusedVariables false
set_option linter.unusedSimpArgs false
namespace Go.Beacon
open Go Go.Eng

theorem findI_findP {α : Type} (p : α → Bool) (xs : List α) : (findI p xs 0 < 0 ∧ xs.find? p = none) ∨ ∃ y, 0 ≤ findI p xs 0 ∧ idx xs (findI p xs 0) = some y ∧ xs.find? p = some y := by
  rcases findI_first p xs 0 (by omega) with ⟨e1, e2⟩ | ⟨e1, e2, e3, y, e4, e5⟩
  · exact .inl ⟨by omega, List.find?_eq_none.2 fun x hx => by rw [e2 x hx]; simp⟩
  · right
    refine ⟨y, e1, ?_, ?_⟩
    · unfold idx
      rw [if_pos e1]
      simpa using e4
    · generalize findI p xs 0 = k at e1 e2 e3 e4
      rw [show (k - 0).toNat = k.toNat by simp] at e3 e4
      obtain ⟨h, e4'⟩ := List.getElem?_eq_some_iff.1 e4
      conv => lhs; rw [← List.take_append_drop k.toNat xs]
      rw [List.find?_append, List.find?_eq_none.2 (fun x hx => by rw [e3 x hx]; simp), List.drop_eq_getElem_cons h, e4']
      simp [e5]
/-! properties -/
/-! the properties that are drawn -/
/-! the package is there -/
theorem checkOf_7 : device_checkOf ([65, 66, 48, 48, 48, 48, 48, 48, 48, 55] : Str) = some 77 := by
  unfold device_checkOf device_checkOf_l1
  have st : ∀ (a b c e : Int), device_checkOf_b1 ([65, 66, 48, 48, 48, 48, 48, 48, 48, 55] : Str) a b = some (.inl (c, e)) → iter (fun x : Int × Int => device_checkOf_b1 ([65, 66, 48, 48, 48, 48, 48, 48, 48, 55] : Str) x.1 x.2) (a, b) = iter (fun x : Int × Int => device_checkOf_b1 ([65, 66, 48, 48, 48, 48, 48, 48, 48, 55] : Str) x.1 x.2) (c, e) := by
    intro a b c e h
    rw [iter_eq]
    show (device_checkOf_b1 _ a b).bind _ = _
    rw [h]; rfl
  rw [st 0 0 20 1 (by decide), st 20 1 53 2 (by decide), st 53 2 53 3 (by decide), st 53 3 53 4 (by decide), st 53 4 53 5 (by decide), st 53 5 53 6 (by decide), st 53 6 53 7 (by decide), st 53 7 53 8 (by decide), st 53 8 53 9 (by decide), st 53 9 130 10 (by decide)]
  rw [iter_eq]
  show (device_checkOf_b1 ([65, 66, 48, 48, 48, 48, 48, 48, 48, 55] : Str) 130 10).bind _ = _
  rw [show device_checkOf_b1 ([65, 66, 48, 48, 48, 48, 48, 48, 48, 55] : Str) 130 10 = some (.inr 77) by decide]; rfl
theorem deviced_eq : L_deviced = some true := by
  unfold L_deviced L_deviced_j1 device_Serial device_model
  have hm : ∀ x ∈ [(⟨([109] : Str), ([65, 66] : Str), []⟩ : Model)], MB x := fun x hx => by rw [List.mem_singleton] at hx; subst hx; unfold MB; simp
  rw [CheckModels_eq hm, show mdF [(⟨([109] : Str), ([65, 66] : Str), []⟩ : Model)] = 0 by decide]
  simp only [Option.bind_some]
  rw [if_neg (by simp), show slices_IndexFunc_Model_Model [(⟨([109] : Str), ([65, 66] : Str), []⟩ : Model)] (fun y0 => some (device_model_1x y0 ([109] : Str))) = some (findI (fun y0 => device_model_1x y0 ([109] : Str)) [(⟨([109] : Str), ([65, 66] : Str), []⟩ : Model)] 0) from gIndexFunc_eq _ _ _ (fun _ _ => rfl) (by simp)]
  simp only [Option.bind_some]
  rw [show findI (fun y0 => device_model_1x y0 ([109] : Str)) [(⟨([109] : Str), ([65, 66] : Str), []⟩ : Model)] 0 = 0 by decide, if_neg (by decide), if_neg (by decide), show itoaO 7 = some [55] by unfold itoaO Lib.itoa; rw [if_pos (by omega), if_neg (by omega), Lib.decDigits, dif_pos (by decide)]; rfl]
  simp only [Option.bind_some]
  rw [show repeatO ([48] : Str) (w64 ((8 : Int) - ((([55] : Str).length : Nat) : Int))) = some [48, 48, 48, 48, 48, 48, 48] by decide]
  simp only [Option.bind_some]
  rw [show catO ([48, 48, 48, 48, 48, 48, 48] : Str) [55] = some [48, 48, 48, 48, 48, 48, 48, 55] by decide, show idx [(⟨([109] : Str), ([65, 66] : Str), []⟩ : Model)] 0 = some ⟨([109] : Str), ([65, 66] : Str), []⟩ by rfl]
  simp only [Option.bind_some]
  rw [show catO ([65, 66] : Str) [45] = some [65, 66, 45] by decide]
  simp only [Option.bind_some]
  rw [show catO ([65, 66, 45] : Str) [48, 48, 48, 48, 48, 48, 48, 55] = some [65, 66, 45, 48, 48, 48, 48, 48, 48, 48, 55] by decide]
  simp only [Option.bind_some]
  rw [show catO ([65, 66, 45, 48, 48, 48, 48, 48, 48, 48, 55] : Str) [45] = some [65, 66, 45, 48, 48, 48, 48, 48, 48, 48, 55, 45] by decide, show catO ([65, 66] : Str) [48, 48, 48, 48, 48, 48, 48, 55] = some [65, 66, 48, 48, 48, 48, 48, 48, 48, 55] by decide]
  simp only [Option.bind_some]
  rw [checkOf_7]
  simp only [Option.bind_some]
  rw [show strR 77 = [77] by decide, show catO ([65, 66, 45, 48, 48, 48, 48, 48, 48, 48, 55, 45] : Str) [77] = some [65, 66, 45, 48, 48, 48, 48, 48, 48, 48, 55, 45, 77] by decide]
  simp
end Go.Beacon

/- Reading a text line by line: the program's way and the reference's. No program in sight. -/
set_option linter.unusedVariables false
set_option linter.unusedSimpArgs false
namespace Go.Beacon
open Go Go.Eng

section
variable {α : Type} (pl : Str → Option α)
end
/-! a string that is changed -/
theorem Changed_g {s : Stm} {t w : Str} {K : Int} (hs : SOk s K) (hK : 3 ≤ K) (ht : t.length ≤ 1000000) (hw : w.length ≤ 1000) : Gen (Stream_Changed s t w) (K - 3) (fun r => r.length ≤ t.length + 4 + w.length) := by
  unfold Stream_Changed Stream_Changed_j1
  refine Gen.of ?_
  split
  · exact Ok.ret ⟨by show w.length ≤ _; omega, hs.less (by omega)⟩
  · rename_i hne
    simp only [Bool.or_eq_true, decide_eq_true_eq, not_or] at hne
    have l1 := List.length_pos_iff.2 hne.1
    have l2 := List.length_pos_iff.2 hne.2
    refine Ok.gen (Next_k hs (by omega) (by omega) (by omega)) (fun i s1 h1 q1 => ?_)
    refine Ok.gen (Next_k q1 (by omega) (by omega) (by omega)) (fun j s2 h2 q2 => ?_)
    refine Ok.idx h2.1 h2.2 (fun c hc hm => ?_)
    refine Ok.gen (Next_k q2 (by omega) (by omega) (by omega)) (fun k s3 h3 q3 => ?_)
    dsimp only at h1 h2 h3 ⊢
    have w1 : w64 (i + 1) = i + 1 := w64_in (by omega) (by omega)
    have lr := strR_len (IntKind.i32.wrap (c.toNat : Int))
    rw [w1]
    split
    · refine Ok.slc (by omega) (by omega) (by omega) (fun a ha la => ?_)
      refine Ok.cat (by omega) ?_
      refine Ok.slc (by omega) (by omega) (by omega) (fun b hb lb => ?_)
      refine Ok.cat (by simp; omega) ?_
      exact Ok.ret ⟨by simp; omega, q3.less (by omega)⟩
    · split
      · refine Ok.slc (by omega) (by omega) (by omega) (fun a ha la => ?_)
        refine Ok.cat (by omega) ?_
        refine Ok.slc (by omega) (by omega) (by omega) (fun b hb lb => ?_)
        refine Ok.cat (by simp; omega) ?_
        exact Ok.ret ⟨by simp; omega, q3.less (by omega)⟩
      · refine Ok.slc (by omega) (by omega) (by omega) (fun a ha la => ?_)
        refine Ok.slc (by omega) (by omega) (by omega) (fun b hb lb => ?_)
        refine Ok.cat (by omega) ?_
        exact Ok.ret ⟨by simp; omega, q3.less (by omega)⟩
end Go.Beacon

/- SerialsRead: serials are written and read as the reference does. No program in sight. -/
set_option linter.unusedVariables false
set_option linter.unusedSimpArgs false
namespace Go.Beacon
open Go Go.Eng

def cap36 : Str := [48, 49, 50, 51, 52, 53, 54, 55, 56, 57, 65, 66, 67, 68, 69, 70, 71, 72, 73, 74, 75, 76, 77, 78, 79, 80, 81, 82, 83, 84, 85, 86, 87, 88, 89, 90]
def ix36 (c : UInt8) : Int := Lib.indexByte cap36 c
theorem ix36_all : ∀ n : Fin 256, decide (-1 ≤ ix36 (UInt8.ofNat n.val) ∧ ix36 (UInt8.ofNat n.val) ≤ 35) = true := by decide +kernel
theorem ix36_B (c : UInt8) : -1 ≤ ix36 c ∧ ix36 c ≤ 35 := by
  have := ix36_all ⟨c.toNat, c.toNat_lt⟩
  simpa using this
theorem ix36_mem (c : UInt8) (h : c ∈ cap36) : 0 ≤ ix36 c := Int.not_lt.1 fun h' => (indexByte_nonneg _ _).1 h' h
def sumF : Int → Str → Int
  | _, [] => 0
  | i, c :: r => (i + 2) * ix36 c + sumF (i + 1) r
theorem sumF_nonneg : ∀ (s : Str) (i : Int), 0 ≤ i → (∀ c ∈ s, c ∈ cap36) → 0 ≤ sumF i s
  | [], i, _, _ => by simp [sumF]
  | c :: r, i, h0, h => by
    have h2 := sumF_nonneg r (i + 1) (by omega) (fun x hx => h x (List.mem_cons_of_mem _ hx))
    have h3 := Int.mul_nonneg (show (0 : Int) ≤ i + 2 by omega) (ix36_mem c (h c (by simp)))
    unfold sumF
    omega
/-- The check character. -/
def chk36 (s : Str) : UInt8 := cap36.getD (sumF 0 s % 36).toNat 0
theorem chk_ix {s : Str} (h : 0 ≤ sumF 0 s) : idx cap36 ((sumF 0 s).tmod 36) = some (chk36 s) := by
  have e : (sumF 0 s).tmod 36 = sumF 0 s % 36 := Int.tmod_eq_emod_of_nonneg h
  have h1 : 0 ≤ sumF 0 s % 36 := Int.emod_nonneg _ (by omega)
  have h2 : sumF 0 s % 36 < 36 := Int.emod_lt_of_pos _ (by omega)
  rw [e]
  unfold idx chk36
  rw [if_pos h1, List.getD_eq_getElem?_getD]
  have : (sumF 0 s % 36).toNat < cap36.length := by show _ < 36; omega
  rw [List.getElem?_eq_getElem this]
  rfl
theorem chk_mem (s : Str) : chk36 s ∈ cap36 := by
  have h1 : 0 ≤ sumF 0 s % 36 := Int.emod_nonneg _ (by omega)
  have h2 : sumF 0 s % 36 < 36 := Int.emod_lt_of_pos _ (by omega)
  unfold chk36
  rw [List.getD_eq_getElem?_getD]
  have : (sumF 0 s % 36).toNat < cap36.length := by show _ < 36; omega
  rw [List.getElem?_eq_getElem this]
  exact List.getElem_mem _
theorem cap36_R : ∀ c ∈ cap36, strR (c.toNat : Int) = [c] ∧ c.toNat < 128 := by decide
theorem dcheck_loop (s : Str) (hl : s.length ≤ 200) : ∀ (m : Nat) (n v : Int), 0 ≤ n → n + m = s.length → -(2000 * n : Int) ≤ v → v ≤ 40000 * n → device_checkOf_l1 s v n = device_checkOf_k1 (v + sumF n (s.drop n.toNat)) := by
  intro m
  induction m with
  | zero =>
    intro n v h0 hn _ _
    unfold device_checkOf_l1
    rw [iter_eq]
    show (device_checkOf_b1 s v n).bind _ = _
    rw [device_checkOf_b1, if_neg (by omega), map_inr_after, List.drop_of_length_le (by omega)]
    simp [sumF]
  | succ m ih =>
    intro n v h0 hn hv1 hv2
    obtain ⟨c, hc, _, hd⟩ := idx_lt s h0 (by omega)
    have h3 := ix36_B c
    have h4 : (n + 2) * (-1) ≤ (n + 2) * ix36 c := Int.mul_le_mul_of_nonneg_left h3.1 (by omega)
    have h5 : (n + 2) * ix36 c ≤ (n + 2) * 35 := Int.mul_le_mul_of_nonneg_left h3.2 (by omega)
    have ih' := ih (n + 1) (v + (n + 2) * ix36 c) (by omega) (by omega) (by omega) (by omega)
    unfold device_checkOf_l1 at ih' ⊢
    rw [iter_eq]
    show (device_checkOf_b1 s v n).bind _ = _
    rw [device_checkOf_b1, if_pos (by omega), hc]
    simp only [Option.bind_some, after_inl]
    have e1 : indexByteI [48, 49, 50, 51, 52, 53, 54, 55, 56, 57, 65, 66, 67, 68, 69, 70, 71, 72, 73, 74, 75, 76, 77, 78, 79, 80, 81, 82, 83, 84, 85, 86, 87, 88, 89, 90] (c.toNat : Int) = ix36 c := by
      simp only [indexByteI, toU8]; rfl
    rw [e1, w64_in (x := n + 2) (by omega) (by omega), w64_in (x := (n + 2) * ix36 c) (by omega) (by omega), w64_in (x := v + (n + 2) * ix36 c) (by omega) (by omega), w64_in (x := n + 1) (by omega) (by omega), ih', hd]
    congr 1
    show _ = v + ((n + 2) * ix36 c + sumF (n + 1) _)
    omega
theorem dcheck_eq (s : Str) (hl : s.length ≤ 200) (h : 0 ≤ sumF 0 s) : device_checkOf s = some ((chk36 s).toNat : Int) := by
  unfold device_checkOf
  rw [dcheck_loop s hl s.length 0 0 (by omega) (by omega) (by omega) (by omega)]
  unfold device_checkOf_k1
  rw [show (0 : Int) + sumF 0 (s.drop (0 : Int).toNat) = sumF 0 s by simp]
  show (idx cap36 ((sumF 0 s).tmod 36)).bind (fun c6 : UInt8 => some (c6.toNat : Int)) = _
  rw [chk_ix h]
  rfl
set_option maxRecDepth 100000 in
theorem qcheck_loop (s : Str) (hl : s.length ≤ 200) (ha : ∀ c ∈ s, c.toNat < 128) : ∀ (m n : Nat) (v : Int), n + m = s.length → -(2000 * n : Int) ≤ v → v ≤ 40000 * n → Q_checkOf_l1 s v n = Q_checkOf_k1 (v + sumF n (s.drop n)) := by
  intro m
  induction m with
  | zero =>
    intro n v hn _ _
    unfold Q_checkOf_l1
    rw [iter_eq]
    show (Q_checkOf_b1 s v n).bind _ = _
    rw [Q_checkOf_b1, if_neg (by omega), map_inr_after, List.drop_of_length_le (by omega)]
    simp [sumF]
  | succ m ih =>
    intro n v hn hv1 hv2
    have hlt : n < s.length := by omega
    have hcm := List.getElem_mem hlt
    obtain ⟨r1, r2⟩ := runeAt_ascii hlt (ha _ hcm)
    have h3 := ix36_B s[n]
    have h4 : ((n : Int) + 2) * (-1) ≤ ((n : Int) + 2) * ix36 s[n] := Int.mul_le_mul_of_nonneg_left h3.1 (by omega)
    have h5 : ((n : Int) + 2) * ix36 s[n] ≤ ((n : Int) + 2) * 35 := Int.mul_le_mul_of_nonneg_left h3.2 (by omega)
    have ih' := ih (n + 1) (v + ((n : Int) + 2) * ix36 s[n]) (by omega) (by omega) (by omega)
    unfold Q_checkOf_l1 at ih' ⊢
    rw [iter_eq]
    show (Q_checkOf_b1 s v n).bind _ = _
    rw [Q_checkOf_b1, if_pos (by omega), r1, r2]
    have e1 : indexRuneO [48, 49, 50, 51, 52, 53, 54, 55, 56, 57, 65, 66, 67, 68, 69, 70, 71, 72, 73, 74, 75, 76, 77, 78, 79, 80, 81, 82, 83, 84, 85, 86, 87, 88, 89, 90] (s[n].toNat : Int) = some (ix36 s[n]) := by
      have := ha _ hcm
      unfold indexRuneO
      rw [if_pos ⟨by omega, by omega⟩]
      simp only [indexByteI, toU8]; rfl
    rw [e1]
    simp only [Option.bind_some, after_inl]
    rw [w64_in (x := (n : Int) + 2) (by omega) (by omega), w64_in (x := ((n : Int) + 2) * ix36 s[n]) (by omega) (by omega), w64_in (x := v + ((n : Int) + 2) * ix36 s[n]) (by omega) (by omega), ih', List.drop_eq_getElem_cons hlt]
    congr 1
    show _ = v + (((n : Int) + 2) * ix36 s[n] + sumF ((n : Int) + 1) _)
    push_cast
    omega
theorem qcheck_eq (s : Str) (hl : s.length ≤ 200) (ha : ∀ c ∈ s, c.toNat < 128) (h : 0 ≤ sumF 0 s) : Q_checkOf s = some [chk36 s] := by
  unfold Q_checkOf
  rw [qcheck_loop s hl ha s.length 0 0 (by omega) (by omega) (by omega)]
  unfold Q_checkOf_k1
  rw [show (0 : Int) + sumF ((0 : Nat) : Int) (s.drop 0) = sumF 0 s by simp]
  show (idx cap36 ((sumF 0 s).tmod 36)).bind (fun c6 : UInt8 => some (strR (c6.toNat : Int))) = _
  rw [chk_ix h]
  simp only [Option.bind_some]
  rw [(cap36_R _ (chk_mem s)).1]
/-! serials -/
theorem repeatL_one : ∀ n : Nat, Lib.repeatL [48] n = zeros n := by
  intro n
  unfold zeros
  induction n with
  | zero => rfl
  | succ n ih => simp [Lib.repeatL, ih, List.replicate_succ]
def serS (p : Str) (n : Nat) : Str := p ++ [45] ++ eight n ++ [45] ++ [chk36 (p ++ eight n)]
theorem dig_cap : ∀ n : Fin 256, (!(isDig (UInt8.ofNat n.val)) || decide (UInt8.ofNat n.val ∈ cap36)) = true := by decide +kernel
theorem isDig_cap {c : UInt8} (h : isDig c = true) : c ∈ cap36 := by
  have := dig_cap ⟨c.toNat, c.toNat_lt⟩
  simp at this
  rcases this with h' | h'
  · rw [h] at h'; cases h'
  · exact h'
theorem eight_cap (n : Nat) : ∀ c ∈ eight n, c ∈ cap36 := fun c hc => isDig_cap (List.all_eq_true.1 eight_dig c hc)
theorem serialOf_eq {p : Str} {n : Int} (hp : p.length ≤ 100) (ha : ∀ c ∈ p, c.toNat < 128) (h0 : 0 ≤ n) (h1 : n < 100000000) (hs : 0 ≤ sumF 0 (p ++ eight n.toNat)) : Q_serialOf p n = some (serS p n.toNat) := by
  have h8 := eight_len (n := n.toNat) (by omega)
  unfold Q_serialOf
  rw [w64_in (by omega) (by omega), itoa_in (by omega) (by omega), itoa_eight h0 h1]
  simp only [Option.bind_some]
  rw [show slc (49 :: eight n.toNat) 1 (((49 :: eight n.toNat).length : Nat) : Int) = some (eight n.toNat) by
    rw [slc_in (by omega) (by simp only [List.length_cons]; omega) (by omega)]
    congr 1
    rw [show (1 : Int).toNat = 1 from rfl, List.drop_succ_cons, List.drop_zero]
    exact List.take_of_length_le (by simp only [List.length_cons]; omega)]
  simp only [Option.bind_some]
  rw [cat_le (by simp; omega)]
  simp only [Option.bind_some]
  rw [cat_le (by simp; omega)]
  simp only [Option.bind_some]
  rw [cat_le (by simp; omega)]
  simp only [Option.bind_some]
  rw [cat_le (by omega)]
  simp only [Option.bind_some]
  rw [qcheck_eq _ (by simp; omega) (fun c hc => by
    rcases List.mem_append.1 hc with h | h
    · exact ha c h
    · exact (cap36_R c (eight_cap _ c h)).2) hs]
  simp only [Option.bind_some]
  rw [cat_le (by simp; omega)]
  rfl
theorem serS_len {p : Str} {n : Nat} (hp : p.length ≤ 100) (h : n < 100000000) : (serS p n).length ≤ 120 := by
  have h8 := eight_len h
  unfold serS
  simp only [List.length_append, List.length_cons, List.length_nil]
  omega
theorem pfx_cap {s : Str} (h : pfxB s = true) : (∀ c ∈ s, c ∈ cap36) ∧ 2 ≤ s.length ∧ s.length ≤ 4 := by
  unfold pfxB at h
  simp only [Bool.and_eq_true, decide_eq_true_eq] at h
  refine ⟨fun c hc => ?_, h.1⟩
  have := List.all_eq_true.1 ((trimS_nil _ _).1 h.2) c hc
  have hm : c ∈ sCaps := by simpa using this
  exact (by decide : ∀ c ∈ sCaps, c ∈ cap36) c hm
theorem scanO_zero {α : Type} (v : Int → α → Option Int) : ∀ (l : List α) (i : Int), (∀ j x, v j x ≠ some 0) → scanO v 0 l i = 0 → ∀ k (h : k < l.length), v (i + k) l[k] = none
  | [], i, _, _ => fun k h => by simp at h
  | x :: r, i, hv, h => by
    intro k hk
    unfold scanO at h
    cases hx : v i x with
    | some a =>
      rw [hx] at h
      simp only at h
      exact absurd (by rw [hx, h]) (hv i x)
    | none =>
      rw [hx] at h
      cases k with
      | zero => simpa using hx
      | succ k =>
        have := scanO_zero v r (i + 1) hv h k (by simpa using hk)
        rw [show i + ((k + 1 : Nat) : Int) = i + 1 + k by push_cast; omega]
        simpa using this
theorem mdV_ne (l : List Model) (j : Int) (x : Model) : mdV l j x ≠ some 0 := by
  unfold mdV
  split
  · simp
  · have : mdRest l j x ≠ some 0 := by
      unfold mdRest
      repeat' split
      all_goals first | (simp; done) | (rename_i h; simpa using h)
    split
    · split
      · simp
      · exact this
    · exact this
theorem mdF_pfx {l : List Model} (h : mdF l = 0) : ∀ m ∈ l, pfxB m.Prefix = true := by
  intro m hm
  obtain ⟨k, hk, rfl⟩ := List.getElem_of_mem hm
  unfold mdF at h
  split at h
  · cases h
  · have := scanO_zero (mdV l) l 0 (mdV_ne l) h k hk
    unfold mdV at this
    split at this
    · cases this
    · have hr : mdRest l (0 + k) l[k] = none := by
        split at this
        · split at this
          · cases this
          · exact this
        · exact this
      unfold mdRest at hr
      split at hr
      · cases hr
      · rename_i hp; simpa using hp
set_option maxRecDepth 100000 in
theorem Serial_eq {l : List Model} (hl : l.length ≤ 3) (hB : ∀ m ∈ l, MB m) (h0 : mdF l = 0) (k : Str) (n : Int) (hn : -1000 ≤ n ∧ n ≤ 1000000000) : ∃ z, device_Serial l k n = some z ∧ Q_SerialOf l k n = some z := by
  unfold device_Serial Q_SerialOf device_model Q_modelAt
  rw [CheckModels_eq hB, h0]
  simp only [Option.bind_some]
  have e1 : slices_IndexFunc_Model_Model l (fun y0 => some (device_model_1x y0 k)) = some (findI (fun m : Model => decide (m.Key = k)) l 0) := gIndexFunc_eq l _ _ (fun _ _ => rfl) (by omega)
  have e2 : slices_IndexFunc_Model_Model l (fun y0 => some (Q_modelAt_1x y0 k)) = some (findI (fun m : Model => decide (m.Key = k)) l 0) := gIndexFunc_eq l _ _ (fun _ _ => rfl) (by omega)
  rw [if_neg (by simp), e1, e2]
  simp only [Option.bind_some]
  rcases findI_findP (fun m : Model => decide (m.Key = k)) l with ⟨f1, _⟩ | ⟨y, f1, f2, f3⟩
  · rw [if_pos f1, if_pos f1]; exact ⟨_, rfl, rfl⟩
  · have hneg : ¬ (findI (fun m : Model => decide (m.Key = k)) l 0 < 0) := by omega
    rw [if_neg hneg, if_neg hneg]
    by_cases hr : 1 ≤ n ∧ n ≤ 99999999
    · rw [Out_eq, Qin_eq]
      rw [show (decide (n < 1) || decide (99999999 < n)) = false by simp; omega, show (decide (1 ≤ n) && decide (n ≤ 99999999)) = true by simp; omega, if_neg (by simp), if_neg (by simp), f2]
      simp only [Option.bind_some]
      have hy := mdF_pfx h0 y (idx_mem f2)
      obtain ⟨c1, c2, c3⟩ := pfx_cap hy
      have h8 := eight_len (n := n.toNat) (by omega)
      have hcap : ∀ c ∈ y.Prefix ++ eight n.toNat, c ∈ cap36 := fun c hc => by
        rcases List.mem_append.1 hc with h | h
        · exact c1 c h
        · exact eight_cap _ c h
      have hs := sumF_nonneg (y.Prefix ++ eight n.toNat) 0 (by omega) hcap
      rw [serialOf_eq (by omega) (fun c hc => (cap36_R c (c1 c hc)).2) (by omega) (by omega) hs, itoa_in (by omega) (by omega)]
      simp only [Option.bind_some]
      have hd := decDigits_len (k := 8) (n := n.toNat) (by simp; omega) (by omega)
      have hit : Lib.itoa n = Lib.decDigits n.toNat := by unfold Lib.itoa; rw [if_neg (by omega)]
      rw [hit, w64_in (by omega) (by omega)]
      have hrep : repeatO [48] ((8 : Int) - ((Lib.decDigits n.toNat).length : Int)) = some (zeros (8 - (Lib.decDigits n.toNat).length)) := by
        unfold repeatO
        have e8 : ((8 : Int) - ((Lib.decDigits n.toNat).length : Int)).toNat = 8 - (Lib.decDigits n.toNat).length := by omega
        rw [if_pos ⟨by omega, by omega, by rw [e8]; simp; omega⟩, e8, repeatL_one]
      rw [hrep]
      simp only [Option.bind_some]
      have hz : (zeros (8 - (Lib.decDigits n.toNat).length)).length ≤ 8 := by unfold zeros; simp
      rw [cat_le (by omega)]
      simp only [Option.bind_some]
      rw [show zeros (8 - (Lib.decDigits n.toNat).length) ++ Lib.decDigits n.toNat = eight n.toNat from rfl, cat_le (by simp; omega)]
      simp only [Option.bind_some]
      rw [cat_le (by simp; omega)]
      simp only [Option.bind_some]
      rw [cat_le (by simp; omega)]
      simp only [Option.bind_some]
      rw [cat_le (by omega)]
      simp only [Option.bind_some]
      rw [dcheck_eq _ (by simp; omega) hs]
      simp only [Option.bind_some]
      rw [(cap36_R _ (chk_mem _)).1, cat_le (by simp; omega)]
      exact ⟨_, rfl, rfl⟩
    · rw [Out_eq, Qin_eq]
      rw [show (decide (n < 1) || decide (99999999 < n)) = true by simp; omega, show (decide (1 ≤ n) && decide (n ≤ 99999999)) = false by simp; omega, if_pos rfl, if_pos (by simp)]
      exact ⟨_, rfl, rfl⟩
/-! capital letters -/
def up1 (c : UInt8) : UInt8 := if 97 ≤ c.toNat ∧ c.toNat ≤ 122 then c - 32 else c
def upS (s : Str) : Str := s.map up1
theorem up1_all : ∀ n : Fin 256, decide (((up1 (UInt8.ofNat n.val)).toNat : Int) = if 97 ≤ n.val ∧ n.val ≤ 122 then (n.val : Int) - 32 else n.val) = true := by decide +kernel
theorem up1_val (c : UInt8) : ((up1 c).toNat : Int) = if 97 ≤ c.toNat ∧ c.toNat ≤ 122 then (c.toNat : Int) - 32 else c.toNat := by
  have := up1_all ⟨c.toNat, c.toNat_lt⟩
  simpa using this
theorem strB_bytes (s : Str) : strB (bytesI s) = s := by
  unfold strB bytesI
  rw [List.map_map]
  conv => rhs; rw [← List.map_id s]
  apply List.map_congr_left
  intro c _
  simp
theorem u8w {n : Int} (h : 0 ≤ n ∧ n < 256) : IntKind.u8.wrap n = n := by
  unfold IntKind.wrap
  simp [IntKind.bits, IntKind.signed]
  omega
theorem bytesI_app (a b : Str) : bytesI (a ++ b) = bytesI a ++ bytesI b := by unfold bytesI; rw [List.map_append]
theorem cap_loop : ∀ (B A : Str), A.length + B.length ≤ 1000000 → device_capital_l1 (A ++ B) (bytesI (upS A ++ B)) A.length = some (upS (A ++ B))
  | [], A, _ => by
    unfold device_capital_l1
    rw [iter_eq]
    show (device_capital_b1 _ _ _).bind _ = _
    unfold device_capital_b1
    rw [if_neg (by simp [bytesI]), map_inr_after, List.append_nil, List.append_nil, strB_bytes]
  | c :: r, A, h => by
    have ih := cap_loop r (A ++ [c]) (by simp only [List.length_append, List.length_cons, List.length_nil] at h ⊢; omega)
    rw [List.append_assoc, List.singleton_append] at ih
    have hA : (bytesI (upS A)).length = A.length := by simp [bytesI, upS]
    have hi : idx (bytesI (upS A ++ c :: r)) (A.length : Int) = some (c.toNat : Int) := by
      unfold idx
      rw [if_pos (by omega), bytesI_app, Int.toNat_natCast, List.getElem?_append_right (by omega), hA, Nat.sub_self]
      rfl
    have hset : ∀ z : Int, (bytesI (upS A ++ c :: r)).set (A.length : Int).toNat z = bytesI (upS A) ++ z :: bytesI r := by
      intro z
      rw [bytesI_app, Int.toNat_natCast, List.set_append_right _ _ (by omega), hA, Nat.sub_self]
      rfl
    have hnew : bytesI (upS A) ++ ((up1 c).toNat : Int) :: bytesI r = bytesI (upS (A ++ [c]) ++ r) := by
      unfold upS
      rw [List.map_append, bytesI_app, bytesI_app, List.append_assoc]
      rfl
    unfold device_capital_l1 at ih ⊢
    rw [iter_eq]
    show (device_capital_b1 _ _ _).bind _ = _
    unfold device_capital_b1
    rw [if_pos (by simp [bytesI]; omega), hi]
    simp only [Option.bind_some]
    have hv := up1_val c
    have hfin : ((some (.inl (bytesI (upS (A ++ [c]) ++ r), w64 ((A.length : Int) + 1))) : Option (((List Int) × Int) ⊕ Str)).bind (after (iter fun x : (List Int) × Int => device_capital_b1 (A ++ c :: r) x.1 x.2))) = some (upS (A ++ c :: r)) := by
      simp only [Option.bind_some, after_inl]
      simp only [List.length_append, List.length_cons, List.length_nil] at h ih
      rw [w64_in (by omega) (by omega)]
      rw [show (A.length : Int) + 1 = ((A.length + (0 + 1) : Nat) : Int) by push_cast; omega]
      exact ih
    by_cases hc : 97 ≤ c.toNat ∧ c.toNat ≤ 122
    · rw [if_pos hc] at hv
      rw [show (decide ((97 : Int) ≤ (c.toNat : Int)) && decide ((c.toNat : Int) ≤ 122)) = true by simp; omega]
      unfold device_capital_j1 device_capital_j2
      rw [if_pos rfl, hi]
      simp only [Option.bind_some]
      rw [u8w (by omega), hset, ← hv, hnew]
      exact hfin
    · rw [if_neg hc] at hv
      rw [show (decide ((97 : Int) ≤ (c.toNat : Int)) && decide ((c.toNat : Int) ≤ 122)) = false by simp; omega]
      unfold device_capital_j1 device_capital_j2
      rw [if_neg (by simp)]
      have : bytesI (upS A ++ c :: r) = bytesI (upS (A ++ [c]) ++ r) := by
        rw [← hnew, hv, bytesI_app]; rfl
      rw [this]
      exact hfin
theorem capital_eq (s : Str) (h : s.length ≤ 1000000) : device_capital s = some (upS s) := by
  have := cap_loop s [] (by simpa using h)
  simpa [device_capital, upS] using this
theorem upper_eq (s : Str) (h : s.length ≤ 1000000) : Q_upper s = some (upS s) := by
  rw [← capital_eq s h]; rfl
/-! reading -/
end Go.Beacon

/- SerialsRead: the law. No program in sight. -/
set_option linter.unusedVariables false
set_option linter.unusedSimpArgs false
namespace Go.Beacon
open Go Go.Eng

theorem three_of {L : List Str} (h : L.length = 3) : ∃ a b c, L = [a, b, c] := by
  match L, h with
  | [a, b, c], _ => exact ⟨a, b, c, rfl⟩
theorem one_of {L : Str} (h : L.length = 1) : ∃ x, L = [x] := by
  match L, h with
  | [x], _ => exact ⟨x, rfl⟩
def dig10 : Str := [48, 49, 50, 51, 52, 53, 54, 55, 56, 57]
/-- The form of a serial's three parts. -/
def SF (a b c : Str) : Prop := pfxB a = true ∧ b.length = 8 ∧ Lib.trimS b dig10 = [] ∧ c.length = 1 ∧ Lib.trimS c cap36 = []
instance (a b c : Str) : Decidable (SF a b c) := by unfold SF; exact inferInstance
theorem trim_dig {b : Str} : Lib.trimS b dig10 = [] ↔ b.all isDig = true := by
  rw [trimS_nil, show (fun c => decide (c ∈ dig10)) = isDig from funext mem_dig]
theorem upS_len (s : Str) : (upS s).length = s.length := by simp [upS]
theorem prog_form (l : List Model) (a b c : Str) (ha : a.length ≤ 1000) (hb : b.length ≤ 1000) (hc : c.length ≤ 1000) :
    ((device_isPrefix a).bind fun v8 =>
      if (!v8) = true then
        device_ReadSerial_j1 l [a, b, c] true
      else
        (idx [a, b, c] (1 : Int)).bind fun v9 =>
        if (v9.length : Int) ≠ (8 : Int) then
          device_ReadSerial_j1 l [a, b, c] true
        else
          (idx [a, b, c] (1 : Int)).bind fun v10 =>
          (trimO v10 ([48, 49, 50, 51, 52, 53, 54, 55, 56, 57] : Str)).bind fun v11 =>
          if v11 ≠ ([] : Str) then
            device_ReadSerial_j1 l [a, b, c] true
          else
            (idx [a, b, c] (2 : Int)).bind fun v12 =>
            if (v12.length : Int) ≠ (1 : Int) then
              device_ReadSerial_j1 l [a, b, c] true
            else
              (idx [a, b, c] (2 : Int)).bind fun v13 =>
              (trimO v13 cap36).bind fun v14 =>
              device_ReadSerial_j1 l [a, b, c] (decide (v14 ≠ ([] : Str)))) = device_ReadSerial_j1 l [a, b, c] (decide ¬ SF a b c) := by
  rw [isPrefix_eq ha, show idx [a, b, c] 1 = some b from rfl, show idx [a, b, c] 2 = some c from rfl]
  simp only [Option.bind_some]
  rw [trimO_eq (by omega) (by decide) (by decide), trimO_eq (by omega) (by decide) (by decide)]
  simp only [Option.bind_some]
  have hno : ¬ SF a b c → decide (¬ SF a b c) = true := fun h => decide_eq_true h
  by_cases c1 : pfxB a = true
  · rw [c1, if_neg (by simp)]
    by_cases c2 : b.length = 8
    · rw [if_neg (by omega)]
      by_cases c3 : Lib.trimS b [48, 49, 50, 51, 52, 53, 54, 55, 56, 57] = []
      · rw [if_neg (fun h => h c3)]
        by_cases c4 : c.length = 1
        · rw [if_neg (by omega)]
          congr 1
          rw [decide_eq_decide]
          exact not_congr ⟨fun h => ⟨c1, c2, c3, c4, h⟩, fun h => h.2.2.2.2⟩
        · rw [if_pos (by omega), hno (fun h : SF a b c => c4 h.2.2.2.1)]
      · rw [if_pos c3, hno (fun h : SF a b c => c3 h.2.2.1)]
    · rw [if_pos (by omega), hno (fun h : SF a b c => c2 h.2.1)]
  · rw [Bool.not_eq_true] at c1
    rw [c1, if_pos (by simp), hno (fun h : SF a b c => by have := h.1; rw [c1] at this; cases this)]
theorem ref_form (l : List Model) (t a b c : Str) (ha : a.length ≤ 1000) (hb : b.length ≤ 1000) (hc : c.length ≤ 1000) :
    (if (!(Q_in (a.length : Int) (2 : Int) (4 : Int))) = true then
      Q_SerialRead_j1 l t [a, b, c] true
    else
      (idx [a, b, c] (0 : Int)).bind fun v7 =>
      (toUpperO ([97, 98, 99, 100, 101, 102, 103, 104, 105, 106, 107, 108, 109, 110, 111, 112, 113, 114, 115, 116, 117, 118, 119, 120, 121, 122] : Str)).bind fun v8 =>
      (trimO v7 v8).bind fun v9 =>
      if v9 ≠ ([] : Str) then
        Q_SerialRead_j1 l t [a, b, c] true
      else
        (idx [a, b, c] (1 : Int)).bind fun v10 =>
        if (v10.length : Int) ≠ (8 : Int) then
          Q_SerialRead_j1 l t [a, b, c] true
        else
          (idx [a, b, c] (1 : Int)).bind fun v11 =>
          (trimO v11 ([48, 49, 50, 51, 52, 53, 54, 55, 56, 57] : Str)).bind fun v12 =>
          if v12 ≠ ([] : Str) then
            Q_SerialRead_j1 l t [a, b, c] true
          else
            (idx [a, b, c] (2 : Int)).bind fun v13 =>
            if (v13.length : Int) ≠ (1 : Int) then
              Q_SerialRead_j1 l t [a, b, c] true
            else
              (idx [a, b, c] (2 : Int)).bind fun v14 =>
              (strings_Contains cap36 v14).bind fun v15 =>
              Q_SerialRead_j1 l t [a, b, c] (!v15)) = Q_SerialRead_j1 l t [a, b, c] (decide ¬ SF a b c) := by
  rw [upper_small, show idx [a, b, c] 0 = some a from rfl, show idx [a, b, c] 1 = some b from rfl, show idx [a, b, c] 2 = some c from rfl]
  simp only [Option.bind_some]
  rw [trimO_eq (by omega) (by decide) (by decide), trimO_eq (by omega) (by decide) (by decide), Qin_eq]
  simp only [Option.bind_some]
  have hno : ¬ SF a b c → decide (¬ SF a b c) = true := fun h => decide_eq_true h
  by_cases c0 : 2 ≤ a.length ∧ a.length ≤ 4
  · rw [if_neg (by simp; omega)]
    by_cases c1 : Lib.trimS a sCaps = []
    · rw [if_neg (fun h => h c1)]
      have hp : pfxB a = true := by unfold pfxB; simp [c0.1, c0.2, c1]
      by_cases c2 : b.length = 8
      · rw [if_neg (by omega)]
        by_cases c3 : Lib.trimS b [48, 49, 50, 51, 52, 53, 54, 55, 56, 57] = []
        · rw [if_neg (fun h => h c3)]
          by_cases c4 : c.length = 1
          · rw [if_neg (by omega)]
            obtain ⟨x, rfl⟩ := one_of c4
            unfold strings_Contains
            rw [show indexO cap36 [x] = some (Lib.indexByte cap36 x) from rfl]
            simp only [Option.bind_some]
            congr 1
            have hx : 0 ≤ Lib.indexByte cap36 x ↔ Lib.trimS [x] cap36 = [] := by
              rw [trimS_nil]
              simp only [List.all_cons, List.all_nil, Bool.and_true, decide_eq_true_eq]
              constructor
              · intro h
                by_cases hm : x ∈ cap36
                · exact hm
                · have := (indexByte_nonneg cap36 x).2 hm; omega
              · exact fun h => ix36_mem x h
            rw [← decide_not, decide_eq_decide]
            exact not_congr ⟨fun h => ⟨hp, c2, c3, c4, hx.1 h⟩, fun h => hx.2 h.2.2.2.2⟩
          · rw [if_pos (by omega), hno (fun h : SF a b c => c4 h.2.2.2.1)]
        · rw [if_pos c3, hno (fun h : SF a b c => c3 h.2.2.1)]
      · rw [if_pos (by omega), hno (fun h : SF a b c => c2 h.2.1)]
    · rw [if_pos c1, hno (fun h : SF a b c => by
        have := h.1
        unfold pfxB at this
        simp only [Bool.and_eq_true, decide_eq_true_eq] at this
        exact c1 this.2)]
  · rw [if_pos (by simp; omega), hno (fun h : SF a b c => by
      have := h.1
      unfold pfxB at this
      simp only [Bool.and_eq_true, decide_eq_true_eq] at this
      exact c0 this.1)]
theorem atoi_nat {b : Str} {m : Nat} (hm : Lib.decFrom 0 b = some m) (h8 : b.length = 8) : atoiO b = some ((m : Int), true) := by
  refine atoiO_eq (by omega) ?_
  have hall := all_decFrom _ _ _ hm
  have hN : Lib.decNat b = some m := by unfold Lib.decNat; rw [if_neg (by intro e; simp at e; subst e; simp at h8), hm]
  cases b with
  | nil => simp at h8
  | cons x r =>
    simp only [List.all_cons, Bool.and_eq_true] at hall
    have n45 : x ≠ 45 := fun h => by have := hall.1; rw [h] at this; simp [isDig] at this
    have n43 : x ≠ 43 := fun h => by have := hall.1; rw [h] at this; simp [isDig] at this
    rw [Lib.atoi]
    simp only [beq_iff_eq, n45, n43, if_false]
    rw [hN]
    rfl
set_option maxRecDepth 100000 in
theorem Read_same {l : List Model} (hl : l.length ≤ 3) (hB : ∀ m ∈ l, MB m) (h0 : mdF l = 0) (t : Str) (ht : t.length ≤ 1000) : ∃ z, device_ReadSerial l t = some z ∧ Q_SerialRead l t = some z := by
  unfold device_ReadSerial Q_SerialRead
  rw [CheckModels_eq hB, h0, capital_eq t (by omega), upper_eq t (by omega)]
  simp only [Option.bind_some]
  have hul := upS_len t
  rw [if_neg (by simp), splitO_eq (by omega)]
  simp only [Option.bind_some]
  have hj1 : ∀ W, device_ReadSerial_j1 l W true = some ([], 0, 9) := fun _ => rfl
  have hj2 : ∀ W, Q_SerialRead_j1 l t W true = some ([], 0, 9) := fun _ => rfl
  by_cases hW : (splitC 45 (upS t)).length = 3
  · obtain ⟨a, b, c, q⟩ := three_of hW
    have hp := splitC_part 45 (upS t)
    have hj := joinC_split 45 (upS t)
    rw [q] at hp hj ⊢
    have ha := (hp a (by simp)).1
    have hb := (hp b (by simp)).1
    have hc := (hp c (by simp)).1
    have h3 : ¬ ((([a, b, c] : List Str).length : Nat) : Int) ≠ 3 := by simp
    rw [if_neg h3, if_neg h3, show idx [a, b, c] 0 = some a from rfl]
    simp only [Option.bind_some]
    have e1 := prog_form l a b c (by omega) (by omega) (by omega)
    have e2 := ref_form l t a b c (by omega) (by omega) (by omega)
    refine ⟨(device_ReadSerial_j1 l [a, b, c] (decide ¬ SF a b c)).getD ([], 0, 0), ?_⟩
    suffices hs : ∃ z, device_ReadSerial_j1 l [a, b, c] (decide ¬ SF a b c) = some z ∧ Q_SerialRead_j1 l t [a, b, c] (decide ¬ SF a b c) = some z by
      obtain ⟨z, z1, z2⟩ := hs
      rw [z1]
      exact ⟨Eq.trans e1 z1, Eq.trans e2 z2⟩
    by_cases hS : SF a b c
    · rw [show decide (¬ SF a b c) = false from decide_eq_false (fun h => h hS)]
      obtain ⟨s1, s2, s3, s4, s5⟩ := hS
      obtain ⟨x, rfl⟩ := one_of s4
      obtain ⟨p1, p2, p3⟩ := pfx_cap s1
      have hd := trim_dig.1 s3
      obtain ⟨m, hm⟩ := decFrom_all b 0 hd
      have hm8 : m < 100000000 := by
        have := Lib.decFrom_lt b 0 m hm
        rw [s2] at this
        simpa using this
      have he8 := eight_of s2 hm
      unfold device_ReadSerial_j1 Q_SerialRead_j1
      rw [if_neg (by simp), if_neg (by simp)]
      have f1 : slices_IndexFunc_Model_Model l (fun y0 => device_ReadSerial_1x y0 [a, b, [x]]) = some (findI (fun y : Model => decide (y.Prefix = a)) l 0) := gIndexFunc_eq l _ _ (fun _ _ => rfl) (by omega)
      have f2 : slices_IndexFunc_Model_Model l (fun y0 => Q_SerialRead_1x y0 [a, b, [x]]) = some (findI (fun y : Model => decide (y.Prefix = a)) l 0) := gIndexFunc_eq l _ _ (fun _ _ => rfl) (by omega)
      rw [f1, f2, show idx [a, b, [x]] 1 = some b from rfl, show idx [a, b, [x]] 2 = some [x] from rfl, show idx [a, b, [x]] 0 = some a from rfl]
      simp only [Option.bind_some]
      rw [atoi_nat hm s2, show idx [x] 0 = some x from rfl]
      simp only [Option.bind_some]
      rcases findI_findP (fun y : Model => decide (y.Prefix = a)) l with ⟨g1, _⟩ | ⟨y, g1, g2, g3⟩
      · rw [if_pos g1, if_pos g1]; exact ⟨_, rfl, rfl⟩
      · have hneg : ¬ (findI (fun y : Model => decide (y.Prefix = a)) l 0 < 0) := by omega
        rw [if_neg hneg, if_neg hneg]
        by_cases hm0 : (m : Int) = 0
        · rw [if_pos hm0, if_pos hm0]; exact ⟨_, rfl, rfl⟩
        · rw [if_neg hm0, if_neg hm0, cat_le (by omega)]
          simp only [Option.bind_some]
          have hcap : ∀ z ∈ a ++ b, z ∈ cap36 := fun z hz => by
            rcases List.mem_append.1 hz with h | h
            · exact p1 z h
            · exact isDig_cap (List.all_eq_true.1 hd z h)
          have hsum := sumF_nonneg (a ++ b) 0 (by omega) hcap
          have hser : Q_serialOf a m = some (a ++ [45] ++ b ++ [45] ++ [chk36 (a ++ b)]) := by
            have := serialOf_eq (p := a) (n := (m : Int)) (by omega) (fun z hz => (cap36_R z (p1 z hz)).2) (by omega) (by omega) (by rw [Int.toNat_natCast, he8]; exact hsum)
            rw [this, Int.toNat_natCast]
            unfold serS
            rw [he8]
          rw [dcheck_eq _ (by simp; omega) hsum, hser, upper_eq t (by omega)]
          simp only [Option.bind_some]
          have hup : upS t = a ++ [45] ++ b ++ [45] ++ [x] := by
            rw [← hj]; simp [joinC]
          rw [hup, g2]
          simp only [Option.bind_some]
          by_cases hx : x = chk36 (a ++ b)
          · rw [if_neg (by rw [← hx]; simp), if_neg (by rw [← hx]; simp)]
            exact ⟨_, rfl, rfl⟩
          · rw [if_pos (fun h => hx (UInt8.toNat_inj.1 (by omega))), if_pos (fun h => hx (by simpa using h.symm))]
            exact ⟨_, rfl, rfl⟩
    · rw [show decide (¬ SF a b c) = true from decide_eq_true hS, hj1, hj2]; exact ⟨_, rfl, rfl⟩
  · rw [if_pos (by omega), if_pos (by omega), hj1, hj2]; exact ⟨_, rfl, rfl⟩
/-! what is drawn -/
def PF : List Str := [[65, 66], [65, 66, 67], [88, 89], [90, 90, 90, 90], [65], [65, 66, 67, 68, 69], [97, 98], [65, 49], [81, 81]]
def MP (m : Model) : Prop := MB m ∧ m.Prefix ∈ PF
theorem mem_PF {l : List Str} {v : Str} (h : v ∈ l) (hl : l.all (fun x => decide (x ∈ PF)) = true) : v ∈ PF := of_decide_eq_true (List.all_eq_true.1 hl v h)
theorem RightKinds2_k {s : Stm} {K : Int} (hs : SOk s K) (hK : 20 ≤ K) : ∃ m1 m2 s', Stream_RightKinds s = some ((m1, m2), s') ∧ SOk s' (K - 1) ∧ (MP m1 ∧ 0 < m1.Props.length ∧ m1.Props.length ≤ 10) ∧ MP m2 ∧ 0 < m2.Props.length ∧ m2.Props.length ≤ 10 := by
  unfold Stream_RightKinds
  obtain ⟨v2, s2, e2, hv2, q2⟩ := Some_k (s := s) (l := [([65, 66, 67] : Str), ([88, 89] : Str), ([90, 90, 90, 90] : Str)]) hs (by omega) (by simp) (by simp)
  rw [e2]
  simp only [Option.bind_some]
  have hv2l := len_of hv2 (by decide)
  refine ⟨_, _, _, rfl, q2, ⟨⟨by unfold MB; simp, by decide⟩, by simp, by simp⟩, ⟨⟨by simp only; omega, by simp, by simp⟩, mem_PF hv2 (by decide)⟩, by simp, by simp⟩
theorem Kinds2_k {s : Stm} {K : Int} (hs : SOk s K) (hK : 20 ≤ K) : Gen (Stream_Kinds s) (K - 20) (fun l => (2 ≤ l.length ∧ l.length ≤ 3) ∧ ∀ m ∈ l, MP m) := by
  refine Gen.of ?_
  unfold Stream_Kinds
  obtain ⟨m1, m2, s2, e2, q2, ⟨b1, p1⟩, b2, p2⟩ := RightKinds2_k hs hK
  rw [e2]
  simp only [Option.bind_some]
  have ret : ∀ (L : List Int) (n : Int) (l : List Model), (2 ≤ l.length ∧ l.length ≤ 3) → (∀ m ∈ l, MP m) → SOk ⟨L, n⟩ (K - 20) → Ok (some (l, (⟨L, n⟩ : Stm))) (fun r => ((2 ≤ r.1.length ∧ r.1.length ≤ 3) ∧ ∀ m ∈ r.1, MP m) ∧ SOk r.2 (K - 20)) := fun L n l h1 h2 h3 => ⟨_, rfl, ⟨h1, h2⟩, h3⟩
  have two : ∀ {a b : Model}, MP a → MP b → ∀ m ∈ [a, b], MP m := fun ha hb m hm => by
    rcases List.mem_cons.1 hm with rfl | hm
    · exact ha
    · rw [List.mem_singleton] at hm; subst hm; exact hb
  have mSet : ∀ {m : Model} {p : PropType} {x y : Int} {P : List PropType}, MP m → idx P 0 = some p → (∀ q ∈ P, q.Name.length ≤ 100) → P.length ≤ 100 → ∀ (z : PropType), z.Name = p.Name → ∀ q ∈ P.set (0 : Int).toNat z, q.Name.length ≤ 100 := by
    intro m p x y P _ hp hP _ z hz q hq
    rcases List.mem_or_eq_of_mem_set hq with h | h
    · exact hP q h
    · rw [h, hz]; exact hP p (idx_mem hp)
  refine Ok.gen (Flip_k q2 (by omega) (by omega) (by omega)) (fun f s3 _ q3 => ?_)
  dsimp only
  unfold Stream_Kinds_j9 Stream_Kinds_j8 Stream_Kinds_j7 Stream_Kinds_j6 Stream_Kinds_j5 Stream_Kinds_j4 Stream_Kinds_j3 Stream_Kinds_j2 Stream_Kinds_j1
  split
  · refine Ok.gen (Next_k q3 (by omega) (by omega) (by omega)) (fun k s4 hk q4 => ?_)
    dsimp only
    have arm : ∀ (m : Model) (g : Model → List Model) (o : Str → Str → Model), MP m → True := fun _ _ _ _ => trivial
    split
    · refine Ok.gen (Next_k q4 (by omega) (by omega) (by omega)) (fun c s5 hc q5 => ?_)
      dsimp only
      split
      · refine Ok.gen (Some_k q5 (by omega) (by simp) (by simp)) (fun u s6 hu q6 => ?_)
        exact ret _ _ _ (by simp) (two ⟨⟨b1.1.1, b1.1.2.1, b1.1.2.2⟩, b1.2⟩ b2) (q6.less (by omega))
      · split
        · refine Ok.gen (Some_k q5 (by omega) (by simp) (by simp)) (fun u s6 hu q6 => ?_)
          have hul := len_of hu (by decide)
          exact ret _ _ _ (by simp) (two ⟨⟨by show u.length ≤ 100; omega, b1.1.2.1, b1.1.2.2⟩, mem_PF hu (by decide)⟩ b2) (q6.less (by omega))
        · split
          · refine Ok.gen (Some_k q5 (by omega) (by simp) (by simp)) (fun u s6 hu q6 => ?_)
            have hul := len_of hu (by decide)
            refine Ok.gen (Odd_k q6 (by omega) (by omega) (by omega) (by omega)) (fun w s7 hw q7 => ?_)
            refine Ok.app (by simp; omega) ?_
            exact ret _ _ _ (by simp) (two ⟨⟨b1.1.1, by simp; omega, fun p hp => by
              rcases List.mem_append.1 hp with e | e
              · exact b1.1.2.2 p e
              · rw [List.mem_singleton] at e; subst e; show u.length ≤ 100; omega⟩, b1.2⟩ b2) (q7.less (by omega))
          · split
            · refine Ok.gen (Odd_k q5 (by omega) (by omega) (by omega) (by omega)) (fun w s7 hw q7 => ?_)
              refine Ok.gen (Odd_k q7 (by omega) (by omega) (by omega) (by omega)) (fun y s8 hy q8 => ?_)
              refine Ok.idx (by omega) (by omega) (fun p hp hpm => ?_)
              have hl1 : (m1.Props.set (0 : Int).toNat (⟨p.Name, p.Kind, w, p.High⟩ : PropType)).length = m1.Props.length := List.length_set
              refine Ok.idx (by omega) (by rw [List.length_set]; omega) (fun p' hp' hpm' => ?_)
              have hs1 := mSet (x := 0) (y := 0) b1 hp b1.1.2.2 b1.1.2.1 (⟨p.Name, p.Kind, w, p.High⟩ : PropType) rfl
              have hs2 := mSet (x := 0) (y := 0) b1 hp' hs1 (by rw [hl1]; exact b1.1.2.1) (⟨p'.Name, p'.Kind, p'.Low, y⟩ : PropType) rfl
              exact ret _ _ _ (by simp) (two ⟨⟨b1.1.1, by simp only [List.length_set]; exact b1.1.2.1, hs2⟩, b1.2⟩ b2) (q8.less (by omega))
            · refine Ok.app (by simp) ?_
              refine ret _ _ _ (by simp) (fun m hm => ?_) (q5.less (by omega))
              rcases List.mem_append.1 hm with e | e
              · exact two b1 b2 m e
              · rw [List.mem_singleton] at e; subst e; exact ⟨by unfold MB; simp, by decide⟩
    · split
      · refine Ok.gen (Next_k q4 (by omega) (by omega) (by omega)) (fun c s5 hc q5 => ?_)
        dsimp only
        split
        · refine Ok.gen (Some_k q5 (by omega) (by simp) (by simp)) (fun u s6 hu q6 => ?_)
          exact ret _ _ _ (by simp) (two b1 ⟨⟨b2.1.1, b2.1.2.1, b2.1.2.2⟩, b2.2⟩) (q6.less (by omega))
        · split
          · refine Ok.gen (Some_k q5 (by omega) (by simp) (by simp)) (fun u s6 hu q6 => ?_)
            have hul := len_of hu (by decide)
            exact ret _ _ _ (by simp) (two b1 ⟨⟨by show u.length ≤ 100; omega, b2.1.2.1, b2.1.2.2⟩, mem_PF hu (by decide)⟩) (q6.less (by omega))
          · split
            · refine Ok.gen (Some_k q5 (by omega) (by simp) (by simp)) (fun u s6 hu q6 => ?_)
              have hul := len_of hu (by decide)
              refine Ok.gen (Odd_k q6 (by omega) (by omega) (by omega) (by omega)) (fun w s7 hw q7 => ?_)
              refine Ok.app (by simp; omega) ?_
              exact ret _ _ _ (by simp) (two b1 ⟨⟨b2.1.1, by simp; omega, fun p hp => by
                rcases List.mem_append.1 hp with e | e
                · exact b2.1.2.2 p e
                · rw [List.mem_singleton] at e; subst e; show u.length ≤ 100; omega⟩, b2.2⟩) (q7.less (by omega))
            · split
              · refine Ok.gen (Odd_k q5 (by omega) (by omega) (by omega) (by omega)) (fun w s7 hw q7 => ?_)
                refine Ok.gen (Odd_k q7 (by omega) (by omega) (by omega) (by omega)) (fun y s8 hy q8 => ?_)
                refine Ok.idx (by omega) (by omega) (fun p hp hpm => ?_)
                have hl1 : (m2.Props.set (0 : Int).toNat (⟨p.Name, p.Kind, w, p.High⟩ : PropType)).length = m2.Props.length := List.length_set
                refine Ok.idx (by omega) (by rw [List.length_set]; omega) (fun p' hp' hpm' => ?_)
                have hs1 := mSet (x := 0) (y := 0) b2 hp b2.1.2.2 b2.1.2.1 (⟨p.Name, p.Kind, w, p.High⟩ : PropType) rfl
                have hs2 := mSet (x := 0) (y := 0) b2 hp' hs1 (by rw [hl1]; exact b2.1.2.1) (⟨p'.Name, p'.Kind, p'.Low, y⟩ : PropType) rfl
                exact ret _ _ _ (by simp) (two b1 ⟨⟨b2.1.1, by simp only [List.length_set]; exact b2.1.2.1, hs2⟩, b2.2⟩) (q8.less (by omega))
              · refine Ok.app (by simp) ?_
                refine ret _ _ _ (by simp) (fun m hm => ?_) (q5.less (by omega))
                rcases List.mem_append.1 hm with e | e
                · exact two b1 b2 m e
                · rw [List.mem_singleton] at e; subst e; exact ⟨by unfold MB; simp, by decide⟩
      · omega
  · exact ret _ _ _ (by simp) (two b1 b2) (q3.less (by omega))
theorem PF_len : ∀ p ∈ PF, p.length ≤ 5 ∧ ∀ c ∈ p, c.toNat < 128 := by decide
theorem sum_PF : ∀ p ∈ PF, ∀ e ∈ ([[48, 48, 48, 48, 48, 48, 48, 49], [48, 48, 48, 48, 48, 48, 48, 55], [48, 48, 48, 48, 48, 48, 57, 57], [49, 50, 51, 52, 53, 54, 55, 56]] : List Str), 0 ≤ sumF 0 (p ++ e) := by decide +kernel
theorem eights : eight 1 = [48, 48, 48, 48, 48, 48, 48, 49] ∧ eight 7 = [48, 48, 48, 48, 48, 48, 48, 55] ∧ eight 99 = [48, 48, 48, 48, 48, 48, 57, 57] ∧ eight 12345678 = [49, 50, 51, 52, 53, 54, 55, 56] :=
  ⟨eight_of (by rfl) (by decide +kernel), eight_of (by rfl) (by decide +kernel), eight_of (by rfl) (by decide +kernel), eight_of (by rfl) (by decide +kernel)⟩
theorem serS_asc {p : Str} {n : Nat} (hp : ∀ c ∈ p, c.toNat < 128) : (serS p n).all (fun b => decide (b.toNat < 128)) = true := by
  refine List.all_eq_true.2 fun c hc => decide_eq_true ?_
  unfold serS at hc
  simp only [List.mem_append, List.mem_cons, List.not_mem_nil, or_false] at hc
  rcases hc with (((h | h) | h) | h) | h
  · exact hp c h
  · subst h; decide
  · exact (cap36_R c (eight_cap _ c h)).2
  · subst h; decide
  · subst h; exact (cap36_R _ (chk_mem _)).2
theorem SerialText_k {s : Stm} {K : Int} (hs : SOk s K) (hK : 20 ≤ K) {l : List Model} (hl : 2 ≤ l.length ∧ l.length ≤ 3) (hP : ∀ m ∈ l, MP m) : Gen (Stream_SerialText s l) (K - 20) (fun t => t.length ≤ 1000) := by
  refine Gen.of ?_
  unfold Stream_SerialText
  rw [if_pos (by omega)]
  refine Ok.gen (Next_k hs (by omega) (by omega) (by omega)) (fun k s2 hk q2 => ?_)
  dsimp only
  refine Ok.idx hk.1 hk.2 (fun y hy hym => ?_)
  refine Ok.gen (Pick_k q2 (by omega) (by simp) (by simp)) (fun n s3 hn q3 => ?_)
  dsimp only
  have hn' : n = 1 ∨ n = 7 ∨ n = 99 ∨ n = 12345678 := by simpa using hn
  have j3 : ∀ (t : Str), t.length ≤ 200 → ∀ (v9 : Bool × Stm), SOk v9.2 (K - 3) → Ok (Stream_SerialText_j3 v9 t) (fun r => r.1.length ≤ 1000 ∧ SOk r.2 (K - 20)) := by
    intro t ht v9 q4
    unfold Stream_SerialText_j3
    refine Ok.gen (Pick_k q4 (by omega) (by simp) (by simp)) (fun v s5 hv q5 => ?_)
    have hv' : v = 0 ∨ v = 1 := by simp at hv; omega
    unfold Stream_SerialText_l1
    refine Ok.iter (fun x : (List Int) × Int × Str × Int => (v - x.2.2.2).toNat) (fun x => 0 ≤ x.2.2.2 ∧ SOk ⟨x.1, x.2.1⟩ (K - 4 - 3 * x.2.2.2) ∧ x.2.2.2 ≤ v ∧ (x.2.2.1.length : Int) ≤ 200 + 100 * x.2.2.2) ?_ _ ⟨by simp, by simpa using q5.less (by omega), by simp only; omega, by simp only; omega⟩
    rintro ⟨L, a, t, i⟩ ⟨h0, h1, h2, h3⟩
    dsimp only at h0 h1 h2 h3 ⊢
    unfold Stream_SerialText_b1
    simp only
    by_cases hi : i < v
    · rw [if_pos hi]
      refine Ok.gen (Changed_g h1 (by omega) (by omega) (by simp)) (fun r s6 hr q6 => ?_)
      refine Ok.ret ?_
      simp only [List.length_cons, List.length_nil] at hr
      rw [w64_in (by omega) (by omega)]
      exact ⟨⟨by simp only; omega, q6.less (by simp only; omega), by simp only; omega, by simp only; omega⟩, by simp only; omega⟩
    · rw [if_neg hi]
      exact Ok.inr (Ok.ret ⟨by simp only; omega, h1.less (by omega)⟩)
  have j1 : ∀ (t : Str), t.length ≤ 200 → t.all (fun b => decide (b.toNat < 128)) = true → Ok (Stream_SerialText_j1 s3.L s3.at_ t) (fun r => r.1.length ≤ 1000 ∧ SOk r.2 (K - 20)) := by
    intro t ht ha
    unfold Stream_SerialText_j1
    refine Ok.gen (Flip_k (s := ⟨s3.L, s3.at_⟩) (K := K - 2) (q3.less (by omega)) (by omega) (by omega) (by omega)) (fun f s4 _ q4 => ?_)
    dsimp only
    split
    · rw [show toLowerO t = some (Lib.toLowerA t) by unfold toLowerO; rw [if_pos ⟨by omega, ha⟩]]
      simp only [Option.bind_some]
      exact j3 _ (by unfold Lib.toLowerA; rw [List.length_map]; exact ht) _ (q4.less (by omega))
    · exact j3 _ ht _ (q4.less (by omega))
  have hdef : Ok (Stream_SerialText_j2 (n, s3) ([65, 66, 45, 48, 48, 48, 48, 48, 48, 48, 55, 45, 77] : Str)) (fun r => r.1.length ≤ 1000 ∧ SOk r.2 (K - 20)) := j1 _ (by simp) (by decide)
  unfold Q_SerialOf Q_modelAt
  have e2 : slices_IndexFunc_Model_Model l (fun y0 => some (Q_modelAt_1x y0 y.Key)) = some (findI (fun m : Model => decide (m.Key = y.Key)) l 0) := gIndexFunc_eq l _ _ (fun _ _ => rfl) (by omega)
  rw [e2]
  simp only [Option.bind_some]
  rcases findI_findP (fun m : Model => decide (m.Key = y.Key)) l with ⟨f1, _⟩ | ⟨z, f1, f2, f3⟩
  · rw [if_pos f1]
    simp only [Option.bind_some]
    rw [if_neg (by decide)]
    exact hdef
  · have hneg : ¬ (findI (fun m : Model => decide (m.Key = y.Key)) l 0 < 0) := by omega
    have hr : ¬ (!(Q_in n 1 99999999)) = true := by rw [Qin_eq]; simp; omega
    rw [if_neg hneg, if_neg hr, f2]
    simp only [Option.bind_some]
    have hz := hP z (idx_mem f2)
    obtain ⟨l5, asc⟩ := PF_len _ hz.2
    have hsum : 0 ≤ sumF 0 (z.Prefix ++ eight n.toNat) := by
      obtain ⟨x1, x2, x3, x4⟩ := eights
      rcases hn' with e | e | e | e <;> subst e
      · rw [show (1 : Int).toNat = 1 from rfl, x1]; exact sum_PF _ hz.2 _ (by simp)
      · rw [show (7 : Int).toNat = 7 from rfl, x2]; exact sum_PF _ hz.2 _ (by simp)
      · rw [show (99 : Int).toNat = 99 from rfl, x3]; exact sum_PF _ hz.2 _ (by simp)
      · rw [show (12345678 : Int).toNat = 12345678 from rfl, x4]; exact sum_PF _ hz.2 _ (by simp)
    rw [serialOf_eq (by omega) asc (by omega) (by omega) hsum]
    simp only [Option.bind_some, if_true]
    have hsl := serS_len (p := z.Prefix) (n := n.toNat) (by omega) (by omega)
    exact j1 _ (by omega) (serS_asc asc)
theorem SerialsRead_plain (L : List Int) : L_SerialsRead L = some true := by
  have key : Ok (L_SerialsRead L) (fun r => r = true) := by
    unfold L_SerialsRead L_SerialsRead_j1 L_SerialsRead_j2
    refine Ok.gen (Kinds2_k (s := ⟨L, 0⟩) (K := 200) ⟨by simp, by simp⟩ (by omega)) (fun l s2 hl q2 => ?_)
    refine Ok.gen (Some_k q2 (by omega) (by simp) (by simp)) (fun k s3 hk q3 => ?_)
    refine Ok.gen (Next_k q3 (by omega) (by omega) (by omega)) (fun x s4 hx q4 => ?_)
    refine Ok.gen (Pick_k q4 (by omega) (by simp) (by simp)) (fun n s5 hn q5 => ?_)
    refine Ok.gen (SerialText_k q5 (by omega) hl.1 hl.2) (fun t s6 ht q6 => ?_)
    dsimp only at hn ⊢
    have hn' : 0 ≤ n ∧ n ≤ 100000000 := by simp at hn; omega
    have hB : ∀ m ∈ l, MB m := fun m hm => (hl.2 m hm).1
    rw [ModelsFault_eq hB]
    by_cases h0 : mdF l = 0
    · obtain ⟨z, z1, z2⟩ := Serial_eq hl.1.2 hB h0 k n (by omega)
      obtain ⟨w, w1, w2⟩ := Read_same hl.1.2 hB h0 t ht
      rw [z1, w1, z2, w2, CheckModels_eq hB]
      simp only [Option.bind_some]
      rw [if_neg (by simp), if_neg (by simp [h0])]
      simp only [if_true]
      rw [deviced_eq]
      exact ⟨true, rfl, rfl⟩
    · have z1 : device_Serial l k n = some ([], mdF l) := by unfold device_Serial; rw [CheckModels_eq hB]; simp only [Option.bind_some]; rw [if_pos h0]
      have w1 : device_ReadSerial l t = some ([], 0, mdF l) := by unfold device_ReadSerial; rw [CheckModels_eq hB]; simp only [Option.bind_some]; rw [if_pos h0]
      rw [z1, w1, CheckModels_eq hB]
      simp only [Option.bind_some]
      rw [if_neg (by simp), if_pos h0]
      simp only [if_true]
      rw [deviced_eq]
      exact ⟨true, rfl, rfl⟩
  obtain ⟨r, h1, rfl⟩ := key
  exact h1
end Go.Beacon

