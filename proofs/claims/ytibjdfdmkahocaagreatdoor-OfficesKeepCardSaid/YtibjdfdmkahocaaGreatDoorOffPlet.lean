/- The law LettersChecked as a plain statement. No program in sight. -/
import Derived.Test.YtibjdfdmkahocaaGreatDoorOffPpos
import Derived.Test.YtibjdfdmkahocaaGreatDoorOffPgk
import Derived.Test.YtibjdfdmkahocaaGreatDoorPmrg
set_option linter.unusedVariables false
set_option linter.unusedSimpArgs false
namespace Go.Beacon
open Go Go.Eng

/-! posts -/
theorem Post_chk (p : Post) : command_CheckPost p = Q_PostFault p := by
  unfold command_CheckPost command_CheckPost_j1 Q_PostFault Q_PostFault_j1
  simp only [Out_eq, Qin_eq]
  congr 1
  simp only [Bool.not_and, ← decide_not, Int.not_le]
/-! letters: what is wrong with many of them -/
def letsE (pre : List Letter) : List Letter → Int
  | [] => 0
  | x :: r => if letE x ≠ 0 then letE x else if pre.any (fun y => decide (y.Id = x.Id)) = true then 6 else letsE (pre ++ [x]) r
theorem take_next {xs : List Letter} {i : Int} {x : Letter} (h0 : 0 ≤ i) (h : idx xs i = some x) : xs.take (i + 1).toNat = xs.take i.toNat ++ [x] := by
  obtain ⟨h0, h1, h2⟩ := idx_some h
  rw [show (i + 1).toNat = i.toNat + 1 by omega, List.take_add_one, h2]; rfl
theorem lets_dist : ∀ (xs pre : List Letter), letsE pre xs = 0 → (∀ x ∈ xs, ∀ y ∈ pre, y.Id ≠ x.Id) ∧ xs.Pairwise (fun a b => a.Id ≠ b.Id)
  | [], pre, _ => ⟨fun x hx => by simp at hx, .nil⟩
  | x :: r, pre, h => by
    unfold letsE at h
    by_cases c : letE x = 0
    · rw [if_neg (by simpa using c)] at h
      by_cases a : pre.any (fun y => decide (y.Id = x.Id)) = true
      · rw [if_pos a] at h; omega
      · rw [if_neg a] at h
        obtain ⟨h1, h2⟩ := lets_dist r (pre ++ [x]) h
        refine ⟨fun z hz y hy => ?_, .cons (fun z hz => h1 z hz x (by simp)) h2⟩
        rcases List.mem_cons.1 hz with e | e
        · subst e
          intro hh
          exact a (List.any_eq_true.2 ⟨y, hy, by simpa using hh⟩)
        · exact h1 z e y (by simp [hy])
    · rw [if_pos c] at h; exact absurd h c
theorem dist_eq : ∀ {xs : List Letter}, xs.Pairwise (fun a b => a.Id ≠ b.Id) → ∀ a ∈ xs, ∀ b ∈ xs, a.Id = b.Id → a = b
  | [], _, a, ha, _, _, _ => by simp at ha
  | x :: r, h, a, ha, b, hb, he => by
    obtain ⟨h1, h2⟩ := List.pairwise_cons.1 h
    rcases List.mem_cons.1 ha with e | e
    · rcases List.mem_cons.1 hb with f | f
      · rw [e, f]
      · subst e; exact absurd he (h1 b f)
    · rcases List.mem_cons.1 hb with f | f
      · subst f; exact absurd he.symm (h1 a e)
      · exact dist_eq h2 a e b f he
/-! the order of letters -/
theorem cmpI_rev (a b : Int) : cmpI b a = cmpI (-a) (-b) := by
  unfold cmpI; (repeat' split) <;> omega
def ordL (a b : Letter) : Int := if cmpI b.Prio a.Prio ≠ 0 then cmpI b.Prio a.Prio else if cmpI a.At b.At ≠ 0 then cmpI a.At b.At else Lib.compareBytes a.Id b.Id
theorem ordL_3 : Cmp3 ordL := by
  have h1 : Cmp3 (fun a b : Letter => cmpI b.Prio a.Prio) := by
    have : (fun a b : Letter => cmpI b.Prio a.Prio) = fun a b : Letter => cmpI (-a.Prio) (-b.Prio) := by funext a b; exact cmpI_rev _ _
    rw [this]
    exact cmpI_3.on (fun x : Letter => -x.Prio)
  have h2 : Cmp3 (fun a b : Letter => cmpI a.At b.At) := cmpI_3.on (fun x : Letter => x.At)
  have h3 : Cmp3 (fun a b : Letter => Lib.compareBytes a.Id b.Id) := cmpB_3.on (fun x : Letter => x.Id)
  exact h1.lex (h2.lex h3)
theorem ordL_id {a b : Letter} (h : ordL a b = 0) : a.Id = b.Id := by
  unfold ordL at h
  by_cases c : cmpI b.Prio a.Prio = 0
  · rw [if_neg (by simpa using c)] at h
    by_cases d : cmpI a.At b.At = 0
    · rw [if_neg (by simpa using d)] at h; exact cmpB_zero h
    · rw [if_pos d] at h; exact absurd h d
  · rw [if_pos c] at h; exact absurd h c
theorem byOrder_eq (a b : Letter) : command_byOrder a b = some (ordL a b) := by
  unfold command_byOrder
  have h : cmp_Or_int [cmp_Compare_int b.Prio a.Prio, cmp_Compare_int a.At b.At, Lib.compareBytes a.Id b.Id] = some (orL [cmp_Compare_int b.Prio a.Prio, cmp_Compare_int a.At b.At, Lib.compareBytes a.Id b.Id]) := gOr_eq _ (by simp)
  rw [h]
  simp only [Option.bind_some, CompareI_eq, orL, ordL, ne_eq]
  congr 1
  by_cases c : Lib.compareBytes a.Id b.Id = 0
  · simp [c]
  · simp [c]
def LetB (x : Letter) : Prop := (-1099511627777 ≤ x.Prio ∧ x.Prio ≤ 1099511627777) ∧ (-1099511627777 ≤ x.At ∧ x.At ≤ 1099511627777)
theorem sign_cmp {x y : Int} (hx : -1099511627777 ≤ x ∧ x ≤ 1099511627777) (hy : -1099511627777 ≤ y ∧ y ≤ 1099511627777) : Q_sign (w64 (x - y)) = cmpI x y := by
  rw [w64_in (by omega) (by omega)]
  unfold Q_sign cmpI
  by_cases h : x < y
  · rw [if_pos (by omega), if_pos h]
  · rw [if_neg (by omega), if_neg h]
    by_cases h2 : y < x
    · rw [if_pos (by omega), if_pos h2]
    · rw [if_neg (by omega), if_neg h2]
theorem cmpI_self (a : Int) : cmpI a a = 0 := by unfold cmpI; rw [if_neg (by omega), if_neg (by omega)]
theorem LetterOrder_eq {a b : Letter} (ha : LetB a) (hb : LetB b) : Q_LetterOrder a b = ordL a b := by
  unfold Q_LetterOrder ordL
  by_cases c : a.Prio = b.Prio
  · rw [if_neg (by simpa using c), c, cmpI_self]
    simp only [ne_eq, not_true_eq_false, if_false]
    by_cases d : a.At = b.At
    · rw [if_neg (by simpa using d), d, cmpI_self]
      simp only [ne_eq, not_true_eq_false, if_false]
    · rw [if_pos d, sign_cmp ha.2 hb.2, if_pos (fun h => d (cmpI_zero h))]
  · rw [if_pos c, sign_cmp hb.1 ha.1, if_pos (fun h => c (cmpI_zero h).symm)]
theorem lclone_eq (xs : List Letter) (h : xs.length ≤ 100000) : slices_Clone_Letter_Letter xs = some xs := by
  unfold slices_Clone_Letter_Letter
  rw [app_le (by simp; omega)]; rfl
theorem lsort_eq (f : Letter → Letter → Option Int) (xs : List Letter) (hl : xs.length ≤ 500) (hf : ∀ a ∈ xs, ∀ b ∈ xs, f a b = some (ordL a b)) : ∃ Z, lenOk xs.length (fun r : List Letter => r.length) (slices_SortFunc_Letter_Letter xs f) = some Z ∧ Z.Perm xs ∧ Srt ordL Z := by
  obtain ⟨Z, h1, h2, h3⟩ := sortO_eq f ordL xs (by omega) hf (ordL_3.ord xs)
  exact ⟨Z, len_ok (Z := Z) h1 h2.length_eq, h2, h3⟩
/-! the drawn letters -/
theorem RightLetter_k {s : Stm} {t K : Int} (hs : SOk s K) (hK : 5 ≤ K) (ht : -1099511627777 ≤ t ∧ t ≤ 1099511627777) : Gen (Stream_RightLetter s t) (K - 5) LetB := by
  unfold Stream_RightLetter
  obtain ⟨a, s1, e1, p1, q1⟩ := Some_k (s := s) (l := [([108, 97] : Str), ([108, 98] : Str), ([108, 99] : Str), ([108, 100] : Str), ([108, 101] : Str), ([108, 102] : Str)]) hs (by omega) (by simp) (by simp)
  simp only [e1, Option.bind_some]
  obtain ⟨b, s2, e2, p2, q2⟩ := Some_k (s := s1) (l := [([] : Str), ([] : Str), ([115, 97] : Str), ([115, 98] : Str)]) q1 (by omega) (by simp) (by simp)
  simp only [e2, Option.bind_some]
  obtain ⟨c, s3, e3, p3, q3⟩ := Some_k (s := s2) (l := [([100, 111] : Str), ([] : Str), ([97, 32, 34, 98, 34] : Str)]) q2 (by omega) (by simp) (by simp)
  simp only [e3, Option.bind_some]
  obtain ⟨d, s4, e4, p4, q4⟩ := Pick_k (s := s3) (l := [(0 : Int), (0 : Int), (1 : Int), (5 : Int), (9 : Int)]) q3 (by omega) (by simp) (by simp)
  simp only [e4, Option.bind_some]
  obtain ⟨u, s5, e5, p5, q5⟩ := Pick_k (s := s4) (l := [(1 : Int), (5 : Int), (10 : Int), (20 : Int), (50 : Int), (1000 : Int)]) q4 (by omega) (by simp) (by simp)
  simp only [e5, Option.bind_some]
  have b4 := pick_le (lo := 0) (hi := 9) p4 (by decide)
  exact Gen.ret ⟨⟨show _ ≤ d by omega, show d ≤ _ by omega⟩, show _ ≤ t by omega, show t ≤ _ by omega⟩ (q5.less (by omega))
theorem Letter_k {s : Stm} {t K : Int} (hs : SOk s K) (hK : 11 ≤ K) (ht : -1099511627777 ≤ t ∧ t ≤ 1099511627777) : Gen (Stream_Letter s t) (K - 11) LetB := by
  unfold Stream_Letter
  obtain ⟨x, s1, e1, p1, q1⟩ := RightLetter_k hs (by omega) ht
  simp only [e1, Option.bind_some]
  obtain ⟨c, s2, e2, p2, q2⟩ := Flip_k (s := s1) (n := 15) q1 (by omega) (by omega) (by omega)
  simp only [e2, Option.bind_some]
  have end_ : ∀ (l : List Int) (n : Int) (a b d : Str) (p q r : Int), SOk ⟨l, n⟩ (K - 11) → (-1099511627777 ≤ p ∧ p ≤ 1099511627777) → (-1099511627777 ≤ q ∧ q ≤ 1099511627777) → Gen (Stream_Letter_j1 l n a b d p q r) (K - 11) LetB := by
    intro l n a b d p q r h hp hq
    unfold Stream_Letter_j1
    exact Gen.ret ⟨hp, hq⟩ h
  split
  · obtain ⟨v, s3, e3, p3, q3⟩ := Next_k (s := s2) (n := 5) q2 (by omega) (by omega) (by omega)
    simp only [e3, Option.bind_some]
    split
    · obtain ⟨a, s4, e4, p4, q4⟩ := Some_k (s := s3) (l := [([] : Str), ([65] : Str)]) q3 (by omega) (by simp) (by simp)
      simp only [e4, Option.bind_some]
      exact end_ _ _ _ _ _ _ _ _ (q4.less (by omega)) p1.1 p1.2
    · split
      · obtain ⟨a, s4, e4, p4, q4⟩ := Some_k (s := s3) (l := [([65] : Str), ([45] : Str)]) q3 (by omega) (by simp) (by simp)
        simp only [e4, Option.bind_some]
        exact end_ _ _ _ _ _ _ _ _ (q4.less (by omega)) p1.1 p1.2
      · split
        · have hr : repeatO ([98] : Str) (1001 : Int) = some (Lib.repeatL ([98] : Str) (1001 : Int).toNat) := by unfold repeatO; rw [if_pos ⟨by omega, by omega, by decide⟩]
          rw [hr]
          simp only [Option.bind_some]
          obtain ⟨a, s4, e4, p4, q4⟩ := Some_k (s := s3) (l := [([10] : Str), ([127] : Str), ([255] : Str), Lib.repeatL ([98] : Str) (1001 : Int).toNat]) q3 (by omega) (by simp) (by simp)
          simp only [e4, Option.bind_some]
          exact end_ _ _ _ _ _ _ _ _ (q4.less (by omega)) p1.1 p1.2
        · split
          · obtain ⟨a, s4, e4, p4, q4⟩ := Odd_k (s := s3) (a := 0) (b := 9) q3 (by omega) (by omega) (by omega) (by omega)
            simp only [e4, Option.bind_some]
            exact end_ _ _ _ _ _ _ _ _ (q4.less (by omega)) p4 p1.2
          · obtain ⟨a, s4, e4, p4, q4⟩ := Odd_k (s := s3) (a := 0) (b := 50) q3 (by omega) (by omega) (by omega) (by omega)
            simp only [e4, Option.bind_some]
            obtain ⟨b, s5, e5, p5, q5⟩ := Odd_k (s := s4) (a := 0) (b := 100) q4 (by omega) (by omega) (by omega) (by omega)
            simp only [e5, Option.bind_some]
            exact end_ _ _ _ _ _ _ _ _ (q5.less (by omega)) p1.1 p4
  · exact end_ _ _ _ _ _ _ _ _ (q2.less (by omega)) p1.1 p1.2
def ZL : Letter := ⟨[], [], [], 0, 0, 0⟩
def idC (a b : Letter) : Int := Lib.compareBytes a.Id b.Id
theorem idC_3 : Cmp3 idC := cmpB_3.on (fun x : Letter => x.Id)
def LetsB (xs : List Letter) : Prop := xs.length ≤ 6 ∧ ∀ x ∈ xs, LetB x
theorem RightPost_k {s : Stm} {K : Int} (hs : SOk s K) (hK : 4 ≤ K) : Gen (Stream_RightPost s) (K - 4) (fun _ => True) := by
  unfold Stream_RightPost
  obtain ⟨a, s1, e1, p1, q1⟩ := Pick_k (s := s) (l := [(1 : Int), (2 : Int), (3 : Int), (5 : Int)]) hs (by omega) (by simp) (by simp)
  simp only [e1, Option.bind_some]
  obtain ⟨b, s2, e2, p2, q2⟩ := Pick_k (s := s1) (l := [(1 : Int), (5 : Int), (10 : Int)]) q1 (by omega) (by simp) (by simp)
  simp only [e2, Option.bind_some]
  obtain ⟨c, s3, e3, p3, q3⟩ := Pick_k (s := s2) (l := [(1 : Int), (2 : Int), (3 : Int)]) q2 (by omega) (by simp) (by simp)
  simp only [e3, Option.bind_some]
  obtain ⟨d, s4, e4, p4, q4⟩ := Pick_k (s := s3) (l := [(0 : Int), (1 : Int), (2 : Int), (10 : Int)]) q3 (by omega) (by simp) (by simp)
  simp only [e4, Option.bind_some]
  exact Gen.ret trivial (q4.less (by omega))
theorem Post_k {s : Stm} {K : Int} (hs : SOk s K) (hK : 13 ≤ K) : Gen (Stream_Post s) (K - 13) (fun _ => True) := by
  unfold Stream_Post
  obtain ⟨x, s0, e0, p0, q0⟩ := RightPost_k hs (by omega)
  simp only [e0, Option.bind_some]
  obtain ⟨c, s1, e1, p1, q1⟩ := Flip_k (s := s0) (n := 15) q0 (by omega) (by omega) (by omega)
  simp only [e1, Option.bind_some]
  split
  · obtain ⟨a, s2, e2, p2, q2⟩ := Odd_k (s := s1) (a := 1) (b := 500) q1 (by omega) (by omega) (by omega) (by omega)
    simp only [e2, Option.bind_some]
    obtain ⟨a, s3, e3, p3, q3⟩ := Odd_k (s := s2) (a := 1) (b := 86400000) q2 (by omega) (by omega) (by omega) (by omega)
    simp only [e3, Option.bind_some]
    obtain ⟨a, s4, e4, p4, q4⟩ := Odd_k (s := s3) (a := 1) (b := 20) q3 (by omega) (by omega) (by omega) (by omega)
    simp only [e4, Option.bind_some]
    obtain ⟨a, s5, e5, p5, q5⟩ := Odd_k (s := s4) (a := 0) (b := 1000) q4 (by omega) (by omega) (by omega) (by omega)
    simp only [e5, Option.bind_some]
    unfold Stream_Post_j1
    exact Gen.ret trivial (q5.less (by omega))
  · unfold Stream_Post_j1
    exact Gen.ret trivial (q1.less (by omega))
end Go.Beacon
