/- Strings without marks; letters: the checks of the program and of the reference. No program in sight. -/
import Derived.Test.YtmlgacejioccmaaGreatDoorCmgPnum
import Derived.Test.YtmlgacejioccmaaGreatDoorPmrg
import Derived.Lib.MapLaws
import Derived.Lib.ValidLaws
import Derived.Lib.TrimUEq
set_option linter.unusedVariables false
set_option linter.unusedSimpArgs false
namespace Go.Beacon
open Go Go.Eng

def badC (c : UInt8) : Bool := decide (c.toNat < 32) || decide (c.toNat = 127)
def unmB (s : Str) : Bool := !s.any badC && Lib.validD s
theorem enc_hi {r : Int} (h : 128 ≤ r) : ∀ x ∈ Lib.encodeRune r, 128 ≤ x.toNat := by
  intro x hx
  unfold Lib.encodeRune at hx
  rw [List.mem_map] at hx
  obtain ⟨z, hz, rfl⟩ := hx
  have hb : 128 ≤ z ∧ z ≤ 255 := by
    unfold Lib.encodeRuneZ at hz
    split at hz
    · omega
    · split at hz
      · simp at hz; omega
      · split at hz
        · simp at hz; omega
        · split at hz
          · simp at hz; omega
          · simp at hz; omega
  show 128 ≤ (UInt8.ofNat z.toNat).toNat
  rw [UInt8.toNat_ofNat']
  omega
theorem idx_any (p : Nat → Bool) (hp : ∀ x, p x = (decide (x < 32) || decide (x = 127))) (s : Str) : ∀ (f pos : Nat), s.length ≤ pos + f → Lib.validD (s.drop pos) = true → decide (0 ≤ Lib.idxFuncFrom p true ⟨s.toArray⟩ f pos) = (s.drop pos).any badC := by
  intro f
  induction f with
  | zero =>
    intro pos hl _
    rw [List.drop_of_length_le (by omega)]
    rfl
  | succ f ih =>
    intro pos hl hv
    have hsz : (⟨s.toArray⟩ : ByteArray).size = s.length := by simp [ByteArray.size]
    unfold Lib.idxFuncFrom
    rw [hsz]
    by_cases hpos : pos < s.length
    · rw [if_pos hpos]
      have hdec : Utf8.decode ⟨s.toArray⟩ pos = Lib.decodeL (s.drop pos) := by
        have := Lib.decodeL_drop ⟨s.toArray⟩ pos
        simpa using this.symm
      rw [hdec]
      obtain ⟨b, t, hL⟩ : ∃ b t, s.drop pos = b :: t := by
        cases h : s.drop pos with
        | nil => have := congrArg List.length h; simp at this; omega
        | cons b t => exact ⟨b, t, rfl⟩
      have hstep := Lib.validD_step (s.drop pos) (by rw [hL]; simp)
      rw [hv] at hstep
      by_cases hb : b.toNat < 128
      · have hd := Lib.decodeL_ascii b t hb
        rw [hL] at hstep ⊢
        rw [hd] at hstep ⊢
        simp only [List.drop_one, List.tail_cons] at hstep ⊢
        have hdrop : s.drop (pos + 1) = t := by rw [← List.drop_drop, hL]; rfl
        have hnb : ¬ (b.toNat = 65533 ∧ True) := by omega
        have hvt : Lib.validD t = true := by
          rw [if_neg (by omega)] at hstep; exact hstep.symm
        rw [List.any_cons]
        have hbad : p b.toNat = badC b := by rw [hp]; rfl
        rw [hbad]
        cases hc : badC b with
        | true => simp
        | false =>
          simp only [Bool.false_eq_true, if_false, Bool.false_or]
          have := ih (pos + 1) (by omega) (by rw [hdrop]; exact hvt)
          rw [hdrop] at this
          exact this
      · have hne : s.drop pos ≠ [] := by rw [hL]; simp
        have hnb : ¬ ((Lib.decodeL (s.drop pos)).1 = 65533 ∧ (Lib.decodeL (s.drop pos)).2 = 1) := by
          intro h; rw [if_pos h] at hstep; cases hstep
        rw [if_neg hnb] at hstep
        have henc := Lib.encode_decode (s.drop pos) hne hnb
        have hk1 := Lib.decodeL_width (s.drop pos)
        have hk2 := Lib.decodeL_le (s.drop pos) hne
        generalize hr : (Lib.decodeL (s.drop pos)).1 = r at *
        generalize hk : (Lib.decodeL (s.drop pos)).2 = k at *
        have hr128 : 128 ≤ (r : Int) := by
          rcases Int.lt_or_le (r : Int) 128 with h | h
          · exfalso
            unfold Lib.encodeRune at henc
            rw [Lib.encodeRuneZ_one (by omega) (by omega), hL] at henc
            obtain ⟨k', rfl⟩ : ∃ k', k = k' + 1 := ⟨k - 1, by omega⟩
            simp only [List.map_cons, List.map_nil, List.take_succ_cons, List.cons.injEq] at henc
            have := congrArg UInt8.toNat henc.1
            have e : ((r : Int).toNat.toUInt8).toNat = r := by
              show (UInt8.ofNat (r : Int).toNat).toNat = r
              rw [UInt8.toNat_ofNat']; omega
            rw [e] at this; omega
          · exact h
        have hpr : p r = false := by rw [hp]; simp; omega
        rw [hpr]
        simp only [Bool.false_eq_true, if_false]
        have hsplit : (s.drop pos).any badC = (((s.drop pos).take k).any badC || ((s.drop pos).drop k).any badC) := by
          rw [← List.any_append, List.take_append_drop]
        have htk : ((s.drop pos).take k).any badC = false := by
          rw [List.any_eq_false]
          intro x hx
          rw [← henc] at hx
          have := enc_hi hr128 x hx
          unfold badC; simp; omega
        rw [hsplit, htk, Bool.false_or, List.drop_drop]
        rw [List.drop_drop] at hstep
        exact ih (pos + k) (by omega) hstep.symm
    · rw [if_neg hpos, List.drop_of_length_le (by omega)]
      rfl
theorem Printed_eq (s : Str) (hl : s.length ≤ 1000000) : Q_Printed s = some (unmB s) := by
  unfold Q_Printed Q_Printed_j1 validO unmB
  rw [if_pos (by omega)]
  simp only [Option.bind_some]
  cases hv : Lib.validD s with
  | false => simp
  | true =>
    simp only [if_true, Bool.and_true]
    unfold containsF
    rw [if_pos (fun x _ => ⟨_, rfl⟩)]
    simp only [Option.bind_some, Option.getD_some]
    have h := idx_any (fun x => Q_Printed_1x (x : Int)) (fun x => by
      unfold Q_Printed_1x Q_Printed_1x_j1
      congr 1
      · rw [Bool.eq_iff_iff]; simp; omega
      · rw [Bool.eq_iff_iff]; simp; omega) s s.length 0 (by omega) (by simpa using hv)
    rw [List.drop_zero] at h
    rw [← h]
    unfold Lib.idxFunc
    rw [show (⟨s.toArray⟩ : ByteArray).size = s.length by simp [ByteArray.size]]
theorem Unmarked_eq (s : Str) (hl : s.length ≤ 1000000) : base_Unmarked s = some (unmB s) := by
  unfold base_Unmarked base_Unmarked_l1
  have h := iter_find s (fun x : Int => base_Unmarked_b1 s x) (fun c => if badC c = true then some false else none) (Lib.validD s) (by omega) (fun i c h0 h1 h2 => by
    show base_Unmarked_b1 s i = _
    unfold base_Unmarked_b1 base_Unmarked_j1 badC
    rw [if_pos h1, h2]
    simp only [Option.bind_some]
    rw [w64_in (by omega) (by omega)]
    by_cases q1 : c.toNat < 32
    · rw [if_pos (by omega)]; simp [q1]
    · rw [if_neg (by omega)]
      by_cases q2 : c.toNat = 127
      · simp [q2]
      · have : ¬ ((c.toNat : Int) = 127) := by omega
        simp [q1, q2, this]) (by
    show base_Unmarked_b1 s s.length = _
    unfold base_Unmarked_b1 base_Unmarked_k2 validO
    rw [if_neg (by omega), if_pos (by omega)]; rfl)
  rw [h]
  unfold unmB
  congr 1
  induction s with
  | nil => simp [findE]
  | cons c r ih => exact find_any c r _
where
  find_any (c : UInt8) (r : Str) (e : Bool) : findE (fun c => if badC c = true then some false else none) e (c :: r) = (!(c :: r).any badC && e) := by
    have key : ∀ (l : Str), findE (fun c => if badC c = true then some false else none) e l = (!l.any badC && e) := by
      intro l
      induction l with
      | nil => simp [findE]
      | cons x t ih =>
        simp only [findE, List.any_cons]
        cases hx : badC x with
        | true => simp
        | false => simp [ih]
    exact key _
/-! letters -/
end Go.Beacon
