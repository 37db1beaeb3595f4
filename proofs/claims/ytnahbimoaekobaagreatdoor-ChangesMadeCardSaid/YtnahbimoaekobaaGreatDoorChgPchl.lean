/- ChangesMade: the generator of changes, and the law. No program in sight. -/
import Derived.Test.YtnahbimoaekobaaGreatDoorChgPapl
import Derived.Test.YtnahbimoaekobaaGreatDoorChgPtwn
set_option linter.unusedVariables false
set_option linter.unusedSimpArgs false
namespace Go.Beacon
open Go Go.Eng

/-- Few and short changes. -/
def CF (c : List Change) : Prop := c.length ≤ 11 ∧ ∀ x ∈ c, x.Name.length ≤ 1000 ∧ x.From.Words.length ≤ 1001 ∧ x.To.Words.length ≤ 1001
theorem CF.cb {c : List Change} (h : CF c) : CB c := ⟨by have := h.1; omega, fun x hx => by have := h.2 x hx; omega⟩
theorem CF.set {c : List Change} (h : CF c) (i : Nat) {y : Change} (hy : y.Name.length ≤ 1000 ∧ y.From.Words.length ≤ 1001 ∧ y.To.Words.length ≤ 1001) : CF (c.set i y) :=
  ⟨by rw [List.length_set]; exact h.1, fun x hx => by
    rcases List.mem_or_eq_of_mem_set hx with e | e
    · exact h.2 x e
    · subst e; exact hy⟩
theorem difL_cf {a b : List PropS} (ha : PF 6 a) (hb : PF 5 b) : CF (difL a b (nmsL [a, b])) := by
  have h1 := flat_len (difG a b) (difG_len a b) (nmsL [a, b])
  have h2 := nms_len [a, b]
  have h3 := flatN2 a b
  have h4 := ha.1
  have h5 := hb.1
  refine ⟨by unfold difL; omega, fun x hx => ?_⟩
  unfold difL at hx
  obtain ⟨n, hn, hxn⟩ := List.mem_flatMap.1 hx
  have hl : n.length ≤ 1000 := by
    obtain ⟨l, hl, p, hp, rfl⟩ := (nms_mem _ _).1 hn
    rcases List.mem_cons.1 hl with e | e
    · subst e; exact (ha.2 p hp).1
    · rw [List.mem_singleton] at e; subst e; exact (hb.2 p hp).1
  unfold difG at hxn
  split at hxn
  · rw [List.mem_singleton] at hxn
    subst hxn
    exact ⟨hl, valL_words a n 1001 (fun p hp => (ha.2 p hp).2), valL_words b n 1001 (fun p hp => (hb.2 p hp).2)⟩
  · cases hxn
theorem Changes_j1 {L : List Int} {a K : Int} {v : List Change} {b : Bool} (hs : SOk ⟨L, a⟩ K) (hK : 12 ≤ K) (hv : CF v) (hb : b = true → 0 < v.length) : Ok (Stream_Changes_j1 v L a b) (fun r => CF r.1 ∧ SOk r.2 (K - 12)) := by
  have hv1 := hv.1
  unfold Stream_Changes_j1 Stream_Changes_j5 Stream_Changes_j4 Stream_Changes_j3 Stream_Changes_j2
  split
  · rename_i h
    have hb' := hb h
    refine Ok.gen (Next_k hs (by omega) (by omega) (by omega)) (fun i s1 hi q1 => ?_)
    dsimp only
    refine Ok.idx hi.1 hi.2 (fun x hx hm => ?_)
    have hx' := hv.2 x hm
    refine Ok.gen (Next_k q1 (by omega) (by omega) (by omega)) (fun c s2 _ q2 => ?_)
    dsimp only
    split
    · refine Ok.gen (PropName_k q2 (by omega)) (fun n s3 hn q3 => ?_)
      exact Ok.ret ⟨hv.set _ ⟨hn, hx'.2⟩, q3.less (by omega)⟩
    · split
      · refine Ok.gen (Value_k q2 (by omega)) (fun n s3 hn q3 => ?_)
        exact Ok.ret ⟨hv.set _ ⟨hx'.1, hn, hx'.2.2⟩, q3.less (by omega)⟩
      · split
        · refine Ok.gen (Value_k q2 (by omega)) (fun n s3 hn q3 => ?_)
          exact Ok.ret ⟨hv.set _ ⟨hx'.1, hx'.2.1, hn⟩, q3.less (by omega)⟩
        · exact Ok.ret ⟨hv.set _ ⟨hx'.1, hx'.2.2, hx'.2.2⟩, q2.less (by omega)⟩
  · exact Ok.ret ⟨hv, hs.less (by omega)⟩
theorem Changes_k {s : Stm} {K : Int} {l : List PropS} (hs : SOk s K) (hK : 40 ≤ K) (hl : PF 6 l) : Gen (Stream_Changes s l) (K - 40) CF := by
  refine Gen.of ?_
  unfold Stream_Changes
  refine Ok.gen (RightProps_k hs (by omega)) (fun r s1 hr q1 => ?_)
  dsimp only
  rw [DifferOf_eq l r (by have := hl.1; omega) (by have := hr.1; omega)]
  simp only [Option.bind_some]
  have hcf := difL_cf hl hr
  split
  · rename_i h
    refine Ok.gen (Flip_k q1 (by omega) (by omega) (by omega)) (fun c s2 _ q2 => ?_)
    exact (Changes_j1 q2 (by omega) hcf (fun _ => by omega)).mono (fun v hv => ⟨hv.1, hv.2.less (by omega)⟩)
  · exact (Changes_j1 q1 (by omega) hcf (fun h => by cases h)).mono (fun v hv => ⟨hv.1, hv.2.less (by omega)⟩)
theorem eqC_self (l : List Change) (h : l.length ≤ 100000) : slices_Equal_Change_Change l l = some true := by
  rw [show slices_Equal_Change_Change l l = some (decide (l = l)) from gEqual_eq _ _ (by omega)]; simp
theorem eqP_self (l : List PropS) (h : l.length ≤ 100000) : slices_Equal_Prop_Prop l l = some true := by
  rw [show slices_Equal_Prop_Prop l l = some (decide (l = l)) from gEqual_eq _ _ (by omega)]; simp
theorem errs2 (x y : Int) : L_errs [x, y] = some (orL [x, y]) := gOr_eq _ (by simp)
theorem ch_j3 (d t : List Change) (x : List PropS) (n p q : Int) (hd : d.length ≤ 100000) (ht : t.length ≤ 100000) (hx : x.length ≤ 100000) : L_ChangesMade_j3 (d, p) (x, n) (t, q) q p d t n x = some true := by
  unfold L_ChangesMade_j3
  rw [if_pos rfl, eqC_self d hd]
  simp only [Option.bind_some, if_true]
  rw [eqP_self x hx]
  simp only [Option.bind_some, if_true]
  rw [eqC_self t ht]
  simp only [Option.bind_some, if_true]
  rw [twinned_eq]
  rfl
theorem ch_j2 (v2 : List PropS × Stm) (v6 : List Change × Stm) (d t : List Change) (x : List PropS × Int) (p r1 r3 : Int) (hd : d.length ≤ 100000) (ht : t.length ≤ 100000)
    (hx : (orL [r1, r3] ≠ 0 ∧ x = ([], orL [r1, r3])) ∨ (orL [r1, r3] = 0 ∧ Q_ApplyOf v2.1 v6.1 = some x ∧ x.1.length ≤ 1000)) : L_ChangesMade_j2 v2 v6 (d, p) x (t, r3) r1 r3 p d t = some true := by
  unfold L_ChangesMade_j2
  rw [errs2]
  simp only [Option.bind_some]
  rcases hx with ⟨h1, rfl⟩ | ⟨h1, h2, h3⟩
  · rw [if_neg h1]
    exact ch_j3 d t [] _ p r3 hd ht (by simp)
  · rw [if_pos h1, h2]
    simp only [Option.bind_some]
    exact ch_j3 d t x.1 x.2 p r3 hd ht (by omega)
theorem ChangesMade_plain (L : List Int) : L_ChangesMade L = some true := by
  have key : Ok (L_ChangesMade L) (fun r => r = true) := by
    unfold L_ChangesMade
    refine Ok.gen (Props_k (K := 1000) ⟨by simp, by simp⟩ (by omega)) (fun a s1 ha q1 => ?_)
    refine Ok.gen (Props_k q1 (by omega)) (fun b s2 hb q2 => ?_)
    refine Ok.gen (Changes_k q2 (by omega) ha) (fun c s3 hc q3 => ?_)
    dsimp only
    have pa : PB a := ha.pb (by omega)
    have pb : PB b := hb.pb (by omega)
    obtain ⟨r1, a1, a2, a3⟩ := CheckProps_eq a pa
    obtain ⟨r2, b1, b2, b3⟩ := CheckProps_eq b pb
    obtain ⟨r3, c1, c2, c3⟩ := CheckChanges_eq c hc.cb
    have hcl := hc.1
    have hD : twin_Differ a b = some (if orL [r1, r2] ≠ 0 then ([], orL [r1, r2]) else (difL a b (nmsL [a, b]), 0)) := by
      rw [Differ_eq a b pa pb a1 b1 (fun h => (a3 h).1) (fun h => (b3 h).1)]; split <;> rfl
    have hT : twin_Turn c = some (if r3 ≠ 0 then ([], r3) else (turnL c, 0)) := by
      rw [Turn_eq c (by omega) c1]; split <;> rfl
    have hA : ∃ x, twin_Apply a c = some x ∧ ((orL [r1, r3] ≠ 0 ∧ x = ([], orL [r1, r3])) ∨ (orL [r1, r3] = 0 ∧ Q_ApplyOf a c = some x ∧ x.1.length ≤ 1000)) := by
      by_cases h : orL [r1, r3] = 0
      · have hz := orL2_zero h
        have e1 := hz.1
        have e3 := hz.2
        subst e1
        subst e3
        obtain ⟨x, x1, x2, x3⟩ := Apply_eq a c pa (a3 rfl).2.1 (a3 rfl).1 (a3 rfl).2.2 hc.cb (by omega) (c3 rfl).1 a1 c1
        exact ⟨x, x1, .inr ⟨h, x2, x3⟩⟩
      · refine ⟨_, ?_, .inl ⟨h, rfl⟩⟩
        unfold twin_Apply
        rw [a1, c1]
        simp only [Option.bind_some]
        rw [First_eq _ (by simp)]
        simp only [Option.bind_some]
        rw [if_pos h]
    obtain ⟨x, x1, x2⟩ := hA
    have hdl : (difL a b (nmsL [a, b])).length ≤ 100000 := by
      have h1 := flat_len (difG a b) (difG_len a b) (nmsL [a, b])
      have h2 := nms_len [a, b]
      have h3 := flatN2 a b
      have h4 := ha.1
      have h5 := hb.1
      unfold difL; omega
    have htl : (turnL c).length ≤ 100000 := by
      have h1 := flat_len (fun x : Change => [(⟨x.Name, x.To, x.From⟩ : Change)]) (fun x => by simp) c
      unfold turnL; omega
    rw [hD, x1, hT, a2, c2, c1]
    simp only [Option.bind_some]
    rw [if_neg (by simp), b2]
    simp only [Option.bind_some]
    rw [errs2]
    simp only [Option.bind_some]
    refine ⟨true, ?_, rfl⟩
    by_cases h12 : orL [r1, r2] = 0
    · rw [if_pos h12, DifferOf_eq a b (by have := ha.1; omega) (by have := hb.1; omega)]
      simp only [Option.bind_some]
      rw [if_neg (by simpa using h12), h12]
      unfold L_ChangesMade_j1
      by_cases h3 : r3 = 0
      · subst h3
        rw [if_pos rfl, TurnOf_eq c (by omega), if_neg (by simp)]
        simp only [Option.bind_some]
        exact ch_j2 _ _ _ _ x 0 r1 0 hdl htl x2
      · rw [if_neg h3, if_pos h3]
        exact ch_j2 _ _ _ _ x 0 r1 r3 hdl (by simp) x2
    · rw [if_neg h12, if_pos h12]
      unfold L_ChangesMade_j1
      by_cases h3 : r3 = 0
      · subst h3
        rw [if_pos rfl, TurnOf_eq c (by omega), if_neg (by simp)]
        simp only [Option.bind_some]
        exact ch_j2 _ _ _ _ x _ r1 0 (by simp) htl x2
      · rw [if_neg h3, if_pos h3]
        exact ch_j2 _ _ _ _ x _ r1 r3 (by simp) (by simp) x2
  obtain ⟨r, h1, rfl⟩ := key
  exact h1
end Go.Beacon
