/- ChangesMade: the generator of changes, and the law. No program in sight. -/
import Derived.Test.YtnahbimoaekobaaGreatDoorSidPapl
import Derived.Test.YtnahbimoaekobaaGreatDoorSidPtwn
set_option linter.unusedVariables false
set_option linter.unusedSimpArgs false
namespace Go.Beacon
open Go Go.Eng

/-- Few and short changes. -/
def CF (c : List Change) : Prop := c.length ≤ 11 ∧ ∀ x ∈ c, x.Name.length ≤ 1000 ∧ x.From.Words.length ≤ 1001 ∧ x.To.Words.length ≤ 1001
theorem CF.cb {c : List Change} (h : CF c) : CB c := ⟨by have := h.1; omega, fun x hx => by have := h.2 x hx; omega⟩
theorem CF.set {c : List Change} (h : CF c) (i : Nat) {y : Change} (hy : y.Name.length ≤ 1000 ∧ y.From.Words.length ≤ 1001 ∧ y.To.Words.length ≤ 1001) : CF (c.set i y) :=
  ⟨by rw [List.length_set]; exact h.1, fun x hx => by
    rcases List.mem_or_eq_of_mem_set hx with e | e
    · exact h.2 x e
    · subst e; exact hy⟩
theorem difL_cf {a b : List PropS} (ha : PF 6 a) (hb : PF 5 b) : CF (difL a b (nmsL [a, b])) := by
  have h1 := flat_len (difG a b) (difG_len a b) (nmsL [a, b])
  have h2 := nms_len [a, b]
  have h3 := flatN2 a b
  have h4 := ha.1
  have h5 := hb.1
  refine ⟨by unfold difL; omega, fun x hx => ?_⟩
  unfold difL at hx
  obtain ⟨n, hn, hxn⟩ := List.mem_flatMap.1 hx
  have hl : n.length ≤ 1000 := by
    obtain ⟨l, hl, p, hp, rfl⟩ := (nms_mem _ _).1 hn
    rcases List.mem_cons.1 hl with e | e
    · subst e; exact (ha.2 p hp).1
    · rw [List.mem_singleton] at e; subst e; exact (hb.2 p hp).1
  unfold difG at hxn
  split at hxn
  · rw [List.mem_singleton] at hxn
    subst hxn
    exact ⟨hl, valL_words a n 1001 (fun p hp => (ha.2 p hp).2), valL_words b n 1001 (fun p hp => (hb.2 p hp).2)⟩
  · cases hxn
theorem Changes_j1 {L : List Int} {a K : Int} {v : List Change} {b : Bool} (hs : SOk ⟨L, a⟩ K) (hK : 12 ≤ K) (hv : CF v) (hb : b = true → 0 < v.length) : Ok (Stream_Changes_j1 v L a b) (fun r => CF r.1 ∧ SOk r.2 (K - 12)) := by
  have hv1 := hv.1
  unfold Stream_Changes_j1 Stream_Changes_j5 Stream_Changes_j4 Stream_Changes_j3 Stream_Changes_j2
  split
  · rename_i h
    have hb' := hb h
    refine Ok.gen (Next_k hs (by omega) (by omega) (by omega)) (fun i s1 hi q1 => ?_)
    dsimp only
    refine Ok.idx hi.1 hi.2 (fun x hx hm => ?_)
    have hx' := hv.2 x hm
    refine Ok.gen (Next_k q1 (by omega) (by omega) (by omega)) (fun c s2 _ q2 => ?_)
    dsimp only
    split
    · refine Ok.gen (PropName_k q2 (by omega)) (fun n s3 hn q3 => ?_)
      exact Ok.ret ⟨hv.set _ ⟨hn, hx'.2⟩, q3.less (by omega)⟩
    · split
      · refine Ok.gen (Value_k q2 (by omega)) (fun n s3 hn q3 => ?_)
        exact Ok.ret ⟨hv.set _ ⟨hx'.1, hn, hx'.2.2⟩, q3.less (by omega)⟩
      · split
        · refine Ok.gen (Value_k q2 (by omega)) (fun n s3 hn q3 => ?_)
          exact Ok.ret ⟨hv.set _ ⟨hx'.1, hx'.2.1, hn⟩, q3.less (by omega)⟩
        · exact Ok.ret ⟨hv.set _ ⟨hx'.1, hx'.2.2, hx'.2.2⟩, q2.less (by omega)⟩
  · exact Ok.ret ⟨hv, hs.less (by omega)⟩
theorem Changes_k {s : Stm} {K : Int} {l : List PropS} (hs : SOk s K) (hK : 40 ≤ K) (hl : PF 6 l) : Gen (Stream_Changes s l) (K - 40) CF := by
  refine Gen.of ?_
  unfold Stream_Changes
  refine Ok.gen (RightProps_k hs (by omega)) (fun r s1 hr q1 => ?_)
  dsimp only
  rw [DifferOf_eq l r (by have := hl.1; omega) (by have := hr.1; omega)]
  simp only [Option.bind_some]
  have hcf := difL_cf hl hr
  split
  · rename_i h
    refine Ok.gen (Flip_k q1 (by omega) (by omega) (by omega)) (fun c s2 _ q2 => ?_)
    exact (Changes_j1 q2 (by omega) hcf (fun _ => by omega)).mono (fun v hv => ⟨hv.1, hv.2.less (by omega)⟩)
  · exact (Changes_j1 q1 (by omega) hcf (fun h => by cases h)).mono (fun v hv => ⟨hv.1, hv.2.less (by omega)⟩)
theorem eqP_self (l : List PropS) (h : l.length ≤ 100000) : slices_Equal_Prop_Prop l l = some true := by
  rw [show slices_Equal_Prop_Prop l l = some (decide (l = l)) from gEqual_eq _ _ (by omega)]; simp
theorem errs2 (x y : Int) : L_errs [x, y] = some (orL [x, y]) := gOr_eq _ (by simp)
end Go.Beacon
