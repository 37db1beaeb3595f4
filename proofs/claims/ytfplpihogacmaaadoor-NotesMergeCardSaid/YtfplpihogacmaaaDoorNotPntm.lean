/- The law NotesMerge as a plain statement. No program in sight. -/
import Derived.Test.YtfplpihogacmaaaDoorNotPnot
import Derived.Test.YtfplpihogacmaaaDoorNotPpos
import Derived.Test.YtfplpihogacmaaaDoorPgm
set_option linter.unusedVariables false
set_option linter.unusedSimpArgs false
namespace Go.Beacon
open Go Go.Eng

/-! how far a note has gone on -/
def rnk (s : Int) : Int := if s = 6 then 1 else if s = 5 then 2 else if s = 7 then 3 else if s = 4 then 4 else if s = 3 then 5 else 0
theorem rank_eq (s : Int) : command_rank s = some (rnk s) := by
  unfold command_rank slices_Index_int_int slices_Index_int_int_l1 rnk
  have step : ∀ (i v : Int), idx [(6 : Int), 5, 7, 4, 3] i = some v → i < 5 → 0 ≤ i → iter (fun x : Int => slices_Index_int_int_b1 [(6 : Int), 5, 7, 4, 3] s x) i = if s = v then some i else iter (fun x : Int => slices_Index_int_int_b1 [(6 : Int), 5, 7, 4, 3] s x) (i + 1) := by
    intro i v hv h1 h2
    rw [iter_eq, slices_Index_int_int_b1, if_pos (by simpa using h1), hv]
    simp only [Option.bind_some]
    rw [w64_in (by omega) (by omega)]
    by_cases h : s = v
    · rw [if_pos h, if_pos h, map_inr_after]
    · rw [if_neg h, if_neg h]; simp only [Option.bind_some, after_inl]
  have fin : iter (fun x : Int => slices_Index_int_int_b1 [(6 : Int), 5, 7, 4, 3] s x) 5 = some (-1) := by
    rw [iter_eq, slices_Index_int_int_b1, if_neg (by simp), map_inr_after]
  rw [step 0 6 rfl (by omega) (by omega), show (0 : Int) + 1 = 1 from rfl, step 1 5 rfl (by omega) (by omega), show (1 : Int) + 1 = 2 from rfl, step 2 7 rfl (by omega) (by omega), show (2 : Int) + 1 = 3 from rfl, step 3 4 rfl (by omega) (by omega), show (3 : Int) + 1 = 4 from rfl, step 4 3 rfl (by omega) (by omega), show (4 : Int) + 1 = 5 from rfl, fin]
  repeat' split
  all_goals first | rfl | (simp only [Option.bind_some]; decide)
def furF (x y : Note) : Int := orL [cmpI (rnk x.State) (rnk y.State), cmpI x.Tries y.Tries, cmpI y.Since x.Since, cmpI y.State x.State]
theorem further_eq (x y : Note) : command_further x y = some (furF x y) := by
  unfold command_further
  rw [rank_eq, rank_eq]
  simp only [Option.bind_some, CompareI_eq]
  have h : ∀ l : List Int, l.length ≤ 100 → cmp_Or_int l = some (orL l) := fun l hl => gOr_eq l (by omega)
  rw [h _ (by simp)]; rfl
theorem gone_eq {n : Note} (h : NotR n) : Q_gone n = some [rnk n.State, n.Tries, -n.Since, -n.State] := by
  have h1 := h.state; have h2 := h.since
  unfold Q_gone
  have hm : mset (mset (mset (mset (mset ([] : List (Int × Int)) 3 5) 4 4) 7 3) 5 2) 6 1 = [(3, 5), (4, 4), (5, 2), (6, 1), (7, 3)] := by decide
  rw [hm]
  have hg : mgetO [((3 : Int), (5 : Int)), (4, 4), (5, 2), (6, 1), (7, 3)] n.State 0 = some (rnk n.State) := by
    unfold mgetO rnk
    simp only [mget?]
    by_cases q1 : n.State = 3
    · simp [q1]
    · by_cases q2 : n.State = 4
      · simp [q2]
      · by_cases q3 : n.State = 5
        · simp [q3]
        · by_cases q4 : n.State = 6
          · simp [q4]
          · by_cases q5 : n.State = 7
            · simp [q5]
            · simp [q1, q2, q3, q4, q5, Ne.symm q1, Ne.symm q2, Ne.symm q3, Ne.symm q4, Ne.symm q5]
  rw [hg]
  simp only [Option.bind_some]
  rw [w64_in (x := -n.Since) (by omega) (by omega), w64_in (x := -n.State) (by omega) (by omega)]
theorem cmpI_negs (a b : Int) : cmpI (-a) (-b) = cmpI b a := by
  unfold cmpI
  repeat' split
  all_goals omega
theorem compare4 (a1 a2 a3 a4 b1 b2 b3 b4 : Int) : slices_Compare_int_int [a1, a2, a3, a4] [b1, b2, b3, b4] = some (orL [cmpI a1 b1, cmpI a2 b2, cmpI a3 b3, cmpI a4 b4]) := by
  have step : ∀ (i v u : Int), idx [a1, a2, a3, a4] i = some v → idx [b1, b2, b3, b4] i = some u → 0 ≤ i → i < 4 → slices_Compare_int_int_l1 [a1, a2, a3, a4] [b1, b2, b3, b4] i = if cmpI v u ≠ 0 then some (cmpI v u) else slices_Compare_int_int_l1 [a1, a2, a3, a4] [b1, b2, b3, b4] (i + 1) := by
    intro i v u hv hu h0 h1
    unfold slices_Compare_int_int_l1
    rw [iter_eq, slices_Compare_int_int_b1, if_pos (by simpa using h1), hv]
    simp only [Option.bind_some]
    rw [if_neg (by simpa using h1), hu]
    simp only [Option.bind_some, CompareI_eq]
    rw [w64_in (by omega) (by omega)]
    by_cases h : cmpI v u ≠ 0
    · rw [if_pos h, if_pos h, map_inr_after]
    · rw [if_neg h, if_neg h]; simp only [Option.bind_some, after_inl]
  have fin : slices_Compare_int_int_l1 [a1, a2, a3, a4] [b1, b2, b3, b4] 4 = some 0 := by
    unfold slices_Compare_int_int_l1
    rw [iter_eq, slices_Compare_int_int_b1, if_neg (by simp), map_inr_after]
    unfold slices_Compare_int_int_k1
    rw [if_neg (by simp)]
  unfold slices_Compare_int_int
  rw [step 0 a1 b1 rfl rfl (by omega) (by omega), show (0 : Int) + 1 = 1 from rfl, step 1 a2 b2 rfl rfl (by omega) (by omega), show (1 : Int) + 1 = 2 from rfl, step 2 a3 b3 rfl rfl (by omega) (by omega), show (2 : Int) + 1 = 3 from rfl, step 3 a4 b4 rfl rfl (by omega) (by omega), show (3 : Int) + 1 = 4 from rfl, fin]
  by_cases q1 : cmpI a1 b1 = 0 <;> by_cases q2 : cmpI a2 b2 = 0 <;> by_cases q3 : cmpI a3 b3 = 0 <;> by_cases q4 : cmpI a4 b4 = 0 <;> simp [orL, q1, q2, q3, q4]
def nid (n : Note) : Str := n.Letter.Id
def pickN (x y : Note) : Note := if 0 < furF y x then y else x
theorem pick_id {x y : Note} (h : nid x = nid y) : nid (pickN x y) = nid x := by
  unfold pickN; split
  · exact h.symm
  · rfl
/-! the program's merge -/
def mrgN : Nat → List Note → List Note → Option (List Note)
  | 0, _, _ => some []
  | n + 1, [], b => some b
  | n + 1, x :: a, [] => some (x :: a)
  | n + 1, x :: a, y :: b =>
    if Lib.compareBytes (nid x) (nid y) < 0 then (mrgN n a (y :: b)).map (x :: ·)
    else if 0 < Lib.compareBytes (nid x) (nid y) then (mrgN n (x :: a) b).map (y :: ·)
    else if x.Letter ≠ y.Letter then none else (mrgN n a b).map (pickN x y :: ·)
def combN (u v : Option Note) : Option Note := match u, v with
  | some x, some y => some (pickN x y)
  | some x, none => some x
  | none, v => v
def Conf (a b : List Note) : Prop := ∃ k x y, gt nid a k = some x ∧ gt nid b k = some y ∧ x.Letter ≠ y.Letter
theorem mrg_ids : ∀ (n : Nat) (a b r : List Note), a.length + b.length < n → mrgN n a b = some r → ∀ z ∈ r, ∃ m, (m ∈ a ∨ m ∈ b) ∧ nid m = nid z
  | 0, a, b, r, h, _ => by omega
  | n + 1, [], b, r, h, hr => by
    simp only [mrgN, Option.some.injEq] at hr; subst hr
    exact fun z hz => ⟨z, .inr hz, rfl⟩
  | n + 1, x :: a, [], r, h, hr => by
    simp only [mrgN, Option.some.injEq] at hr; subst hr
    exact fun z hz => ⟨z, .inl hz, rfl⟩
  | n + 1, x :: a, y :: b, r, h, hr => by
    simp only [List.length_cons] at h
    simp only [mrgN] at hr
    split at hr
    · obtain ⟨r', h1, rfl⟩ := Option.map_eq_some_iff.1 hr
      intro z hz
      rcases List.mem_cons.1 hz with rfl | hz
      · exact ⟨z, .inl (by simp), rfl⟩
      · obtain ⟨m, hm, e⟩ := mrg_ids n a (y :: b) r' (by simp; omega) h1 z hz
        exact ⟨m, hm.imp (List.mem_cons_of_mem _) (fun h => h), e⟩
    · split at hr
      · obtain ⟨r', h1, rfl⟩ := Option.map_eq_some_iff.1 hr
        intro z hz
        rcases List.mem_cons.1 hz with rfl | hz
        · exact ⟨z, .inr (by simp), rfl⟩
        · obtain ⟨m, hm, e⟩ := mrg_ids n (x :: a) b r' (by simp; omega) h1 z hz
          exact ⟨m, hm.imp (fun h => h) (List.mem_cons_of_mem _), e⟩
      · split at hr
        · cases hr
        · obtain ⟨r', h1, rfl⟩ := Option.map_eq_some_iff.1 hr
          intro z hz
          rcases List.mem_cons.1 hz with rfl | hz
          · refine ⟨x, .inl (by simp), ?_⟩
            unfold pickN; split
            · rename_i q1 q2 q3 q4
              exact cmpB_zero (by omega)
            · rfl
          · obtain ⟨m, hm, e⟩ := mrg_ids n a b r' (by omega) h1 z hz
            exact ⟨m, hm.imp (List.mem_cons_of_mem _) (List.mem_cons_of_mem _), e⟩
theorem mrg_spec : ∀ (n : Nat) (a b : List Note), a.length + b.length < n → SId nid a → SId nid b → (∃ r, mrgN n a b = some r ∧ ¬ Conf a b ∧ SId nid r ∧ ∀ k, gt nid r k = combN (gt nid a k) (gt nid b k)) ∨ (mrgN n a b = none ∧ Conf a b)
  | 0, a, b, h, _, _ => by omega
  | n + 1, [], b, h, ha, hb => by
    left
    refine ⟨b, rfl, ?_, hb, fun k => rfl⟩
    rintro ⟨k, x, y, h1, _⟩; cases h1
  | n + 1, x :: a, [], h, ha, hb => by
    left
    refine ⟨x :: a, rfl, ?_, ha, fun k => ?_⟩
    · rintro ⟨k, x, y, _, h1, _⟩; cases h1
    · rw [gt_nil]; unfold combN; cases gt nid (x :: a) k <;> rfl
  | n + 1, x :: a, y :: b, h, ha, hb => by
    simp only [List.length_cons] at h
    have ha' := List.pairwise_cons.1 ha
    have hb' := List.pairwise_cons.1 hb
    simp only [mrgN]
    by_cases c1 : Lib.compareBytes (nid x) (nid y) < 0
    · rw [if_pos c1]
      have hnx : gt nid (y :: b) (nid x) = none := SId.none_lt nid hb c1
      have hax : gt nid a (nid x) = none := (gt_none nid).2 fun z hz he => by have := ha'.1 z hz; rw [he, cmpB_self] at this; omega
      rcases mrg_spec n a (y :: b) (by simp; omega) ha'.2 hb with ⟨r, h1, h2, h3, h4⟩ | ⟨h1, h2⟩
      · left
        refine ⟨x :: r, by rw [h1]; rfl, ?_, List.pairwise_cons.2 ⟨fun z hz => ?_, h3⟩, fun k => ?_⟩
        · rintro ⟨k, u, v, g1, g2, g3⟩
          rw [gt_cons] at g1
          split at g1
          · rename_i hk; subst hk; rw [hnx] at g2; cases g2
          · exact h2 ⟨k, u, v, g1, g2, g3⟩
        · obtain ⟨m, hm, e⟩ := mrg_ids n a (y :: b) r (by simp; omega) h1 z hz
          rw [← e]
          rcases hm with hm | hm
          · exact ha'.1 m hm
          · rcases List.mem_cons.1 hm with rfl | hm
            · exact c1
            · exact cmpB_3.tr c1 (hb'.1 m hm)
        · rw [gt_cons, gt_cons, h4]
          by_cases hk : nid x = k
          · subst hk; rw [if_pos rfl, if_pos rfl, hnx]; rfl
          · rw [if_neg hk, if_neg hk]
      · right
        refine ⟨by rw [h1]; rfl, ?_⟩
        obtain ⟨k, u, v, g1, g2, g3⟩ := h2
        refine ⟨k, u, v, ?_, g2, g3⟩
        rw [gt_cons, if_neg (fun hk => by subst hk; rw [hax] at g1; cases g1)]; exact g1
    · rw [if_neg c1]
      by_cases c2 : 0 < Lib.compareBytes (nid x) (nid y)
      · rw [if_pos c2]
        have c2' : Lib.compareBytes (nid y) (nid x) < 0 := by have := cmpB_3.neg (nid x) (nid y); omega
        have hny : gt nid (x :: a) (nid y) = none := SId.none_lt nid ha c2'
        have hby : gt nid b (nid y) = none := (gt_none nid).2 fun z hz he => by have := hb'.1 z hz; rw [he, cmpB_self] at this; omega
        rcases mrg_spec n (x :: a) b (by simp; omega) ha hb'.2 with ⟨r, h1, h2, h3, h4⟩ | ⟨h1, h2⟩
        · left
          refine ⟨y :: r, by rw [h1]; rfl, ?_, List.pairwise_cons.2 ⟨fun z hz => ?_, h3⟩, fun k => ?_⟩
          · rintro ⟨k, u, v, g1, g2, g3⟩
            rw [gt_cons] at g2
            split at g2
            · rename_i hk; subst hk; rw [hny] at g1; cases g1
            · exact h2 ⟨k, u, v, g1, g2, g3⟩
          · obtain ⟨m, hm, e⟩ := mrg_ids n (x :: a) b r (by simp; omega) h1 z hz
            rw [← e]
            rcases hm with hm | hm
            · rcases List.mem_cons.1 hm with rfl | hm
              · exact c2'
              · exact cmpB_3.tr c2' (ha'.1 m hm)
            · exact hb'.1 m hm
          · rw [gt_cons, gt_cons nid y b, h4]
            by_cases hk : nid y = k
            · subst hk; rw [if_pos rfl, if_pos rfl, hny]; rfl
            · rw [if_neg hk, if_neg hk]
        · right
          refine ⟨by rw [h1]; rfl, ?_⟩
          obtain ⟨k, u, v, g1, g2, g3⟩ := h2
          refine ⟨k, u, v, g1, ?_, g3⟩
          rw [gt_cons, if_neg (fun hk => by subst hk; rw [hby] at g2; cases g2)]; exact g2
      · rw [if_neg c2]
        have hxy : nid x = nid y := cmpB_zero (by omega)
        have hax : gt nid a (nid x) = none := (gt_none nid).2 fun z hz he => by have := ha'.1 z hz; rw [he, cmpB_self] at this; omega
        have hby : gt nid b (nid x) = none := (gt_none nid).2 fun z hz he => by have := hb'.1 z hz; rw [hxy] at he; rw [he, cmpB_self] at this; omega
        by_cases c3 : x.Letter ≠ y.Letter
        · rw [if_pos c3]
          right
          refine ⟨rfl, nid x, x, y, ?_, ?_, c3⟩
          · rw [gt_cons, if_pos rfl]
          · rw [gt_cons, if_pos hxy.symm]
        · rw [if_neg c3]
          rcases mrg_spec n a b (by omega) ha'.2 hb'.2 with ⟨r, h1, h2, h3, h4⟩ | ⟨h1, h2⟩
          · left
            refine ⟨pickN x y :: r, by rw [h1]; rfl, ?_, List.pairwise_cons.2 ⟨fun z hz => ?_, h3⟩, fun k => ?_⟩
            · rintro ⟨k, u, v, g1, g2, g3⟩
              rw [gt_cons] at g1 g2
              by_cases hk : nid x = k
              · rw [if_pos hk] at g1; rw [if_pos (hxy ▸ hk)] at g2
                obtain rfl := Option.some.inj g1
                obtain rfl := Option.some.inj g2
                exact c3 g3
              · rw [if_neg hk] at g1; rw [if_neg (by rw [← hxy]; exact hk)] at g2
                exact h2 ⟨k, u, v, g1, g2, g3⟩
            · obtain ⟨m, hm, e⟩ := mrg_ids n a b r (by omega) h1 z hz
              rw [← e, pick_id hxy]
              rcases hm with hm | hm
              · exact ha'.1 m hm
              · rw [hxy]; exact hb'.1 m hm
            · rw [gt_cons, gt_cons nid x a, gt_cons nid y b, h4, pick_id hxy, ← hxy]
              by_cases hk : nid x = k
              · rw [if_pos hk, if_pos hk, if_pos hk]; rfl
              · rw [if_neg hk, if_neg hk, if_neg hk]
          · right
            refine ⟨by rw [h1]; rfl, ?_⟩
            obtain ⟨k, u, v, g1, g2, g3⟩ := h2
            refine ⟨k, u, v, ?_, ?_, g3⟩
            · rw [gt_cons, if_neg (fun hk => by subst hk; rw [hax] at g1; cases g1)]; exact g1
            · rw [gt_cons, if_neg (fun hk => by rw [← hxy] at hk; subst hk; rw [hby] at g2; cases g2)]; exact g2
end Go.Beacon
