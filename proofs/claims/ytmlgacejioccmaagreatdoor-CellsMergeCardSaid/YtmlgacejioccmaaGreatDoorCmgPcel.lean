/- Cells: checks, the order of stamps, what hides what. No program in sight. -/
import Derived.Test.YtmlgacejioccmaaGreatDoorCmgPck2
import Derived.Test.YtmlgacejioccmaaGreatDoorCmgPund
import Derived.Test.YtmlgacejioccmaaGreatDoorCmgPok
import Derived.Test.YtmlgacejioccmaaGreatDoorPcpt
import Derived.Test.YtmlgacejioccmaaGreatDoorPgm
set_option linter.unusedVariables false
set_option linter.unusedSimpArgs false
namespace Go.Beacon
open Go Go.Eng

theorem flatC_len {α β : Type} (g : α → List β) (hg : ∀ x, (g x).length ≤ 1) : ∀ xs : List α, (xs.flatMap g).length ≤ xs.length
  | [] => by simp
  | x :: xs => by
    have h1 := flatC_len g hg xs
    have h2 := hg x
    rw [List.flatMap_cons, List.length_append, List.length_cons]; omega
/-- A loop that appends something for each element. -/
theorem iter_flC {α β A : Type} (xs : List α) (g : α → List β) (hg : ∀ x, (g x).length ≤ 1) (f : List β × Int → Option ((List β × Int) ⊕ A)) (r : Option A) (X0 : List β)
    (h1 : ∀ (X : List β) (i : Int) x, 0 ≤ i → i < xs.length → idx xs i = some x → x ∈ xs → X.length ≤ X0.length + xs.length → f (X, i) = some (.inl (X ++ g x, i + 1)))
    (h2 : ∀ i : Int, i = xs.length → f (X0 ++ xs.flatMap g, i) = r.map .inr) : iter f (X0, 0) = r := by
  refine iter_to _ (fun x : List β × Int => (xs.length - x.2).toNat) (fun x : List β × Int => 0 ≤ x.2 ∧ x.2 ≤ xs.length ∧ x.1 = X0 ++ (xs.take x.2.toNat).flatMap g) _ ?_ _ ⟨by simp, by simp, by simp⟩
  rintro ⟨X, n⟩ ⟨g0, g1, g2⟩
  simp only at g0 g1 g2 ⊢
  by_cases hn : n < xs.length
  · left
    obtain ⟨v, hv, hm, _⟩ := idx_lt xs g0 hn
    obtain ⟨hn', hg'⟩ := List.getElem?_eq_some_iff.1 (idx_some hv).2.2
    have e : (n + 1).toNat = n.toNat + 1 := by omega
    have hX : X.length ≤ X0.length + xs.length := by
      rw [g2, List.length_append]
      have := flatC_len g hg (xs.take n.toNat)
      simp only [List.length_take] at this
      omega
    refine ⟨_, h1 X n v g0 hn hv hm hX, ⟨by simp only; omega, by simp only; omega, ?_⟩, by simp only; omega⟩
    simp only
    rw [e, List.take_succ_eq_append_getElem hn', g2, hg']; simp
  · right
    have hn' : n = xs.length := by omega
    rw [g2, List.take_of_length_le (by omega)]
    exact h2 n hn'
/-! checks -/
theorem stampF_eq (s : Stamp) : ∃ r, twin_stampFault s = some r ∧ Q_StampFault s = some r := by
  unfold twin_stampFault Q_StampFault
  rw [Moment_eq, QMoment_eq, Key_eq, QKey_eq, Out_not_in]
  simp only [Option.bind_some]
  repeat' split
  all_goals exact ⟨_, rfl, rfl⟩
/-- The name of a cell. -/
def cN (c : Cell) : Str := c.Prop_.Name
/-- Cells that may be checked. -/
def CL (l : List Cell) : Prop := l.length ≤ 1000 ∧ ∀ c ∈ l, (cN c).length ≤ 100000 ∧ c.Prop_.Value.Words.length ≤ 100000 ∧ (-1099511627777 ≤ c.Stamp.At ∧ c.Stamp.At ≤ 1099511627777) ∧ (-1099511627777 ≤ c.Stamp.No ∧ c.Stamp.No ≤ 1099511627777)
theorem cid_step {α : Type} (id : α → Str) {l : List α} {n : Int} {v : α} (h0 : 0 ≤ n) (hv : idx l n = some v) (hs : SId id (l.take n.toNat)) (hp : ∀ x, 0 < n → idx l (n - 1) = some x → Lib.compareBytes (id x) (id v) < 0) : SId id (l.take (n + 1).toNat) := by
  have g1 := (idx_some hv).2.2
  have e : (n + 1).toNat = n.toNat + 1 := by omega
  obtain ⟨hn, hg⟩ := List.getElem?_eq_some_iff.1 g1
  rw [e, List.take_succ_eq_append_getElem hn]
  unfold SId at hs ⊢
  rw [List.pairwise_append]
  refine ⟨hs, List.pairwise_singleton _ _, fun a ha b hb => ?_⟩
  rw [List.mem_singleton] at hb
  subst hb
  rw [hg]
  obtain ⟨i, hi, rfl⟩ := List.getElem_of_mem ha
  have hi' : i < n.toNat := by simp at hi; omega
  obtain ⟨z, hz, _, _⟩ := idx_lt l (i := n - 1) (by omega) (by omega)
  have g2 := (idx_some hz).2.2
  obtain ⟨hn2, hg2⟩ := List.getElem?_eq_some_iff.1 g2
  have hlast := hp z (by omega) hz
  by_cases c : i = (n - 1).toNat
  · subst c
    rw [List.getElem_take, hg2]; exact hlast
  · have := List.pairwise_iff_getElem.1 hs i (n - 1).toNat hi (by simp; omega) (by omega)
    rw [List.getElem_take (j := n.toNat) (i := (n - 1).toNat), hg2] at this
    exact cmpB_tr this hlast
theorem cerrs_two (c : List Cell) (n : Int) (v : Cell) (a b : Int) : Q_CellsFault_l2 c n v a b 0 = if orL [a, b] ≠ 0 then some (.inr (orL [a, b])) else Q_CellsFault_k2 c n v := by
  unfold Q_CellsFault_l2
  rw [iter_eq]
  show Option.bind (Q_CellsFault_b2 c n v a b 0) _ = _
  unfold Q_CellsFault_b2
  rw [if_pos (by simp), show idx [a, b] 0 = some a from rfl]
  simp only [Option.bind_some]
  by_cases ha : a = 0
  · subst ha
    rw [if_neg (by simp)]
    show iter _ (1 : Int) = _
    rw [iter_eq]
    show Option.bind (Q_CellsFault_b2 c n v 0 b 1) _ = _
    unfold Q_CellsFault_b2
    rw [if_pos (by simp), show idx [0, b] 1 = some b from rfl]
    simp only [Option.bind_some]
    by_cases hb : b = 0
    · subst hb
      rw [if_neg (by simp)]
      show iter _ (2 : Int) = _
      rw [iter_eq]
      show Option.bind (Q_CellsFault_b2 c n v 0 0 2) _ = _
      unfold Q_CellsFault_b2
      rw [if_neg (by simp), if_neg (by simp [orL])]
      cases Q_CellsFault_k2 c n v <;> rfl
    · rw [if_pos hb]
      have : orL [0, b] = b := by simp [orL, hb]
      rw [this, if_pos hb]; rfl
  · rw [if_pos ha]
    have : orL [a, b] = a := by simp [orL, ha]
    rw [this, if_pos ha]; rfl
theorem CheckCells_eq (c : List Cell) (hb : CL c) : ∃ r, twin_CheckCells c = some r ∧ Q_CellsFault c = some r ∧ (r = 0 → SId cN c ∧ c.length ≤ 500) := by
  have hl := hb.1
  unfold twin_CheckCells Q_CellsFault
  by_cases h5 : (500 : Int) < (c.length : Int)
  · rw [if_pos h5, if_pos h5]; exact ⟨2, rfl, rfl, fun h => by omega⟩
  rw [if_neg h5, if_neg h5]
  have key : ∃ r, twin_CheckCells_l1 c 0 = some r ∧ Q_CellsFault_l1 c 0 = some r ∧ (r = 0 → SId cN c) := by
    unfold twin_CheckCells_l1 Q_CellsFault_l1
    refine iter_two _ _ (fun n : Int => (c.length - n).toNat) (fun n : Int => 0 ≤ n ∧ n ≤ c.length ∧ SId cN (c.take n.toNat)) (fun r => r = 0 → SId cN c) ?_ (c.length + 1) 0 (by omega) ⟨by omega, by omega, by simp [SId]⟩
    rintro n ⟨h0, h1, h2⟩
    unfold twin_CheckCells_b1 Q_CellsFault_b1
    by_cases hn : n < c.length
    · obtain ⟨v, hv, hm, _⟩ := idx_lt c h0 hn
      obtain ⟨b1, b2, _⟩ := hb.2 v hm
      unfold cN at b1
      rw [if_pos hn, if_pos hn, hv]
      simp only [Option.bind_some]
      rw [isName_eq (by omega), QPropName_eq (by omega)]
      simp only [Option.bind_some]
      by_cases hd : (!dotB 8 v.Prop_.Name) = true
      · right; rw [if_pos hd, if_pos hd]; exact ⟨5, rfl, rfl, fun h => by omega⟩
      rw [if_neg hd, if_neg hd, valueFault_eq _ (by omega)]
      obtain ⟨e1, he1⟩ := vf_tot v.Prop_.Value (by omega)
      obtain ⟨e2, he2, he3⟩ := stampF_eq v.Stamp
      rw [he1, he2, he3]
      simp only [Option.bind_some]
      rw [First_eq _ (by simp), cerrs_two]
      simp only [Option.bind_some]
      by_cases h6 : orL [e1, e2] ≠ 0
      · right; rw [if_pos h6, if_pos h6]; exact ⟨_, rfl, rfl, fun h => absurd h h6⟩
      rw [if_neg h6, if_neg h6]
      unfold Q_CellsFault_k2
      by_cases hp : 0 < n
      · rw [if_pos hp, if_pos hp, w64_in (x := n - 1) (by omega) (by omega)]
        obtain ⟨z, hz, _, _⟩ := idx_lt c (i := n - 1) (by omega) (by omega)
        rw [hz]
        simp only [Option.bind_some]
        unfold twin_CheckCells_j1 Q_CellsFault_j1
        by_cases ho : (Op.bytesLess v.Prop_.Name z.Prop_.Name || v.Prop_.Name == z.Prop_.Name) = true
        · right; rw [if_pos ho]; exact ⟨7, rfl, rfl, fun h => by omega⟩
        · left; rw [if_neg ho, w64_in (by omega) (by omega)]
          refine ⟨_, rfl, rfl, ⟨by omega, by omega, cid_step cN h0 hv h2 fun x _ hx => ?_⟩, by omega⟩
          rw [hz] at hx
          obtain rfl := Option.some.inj hx
          rw [less_iff] at ho
          have ho' : ¬ Lib.compareBytes v.Prop_.Name z.Prop_.Name < 0 ∧ ¬ v.Prop_.Name = z.Prop_.Name := by simpa using ho
          have hneg := cmpB_neg v.Prop_.Name z.Prop_.Name
          have hz0 : Lib.compareBytes v.Prop_.Name z.Prop_.Name ≠ 0 := fun h => ho'.2 (cmpB_zero h)
          show Lib.compareBytes z.Prop_.Name v.Prop_.Name < 0
          omega
      · rw [if_neg hp, if_neg hp]
        left
        unfold twin_CheckCells_j1 Q_CellsFault_j1
        rw [if_neg (by simp), w64_in (by omega) (by omega)]
        exact ⟨_, rfl, rfl, ⟨by omega, by omega, cid_step cN h0 hv h2 fun x h _ => absurd h hp⟩, by omega⟩
    · rw [if_neg hn, if_neg hn]
      have hlen : n.toNat = c.length := by omega
      rw [hlen, List.take_length] at h2
      right
      exact ⟨0, rfl, rfl, fun _ => h2⟩
  obtain ⟨r, g1, g2, g3⟩ := key
  exact ⟨r, g1, g2, fun h => ⟨g3 h, by omega⟩⟩
/-! the order of stamps -/
def stO (a b : Stamp) : Int := if cmpI a.At b.At ≠ 0 then cmpI a.At b.At else if Lib.compareBytes a.By b.By ≠ 0 then Lib.compareBytes a.By b.By else cmpI a.No b.No
theorem byStamp_eq (a b : Stamp) : twin_byStamp a b = some (stO a b) := by
  unfold twin_byStamp
  rw [show cmp_Or_int [(cmp_Compare_int a.At b.At), (Lib.compareBytes a.By b.By), (cmp_Compare_int a.No b.No)] = some (orL [(cmp_Compare_int a.At b.At), (Lib.compareBytes a.By b.By), (cmp_Compare_int a.No b.No)]) from gOr_eq _ (by simp)]
  simp only [Option.bind_some]
  rw [CompareI_eq, CompareI_eq, orL3, orL2]
  unfold stO
  by_cases h1 : cmpI a.At b.At = 0 <;> by_cases h2 : Lib.compareBytes a.By b.By = 0 <;> simp [h1, h2]
theorem sign_cmpS {x y : Int} (hx : -1099511627777 ≤ x ∧ x ≤ 1099511627777) (hy : -1099511627777 ≤ y ∧ y ≤ 1099511627777) : Q_sign (w64 (x - y)) = cmpI x y := by
  rw [w64_in (by omega) (by omega)]
  unfold Q_sign cmpI
  repeat' split
  all_goals omega
theorem StampOrder_eq (a b : Stamp) (h1 : -1099511627777 ≤ a.At ∧ a.At ≤ 1099511627777) (h2 : -1099511627777 ≤ b.At ∧ b.At ≤ 1099511627777) (h3 : -1099511627777 ≤ a.No ∧ a.No ≤ 1099511627777) (h4 : -1099511627777 ≤ b.No ∧ b.No ≤ 1099511627777) : Q_StampOrder a b = stO a b := by
  unfold Q_StampOrder stO
  rw [sign_cmpS h1 h2, sign_cmpS h3 h4]
  by_cases c1 : a.At = b.At
  · have e1 : cmpI a.At b.At = 0 := by unfold cmpI; rw [if_neg (by omega), if_neg (by omega)]
    rw [if_neg (fun z : a.At ≠ b.At => z c1), if_neg (show ¬ (cmpI a.At b.At ≠ 0) by rw [e1]; simp)]
    by_cases c2 : a.By = b.By
    · have e2 : Lib.compareBytes a.By b.By = 0 := by rw [c2]; exact cmpB_self _
      rw [if_neg (fun z : a.By ≠ b.By => z c2), if_neg (show ¬ (Lib.compareBytes a.By b.By ≠ 0) by rw [e2]; simp)]
    · have e2 : Lib.compareBytes a.By b.By ≠ 0 := fun z => c2 (cmpB_zero z)
      rw [if_pos (show a.By ≠ b.By from c2), if_pos e2]
  · have e1 : cmpI a.At b.At ≠ 0 := by
      unfold cmpI
      split
      · simp
      · rw [if_pos (by omega)]; simp
    rw [if_pos (show a.At ≠ b.At from c1), if_pos e1]
/-! what hides what -/
def hdB (x y : Cell) : Bool :=
  if 0 < stO x.Stamp y.Stamp then abvB (cN x) (cN y) || (abvB (cN y) (cN x) && decide (y.Prop_.Value.Kind ≠ 0))
  else if stO x.Stamp y.Stamp = 0 then abvB (cN x) (cN y) && (decide (x.Prop_.Value.Kind ≠ 0) && decide (y.Prop_.Value.Kind ≠ 0)) else false
theorem abv_len {a b : Str} (h : abvB a b = true) : a.length < b.length := by
  unfold abvB at h
  rw [List.isPrefixOf_iff_prefix] at h
  have := h.length_le
  simp at this; omega
theorem CL.order {l : List Cell} (h : CL l) {x y : Cell} (hx : x ∈ l) (hy : y ∈ l) : Q_StampOrder x.Stamp y.Stamp = stO x.Stamp y.Stamp :=
  StampOrder_eq _ _ (h.2 x hx).2.2.1 (h.2 y hy).2.2.1 (h.2 x hx).2.2.2 (h.2 y hy).2.2.2
end Go.Beacon
