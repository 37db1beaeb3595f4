/- Visible and compact cells; the generator of cells. No program in sight. -/
import Derived.Test.YtmlgacejioccmaaGreatDoorCsePcel
import Derived.Test.YtmlgacejioccmaaGreatDoorCsePprq
import Derived.Test.YtmlgacejioccmaaGreatDoorCsePtwn
set_option linter.unusedVariables false
set_option linter.unusedSimpArgs false
namespace Go.Beacon
open Go Go.Eng

/-! what is seen -/
def visG (l : List Cell) (c : Cell) : List PropS := if (decide (c.Prop_.Value.Kind ≠ 0) && !(l.any fun x => hdB x c)) = true then [c.Prop_] else []
theorem visG_len (l : List Cell) (c : Cell) : (visG l c).length ≤ 1 := by unfold visG; split <;> simp
theorem visible_eq (l : List Cell) (hl : l.length ≤ 1000) : twin_visible l = some (l.flatMap (visG l)) := by
  unfold twin_visible twin_visible_l1
  refine iter_flC l (visG l) (visG_len l) _ _ [] (fun X i x h0 h1 hx hm hX => ?_) (fun i hi => ?_)
  · simp only [List.length_nil] at hX
    simp only
    rw [twin_visible_b1, if_pos h1, hx]
    simp only [Option.bind_some]
    have j1 : ∀ c : Bool, c = (decide (x.Prop_.Value.Kind ≠ 0) && !(l.any fun z => hdB z x)) → twin_visible_j1 X i x c = some (.inl (X ++ visG l x, i + 1)) := by
      intro c hc
      unfold twin_visible_j1 twin_visible_j2 visG
      rw [← hc, w64_in (by omega) (by omega)]
      by_cases h : c = true
      · rw [if_pos h, if_pos h, app_le (by simp; omega)]; rfl
      · rw [if_neg h, if_neg h, List.append_nil]
    by_cases hk : x.Prop_.Value.Kind ≠ 0
    · rw [if_pos hk, hidden_eq l hl x (fun y0 => some (twin_every y0)) (fun _ => true) (fun z => rfl)]
      simp only [Option.bind_some, Bool.and_true]
      exact j1 _ (by rw [decide_eq_true hk]; rfl)
    · rw [if_neg hk]
      exact j1 _ (by rw [decide_eq_false hk]; rfl)
  · simp only
    rw [twin_visible_b1, if_neg (by omega)]; rfl
theorem VisibleOf_eq (l : List Cell) (hL : CL l) : Q_VisibleOf l = some (l.flatMap (visG l)) := by
  have hl := hL.1
  unfold Q_VisibleOf Q_VisibleOf_l1
  refine iter_flC l (visG l) (visG_len l) _ _ [] (fun X i x h0 h1 hx hm hX => ?_) (fun i hi => ?_)
  · simp only [List.length_nil] at hX
    simp only
    rw [Q_VisibleOf_b1, if_pos h1, hx]
    simp only [Option.bind_some]
    have j1 : ∀ c : Bool, c = (decide (x.Prop_.Value.Kind ≠ 0) && !(l.any fun z => hdB z x)) → Q_VisibleOf_j1 X i x c = some (.inl (X ++ visG l x, i + 1)) := by
      intro c hc
      unfold Q_VisibleOf_j1 Q_VisibleOf_j2 visG
      rw [← hc, w64_in (by omega) (by omega)]
      by_cases h : c = true
      · rw [if_pos h, if_pos h, app_le (by simp; omega)]; rfl
      · rw [if_neg h, if_neg h, List.append_nil]
    unfold Q_valued
    by_cases hk : x.Prop_.Value.Kind ≠ 0
    · rw [if_pos (decide_eq_true hk), Qhidden_eq l l hL hl (fun z hz => hz) x hm]
      simp only [Option.bind_some]
      exact j1 _ (by rw [decide_eq_true hk]; rfl)
    · rw [if_neg (by rw [decide_eq_false hk]; simp)]
      exact j1 _ (by rw [decide_eq_false hk]; rfl)
  · simp only
    rw [Q_VisibleOf_b1, if_neg (by omega)]; rfl
/-! what is left out -/
def leftG (l : List Cell) (t : Int) (c : Cell) : List Cell := if (l.any fun x => hdB x c && decide (x.Stamp.At < t)) = true then [] else [c]
theorem leftG_len (l : List Cell) (t : Int) (c : Cell) : (leftG l t c).length ≤ 1 := by unfold leftG; split <;> simp
def cptG (l : List Cell) (t : Int) (c : Cell) : List Cell := if (decide (c.Prop_.Value.Kind ≠ 0) || (decide (t ≤ c.Stamp.At) || l.any fun x => abvB (cN c) (cN x))) = true then [c] else []
theorem cptG_len (l : List Cell) (t : Int) (c : Cell) : (cptG l t c).length ≤ 1 := by unfold cptG; split <;> simp
def cptL (l : List Cell) (t : Int) : List Cell := (l.flatMap (leftG l t)).flatMap (cptG (l.flatMap (leftG l t)) t)
theorem Compact_l2 (l : List Cell) (hl : l.length ≤ 1000) (t : Int) : twin_Compact_l2 t l [] 0 = some (l.flatMap (cptG l t), 0) := by
  unfold twin_Compact_l2
  refine iter_flC l (cptG l t) (cptG_len l t) _ _ [] (fun X i x h0 h1 hx hm hX => ?_) (fun i hi => ?_)
  · simp only [List.length_nil] at hX
    simp only
    rw [twin_Compact_b2, if_pos h1, hx]
    simp only [Option.bind_some]
    have j2 : ∀ c : Bool, c = (decide (x.Prop_.Value.Kind ≠ 0) || (decide (t ≤ x.Stamp.At) || l.any fun z => abvB (cN x) (cN z))) → twin_Compact_j2 X i x c = some (.inl (X ++ cptG l t x, i + 1)) := by
      intro c hc
      unfold twin_Compact_j2 twin_Compact_j3 cptG
      rw [← hc, w64_in (by omega) (by omega)]
      by_cases h : c = true
      · rw [if_pos h, if_pos h, app_le (by simp; omega)]; rfl
      · rw [if_neg h, if_neg h, List.append_nil]
    by_cases hk : x.Prop_.Value.Kind ≠ 0
    · rw [if_pos hk]
      exact j2 _ (by rw [decide_eq_true hk]; rfl)
    · rw [if_neg hk]
      unfold twin_Compact_1x
      by_cases ht : x.Stamp.At < t
      · rw [if_neg (by simp [ht]), show slices_ContainsFunc_Cell_Cell l (fun y0 => twin_Compact_2x y0 x) = some (l.any fun z => abvB (cN x) (cN z)) from gContainsFunc_eq l _ _ (fun z _ => by unfold twin_Compact_2x; rw [Below_eq]; rfl) (by omega)]
        simp only [Option.bind_some]
        exact j2 _ (by rw [decide_eq_false hk, decide_eq_false (show ¬ t ≤ x.Stamp.At by omega)]; rfl)
      · rw [if_pos (by simp [ht])]
        exact j2 _ (by rw [decide_eq_true (show t ≤ x.Stamp.At by omega)]; simp)
  · simp only
    rw [twin_Compact_b2, if_neg (by omega)]; rfl
theorem Compact_l1 (l : List Cell) (hl : l.length ≤ 1000) (t : Int) : twin_Compact_l1 l t [] 0 = some (cptL l t, 0) := by
  unfold twin_Compact_l1
  refine iter_flC l (leftG l t) (leftG_len l t) _ _ [] (fun X i x h0 h1 hx hm hX => ?_) (fun i hi => ?_)
  · simp only [List.length_nil] at hX
    simp only
    rw [twin_Compact_b1, if_pos h1, hx]
    simp only [Option.bind_some]
    rw [hidden_eq l hl x (fun y0 => some (twin_Compact_1x y0 t)) (fun z => decide (z.Stamp.At < t)) (fun z => rfl)]
    simp only [Option.bind_some]
    unfold twin_Compact_j1 leftG
    rw [w64_in (by omega) (by omega)]
    cases h : (l.any fun z => hdB z x && decide (z.Stamp.At < t)) with
    | true => rw [if_neg (by simp), if_pos rfl, List.append_nil]
    | false => rw [if_pos (by simp), if_neg (by simp), app_le (by simp; omega)]; rfl
  · simp only
    have hlen := flatC_len (leftG l t) (leftG_len l t) l
    rw [twin_Compact_b1, if_neg (by omega), List.nil_append, Compact_l2 _ (by omega) t]; rfl
theorem CompactOf_l3 (l L : List Cell) (hL : CL L) (hs : ∀ x ∈ l, x ∈ L) (hl : l.length ≤ 1000) (t : Int) : Q_CompactOf_l3 t l [] 0 = some (l.flatMap (cptG l t)) := by
  unfold Q_CompactOf_l3
  refine iter_flC l (cptG l t) (cptG_len l t) _ _ [] (fun X i x h0 h1 hx hm hX => ?_) (fun i hi => ?_)
  · simp only [List.length_nil] at hX
    simp only
    rw [Q_CompactOf_b3, if_pos h1, hx]
    simp only [Option.bind_some]
    rw [show slices_ContainsFunc_Cell_Cell l (fun y0 => Q_CompactOf_1x y0 x) = some (l.any fun z => abvB (cN x) (cN z)) from gContainsFunc_eq l _ _ (fun z _ => by unfold Q_CompactOf_1x; rw [Qabove_eq _ _ (by have := (hL.2 x (hs x hm)).1; unfold cN at this; omega)]; rfl) (by omega)]
    simp only [Option.bind_some]
    unfold Q_CompactOf_j3 Q_CompactOf_j4 cptG Q_valued
    rw [w64_in (by omega) (by omega)]
    by_cases h : (decide (x.Prop_.Value.Kind ≠ 0) || (decide (t ≤ x.Stamp.At) || l.any fun z => abvB (cN x) (cN z))) = true
    · rw [if_pos h, if_pos h, app_le (by simp; omega)]; rfl
    · rw [if_neg h, if_neg h, List.append_nil]
  · simp only
    rw [Q_CompactOf_b3, if_neg (by omega)]; rfl
theorem left_sub (l : List Cell) (t : Int) : ∀ xs : List Cell, ∀ x ∈ xs.flatMap (leftG l t), x ∈ xs := by
  intro xs x hx
  obtain ⟨y, hy, hxy⟩ := List.mem_flatMap.1 hx
  unfold leftG at hxy
  split at hxy
  · cases hxy
  · rw [List.mem_singleton] at hxy; subst hxy; exact hy
def oldG (t : Int) (c : Cell) : List Cell := if c.Stamp.At < t then [c] else []
theorem oldG_len (t : Int) (c : Cell) : (oldG t c).length ≤ 1 := by unfold oldG; split <;> simp
theorem old_any (t : Int) (q : Cell → Bool) : ∀ l : List Cell, (l.flatMap (oldG t)).any q = l.any fun x => q x && decide (x.Stamp.At < t)
  | [] => rfl
  | x :: l => by
    rw [List.flatMap_cons, List.any_append, old_any t q l, List.any_cons]
    congr 1
    unfold oldG
    by_cases h : x.Stamp.At < t
    · rw [if_pos h, decide_eq_true h]; simp
    · rw [if_neg h, decide_eq_false h]; simp
theorem old_sub (t : Int) (l : List Cell) : ∀ x ∈ l.flatMap (oldG t), x ∈ l := by
  intro x hx
  obtain ⟨y, hy, hxy⟩ := List.mem_flatMap.1 hx
  unfold oldG at hxy
  split at hxy
  · rw [List.mem_singleton] at hxy; subst hxy; exact hy
  · cases hxy
theorem CompactOf_eq (l : List Cell) (hL : CL l) (t : Int) : Q_CompactOf l t = some (cptL l t) := by
  have hl := hL.1
  have ho := flatC_len (oldG t) (oldG_len t) l
  have h2 : Q_CompactOf_l2 l t (l.flatMap (oldG t)) [] 0 = some (cptL l t) := by
    unfold Q_CompactOf_l2
    refine iter_flC l (leftG l t) (leftG_len l t) _ _ [] (fun X i x h0 h1 hx hm hX => ?_) (fun i hi => ?_)
    · simp only [List.length_nil] at hX
      simp only
      rw [Q_CompactOf_b2, if_pos h1, hx]
      simp only [Option.bind_some]
      rw [Qhidden_eq (l.flatMap (oldG t)) l hL (by omega) (old_sub t l) x hm, old_any]
      simp only [Option.bind_some]
      unfold Q_CompactOf_j2 leftG
      rw [w64_in (by omega) (by omega)]
      cases h : (l.any fun z => hdB z x && decide (z.Stamp.At < t)) with
      | true => rw [if_neg (by simp), if_pos rfl, List.append_nil]
      | false => rw [if_pos (by simp), if_neg (by simp), app_le (by simp; omega)]; rfl
    · simp only
      have hlen := flatC_len (leftG l t) (leftG_len l t) l
      rw [Q_CompactOf_b2, if_neg (by omega), List.nil_append, CompactOf_l3 _ l hL (left_sub l t l) (by omega) t]; rfl
  unfold Q_CompactOf Q_CompactOf_l1
  refine iter_flC l (oldG t) (oldG_len t) _ _ [] (fun X i x h0 h1 hx hm hX => ?_) (fun i hi => ?_)
  · simp only [List.length_nil] at hX
    simp only
    rw [Q_CompactOf_b1, if_pos h1, hx]
    simp only [Option.bind_some]
    unfold Q_CompactOf_j1 oldG
    rw [w64_in (by omega) (by omega)]
    by_cases h : x.Stamp.At < t
    · rw [if_pos h, if_pos h, app_le (by simp; omega)]; rfl
    · rw [if_neg h, if_neg h, List.append_nil]
  · simp only
    rw [Q_CompactOf_b1, if_neg (by omega), List.nil_append, h2]
/-! the generator -/
def CG (k : Nat) (l : List Cell) : Prop := l.length ≤ k ∧ ∀ c ∈ l, (cN c).length ≤ 1000 ∧ c.Prop_.Value.Words.length ≤ 1001 ∧ (-1099511627777 ≤ c.Stamp.At ∧ c.Stamp.At ≤ 1099511627777) ∧ (-1099511627777 ≤ c.Stamp.No ∧ c.Stamp.No ≤ 1099511627777)
theorem CG.cl {k : Nat} {l : List Cell} (h : CG k l) (hk : k ≤ 1000) : CL l := ⟨Nat.le_trans h.1 hk, fun c hc => by have := h.2 c hc; omega⟩
theorem CG.snoc {k : Nat} {l : List Cell} (h : CG k l) {c : Cell} (hc : (cN c).length ≤ 1000 ∧ c.Prop_.Value.Words.length ≤ 1001 ∧ (-1099511627777 ≤ c.Stamp.At ∧ c.Stamp.At ≤ 1099511627777) ∧ (-1099511627777 ≤ c.Stamp.No ∧ c.Stamp.No ≤ 1099511627777)) : CG (k + 1) (l ++ [c]) :=
  ⟨by have := h.1; simp; omega, fun x hx => by
    rcases List.mem_append.1 hx with e | e
    · exact h.2 x e
    · rw [List.mem_singleton] at e; subst e; exact hc⟩
def ZC : Cell := ⟨⟨[], ⟨0, false, 0, []⟩⟩, ⟨0, [], 0⟩⟩
theorem cstable_gen (cf : Cell → Cell → Int) (h3 : Cmp3 cf) (f : Cell → Cell → Option Int) (xs : List Cell) (hl : (xs.length : Int) < 20) (hf : ∀ x ∈ xs, ∀ y ∈ xs, f x y = some (cf x y)) : ∃ Z, lenOk xs.length (fun r : List Cell => r.length) (slices_SortStableFunc_Cell_Cell xs f) = some Z ∧ Z.Perm xs ∧ Srt cf Z := by
  obtain ⟨Z, h1, h2, h3⟩ := gIns_eq f cf xs (by omega) hf (h3.ord xs)
  have h1' : slices_insertionSortCmpFunc_Cell xs 0 xs.length f = some Z := h1
  have hlen := h2.length_eq
  refine ⟨Z, ?_, h2, h3⟩
  have hs : slices_stableCmpFunc_Cell xs xs.length f = some Z := by
    unfold slices_stableCmpFunc_Cell slices_stableCmpFunc_Cell_l1
    rw [iter_eq, slices_stableCmpFunc_Cell_b1, if_neg (by simp only; omega), map_inr_after]
    unfold slices_stableCmpFunc_Cell_k3
    simp only
    rw [len_ok h1' hlen]
    simp only [Option.bind_some]
    unfold slices_stableCmpFunc_Cell_l2
    rw [iter_eq, slices_stableCmpFunc_Cell_b2, if_neg (by simp only; omega), map_inr_after]
  refine len_ok ?_ hlen
  unfold slices_SortStableFunc_Cell_Cell
  rw [len_ok hs hlen]; rfl
theorem cstable_len (f : Cell → Cell → Option Int) (xs : List Cell) (hl : (xs.length : Int) < 20) (hf : ∀ x ∈ xs, ∀ y ∈ xs, f x y = some (cellOrder x y)) : ∃ Z, lenOk xs.length (fun r : List Cell => r.length) (slices_SortStableFunc_Cell_Cell xs f) = some Z ∧ Z.Perm xs ∧ Srt cellOrder Z :=
  cstable_gen cellOrder (cmpB_3.on cN) f xs hl hf
theorem ccompactF_eq (f : Cell → Cell → Option Bool) (e : Cell → Cell → Bool) (xs : List Cell) (hl : (xs.length : Int) ≤ 100000) (hf : ∀ x ∈ xs, ∀ y ∈ xs, f x y = some (e x y)) : slices_CompactFunc_Cell_Cell xs f = some (dd e xs) := gCptF_eq ZC f e xs hl hf
theorem CG.perm {k : Nat} {l Z : List Cell} (h : CG k l) (hp : Z.Perm l) : CG k Z := ⟨by rw [hp.length_eq]; exact h.1, fun c hc => h.2 c (hp.mem_iff.1 hc)⟩
theorem CG.sub {k : Nat} {l Z : List Cell} (h : CG k l) (hp : Z.Sublist l) : CG k Z := ⟨Nat.le_trans hp.length_le h.1, fun c hc => h.2 c (hp.subset hc)⟩
theorem RightStamp_k {s : Stm} {K : Int} (hs : SOk s K) (hK : 3 ≤ K) : Gen (Stream_RightStamp s) (K - 3) (fun t => (0 ≤ t.At ∧ t.At ≤ 9) ∧ (0 ≤ t.No ∧ t.No ≤ 1)) := by
  refine Gen.of ?_
  unfold Stream_RightStamp
  refine Ok.gen (Range_k hs (by omega) (by omega) (by omega) (by omega)) (fun a s1 ha q1 => ?_)
  refine Ok.gen (Some_k q1 (by omega) (by simp) (by simp)) (fun b s2 hb q2 => ?_)
  refine Ok.gen (Pick_k q2 (by omega) (by simp) (by simp)) (fun c s3 hc q3 => ?_)
  refine Ok.ret ⟨⟨ha, ?_⟩, q3.less (by omega)⟩
  simp at hc
  simp only
  omega
theorem Stamp_k {s : Stm} {K : Int} (hs : SOk s K) (hK : 9 ≤ K) : Gen (Stream_Stamp s) (K - 9) (fun t => (-1099511627777 ≤ t.At ∧ t.At ≤ 1099511627777) ∧ (-1099511627777 ≤ t.No ∧ t.No ≤ 1099511627777)) := by
  refine Gen.of ?_
  unfold Stream_Stamp Stream_Stamp_j1
  refine Ok.gen (RightStamp_k hs (by omega)) (fun a s1 ha q1 => ?_)
  refine Ok.gen (Flip_k q1 (by omega) (by omega) (by omega)) (fun c s2 _ q2 => ?_)
  dsimp only
  split
  · refine Ok.gen (Odd_k q2 (by omega) (by omega) (by omega) (by omega)) (fun b s3 hb q3 => ?_)
    refine Ok.gen (Some_k q3 (by omega) (by simp) (by simp)) (fun d s4 hd q4 => ?_)
    refine Ok.gen (Odd_k q4 (by omega) (by omega) (by omega) (by omega)) (fun e s5 he q5 => ?_)
    exact Ok.ret ⟨⟨hb, he⟩, q5.less (by omega)⟩
  · exact Ok.ret ⟨⟨by simp only; omega, by simp only; omega⟩, q2.less (by omega)⟩
theorem RightCells_k {s : Stm} {K : Int} (hs : SOk s K) (hK : 50 ≤ K) : Gen (Stream_RightCells s) (K - 50) (CG 6) := by
  refine Gen.of ?_
  unfold Stream_RightCells
  refine Ok.gen (Range_k hs (by omega) (by omega) (by omega) (by omega)) (fun v s1 hv q1 => ?_)
  dsimp only
  unfold Stream_RightCells_l1
  refine Ok.iter (fun x : List Int × Int × List Cell × Int => (v - x.2.2.2).toNat) (fun x : List Int × Int × List Cell × Int => 0 ≤ x.2.2.2 ∧ x.2.2.2 ≤ v ∧ SOk ⟨x.1, x.2.1⟩ (K - 50 + 7 * (v - x.2.2.2)) ∧ CG x.2.2.2.toNat x.2.2.1) ?_ _ ⟨by simp, hv.1, q1.less (by simp only; omega), by simp, by simp⟩
  rintro ⟨L, a, l, n⟩ ⟨g0, g1, g2, g3⟩
  simp only at g0 g1 g2 g3 ⊢
  have hl := g3.1
  unfold Stream_RightCells_b1
  dsimp only
  split
  · rename_i hn
    refine Ok.gen (Some_k g2 (by omega) (by simp) (by simp)) (fun t s2 ht q2 => ?_)
    have ht' : t.length ≤ 1000 := mem_len (by decide) ht
    refine Ok.gen (RightValue_k q2 (by omega)) (fun w s3 hw q3 => ?_)
    refine Ok.gen (RightStamp_k q3 (by omega)) (fun z s4 hz q4 => ?_)
    refine Ok.gen (Flip_k q4 (by omega) (by omega) (by omega)) (fun c s5 _ q5 => ?_)
    dsimp only
    have j1 : ∀ (k : Int) (b : Bool) (m : Int) (q : Str), q.length ≤ 1001 → Ok (Stream_RightCells_j1 l n (t, s2) (z, s4) (c, s5) k b m q) (Stp (fun x : List Int × Int × List Cell × Int => (v - x.2.2.2).toNat) (fun x : List Int × Int × List Cell × Int => 0 ≤ x.2.2.2 ∧ x.2.2.2 ≤ v ∧ SOk ⟨x.1, x.2.1⟩ (K - 50 + 7 * (v - x.2.2.2)) ∧ CG x.2.2.2.toNat x.2.2.1) (fun r => CG 6 r.1 ∧ SOk r.2 (K - 50)) (L, a, l, n)) := by
      intro k b m q hq
      unfold Stream_RightCells_j1
      refine Ok.app (by simp; omega) ?_
      refine Ok.ret ?_
      rw [w64_in (by omega) (by omega)]
      refine ⟨⟨by simp only; omega, by simp only; omega, q5.less (by simp only; omega), ?_⟩, by simp only; omega⟩
      simp only
      rw [show (n + 1).toNat = n.toNat + 1 by omega]
      exact g3.snoc ⟨ht', hq, ⟨by simp only; omega, by simp only; omega⟩, ⟨by simp only; omega, by simp only; omega⟩⟩
    split
    · exact j1 _ _ _ _ (by simp)
    · exact j1 _ _ _ _ hw
  · refine Ok.inr ?_
    unfold Stream_RightCells_k2
    obtain ⟨Z, z1, z2, _⟩ := cstable_len (fun y0 y1 => some (cellOrder y0 y1)) l (by omega) (fun x _ y _ => rfl)
    rw [z1]
    simp only [Option.bind_some]
    rw [ccompactF_eq (fun y0 y1 => some (Stream_RightCells_1x y0 y1)) Stream_RightCells_1x Z (by have := z2.length_eq; omega) (fun x _ y _ => rfl)]
    refine Ok.ret ⟨?_, g2.less (by omega)⟩
    have h6 : CG 6 l := ⟨by omega, g3.2⟩
    exact (h6.perm z2).sub (dd_sub _ _)
theorem Cells_k {s : Stm} {K : Int} (hs : SOk s K) (hK : 80 ≤ K) : Gen (Stream_Cells s) (K - 80) (CG 7) := by
  refine Gen.of ?_
  unfold Stream_Cells Stream_Cells_j2 Stream_Cells_j1
  refine Ok.gen (RightCells_k hs (by omega)) (fun l s1 hl q1 => ?_)
  refine Ok.gen (Flip_k q1 (by omega) (by omega) (by omega)) (fun c s2 _ q2 => ?_)
  dsimp only
  split
  · refine Ok.gen (PropName_k q2 (by omega)) (fun t s3 ht q3 => ?_)
    refine Ok.gen (Value_k q3 (by omega)) (fun w s4 hw q4 => ?_)
    refine Ok.gen (Stamp_k q4 (by omega)) (fun z s5 hz q5 => ?_)
    dsimp only
    have hs7 : CG 7 (l ++ [(⟨⟨t, w⟩, z⟩ : Cell)]) := hl.snoc ⟨ht, hw, hz⟩
    refine Ok.app (by have := hl.1; simp; omega) ?_
    refine Ok.gen (Flip_k q5 (by omega) (by omega) (by omega)) (fun d s6 _ q6 => ?_)
    dsimp only
    split
    · obtain ⟨Z, z1, z2, _⟩ := cstable_len (fun y0 y1 => some (cellOrder y0 y1)) (l ++ [(⟨⟨t, w⟩, z⟩ : Cell)]) (by have := hs7.1; omega) (fun x _ y _ => rfl)
      rw [z1]
      exact Ok.ret ⟨hs7.perm z2, q6.less (by omega)⟩
    · exact Ok.ret ⟨hs7, q6.less (by omega)⟩
  · exact Ok.ret ⟨⟨by have := hl.1; simp only; omega, hl.2⟩, q2.less (by omega)⟩
end Go.Beacon
