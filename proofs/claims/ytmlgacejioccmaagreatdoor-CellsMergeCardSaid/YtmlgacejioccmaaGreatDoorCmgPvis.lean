/- Visible and compact cells; the generator of cells. No program in sight. -/
import Derived.Test.YtmlgacejioccmaaGreatDoorCmgPcel
import Derived.Test.YtmlgacejioccmaaGreatDoorCmgPprq
import Derived.Test.YtmlgacejioccmaaGreatDoorCmgPtwn
set_option linter.unusedVariables false
set_option linter.unusedSimpArgs false
namespace Go.Beacon
open Go Go.Eng

/-! what is seen -/
def visG (l : List Cell) (c : Cell) : List PropS := if (decide (c.Prop_.Value.Kind ≠ 0) && !(l.any fun x => hdB x c)) = true then [c.Prop_] else []
theorem visG_len (l : List Cell) (c : Cell) : (visG l c).length ≤ 1 := by unfold visG; split <;> simp
/-! what is left out -/
def leftG (l : List Cell) (t : Int) (c : Cell) : List Cell := if (l.any fun x => hdB x c && decide (x.Stamp.At < t)) = true then [] else [c]
theorem leftG_len (l : List Cell) (t : Int) (c : Cell) : (leftG l t c).length ≤ 1 := by unfold leftG; split <;> simp
def cptG (l : List Cell) (t : Int) (c : Cell) : List Cell := if (decide (c.Prop_.Value.Kind ≠ 0) || (decide (t ≤ c.Stamp.At) || l.any fun x => abvB (cN c) (cN x))) = true then [c] else []
theorem cptG_len (l : List Cell) (t : Int) (c : Cell) : (cptG l t c).length ≤ 1 := by unfold cptG; split <;> simp
def cptL (l : List Cell) (t : Int) : List Cell := (l.flatMap (leftG l t)).flatMap (cptG (l.flatMap (leftG l t)) t)
theorem left_sub (l : List Cell) (t : Int) : ∀ xs : List Cell, ∀ x ∈ xs.flatMap (leftG l t), x ∈ xs := by
  intro xs x hx
  obtain ⟨y, hy, hxy⟩ := List.mem_flatMap.1 hx
  unfold leftG at hxy
  split at hxy
  · cases hxy
  · rw [List.mem_singleton] at hxy; subst hxy; exact hy
def oldG (t : Int) (c : Cell) : List Cell := if c.Stamp.At < t then [c] else []
theorem oldG_len (t : Int) (c : Cell) : (oldG t c).length ≤ 1 := by unfold oldG; split <;> simp
theorem old_any (t : Int) (q : Cell → Bool) : ∀ l : List Cell, (l.flatMap (oldG t)).any q = l.any fun x => q x && decide (x.Stamp.At < t)
  | [] => rfl
  | x :: l => by
    rw [List.flatMap_cons, List.any_append, old_any t q l, List.any_cons]
    congr 1
    unfold oldG
    by_cases h : x.Stamp.At < t
    · rw [if_pos h, decide_eq_true h]; simp
    · rw [if_neg h, decide_eq_false h]; simp
theorem old_sub (t : Int) (l : List Cell) : ∀ x ∈ l.flatMap (oldG t), x ∈ l := by
  intro x hx
  obtain ⟨y, hy, hxy⟩ := List.mem_flatMap.1 hx
  unfold oldG at hxy
  split at hxy
  · rw [List.mem_singleton] at hxy; subst hxy; exact hy
  · cases hxy
/-! the generator -/
def CG (k : Nat) (l : List Cell) : Prop := l.length ≤ k ∧ ∀ c ∈ l, (cN c).length ≤ 1000 ∧ c.Prop_.Value.Words.length ≤ 1001 ∧ (-1099511627777 ≤ c.Stamp.At ∧ c.Stamp.At ≤ 1099511627777) ∧ (-1099511627777 ≤ c.Stamp.No ∧ c.Stamp.No ≤ 1099511627777)
theorem CG.cl {k : Nat} {l : List Cell} (h : CG k l) (hk : k ≤ 1000) : CL l := ⟨Nat.le_trans h.1 hk, fun c hc => by have := h.2 c hc; omega⟩
theorem CG.snoc {k : Nat} {l : List Cell} (h : CG k l) {c : Cell} (hc : (cN c).length ≤ 1000 ∧ c.Prop_.Value.Words.length ≤ 1001 ∧ (-1099511627777 ≤ c.Stamp.At ∧ c.Stamp.At ≤ 1099511627777) ∧ (-1099511627777 ≤ c.Stamp.No ∧ c.Stamp.No ≤ 1099511627777)) : CG (k + 1) (l ++ [c]) :=
  ⟨by have := h.1; simp; omega, fun x hx => by
    rcases List.mem_append.1 hx with e | e
    · exact h.2 x e
    · rw [List.mem_singleton] at e; subst e; exact hc⟩
def ZC : Cell := ⟨⟨[], ⟨0, false, 0, []⟩⟩, ⟨0, [], 0⟩⟩
theorem cstable_gen (cf : Cell → Cell → Int) (h3 : Cmp3 cf) (f : Cell → Cell → Option Int) (xs : List Cell) (hl : (xs.length : Int) < 20) (hf : ∀ x ∈ xs, ∀ y ∈ xs, f x y = some (cf x y)) : ∃ Z, lenOk xs.length (fun r : List Cell => r.length) (slices_SortStableFunc_Cell_Cell xs f) = some Z ∧ Z.Perm xs ∧ Srt cf Z := by
  obtain ⟨Z, h1, h2, h3⟩ := gIns_eq f cf xs (by omega) hf (h3.ord xs)
  have h1' : slices_insertionSortCmpFunc_Cell xs 0 xs.length f = some Z := h1
  have hlen := h2.length_eq
  refine ⟨Z, ?_, h2, h3⟩
  have hs : slices_stableCmpFunc_Cell xs xs.length f = some Z := by
    unfold slices_stableCmpFunc_Cell slices_stableCmpFunc_Cell_l1
    rw [iter_eq, slices_stableCmpFunc_Cell_b1, if_neg (by simp only; omega), map_inr_after]
    unfold slices_stableCmpFunc_Cell_k3
    simp only
    rw [len_ok h1' hlen]
    simp only [Option.bind_some]
    unfold slices_stableCmpFunc_Cell_l2
    rw [iter_eq, slices_stableCmpFunc_Cell_b2, if_neg (by simp only; omega), map_inr_after]
  refine len_ok ?_ hlen
  unfold slices_SortStableFunc_Cell_Cell
  rw [len_ok hs hlen]; rfl
theorem cstable_len (f : Cell → Cell → Option Int) (xs : List Cell) (hl : (xs.length : Int) < 20) (hf : ∀ x ∈ xs, ∀ y ∈ xs, f x y = some (cellOrder x y)) : ∃ Z, lenOk xs.length (fun r : List Cell => r.length) (slices_SortStableFunc_Cell_Cell xs f) = some Z ∧ Z.Perm xs ∧ Srt cellOrder Z :=
  cstable_gen cellOrder (cmpB_3.on cN) f xs hl hf
theorem ccompactF_eq (f : Cell → Cell → Option Bool) (e : Cell → Cell → Bool) (xs : List Cell) (hl : (xs.length : Int) ≤ 100000) (hf : ∀ x ∈ xs, ∀ y ∈ xs, f x y = some (e x y)) : slices_CompactFunc_Cell_Cell xs f = some (dd e xs) := gCptF_eq ZC f e xs hl hf
theorem CG.perm {k : Nat} {l Z : List Cell} (h : CG k l) (hp : Z.Perm l) : CG k Z := ⟨by rw [hp.length_eq]; exact h.1, fun c hc => h.2 c (hp.mem_iff.1 hc)⟩
theorem CG.sub {k : Nat} {l Z : List Cell} (h : CG k l) (hp : Z.Sublist l) : CG k Z := ⟨Nat.le_trans hp.length_le h.1, fun c hc => h.2 c (hp.subset hc)⟩
theorem RightStamp_k {s : Stm} {K : Int} (hs : SOk s K) (hK : 3 ≤ K) : Gen (Stream_RightStamp s) (K - 3) (fun t => (0 ≤ t.At ∧ t.At ≤ 9) ∧ (0 ≤ t.No ∧ t.No ≤ 1)) := by
  refine Gen.of ?_
  unfold Stream_RightStamp
  refine Ok.gen (Range_k hs (by omega) (by omega) (by omega) (by omega)) (fun a s1 ha q1 => ?_)
  refine Ok.gen (Some_k q1 (by omega) (by simp) (by simp)) (fun b s2 hb q2 => ?_)
  refine Ok.gen (Pick_k q2 (by omega) (by simp) (by simp)) (fun c s3 hc q3 => ?_)
  refine Ok.ret ⟨⟨ha, ?_⟩, q3.less (by omega)⟩
  simp at hc
  simp only
  omega
theorem Stamp_k {s : Stm} {K : Int} (hs : SOk s K) (hK : 9 ≤ K) : Gen (Stream_Stamp s) (K - 9) (fun t => (-1099511627777 ≤ t.At ∧ t.At ≤ 1099511627777) ∧ (-1099511627777 ≤ t.No ∧ t.No ≤ 1099511627777)) := by
  refine Gen.of ?_
  unfold Stream_Stamp Stream_Stamp_j1
  refine Ok.gen (RightStamp_k hs (by omega)) (fun a s1 ha q1 => ?_)
  refine Ok.gen (Flip_k q1 (by omega) (by omega) (by omega)) (fun c s2 _ q2 => ?_)
  dsimp only
  split
  · refine Ok.gen (Odd_k q2 (by omega) (by omega) (by omega) (by omega)) (fun b s3 hb q3 => ?_)
    refine Ok.gen (Some_k q3 (by omega) (by simp) (by simp)) (fun d s4 hd q4 => ?_)
    refine Ok.gen (Odd_k q4 (by omega) (by omega) (by omega) (by omega)) (fun e s5 he q5 => ?_)
    exact Ok.ret ⟨⟨hb, he⟩, q5.less (by omega)⟩
  · exact Ok.ret ⟨⟨by simp only; omega, by simp only; omega⟩, q2.less (by omega)⟩
theorem RightCells_k {s : Stm} {K : Int} (hs : SOk s K) (hK : 50 ≤ K) : Gen (Stream_RightCells s) (K - 50) (CG 6) := by
  refine Gen.of ?_
  unfold Stream_RightCells
  refine Ok.gen (Range_k hs (by omega) (by omega) (by omega) (by omega)) (fun v s1 hv q1 => ?_)
  dsimp only
  unfold Stream_RightCells_l1
  refine Ok.iter (fun x : List Int × Int × List Cell × Int => (v - x.2.2.2).toNat) (fun x : List Int × Int × List Cell × Int => 0 ≤ x.2.2.2 ∧ x.2.2.2 ≤ v ∧ SOk ⟨x.1, x.2.1⟩ (K - 50 + 7 * (v - x.2.2.2)) ∧ CG x.2.2.2.toNat x.2.2.1) ?_ _ ⟨by simp, hv.1, q1.less (by simp only; omega), by simp, by simp⟩
  rintro ⟨L, a, l, n⟩ ⟨g0, g1, g2, g3⟩
  simp only at g0 g1 g2 g3 ⊢
  have hl := g3.1
  unfold Stream_RightCells_b1
  dsimp only
  split
  · rename_i hn
    refine Ok.gen (Some_k g2 (by omega) (by simp) (by simp)) (fun t s2 ht q2 => ?_)
    have ht' : t.length ≤ 1000 := mem_len (by decide) ht
    refine Ok.gen (RightValue_k q2 (by omega)) (fun w s3 hw q3 => ?_)
    refine Ok.gen (RightStamp_k q3 (by omega)) (fun z s4 hz q4 => ?_)
    refine Ok.gen (Flip_k q4 (by omega) (by omega) (by omega)) (fun c s5 _ q5 => ?_)
    dsimp only
    have j1 : ∀ (k : Int) (b : Bool) (m : Int) (q : Str), q.length ≤ 1001 → Ok (Stream_RightCells_j1 l n (t, s2) (z, s4) (c, s5) k b m q) (Stp (fun x : List Int × Int × List Cell × Int => (v - x.2.2.2).toNat) (fun x : List Int × Int × List Cell × Int => 0 ≤ x.2.2.2 ∧ x.2.2.2 ≤ v ∧ SOk ⟨x.1, x.2.1⟩ (K - 50 + 7 * (v - x.2.2.2)) ∧ CG x.2.2.2.toNat x.2.2.1) (fun r => CG 6 r.1 ∧ SOk r.2 (K - 50)) (L, a, l, n)) := by
      intro k b m q hq
      unfold Stream_RightCells_j1
      refine Ok.app (by simp; omega) ?_
      refine Ok.ret ?_
      rw [w64_in (by omega) (by omega)]
      refine ⟨⟨by simp only; omega, by simp only; omega, q5.less (by simp only; omega), ?_⟩, by simp only; omega⟩
      simp only
      rw [show (n + 1).toNat = n.toNat + 1 by omega]
      exact g3.snoc ⟨ht', hq, ⟨by simp only; omega, by simp only; omega⟩, ⟨by simp only; omega, by simp only; omega⟩⟩
    split
    · exact j1 _ _ _ _ (by simp)
    · exact j1 _ _ _ _ hw
  · refine Ok.inr ?_
    unfold Stream_RightCells_k2
    obtain ⟨Z, z1, z2, _⟩ := cstable_len (fun y0 y1 => some (cellOrder y0 y1)) l (by omega) (fun x _ y _ => rfl)
    rw [z1]
    simp only [Option.bind_some]
    rw [ccompactF_eq (fun y0 y1 => some (Stream_RightCells_1x y0 y1)) Stream_RightCells_1x Z (by have := z2.length_eq; omega) (fun x _ y _ => rfl)]
    refine Ok.ret ⟨?_, g2.less (by omega)⟩
    have h6 : CG 6 l := ⟨by omega, g3.2⟩
    exact (h6.perm z2).sub (dd_sub _ _)
theorem Cells_k {s : Stm} {K : Int} (hs : SOk s K) (hK : 80 ≤ K) : Gen (Stream_Cells s) (K - 80) (CG 7) := by
  refine Gen.of ?_
  unfold Stream_Cells Stream_Cells_j2 Stream_Cells_j1
  refine Ok.gen (RightCells_k hs (by omega)) (fun l s1 hl q1 => ?_)
  refine Ok.gen (Flip_k q1 (by omega) (by omega) (by omega)) (fun c s2 _ q2 => ?_)
  dsimp only
  split
  · refine Ok.gen (PropName_k q2 (by omega)) (fun t s3 ht q3 => ?_)
    refine Ok.gen (Value_k q3 (by omega)) (fun w s4 hw q4 => ?_)
    refine Ok.gen (Stamp_k q4 (by omega)) (fun z s5 hz q5 => ?_)
    dsimp only
    have hs7 : CG 7 (l ++ [(⟨⟨t, w⟩, z⟩ : Cell)]) := hl.snoc ⟨ht, hw, hz⟩
    refine Ok.app (by have := hl.1; simp; omega) ?_
    refine Ok.gen (Flip_k q5 (by omega) (by omega) (by omega)) (fun d s6 _ q6 => ?_)
    dsimp only
    split
    · obtain ⟨Z, z1, z2, _⟩ := cstable_len (fun y0 y1 => some (cellOrder y0 y1)) (l ++ [(⟨⟨t, w⟩, z⟩ : Cell)]) (by have := hs7.1; omega) (fun x _ y _ => rfl)
      rw [z1]
      exact Ok.ret ⟨hs7.perm z2, q6.less (by omega)⟩
    · exact Ok.ret ⟨hs7, q6.less (by omega)⟩
  · exact Ok.ret ⟨⟨by have := hl.1; simp only; omega, hl.2⟩, q2.less (by omega)⟩
end Go.Beacon
