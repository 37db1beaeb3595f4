/- The names of several lists, sorted, each once; what a list of properties tells of a name. No program in sight. -/
import Derived.Test.YtnahbimoaekobaaGreatDoorSidPund
import Derived.Test.YtnahbimoaekobaaGreatDoorPcpt
import Derived.Test.YtnahbimoaekobaaGreatDoorPgm
set_option linter.unusedVariables false
set_option linter.unusedSimpArgs false
namespace Go.Beacon
open Go Go.Eng

theorem lt_cmp : ∀ a b : List UInt8, a < b ↔ Lib.compareBytes a b < 0
  | [], [] => by simp [Lib.compareBytes]
  | [], _ :: _ => by simp [Lib.compareBytes]
  | _ :: _, [] => by simp [Lib.compareBytes]
  | x :: a, y :: b => by
    have ih := lt_cmp a b
    rw [List.cons_lt_cons_iff]
    unfold Lib.compareBytes
    by_cases h : x < y
    · simp [h]
    · by_cases h2 : y < x
      · have hne : ¬ x = y := fun e => by subst e; exact h h2
        simp [h, h2, hne]
      · have hx : x = y := by
          rw [UInt8.lt_iff_toNat_lt] at h h2
          exact UInt8.toNat_inj.1 (by omega)
        subst hx
        simp [ih]
theorem le_cmp (a b : List UInt8) : a ≤ b ↔ ¬ Lib.compareBytes b a < 0 := by
  rw [← lt_cmp]; exact Iff.rfl
/-- Strings that rise. -/
def SS (l : List Str) : Prop := l.Pairwise (fun a b => Lib.compareBytes a b < 0)
theorem srtS_perm (l : List Str) : (srtS l).Perm l := List.mergeSort_perm l _
theorem srtS_srt (l : List Str) : (srtS l).Pairwise (fun a b => ¬ Lib.compareBytes b a < 0) := by
  have h := List.pairwise_mergeSort (le := fun x y : Str => decide (x ≤ y)) (fun a b c h1 h2 => by
    rw [decide_eq_true_eq, le_cmp] at *
    intro h3
    have n1 := cmpB_neg a c; have n2 := cmpB_neg a b; have n3 := cmpB_neg b c
    rcases Int.lt_trichotomy (Lib.compareBytes a b) 0 with e | e | e
    · rcases Int.lt_trichotomy (Lib.compareBytes b c) 0 with f | f | f
      · have := cmpB_tr e f; omega
      · have := cmpB_zero f; subst this; omega
      · omega
    · have := cmpB_zero e; subst this; omega
    · omega) (fun a b => by
    rw [Bool.or_eq_true, decide_eq_true_eq, decide_eq_true_eq, le_cmp, le_cmp]
    have := cmpB_neg a b
    omega) l
  exact h.imp (fun {a b} hab => by rw [decide_eq_true_eq, le_cmp] at hab; exact hab)
theorem ddA_SS : ∀ (r : List Str) (p : Str), (p :: r).Pairwise (fun a b => ¬ Lib.compareBytes b a < 0) → SS (p :: ddA eqB p r) ∧ ∀ x, x ∈ p :: ddA eqB p r ↔ x ∈ p :: r
  | [], p => fun _ => ⟨List.pairwise_singleton _ _, fun x => Iff.rfl⟩
  | y :: r, p => fun h => by
    have h1 := List.pairwise_cons.1 h
    have ih := ddA_SS r y h1.2
    unfold ddA
    by_cases e : eqB y p = true
    · have e' : y = p := of_decide_eq_true e
      subst e'
      rw [if_pos e]
      refine ⟨ih.1, fun x => ?_⟩
      rw [ih.2 x]; simp
    · have e' : y ≠ p := fun z => e (decide_eq_true z)
      rw [if_neg e]
      have hpy : Lib.compareBytes p y < 0 := by
        have := h1.1 y (by simp)
        have hn := cmpB_neg p y
        have hz : Lib.compareBytes p y ≠ 0 := fun z => e' (cmpB_zero z).symm
        omega
      refine ⟨List.pairwise_cons.2 ⟨fun z hz => ?_, ih.1⟩, fun x => ?_⟩
      · rcases List.mem_cons.1 hz with f | f
        · subst f; exact hpy
        · exact cmpB_tr hpy ((List.pairwise_cons.1 ih.1).1 z f)
      · rw [List.mem_cons, ih.2 x]; simp
theorem dd_SS (l : List Str) (h : l.Pairwise (fun a b => ¬ Lib.compareBytes b a < 0)) : SS (dd eqB l) ∧ ∀ x, x ∈ dd eqB l ↔ x ∈ l := by
  cases l with
  | nil => exact ⟨List.Pairwise.nil, fun x => Iff.rfl⟩
  | cons p r => exact ddA_SS r p h
def flatN (ls : List (List PropS)) : List Str := ls.flatMap fun l => l.map PropS.Name
def nmsL (ls : List (List PropS)) : List Str := dd eqB (srtS (flatN ls))
theorem nms_SS (ls : List (List PropS)) : SS (nmsL ls) := (dd_SS _ (srtS_srt _)).1
theorem nms_mem (ls : List (List PropS)) (n : Str) : n ∈ nmsL ls ↔ ∃ l ∈ ls, ∃ p ∈ l, p.Name = n := by
  unfold nmsL
  rw [(dd_SS _ (srtS_srt _)).2, (srtS_perm _).mem_iff]
  unfold flatN
  simp [List.mem_flatMap]
theorem nms_len (ls : List (List PropS)) : (nmsL ls).length ≤ (flatN ls).length := by
  unfold nmsL
  refine Nat.le_trans (dd_len _ _) ?_
  rw [(srtS_perm _).length_eq]; exact Nat.le_refl _
theorem names_inner (n6 : Int) (v8 : List PropS) (l5 : List Str) (h6 : 0 ≤ n6 ∧ n6 ≤ 10) (hl : l5.length + v8.length ≤ 100000) : twin_names_l2 n6 v8 l5 0 = some (.inl (l5 ++ v8.map PropS.Name, n6 + 1)) := by
  unfold twin_names_l2
  refine iter_to _ (fun x : List Str × Int => (v8.length - x.2).toNat) (fun x : List Str × Int => 0 ≤ x.2 ∧ x.2 ≤ v8.length ∧ x.1 = l5 ++ (v8.take x.2.toNat).map PropS.Name) _ ?_ _ ⟨by simp, by simp, by simp⟩
  rintro ⟨X, n⟩ ⟨h0, h1, h2⟩
  simp only at h0 h1 h2 ⊢
  unfold twin_names_b2
  by_cases hn : n < v8.length
  · left
    obtain ⟨v, hv, _, _⟩ := idx_lt v8 h0 hn
    obtain ⟨hn', hg⟩ := List.getElem?_eq_some_iff.1 (idx_some hv).2.2
    have e : (n + 1).toNat = n.toNat + 1 := by omega
    have hX : X.length ≤ l5.length + n.toNat := by rw [h2]; simp; omega
    rw [if_pos hn, hv]
    simp only [Option.bind_some]
    rw [app_le (by simp; omega)]
    simp only [Option.bind_some]
    rw [w64_in (by omega) (by omega)]
    refine ⟨_, rfl, ⟨by simp only; omega, by simp only; omega, ?_⟩, by simp only; omega⟩
    simp only
    rw [e, List.take_succ_eq_append_getElem hn', h2, hg]; simp
  · right
    rw [if_neg hn, h2, List.take_of_length_le (by omega), w64_in (by omega) (by omega)]
theorem flatN_take {ls : List (List PropS)} {n : Nat} (h : n < ls.length) : flatN (ls.take (n + 1)) = flatN (ls.take n) ++ ls[n].map PropS.Name := by
  rw [List.take_succ_eq_append_getElem h]; unfold flatN
  rw [List.flatMap_append, List.flatMap_cons, List.flatMap_nil, List.append_nil]
theorem flatN_le (ls : List (List PropS)) (n : Nat) : (flatN (ls.take n)).length ≤ (flatN ls).length := by
  have h : flatN ls = flatN (ls.take n) ++ flatN (ls.drop n) := by
    conv => lhs; rw [← List.take_append_drop n ls]
    unfold flatN; simp only [List.flatMap_append]
  rw [h]; simp
theorem names_eq (ls : List (List PropS)) (h1 : ls.length ≤ 10) (h2 : (flatN ls).length ≤ 100000) : twin_names ls = some (nmsL ls) := by
  unfold twin_names twin_names_l1
  refine iter_to _ (fun x : List Str × Int => (ls.length - x.2).toNat) (fun x : List Str × Int => 0 ≤ x.2 ∧ x.2 ≤ ls.length ∧ x.1 = flatN (ls.take x.2.toNat)) _ ?_ _ ⟨by simp, by simp, by simp [flatN]⟩
  rintro ⟨X, n⟩ ⟨g0, g1, g2⟩
  simp only at g0 g1 g2 ⊢
  unfold twin_names_b1
  by_cases hn : n < ls.length
  · left
    obtain ⟨v, hv, _, _⟩ := idx_lt ls g0 hn
    obtain ⟨hn', hg⟩ := List.getElem?_eq_some_iff.1 (idx_some hv).2.2
    have e : (n + 1).toNat = n.toNat + 1 := by omega
    have ht := flatN_take hn'
    have hlen := flatN_le ls (n.toNat + 1)
    rw [ht, ← g2, hg] at hlen
    simp only [List.length_append, List.length_map] at hlen
    rw [if_pos hn, hv]
    simp only [Option.bind_some]
    rw [names_inner n v X (by omega) (by omega)]
    refine ⟨_, rfl, ⟨by simp only; omega, by simp only; omega, ?_⟩, by simp only; omega⟩
    simp only
    rw [e, ht, g2, hg]
  · right
    rw [if_neg hn, g2, List.take_of_length_le (by omega)]
    unfold twin_names_k1 slices_Sort_string_string sort1 lenOk
    rw [if_pos (by omega)]
    simp only [Option.bind_some]
    have hls : (srtS (flatN ls)).length = (flatN ls).length := (srtS_perm _).length_eq
    rw [if_pos (by first | exact hls | exact hls.symm | omega)]
    simp only [Option.bind_some]
    rw [show slices_Compact_string_string (srtS (flatN ls)) = some (dd eqB (srtS (flatN ls))) from gCpt_eq [] _ (by omega)]
    rfl
theorem namesOf_eq (ls : List (List PropS)) (h1 : ls.length ≤ 10) (h2 : (flatN ls).length ≤ 100000) : Q_namesOf ls = some (nmsL ls) := by
  rw [← names_eq ls h1 h2]; rfl
/-- The value of a name. -/
def valL (l : List PropS) (s : Str) : ValueS := findE (fun p : PropS => if p.Name = s then some p.Value else none) (⟨0, false, 0, []⟩ : ValueS) l
theorem QValueOf_eq (l : List PropS) (hl : l.length ≤ 1000) (s : Str) : Q_ValueOf l s = some (valL l s) := by
  unfold Q_ValueOf Q_ValueOf_l1 valL
  rw [iter_find l (fun x : Int => Q_ValueOf_b1 l s x) (fun p : PropS => if p.Name = s then some p.Value else none) (⟨0, false, 0, []⟩ : ValueS) (by omega)]
  · intro i x h0 h1 hx
    rw [Q_ValueOf_b1, if_pos h1, hx]
    simp only [Option.bind_some]
    by_cases c : x.Name = s
    · rw [if_pos c, if_pos c]; rfl
    · rw [if_neg c, if_neg c, w64_in (by omega) (by omega)]
  · rw [Q_ValueOf_b1, if_neg (by omega)]; rfl
theorem TvalueOf_eq (l : List PropS) (hl : l.length ≤ 1000) (hu : SN l) (s : Str) : twin_valueOf l s = some (valL l s) := by
  obtain ⟨r, h1, h2⟩ := valueOf_eq l hl hu s
  rw [QValueOf_eq l hl s] at h2
  rw [h1, ← h2]
theorem valL_cons (p : PropS) (l : List PropS) (s : Str) : valL (p :: l) s = if p.Name = s then p.Value else valL l s := by
  unfold valL
  rw [findE]
  by_cases c : p.Name = s
  · rw [if_pos c, if_pos c]
  · rw [if_neg c, if_neg c]
theorem valL_gt (l : List PropS) (s : Str) : valL l s = ((gt PropS.Name l s).map PropS.Value).getD ⟨0, false, 0, []⟩ := by
  induction l with
  | nil => rfl
  | cons p l ih =>
    rw [valL_cons, gt_cons, ih]
    split <;> rfl
theorem valL_words (l : List PropS) (s : Str) (N : Nat) (h : ∀ p ∈ l, p.Value.Words.length ≤ N) : (valL l s).Words.length ≤ N := by
  induction l with
  | nil => exact Nat.zero_le _
  | cons p l ih =>
    rw [valL_cons]
    split
    · exact h p (by simp)
    · exact ih (fun q hq => h q (by simp [hq]))
end Go.Beacon
