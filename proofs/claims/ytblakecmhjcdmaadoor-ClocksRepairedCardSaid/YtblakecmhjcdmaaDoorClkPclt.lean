/- The law ClocksRepaired as a plain statement, second part. No program in sight. -/
import Derived.Test.YtblakecmhjcdmaaDoorClkPclr
set_option linter.unusedVariables false
set_option linter.unusedSimpArgs false
namespace Go.Beacon
open Go Go.Eng

def ofHub (hub : Str) (l : List Ping) : List Ping := l.filter (fun p => decide (p.Hub = hub))
theorem offset_l1 (l : List Ping) (hub : Str) (hB : ∀ p ∈ l, PB p) (hl : l.length ≤ 1000) : ∀ (m : Nat) (o : List Hub_edge) (i : Int), 0 ≤ i → i + m = l.length → (o.length : Int) ≤ 2 * i → hub_offset_l1 l hub o i = hub_offset_k8 (o ++ edgesP (ofHub hub (l.drop i.toNat))) := by
  intro m
  induction m with
  | zero =>
    intro o i h0 hi ho
    unfold hub_offset_l1
    rw [iter_eq, hub_offset_b1, if_neg (by simp only; omega), map_inr_after, List.drop_of_length_le (by omega)]
    simp [ofHub, edgesP]
  | succ m ih =>
    intro o i h0 hi ho
    obtain ⟨p, hp, hpm, hd⟩ := idx_lt l (i := i) h0 (by omega)
    obtain ⟨b1, b2, b3, b4, b5⟩ := hB p hpm
    unfold hub_offset_l1 at ih ⊢
    rw [iter_eq, hub_offset_b1, if_pos (by simp only; omega)]
    simp only [hp, Option.bind_some]
    rw [hd]
    unfold ofHub at *
    rw [List.filter_cons]
    by_cases c : p.Hub = hub
    · rw [if_pos c, if_pos (by simpa using c), w64_in (x := p.Got - p.Back) (by omega) (by omega), w64_in (x := p.Got - p.Sent) (by omega) (by omega), w64_in (by omega) (by omega), app_le (by simp; omega)]
      simp only [Option.bind_some]
      unfold hub_offset_j1
      rw [Option.bind_some, after_inl, w64_in (by omega) (by omega)]
      have := ih (o ++ [⟨loP p, 1⟩, ⟨hiP p + 1, -1⟩]) (i + 1) (by omega) (by omega) (by simp; omega)
      refine this.trans ?_
      congr 1
      rw [List.append_assoc]; rfl
    · rw [if_neg c, if_neg (by simpa using c)]
      unfold hub_offset_j1
      rw [Option.bind_some, after_inl, w64_in (by omega) (by omega)]
      exact ih o (i + 1) (by omega) (by omega) (by omega)
theorem srt_le {L : List Int} (h : Srt cmpI L) : L.Pairwise (· ≤ ·) := List.Pairwise.imp (fun {a b} h => by
  unfold cmpI at h
  split at h
  · omega
  · omega) h
theorem srtI_perm (l : List Int) : (srtI l).Perm l := List.mergeSort_perm l _
theorem srtI_srt (l : List Int) : Srt cmpI (srtI l) := by
  have h := List.pairwise_mergeSort (le := fun (x y : Int) => decide (x ≤ y)) (fun a b c h1 h2 => by simp only [decide_eq_true_eq] at *; omega) (fun a b => by simp only [Bool.or_eq_true, decide_eq_true_eq]; omega) l
  refine List.Pairwise.imp (fun {a b} h => ?_) h
  simp only [decide_eq_true_eq] at h
  unfold cmpI
  split
  · omega
  · split <;> omega
/-- The answer. -/
def ansP (I : List Ping) : Best := refC (manyP I) (srtI (cutsP I)) ⟨0, 0, 0⟩
theorem edge_3 : Cmp3 (fun a b : Hub_edge => cmpI a.at_ b.at_) := cmpI_3.on Hub_edge.at_
theorem cut_mem {I : List Ping} {x : Int} : x ∈ cutsP I ↔ ∃ p ∈ I, x = loP p ∨ x = hiP p + 1 := by
  unfold cutsP
  rw [List.mem_flatMap]
  simp
theorem swept (I : List Ping) (hI : ∀ p ∈ I, PB p) (hl : I.length ≤ 1000) (Z : List Hub_edge) (hZ : Z.Perm (edgesP I)) (hs : Srt (fun a b : Hub_edge => cmpI a.at_ b.at_) Z) : hub_offset_l2 Z 0 0 0 0 0 = some (toO (ansP I), decide (I ≠ [])) := by
  have hf : (fun x => sumLe x Z) = manyP I := funext fun x => by rw [sumLe_perm hZ, sum_many x I hI]
  have hC : Z.map Hub_edge.at_ = srtI (cutsP I) := by
    refine srt_unique (cf := cmpI) ?_ ?_ (srtI_srt _) (fun a _ b _ h1 h2 => ?_)
    · rw [← edges_at]
      exact (hZ.map _).trans (srtI_perm _).symm
    · unfold Srt at hs ⊢
      rw [List.pairwise_map]; exact hs
    · unfold cmpI at h1 h2
      split at h1
      · omega
      · split at h2 <;> omega
  have hsl := srt_le (srtI_srt (cutsP I))
  have hZl : Z.length ≤ 2000 := by rw [hZ.length_eq, edges_len]; omega
  have hZs : Z.Pairwise (fun a b => a.at_ ≤ b.at_) := by
    have := hsl; rw [← hC, List.pairwise_map] at this; exact this
  have hmem : ∀ x, x ∈ srtI (cutsP I) ↔ ∃ p ∈ I, x = loP p ∨ x = hiP p + 1 := fun x => by rw [(srtI_perm _).mem_iff, cut_mem]
  have hend : ∀ z, (srtI (cutsP I)).getLast? = some z → manyP I z = 0 := fun z hz => by
    unfold manyP
    have : I.countP (cov z) = 0 := by
      rw [List.countP_eq_zero]
      intro p hp
      have hin := (hmem (hiP p + 1)).2 ⟨p, hp, .inr rfl⟩
      have hle : hiP p + 1 ≤ z := by
        obtain ⟨A, hA⟩ : ∃ A, srtI (cutsP I) = A ++ [z] := List.getLast?_eq_some_iff.1 hz
        rw [hA] at hin hsl
        rcases List.mem_append.1 hin with h | h
        · exact (List.pairwise_append.1 hsl).2.2 _ h z (by simp)
        · simp at h; omega
      unfold cov
      simp; omega
    rw [this]; rfl
  have ho := outer Z (fun e he => edges_bd hI e (hZ.mem_iff.1 he)) hZl hZs (fun e he => by
    have h1 : (srtI (cutsP I)).getLast? = some e.at_ := by rw [← hC, List.getLast?_map, he]; rfl
    have := hend _ h1
    rw [← hf] at this; exact this) Z.length ⟨0, 0, 0⟩ 0 (by omega) (by omega) (by simp) (by simp) (by simp)
  simp only [Int.toNat_zero, List.take_zero, List.drop_zero] at ho
  rw [hC, hf] at ho
  rw [show sumA [] = 0 from rfl] at ho
  rw [ho]
  cases hI0 : I with
  | nil =>
    unfold ansP
    have : srtI (cutsP []) = [] := by
      have := (srtI_perm (cutsP [])).length_eq
      exact List.length_eq_zero_iff.1 (by simpa [cutsP] using this)
    rw [this]; rfl
  | cons p0 I0 =>
    rw [← hI0]
    obtain ⟨p, r, hpr⟩ : ∃ p r, srtI (cutsP I) = p :: r := by
      cases hc : srtI (cutsP I) with
      | nil =>
        have := (hmem (loP p0)).2 ⟨p0, by rw [hI0]; simp, .inl rfl⟩
        rw [hc] at this; simp at this
      | cons p r => exact ⟨p, r, rfl⟩
    have hmin : ∀ x ∈ srtI (cutsP I), p ≤ x := fun x hx => by
      rw [hpr] at hx hsl
      rcases List.mem_cons.1 hx with rfl | hx
      · exact Int.le_refl _
      · exact (List.pairwise_cons.1 hsl).1 x hx
    have hfp : 0 < manyP I p := by
      obtain ⟨q, hq, h⟩ := (hmem p).1 (by rw [hpr]; simp)
      have hqB := hI q hq
      unfold PB at hqB
      have hlq := hmin _ ((hmem (loP q)).2 ⟨q, hq, .inl rfl⟩)
      have hle : loP q ≤ hiP q := by unfold loP hiP; omega
      have hcq : cov p q = true := by unfold cov; simp; omega
      unfold manyP
      have : 0 < I.countP (cov p) := List.countP_pos_iff.2 ⟨q, hq, hcq⟩
      omega
    rw [hpr] at hsl hend
    obtain ⟨s1, s2⟩ := sweep0 (manyP I) p r hsl hfp hend
    unfold ansP
    rw [hpr]
    rw [s1] at s2 ⊢
    have hne : I ≠ [] := by rw [hI0]; simp
    simp [s2, hne]
theorem offset_eq (l : List Ping) (hub : Str) (h : chkP l = 0) : hub_offset l hub = some (toO (ansP (ofHub hub l)), decide (ofHub hub l ≠ [])) := by
  obtain ⟨hB, hl⟩ := chkP_R h
  have hBf : ∀ p ∈ ofHub hub l, PB p := fun p hp => hB p (List.mem_filter.1 hp).1
  have hlf : (ofHub hub l).length ≤ 1000 := by have := List.length_filter_le (fun p : Ping => decide (p.Hub = hub)) l; unfold ofHub; omega
  unfold hub_offset
  rw [offset_l1 l hub hB hl l.length [] 0 (by omega) (by omega) (by simp)]
  simp only [Int.toNat_zero, List.drop_zero, List.nil_append]
  unfold hub_offset_k8
  obtain ⟨Z, z1, z2, z3⟩ := sortO_eq (fun y0 y1 => some (hub_offset_1x y0 y1)) (fun a b : Hub_edge => cmpI a.at_ b.at_) (edgesP (ofHub hub l)) (by rw [edges_len]; omega) (fun a _ b _ => by unfold hub_offset_1x; rw [CompareI_eq]) (edge_3.ord _)
  have z1' : slices_SortFunc_hub_edge_hub_edge (edgesP (ofHub hub l)) (fun y0 y1 => some (hub_offset_1x y0 y1)) = some Z := z1
  rw [len_ok (Z := Z) z1' z2.length_eq]
  simp only [Option.bind_some]
  exact swept _ hBf hlf Z z2 z3
/-! the reference -/
theorem ref_l3 (I : List Ping) (hI : ∀ p ∈ I, PB p) (hl : I.length ≤ 1000) (C : List Int) (hC : ∀ x ∈ C, -1000000000000 ≤ x ∧ x ≤ 1000000000000) (hCl : C.length ≤ 2000) (s : Int) (hs0 : 0 ≤ s) (hs1 : s ≤ C.length) (v n : Int) : ∀ (m : Nat) (H j : Int), 0 ≤ j → j + m = (C.drop s.toNat).length → Q_OffsetOf_l3 I C s v n (C.drop s.toNat) H j = some (.inl (v, scanH (manyP I) n H ((C.drop s.toNat).drop j.toNat), n, s + 1)) := by
  intro m
  induction m with
  | zero =>
    intro H j h0 hj
    unfold Q_OffsetOf_l3
    rw [iter_eq, Q_OffsetOf_b3, if_neg (by simp only; omega), map_inr_after, List.drop_of_length_le (by omega)]
    unfold Q_OffsetOf_j2 Q_OffsetOf_j1
    rw [w64_in (by omega) (by omega)]; rfl
  | succ m ih =>
    intro H j h0 hj
    obtain ⟨d, hd, hdm, hdd⟩ := idx_lt (C.drop s.toNat) (i := j) h0 (by omega)
    have hdB := hC d (List.mem_of_mem_drop hdm)
    have hiS : idxS C s (C.drop s.toNat).length j = some d := by
      unfold idxS
      rw [if_pos ⟨hs0, h0, by omega⟩]
      have h1 := (idx_some hd).2.2
      rw [List.getElem?_drop] at h1
      unfold idx
      rw [if_pos (by omega), show (s + j).toNat = s.toNat + j.toNat by omega]
      exact h1
    have ih' := ih (max H (d - 1)) (j + 1) (by omega) (by omega)
    have hdl : (C.drop s.toNat).length ≤ 2000 := by rw [List.length_drop]; omega
    unfold Q_OffsetOf_l3 at ih' ⊢
    rw [iter_eq, Q_OffsetOf_b3, if_pos (by simp only; omega)]
    simp only [hiS, Option.bind_some]
    rw [many_eq d I hI hl]
    simp only [Option.bind_some]
    rw [w64_in (x := d - 1) (by omega) (by omega), w64_in (x := j + 1) (by omega) (by omega), hdd]
    unfold scanH
    by_cases c : manyP I d ≠ n
    · rw [if_pos c, if_pos c, map_inr_after]
      unfold Q_OffsetOf_j2 Q_OffsetOf_j1
      rw [w64_in (by omega) (by omega)]
    · rw [if_neg c, if_neg c]
      simp only [Option.bind_some, after_inl]
      exact ih'
theorem ref_l2 (I : List Ping) (hI : ∀ p ∈ I, PB p) (hl : I.length ≤ 1000) (C : List Int) (hC : ∀ x ∈ C, -1000000000000 ≤ x ∧ x ≤ 1000000000000) (hCl : C.length ≤ 2000) : ∀ (m : Nat) (R : Best) (i : Int), 0 ≤ i → i + m = C.length → Q_OffsetOf_l2 I C R.low R.high R.many i = some (toO (refC (manyP I) (C.drop i.toNat) R), true) := by
  intro m
  induction m with
  | zero =>
    intro R i h0 hi
    unfold Q_OffsetOf_l2
    rw [iter_eq, Q_OffsetOf_b2, if_neg (by simp only; omega), map_inr_after, List.drop_of_length_le (by omega)]
    rfl
  | succ m ih =>
    intro R i h0 hi
    obtain ⟨p, hp, hpm, hd⟩ := idx_lt C (i := i) h0 (by omega)
    unfold Q_OffsetOf_l2 at ih ⊢
    rw [iter_eq, Q_OffsetOf_b2, if_pos (by simp only; omega)]
    simp only [hp, Option.bind_some]
    rw [many_eq p I hI hl, hd]
    simp only [Option.bind_some]
    unfold refC
    by_cases c : manyP I p ≤ R.many
    · rw [if_pos c, if_pos c]
      unfold Q_OffsetOf_j1
      rw [Option.bind_some, after_inl, w64_in (by omega) (by omega)]
      exact ih R (i + 1) (by omega) (by omega)
    · rw [if_neg c, if_neg c, slc_in h0 (by omega) (by omega)]
      have e : (C.drop i.toNat).take ((C.length : Int).toNat - i.toNat) = C.drop i.toNat := List.take_of_length_le (by rw [List.length_drop]; omega)
      rw [e]
      simp only [Option.bind_some]
      rw [ref_l3 I hI hl C hC hCl i h0 (by omega) p (manyP I p) (C.drop i.toNat).length p 0 (by omega) (by omega)]
      simp only [Int.toNat_zero, List.drop_zero, Option.bind_some, after_inl]
      rw [hd]
      exact ih ⟨p, scanH (manyP I) (manyP I p) p (p :: C.drop (i + 1).toNat), manyP I p⟩ (i + 1) (by omega) (by omega)
theorem ref_l1 (I : List Ping) (hI : ∀ p ∈ I, PB p) (hl : I.length ≤ 1000) : ∀ (m : Nat) (o : List Int) (i : Int), 0 ≤ i → i + m = I.length → (o.length : Int) ≤ 2 * i → Q_OffsetOf_l1 I o i = Q_OffsetOf_k3 I (o ++ cutsP (I.drop i.toNat)) := by
  intro m
  induction m with
  | zero =>
    intro o i h0 hi ho
    unfold Q_OffsetOf_l1
    rw [iter_eq, Q_OffsetOf_b1, if_neg (by simp only; omega), map_inr_after, List.drop_of_length_le (by omega)]
    simp [cutsP]
  | succ m ih =>
    intro o i h0 hi ho
    obtain ⟨p, hp, hpm, hd⟩ := idx_lt I (i := i) h0 (by omega)
    obtain ⟨b1, b2, b3, b4, b5⟩ := hI p hpm
    unfold Q_OffsetOf_l1 at ih ⊢
    rw [iter_eq, Q_OffsetOf_b1, if_pos (by simp only; omega)]
    simp only [hp, Option.bind_some]
    rw [hd, w64_in (x := p.Got - p.Back) (by omega) (by omega), w64_in (x := p.Got - p.Sent) (by omega) (by omega), w64_in (x := p.Got - p.Sent + 1) (by omega) (by omega), app_le (by simp; omega)]
    simp only [Option.bind_some, after_inl]
    rw [w64_in (by omega) (by omega)]
    refine (ih (o ++ [loP p, hiP p + 1]) (i + 1) (by omega) (by omega) (by simp; omega)).trans ?_
    congr 1
    rw [List.append_assoc]; rfl
theorem clone_eq (a : List Ping) (h : a.length ≤ 100000) : slices_Clone_Ping_Ping a = some a := by
  unfold slices_Clone_Ping_Ping
  rw [app_le (by simp; omega)]; rfl
theorem OffsetOf_eq (l : List Ping) (hub : Str) (h : chkP l = 0) : Q_OffsetOf l hub = some (toO (ansP (ofHub hub l)), decide (ofHub hub l ≠ [])) := by
  obtain ⟨hB, hl⟩ := chkP_R h
  have hBf : ∀ p ∈ ofHub hub l, PB p := fun p hp => hB p (List.mem_filter.1 hp).1
  have hlf : (ofHub hub l).length ≤ 1000 := by have := List.length_filter_le (fun p : Ping => decide (p.Hub = hub)) l; unfold ofHub; omega
  unfold Q_OffsetOf
  rw [clone_eq l (by omega)]
  simp only [Option.bind_some]
  have hdel : slices_DeleteFunc_Ping_Ping l (fun y0 => some (Q_OffsetOf_1x y0 hub)) = some (l.filter (fun x => !decide (x.Hub ≠ hub))) := gDel_eq (⟨[], 0, 0, 0⟩ : Ping) _ (fun x => decide (x.Hub ≠ hub)) l (by omega) (fun x _ => rfl)
  have hfl : l.filter (fun x => !decide (x.Hub ≠ hub)) = ofHub hub l := by
    unfold ofHub
    congr 1; funext x; simp
  rw [hdel, hfl]
  simp only [Option.bind_some]
  by_cases c : ((ofHub hub l).length : Int) = 0
  · have : ofHub hub l = [] := List.length_eq_zero_iff.1 (by omega)
    rw [if_pos c, this]
    unfold ansP
    have : srtI (cutsP []) = [] := by
      have := (srtI_perm (cutsP [])).length_eq
      exact List.length_eq_zero_iff.1 (by simpa [cutsP] using this)
    rw [this]; rfl
  · rw [if_neg c, ref_l1 _ hBf hlf (ofHub hub l).length [] 0 (by omega) (by omega) (by simp)]
    simp only [Int.toNat_zero, List.drop_zero, List.nil_append]
    unfold Q_OffsetOf_k3
    have hcl : (cutsP (ofHub hub l)).length ≤ 2000 := by
      rw [← edges_at, List.length_map, edges_len]; omega
    have hsl : (srtI (cutsP (ofHub hub l))).length = (cutsP (ofHub hub l)).length := (srtI_perm _).length_eq
    have hsrt : slices_Sort_int_int (cutsP (ofHub hub l)) = some (srtI (cutsP (ofHub hub l))) := by
      unfold slices_Sort_int_int sort1
      rw [if_pos (by omega)]
    rw [len_ok (Z := srtI (cutsP (ofHub hub l))) hsrt hsl]
    simp only [Option.bind_some]
    have hr := ref_l2 (ofHub hub l) hBf hlf (srtI (cutsP (ofHub hub l))) (fun x hx => by
      obtain ⟨p, hp, h⟩ := cut_mem.1 ((srtI_perm _).mem_iff.1 hx)
      have := hBf p hp
      unfold PB at this
      unfold loP hiP at h; omega) (by omega) (srtI (cutsP (ofHub hub l))).length ⟨0, 0, 0⟩ 0 (by omega) (by omega)
    simp only [Int.toNat_zero, List.drop_zero] at hr
    have hne : ofHub hub l ≠ [] := fun q => c (by rw [q]; rfl)
    rw [hr]
    simp [ansP, hne]
/-! repair -/
theorem half_eq (a : Int) : base_Down a 2 = some (if a < 0 ∧ a.tmod 2 ≠ 0 then w64 (w64 (a.tdiv 2) - 1) else w64 (a.tdiv 2)) := by
  unfold base_Down base_Down_j1
  rw [quo_ne (by omega), rem_ne (by omega)]
  simp only [Option.bind_some]
  have h : a.tmod 2 < 0 ↔ a < 0 ∧ a.tmod 2 ≠ 0 := by
    rcases Int.lt_or_le a 0 with h | h
    · have h1 := Int.tmod_nonneg (a := -a) 2 (by omega)
      rw [Int.neg_tmod] at h1
      omega
    · have := Int.tmod_nonneg 2 h
      omega
  by_cases c : a < 0 ∧ a.tmod 2 ≠ 0
  · rw [if_pos (h.2 c), if_pos c]
  · rw [if_neg (fun q => c (h.1 q)), if_neg c]
def repP (I : List Ping) (at_ : Int) : Int := min (max (w64 (at_ - (if w64 ((ansP I).low + (ansP I).high) < 0 ∧ (w64 ((ansP I).low + (ansP I).high)).tmod 2 ≠ 0 then w64 (w64 ((w64 ((ansP I).low + (ansP I).high)).tdiv 2) - 1) else w64 ((w64 ((ansP I).low + (ansP I).high)).tdiv 2)))) 0) 345686399999
theorem ansP_nil : ansP [] = ⟨0, 0, 0⟩ := by
  unfold ansP
  have : srtI (cutsP []) = [] := by
    have := (srtI_perm (cutsP [])).length_eq
    exact List.length_eq_zero_iff.1 (by simpa [cutsP] using this)
  rw [this]; rfl
def faultP (l : List Ping) (hub : Str) : Int := orL [chkP l, if keyB hub = true then 0 else 5]
theorem hubFault_eq (l : List Ping) (hub : Str) : hub_hubFault l hub = some (faultP l hub) := by
  unfold hub_hubFault faultP
  rw [CheckPings_eq, orL2]
  simp only [Option.bind_some]
  by_cases h : chkP l = 0
  · rw [if_neg (by simpa using h), if_neg (by simpa using h), Key_eq]
    simp only [Option.bind_some]
    cases keyB hub <;> rfl
  · rw [if_pos h, if_pos h]
theorem faultP_chk {l : List Ping} {hub : Str} (h : faultP l hub = 0) : chkP l = 0 := (orL2_zero h).1
theorem Repair_eq (l : List Ping) (hub : Str) (t : Int) : hub_Repair l hub t = some (if faultP l hub ≠ 0 then (0, faultP l hub) else if t < 0 ∨ 345686399999 < t then (0, 1) else (repP (ofHub hub l) t, 0)) := by
  unfold hub_Repair
  rw [hubFault_eq]
  simp only [Option.bind_some]
  by_cases h : faultP l hub = 0
  · simp only [h, ne_eq, not_true_eq_false, if_false]
    rw [Moment_eq]
    by_cases c : t < 0 ∨ 345686399999 < t
    · rw [if_pos (by simp; omega), if_pos c]
    · rw [if_neg (by simp; omega), if_neg c]
      unfold hub_clocks_repair hub_newClocks
      simp only [mget2, mget?, Option.isSome_none, Option.getD_none, Option.bind_some, Bool.not_false, if_true]
      rw [offset_eq l hub (faultP_chk h)]
      simp only [Option.bind_some]
      rw [half_eq]
      rfl
  · rw [if_pos h, if_pos h]
theorem RepairOf_eq (l : List Ping) (hub : Str) (t : Int) (h : chkP l = 0) (ht : 0 ≤ t ∧ t ≤ 345686399999) : Q_RepairOf l hub t = some (repP (ofHub hub l) t) := by
  unfold Q_RepairOf
  rw [OffsetOf_eq l hub h]
  simp only [Option.bind_some]
  by_cases c : ofHub hub l = []
  · rw [if_pos (by simp [c]), c]
    unfold repP
    rw [ansP_nil]
    congr 1
    have e : w64 ((0 : Int) + 0) = 0 := by decide
    rw [e, if_neg (by omega), show w64 ((0 : Int).tdiv 2) = 0 by decide, w64_in (by omega) (by omega)]
    omega
  · rw [if_neg (by simp [c])]
    unfold Q_RepairOf_j1 Q_RepairOf_j2 repP
    have e : ∀ a b : Int, (decide (w64 (a + b) < 0) && decide ((w64 (a + b)).tmod 2 ≠ 0)) = true ↔ (w64 (a + b) < 0 ∧ (w64 (a + b)).tmod 2 ≠ 0) := fun a b => by simp
    show (if (decide (w64 ((ansP (ofHub hub l)).low + (ansP (ofHub hub l)).high) < 0) && decide ((w64 ((ansP (ofHub hub l)).low + (ansP (ofHub hub l)).high)).tmod 2 ≠ 0)) = true then _ else _) = _
    by_cases q : w64 ((ansP (ofHub hub l)).low + (ansP (ofHub hub l)).high) < 0 ∧ (w64 ((ansP (ofHub hub l)).low + (ansP (ofHub hub l)).high)).tmod 2 ≠ 0
    · rw [if_pos ((e _ _).2 q), if_pos q]; rfl
    · rw [if_neg (fun q' => q ((e _ _).1 q')), if_neg q]; rfl
theorem hubbed_eq : L_hubbed = some true := by
  unfold L_hubbed
  have hk : keyB ([104] : Str) = true := by decide
  have hc : chkP [(⟨[104], 10, 15, 10⟩ : Ping)] = 0 := by
    unfold chkP
    rw [if_neg (by simp)]
    simp [scanC, pngStep, hk, ordP]
  have hf : faultP [(⟨[104], 10, 15, 10⟩ : Ping)] [104] = 0 := by
    unfold faultP; rw [hc, hk]; rfl
  have ho : ofHub [104] [(⟨[104], 10, 15, 10⟩ : Ping)] = [(⟨[104], 10, 15, 10⟩ : Ping)] := by decide
  have hs : srtI (cutsP [(⟨[104], 10, 15, 10⟩ : Ping)]) = [5, 6] := by
    show srtI [5, 6] = [5, 6]
    unfold srtI
    exact List.mergeSort_of_pairwise (by simp)
  have ha : ansP [(⟨[104], 10, 15, 10⟩ : Ping)] = ⟨5, 5, 1⟩ := by
    unfold ansP
    rw [hs]; decide
  rw [Repair_eq, if_neg (by simpa using hf), if_neg (by omega), ho]
  simp only [Option.bind_some]
  unfold L_hubbed_j1 repP
  rw [ha]
  decide
/-! the drawn pings -/
theorem Pings_l2_ok (n10 : Int) (h10 : 0 ≤ n10 ∧ n10 ≤ 10) (v12 : Str) (v14 : Int × Stm) (hv : v14.1 ≤ 5) : ∀ (m : Nat) (l21 : List Int) (n22 : Int) (l24 : List Ping) (n25 n26 K : Int), 0 ≤ n26 → n26 + m = v14.1 → SOk ⟨l21, n22⟩ K → 3 * m ≤ K → l24.length + m ≤ 100000 → ∃ l' n' xs', Stream_Pings_l2 n10 v12 v14 l21 n22 l24 n25 n26 = some (.inl (l', n', xs', n10 + 1)) ∧ SOk ⟨l', n'⟩ (K - 3 * m) ∧ xs'.length ≤ l24.length + m := by
  intro m
  induction m with
  | zero =>
    intro l21 n22 l24 n25 n26 K h0 hm hs hK hl
    refine ⟨l21, n22, l24, ?_, hs.less (by omega), by omega⟩
    unfold Stream_Pings_l2
    rw [iter_eq, Stream_Pings_b2, if_neg (by simp only; omega), map_inr_after, w64_in (by omega) (by omega)]
  | succ m ih =>
    intro l21 n22 l24 n25 n26 K h0 hm hs hK hl
    obtain ⟨u, s1, e1, _, q1⟩ := Pick_k (l := [(0 : Int), (5 : Int), (10 : Int), (30 : Int)]) hs (by omega) (by simp) (by simp)
    obtain ⟨t, s2, e2, _, q2⟩ := Pick_k (l := [(0 : Int), (3 : Int), (5 : Int), (20 : Int), (-10 : Int), (40 : Int)]) q1 (by omega) (by simp) (by simp)
    obtain ⟨d, s3, e3, _, q3⟩ := Pick_k (l := [(1 : Int), (10 : Int)]) q2 (by omega) (by simp) (by simp)
    obtain ⟨l', n', xs', g1, g2, g3⟩ := ih s3.L s3.at_ (l24 ++ [(⟨v12, n25, max (0 : Int) (w64 (n25 + t)), w64 (n25 + u)⟩ : Ping)]) (w64 ((w64 (n25 + u)) + d)) (n26 + 1) (K - 3) (by omega) (by omega) (q3.less (by omega)) (by omega) (by simp; omega)
    refine ⟨l', n', xs', ?_, g2.less (by omega), by simp at g3; omega⟩
    unfold Stream_Pings_l2 at g1 ⊢
    rw [iter_eq, Stream_Pings_b2, if_pos (by simp only; omega)]
    simp only [e1, e2, Option.bind_some]
    rw [app_le (by simp; omega)]
    simp only [Option.bind_some, e3, after_inl]
    rw [w64_in (x := n26 + 1) (by omega) (by omega)]
    exact g1
theorem Pings_k3_ok (l6 : List Int) (n7 : Int) (l9 : List Ping) (K : Int) (hs : SOk ⟨l6, n7⟩ K) (hK : 5 ≤ K) (hl : l9.length ≤ 100000) : Gen (Stream_Pings_k3 l6 n7 l9) (K - 5) (fun _ => True) := by
  have j1 : ∀ (l : List Int) (n : Int) (c : Bool), SOk ⟨l, n⟩ (K - 1) → (c = true → 0 < l9.length) → Gen (Stream_Pings_j1 l9 l n c) (K - 5) (fun _ => True) := by
    intro l n c hs hc
    unfold Stream_Pings_j1 Stream_Pings_j2
    by_cases h : c = true
    · have hp := hc h
      rw [if_pos h]
      refine Gen.bind (Next_k hs (by omega) (by omega) (by omega)) (fun i s1 hi hs1 => ?_)
      obtain ⟨y, hy, _, _⟩ := idx_lt l9 hi.1 hi.2
      simp only [hy, Option.bind_some]
      refine Gen.bind (Some_k hs1 (by omega) (by simp) (by simp)) (fun a s2 ha hs2 => ?_)
      refine Gen.bind (Pick_k hs2 (by omega) (by simp) (by simp)) (fun b s3 hb hs3 => ?_)
      refine Gen.bind (Pick_k hs3 (by omega) (by simp) (by simp)) (fun d s4 hd hs4 => ?_)
      exact Gen.ret trivial (hs4.less (by omega))
    · rw [if_neg h]
      exact Gen.ret trivial (hs.less (by omega))
  unfold Stream_Pings_k3
  by_cases h : (0 : Int) < l9.length
  · rw [if_pos h]
    refine Gen.bind (Flip_k hs (by omega) (by omega) (by omega)) (fun c s1 hc hs1 => ?_)
    exact j1 s1.L s1.at_ c hs1 (fun _ => by omega)
  · rw [if_neg h]
    exact j1 l6 n7 false (hs.less (by omega)) (fun q => by cases q)
theorem Pings_l1_ok : ∀ (m : Nat) (l6 : List Int) (n7 : Int) (l9 : List Ping) (n10 K : Int), 0 ≤ n10 → n10 + m = 2 → SOk ⟨l6, n7⟩ K → 20 * m + 5 ≤ K → l9.length + 10 * m ≤ 100 → Gen (Stream_Pings_l1 l6 n7 l9 n10) (K - 20 * m - 5) (fun _ => True) := by
  intro m
  induction m with
  | zero =>
    intro l6 n7 l9 n10 K h0 hm hs hK hl
    unfold Stream_Pings_l1
    rw [iter_eq, Stream_Pings_b1, if_neg (by simp; omega), map_inr_after]
    exact (Pings_k3_ok l6 n7 l9 K hs (by omega) (by omega)).mono (by omega) (fun _ h => h)
  | succ m ih =>
    intro l6 n7 l9 n10 K h0 hm hs hK hl
    obtain ⟨v, hv, _, _⟩ := idx_lt [([104, 97] : Str), ([104, 98] : Str)] (i := n10) h0 (by simp; omega)
    obtain ⟨a, s1, e1, p1, q1⟩ := Next_k (n := 20) hs (by omega) (by omega) (by omega)
    obtain ⟨b, s2, e2, p2, q2⟩ := Next_k (n := 5) q1 (by omega) (by omega) (by omega)
    obtain ⟨l', n', xs', g1, g2, g3⟩ := Pings_l2_ok n10 (by omega) v (b, s2) (by simp only; omega) b.toNat s2.L s2.at_ l9 a 0 (K - 2) (by omega) (by simp only; omega) (q2.less (by omega)) (by omega) (by omega)
    have ih' := ih l' n' xs' (n10 + 1) (K - 20) (by omega) (by omega) (g2.less (by omega)) (by omega) (by omega)
    unfold Stream_Pings_l1 at ih' ⊢
    rw [iter_eq, Stream_Pings_b1, if_pos (by simp; omega)]
    simp only [hv, e1, e2, Option.bind_some]
    rw [g1]
    simp only [Option.bind_some, after_inl]
    exact ih'.mono (by omega) (fun _ h => h)
theorem Pings_k {s : Stm} {K : Int} (hs : SOk s K) (hK : 45 ≤ K) : Gen (Stream_Pings s) (K - 45) (fun _ => True) := by
  unfold Stream_Pings
  exact (Pings_l1_ok 2 s.L s.at_ [] 0 K (by omega) (by omega) hs (by omega) (by simp)).mono (by omega) (fun _ h => h)
theorem Time_k {s : Stm} {K : Int} (hs : SOk s K) (hK : 4 ≤ K) : Gen (Stream_Time s) (K - 4) (fun _ => True) := by
  unfold Stream_Time
  refine Gen.bind (Next_k hs (by omega) (by omega) (by omega)) (fun a s1 ha hs1 => ?_)
  refine Gen.bind (Next_k hs1 (by omega) (by omega) (by omega)) (fun b s2 hb hs2 => ?_)
  refine Gen.bind (Pick_k hs2 (by omega) (by simp) (by simp)) (fun c s3 hc hs3 => ?_)
  refine Gen.bind (Pick_k hs3 (by omega) (by simp) (by simp)) (fun d s4 hd hs4 => ?_)
  exact Gen.ret trivial (hs4.less (by omega))
theorem orE (x y : Int) : cmp_Or_Errno [x, y] = some (orL [x, y]) := gOr_eq _ (by simp)
theorem ClocksRepaired_plain (l : List Int) : L_ClocksRepaired l = some true := by
  unfold L_ClocksRepaired
  refine Gen.use (Pings_k (K := 1000) ⟨by simp, by simp⟩ (by omega)) (fun p s1 hp hs1 => ?_)
  refine Gen.use (Some_k hs1 (by omega) (by simp) (by simp)) (fun h s2 hh hs2 => ?_)
  refine Gen.use (Time_k hs2 (by omega)) (fun t s3 ht hs3 => ?_)
  have hO : hub_Offset p h = some (if faultP p h ≠ 0 then (⟨0, 0, 0⟩, false, faultP p h) else (toO (ansP (ofHub h p)), decide (ofHub h p ≠ []), 0)) := by
    unfold hub_Offset
    rw [hubFault_eq]
    simp only [Option.bind_some]
    by_cases c : faultP p h = 0
    · rw [if_neg (by simpa using c), if_neg (by simpa using c), offset_eq p h (faultP_chk c)]; rfl
    · rw [if_pos c, if_pos c]
  have hQF : orL [chkP p, if keyB h = true then 0 else 5] = faultP p h := rfl
  simp only [hO, Option.bind_some, Repair_eq, PingsFault_eq, QKeyF_eq, orE, CheckPings_eq, hQF]
  have j3 : ∀ v6 : Offset × Bool × Int, L_ClocksRepaired_j3 (p, s1) (h, s2) (t, s3) (if faultP p h ≠ 0 then (0, faultP p h) else if t < 0 ∨ 345686399999 < t then (0, 1) else (repP (ofHub h p) t, 0)) (faultP p h) false = some true := by
    intro v6
    unfold L_ClocksRepaired_j3 L_ClocksRepaired_j4 L_ClocksRepaired_j5
    rw [if_neg (by simp), orE, orL2]
    simp only [Option.bind_some, QMomentF_eq]
    by_cases c : faultP p h = 0
    · simp only [c, ne_eq, not_true_eq_false, if_false]
      by_cases c2 : t < 0 ∨ 345686399999 < t
      · have e : ¬ (0 ≤ t ∧ t ≤ 345686399999) := by omega
        simp only [if_neg e, if_pos c2, hubbed_eq, Option.bind_some]
        simp
      · have e : 0 ≤ t ∧ t ≤ 345686399999 := by omega
        simp only [if_pos e, if_neg c2, hubbed_eq, Option.bind_some, RepairOf_eq p h t (faultP_chk c) e]
        simp
    · simp only [if_pos c, hubbed_eq, Option.bind_some]
      simp
  unfold L_ClocksRepaired_j1 L_ClocksRepaired_j2
  by_cases c : faultP p h = 0
  · have e0 := OffsetOf_eq p h (faultP_chk c)
    have j3' := j3 (⟨0, 0, 0⟩, false, 0)
    simp only [c, ne_eq, not_true_eq_false, if_false, decide_false, Bool.or_self, Bool.false_eq_true, if_true, e0, Option.bind_some, bne_self_eq_false, Bool.or_false] at j3' ⊢
    exact j3'
  · have j3' := j3 (⟨0, 0, 0⟩, false, 0)
    simp only [if_pos c, if_neg c, ne_eq, not_true_eq_false, decide_false, Bool.or_self, Bool.false_eq_true, if_false, bne_self_eq_false] at j3' ⊢
    exact j3'
end Go.Beacon
