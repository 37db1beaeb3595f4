/- Making changes: the program's way and the reference's. No program in sight. -/
import Derived.Test.YtnahbimoaekobaaGreatDoorSidPchc
set_option linter.unusedVariables false
set_option linter.unusedSimpArgs false
namespace Go.Beacon
open Go Go.Eng

/-! properties of a map of values -/
/-- A map whose names and values are short. -/
def MB (m : List (Str × ValueS)) : Prop := m.length ≤ 1000 ∧ ∀ e ∈ m, e.1.length ≤ 100000 ∧ e.2.Words.length ≤ 100000
theorem ofM_pb {p : List (Str × ValueS)} (h : MB p) : PB (ofM p) := by
  refine ⟨Nat.le_trans (ofM_len p) h.1, fun q hq => ?_⟩
  unfold ofM at hq
  obtain ⟨e, he, rfl⟩ := List.mem_map.1 hq
  exact h.2 e (List.mem_filter.1 he).1
theorem PB.perm {a b : List PropS} (h : PB a) (hp : b.Perm a) : PB b := ⟨by rw [hp.length_eq]; exact h.1, fun p hq => h.2 p (hp.mem_iff.1 hq)⟩
theorem fromValues_eq (m : List (Str × ValueS)) (hm : SM m) (hb : MB m) : ∃ Z r, SN Z ∧ (PB Z ∧ Z.length ≤ m.length) ∧ (∀ k, gt PropS.Name Z k = (mget? m k).bind (fun v => if v.Kind ≠ 0 then some ⟨k, v⟩ else none)) ∧ Q_PropsFault Z = some r ∧ Q_fromValues m = if r ≠ 0 then some ([], r) else some (Z, 0) := by
  have hne : m.Pairwise (fun a b => a.1 ≠ b.1) := hm.ne
  have hl := hb.1
  obtain ⟨Z, z1, z2, z3⟩ := sortSN (fun y0 y1 => some (Q_fromValues_1x y0 y1)) (fun a b => rfl) (ofM m) (by have := ofM_len m; omega) (ofM_names hne)
  have hZ : PB Z := (ofM_pb hb).perm z2
  obtain ⟨r, _, r2, _⟩ := CheckProps_eq Z hZ
  have gtZ : ∀ k, gt PropS.Name Z k = (mget? m k).bind (fun v => if v.Kind ≠ 0 then some ⟨k, v⟩ else none) := fun k => by
    rw [gt_perm PropS.Name z2 (sn_ne z3) k]
    exact ofM_gt m k hne
  refine ⟨Z, r, z3, ⟨hZ, by rw [z2.length_eq]; exact ofM_len m⟩, gtZ, r2, ?_⟩
  unfold Q_fromValues Q_fromValues_l1
  have hr : (if r ≠ 0 then some (([] : List PropS), r) else some (Z, (0 : Int))) = some (if r ≠ 0 then (([] : List PropS), r) else (Z, (0 : Int))) := by split <;> rfl
  rw [hr]
  refine overP_inv _ _ m [] _ (fun done X => X = ofM done) rfl (fun done e rest X hp hi => .inl ?_) (fun p X hp hi => ?_)
  · have hlen : done.length + 1 ≤ m.length := by have := hp.length_eq; simp only [List.length_append, List.length_cons] at this; omega
    have hX : X.length ≤ done.length := by rw [hi]; exact ofM_len done
    refine ⟨ofM (done ++ [e]), ?_, rfl⟩
    unfold Q_fromValues_b1 Q_fromValues_j1
    rw [ofM_snoc, hi]
    by_cases c : e.2.Kind ≠ 0
    · rw [if_pos c, if_pos c, app_le (by rw [← hi]; simp; omega)]; rfl
    · rw [if_neg c, if_neg c]
  · subst hi
    have hpn : p.Pairwise (fun a b => a.1 ≠ b.1) := (hp.pairwise_iff (fun {a b} h => h.symm)).2 hne
    have hpl : p.length ≤ 1000 := by rw [hp.length_eq]; exact hl
    obtain ⟨Z', y1, y2, y3⟩ := sortSN (fun y0 y1 => some (Q_fromValues_1x y0 y1)) (fun a b => rfl) (ofM p) (by have := ofM_len p; omega) (ofM_names hpn)
    have hZZ : Z' = Z := sn_ext y3 z3 (fun k => by
      rw [gt_perm PropS.Name y2 (sn_ne y3) k, gtZ k, ofM_gt p k hpn, mget_gt, mget_gt, gt_perm Prod.fst hp hpn k])
    subst hZZ
    unfold Q_fromValues_f1 slices_SortFunc_Prop_Prop lenOk
    rw [y1]
    simp only [Option.bind_some]
    rw [if_pos (by first | exact y2.length_eq | omega)]
    simp only [Option.bind_some]
    rw [r2]
    simp only [Option.bind_some]
    split <;> rfl
/-! the reference -/
theorem ApplyOf_l1 (l : List PropS) (c : List Change) (hl : l.length ≤ 1000) : ∀ m0, Q_ApplyOf_l1 l c m0 0 = Q_ApplyOf_l2 c (setG PropS.Name PropS.Value m0 l) 0 := by
  intro m0
  unfold Q_ApplyOf_l1
  refine iter_to _ (fun x : List (Str × ValueS) × Int => (l.length - x.2).toNat) (fun x : List (Str × ValueS) × Int => 0 ≤ x.2 ∧ x.2 ≤ l.length ∧ x.1 = setG PropS.Name PropS.Value m0 (l.take x.2.toNat)) _ ?_ _ ⟨by simp, by simp, rfl⟩
  rintro ⟨X, n⟩ ⟨g0, g1, g2⟩
  simp only at g0 g1 g2 ⊢
  unfold Q_ApplyOf_b1
  by_cases hn : n < l.length
  · left
    obtain ⟨v, hv, hm, _⟩ := idx_lt l g0 hn
    obtain ⟨hn', hg'⟩ := List.getElem?_eq_some_iff.1 (idx_some hv).2.2
    have e : (n + 1).toNat = n.toNat + 1 := by omega
    rw [if_pos hn, hv]
    simp only [Option.bind_some]
    rw [w64_in (by omega) (by omega)]
    refine ⟨_, rfl, ⟨by simp only; omega, by simp only; omega, ?_⟩, by simp only; omega⟩
    simp only
    rw [e, List.take_succ_eq_append_getElem hn', setG_snoc, g2, hg']
  · right
    rw [if_neg hn, g2, List.take_of_length_le (by omega)]
/-- A change that cannot be made. -/
def cflB (l : List PropS) (c : List Change) : Bool := c.any fun x => decide (valL l x.Name ≠ x.From)
theorem cflB_take {l : List PropS} {c : List Change} {n : Nat} (h : n < c.length) : cflB l (c.take (n + 1)) = (cflB l (c.take n) || decide (valL l c[n].Name ≠ c[n].From)) := by
  unfold cflB
  rw [List.take_succ_eq_append_getElem h, List.any_append]; simp
theorem cflB_mem {l : List PropS} {c : List Change} {x : Change} (hx : x ∈ c) (h : valL l x.Name ≠ x.From) : cflB l c = true := by
  unfold cflB
  exact List.any_eq_true.2 ⟨x, hx, by simpa using h⟩
theorem sc_take_ne {c : List Change} (h : SC c) {n : Nat} (hn : n < c.length) : gt Change.Name (c.take n) c[n].Name = none := by
  rw [gt_none]
  intro y hy
  obtain ⟨i, hi, rfl⟩ := List.getElem_of_mem hy
  have hi' : i < n := by simp at hi; omega
  rw [List.getElem_take]
  have := List.pairwise_iff_getElem.1 (SId.ne Change.Name h) i n (by omega) hn hi'
  exact this
theorem ApplyOf_l2 (l : List PropS) (c : List Change) (m0 : List (Str × ValueS)) (hc : c.length ≤ 2000) (sc : SC c) (hv : ∀ k, (mget? m0 k).getD ⟨0, false, 0, []⟩ = valL l k) : Q_ApplyOf_l2 c m0 0 = if cflB l c = true then some ([], 13) else Q_ApplyOf_k1 (setG Change.Name Change.To m0 c) := by
  unfold Q_ApplyOf_l2
  refine iter_to _ (fun x : List (Str × ValueS) × Int => (c.length - x.2).toNat) (fun x : List (Str × ValueS) × Int => 0 ≤ x.2 ∧ x.2 ≤ c.length ∧ x.1 = setG Change.Name Change.To m0 (c.take x.2.toNat) ∧ cflB l (c.take x.2.toNat) = false) _ ?_ _ ⟨by simp, by simp, rfl, rfl⟩
  rintro ⟨X, n⟩ ⟨g0, g1, g2, g3⟩
  simp only at g0 g1 g2 g3 ⊢
  unfold Q_ApplyOf_b2
  by_cases hn : n < c.length
  · obtain ⟨v, hvv, hm, _⟩ := idx_lt c g0 hn
    obtain ⟨hn', hg'⟩ := List.getElem?_eq_some_iff.1 (idx_some hvv).2.2
    have e : (n + 1).toNat = n.toNat + 1 := by omega
    have hget : (mget? X v.Name).getD ⟨0, false, 0, []⟩ = valL l v.Name := by
      have hn1 := sc_take_ne sc hn'
      rw [hg'] at hn1
      rw [g2, setG_get Change.Name Change.To _ m0 v.Name ((SId.ne Change.Name sc).sublist (List.take_sublist _ _)), hn1]
      exact hv v.Name
    rw [if_pos hn, hvv]
    simp only [Option.bind_some, mgetO, hget]
    by_cases hb : valL l v.Name ≠ v.From
    · right
      rw [if_pos hb, if_pos (cflB_mem hm hb)]
    · left
      rw [if_neg hb, w64_in (by omega) (by omega)]
      refine ⟨_, rfl, ⟨by simp only; omega, by simp only; omega, ?_, ?_⟩, by simp only; omega⟩
      · simp only
        rw [e, List.take_succ_eq_append_getElem hn', setG_snoc, g2, hg']
      · simp only
        rw [e, cflB_take hn', g3, hg', decide_eq_false hb]; rfl
  · right
    rw [List.take_of_length_le (by omega)] at g2 g3
    rw [if_neg hn, g2, g3, if_neg (by simp)]
/-! the program -/
/-- What stays as it was. -/
def keepG (m : List (Str × ValueS)) (p : PropS) : List PropS := if (mget? m p.Name).isSome = true then [] else [p]
theorem keepG_len (m : List (Str × ValueS)) (p : PropS) : (keepG m p).length ≤ 1 := by unfold keepG; split <;> simp
/-- What a change puts there. -/
def putG (x : Change) : List PropS := if x.To.Kind ≠ 0 then [⟨x.Name, x.To⟩] else []
theorem putG_len (x : Change) : (putG x).length ≤ 1 := by unfold putG; split <;> simp
/-- What is there before it is sorted. -/
def preA (l : List PropS) (c : List Change) : List PropS := l.flatMap (keepG (setG Change.Name Change.To [] c)) ++ c.flatMap putG
theorem put_ofM : ∀ c : List Change, c.flatMap putG = ofM (c.map fun x => (x.Name, x.To))
  | [] => rfl
  | x :: c => by
    rw [List.flatMap_cons, List.map_cons, ofM_cons, put_ofM c]
    unfold putG
    split <;> rfl
theorem put_keys {c : List Change} (h : SC c) : (c.map fun x => (x.Name, x.To)).Pairwise (fun a b => a.1 ≠ b.1) := by
  rw [List.pairwise_map]; exact SId.ne Change.Name h
theorem mget_put : ∀ (c : List Change) (k : Str), mget? (c.map fun x => (x.Name, x.To)) k = (gt Change.Name c k).map Change.To
  | [], k => rfl
  | x :: c, k => by
    rw [List.map_cons, mget_cons, gt_cons, mget_put c k]
    split <;> rfl
theorem keep_filter (m : List (Str × ValueS)) : ∀ l : List PropS, l.flatMap (keepG m) = l.filter (fun p => !(mget? m p.Name).isSome)
  | [] => rfl
  | p :: l => by
    rw [List.flatMap_cons, keep_filter m l]
    unfold keepG
    cases h : (mget? m p.Name).isSome with
    | true => rw [List.filter_cons_of_neg (by simp [h])]; rfl
    | false => rw [List.filter_cons_of_pos (by simp [h])]; rfl
theorem gt_keep (m : List (Str × ValueS)) (k : Str) : ∀ l : List PropS, gt PropS.Name (l.filter (fun p => !(mget? m p.Name).isSome)) k = if (mget? m k).isSome = true then none else gt PropS.Name l k
  | [] => by split <;> rfl
  | p :: l => by
    have ih := gt_keep m k l
    by_cases e : p.Name = k
    · cases h : (mget? m p.Name).isSome with
      | true =>
        rw [List.filter_cons_of_neg (by simp [h]), ih, ← e, h]; rfl
      | false =>
        rw [List.filter_cons_of_pos (by simp [h]), gt_cons, if_pos e, gt_cons, if_pos e, ← e, h]; rfl
    · cases h : (mget? m p.Name).isSome with
      | true =>
        rw [List.filter_cons_of_neg (by simp [h]), ih, gt_cons, if_neg e]
      | false =>
        rw [List.filter_cons_of_pos (by simp [h]), gt_cons, if_neg e, ih, gt_cons, if_neg e]
theorem setNil_get {c : List Change} (h : SC c) (k : Str) : mget? (setG Change.Name Change.To [] c) k = (gt Change.Name c k).map Change.To := by
  rw [setG_get Change.Name Change.To c [] k (SId.ne Change.Name h)]
  cases (gt Change.Name c k).map Change.To <;> rfl
/-- What is there afterwards at a name. -/
def aft (l : List PropS) (c : List Change) (k : Str) : Option PropS := match gt Change.Name c k with
  | some x => if x.To.Kind ≠ 0 then some ⟨k, x.To⟩ else none
  | none => gt PropS.Name l k
theorem preA_gt {l : List PropS} {c : List Change} (h : SC c) (k : Str) : gt PropS.Name (preA l c) k = aft l c k := by
  unfold preA aft
  rw [gt_append, keep_filter, gt_keep, put_ofM, ofM_gt _ k (put_keys h), mget_put, setNil_get h]
  cases gt Change.Name c k with
  | none => simp
  | some x => simp
theorem preA_ne {l : List PropS} {c : List Change} (hl : SN l) (h : SC c) : (preA l c).Pairwise (fun a b => a.Name ≠ b.Name) := by
  unfold preA
  rw [List.pairwise_append]
  refine ⟨?_, ?_, fun a ha b hb => ?_⟩
  · rw [keep_filter]; exact (sn_ne hl).filter _
  · rw [put_ofM]; exact ofM_names (put_keys h)
  · rw [keep_filter] at ha
    have h1 := (List.mem_filter.1 ha).2
    rw [setNil_get h] at h1
    obtain ⟨x, hx, hbx⟩ := List.mem_flatMap.1 hb
    have hbn : b.Name = x.Name := by
      unfold putG at hbx
      split at hbx
      · rw [List.mem_singleton] at hbx; rw [hbx]
      · cases hbx
    intro e
    rw [e, hbn, gt_mem Change.Name (SId.ne Change.Name h) hx] at h1
    simp at h1
theorem preA_pb {l : List PropS} {c : List Change} (hl : PB l) (hl5 : l.length ≤ 500) (hb : CB c) (hc : c.length ≤ 400) : PB (preA l c) := by
  have h1 := flat_len (keepG (setG Change.Name Change.To [] c)) (keepG_len _) l
  have h2 := flat_len putG putG_len c
  refine ⟨by unfold preA; rw [List.length_append]; omega, fun p hp => ?_⟩
  unfold preA at hp
  rcases List.mem_append.1 hp with g | g
  · rw [keep_filter] at g
    exact hl.2 p (List.mem_filter.1 g).1
  · obtain ⟨x, hx, hpx⟩ := List.mem_flatMap.1 g
    have hb' := hb.2 x hx
    unfold putG at hpx
    split at hpx
    · rw [List.mem_singleton] at hpx; subst hpx; exact ⟨hb'.1, hb'.2.2⟩
    · cases hpx
theorem setG_mb {l : List PropS} {c : List Change} (hl : PB l) (hl5 : l.length ≤ 500) (hb : CB c) (hc : c.length ≤ 400) : MB (setG Change.Name Change.To (setG PropS.Name PropS.Value [] l) c) := by
  have key : ∀ {α : Type} (key : α → Str) (val : α → ValueS) (xs : List α) (m : List (Str × ValueS)), (∀ x ∈ xs, (key x).length ≤ 100000 ∧ (val x).Words.length ≤ 100000) → (∀ e ∈ m, e.1.length ≤ 100000 ∧ e.2.Words.length ≤ 100000) → ∀ e ∈ setG key val m xs, e.1.length ≤ 100000 ∧ e.2.Words.length ≤ 100000 := by
    intro α key val xs
    induction xs with
    | nil => intro m _ h; exact h
    | cons x xs ih =>
      intro m hx hm
      rw [setG_cons]
      refine ih _ (fun y hy => hx y (by simp [hy])) (fun e he => ?_)
      have hp := (mins_perm (key x) (val x) (mdel m (key x))).mem_iff.1 he
      rcases List.mem_cons.1 hp with g | g
      · subst g; exact hx x (by simp)
      · exact hm e (List.mem_filter.1 g).1
  have h1 := setG_len PropS.Name PropS.Value l []
  have h2 := setG_len Change.Name Change.To c (setG PropS.Name PropS.Value [] l)
  refine ⟨by simp only [List.length_nil] at h1; omega, key Change.Name Change.To c _ (fun x hx => ⟨(hb.2 x hx).1, (hb.2 x hx).2.2⟩) (key PropS.Name PropS.Value l [] (fun x hx => hl.2 x hx) (fun e he => by cases he))⟩
end Go.Beacon
