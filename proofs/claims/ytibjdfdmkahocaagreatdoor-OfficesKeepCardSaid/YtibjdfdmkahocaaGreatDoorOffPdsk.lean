/- The reference's office: what comes about, what it forgets, where a note is. No program in sight. -/
import Derived.Test.YtibjdfdmkahocaaGreatDoorOffPoff
import Derived.Test.YtibjdfdmkahocaaGreatDoorOffPok
set_option linter.unusedVariables false
set_option linter.unusedSimpArgs false
namespace Go.Beacon
open Go Go.Eng

/-- What a note in an office is like. -/
structure NI (p : Post) (t : Int) (n : Note) : Prop where
  le : letE n.Letter = 0
  st : 1 ≤ n.State ∧ n.State ≤ 7
  tr : 0 ≤ n.Tries ∧ n.Tries ≤ p.Tries
  wt : n.State = 1 → n.Tries < p.Tries
  ot : n.State = 2 → 1 ≤ n.Tries
  si : 0 ≤ n.Since ∧ n.Since ≤ t
  op : endB n = false → t < dueN p n
theorem letE_b {l : Letter} (h : letE l = 0) : (0 ≤ l.Prio ∧ l.Prio ≤ 9) ∧ (0 ≤ l.At ∧ l.At ≤ 345686399999) ∧ l.At < l.Until ∧ l.Until ≤ 345686400000 := by
  unfold letE at h
  repeat' split at h
  all_goals first | (exfalso; omega) | omega
theorem NI.b {p : Post} {t : Int} {n : Note} (h : NI p t n) (ht : t ≤ 345686400000) : NoteB n := by
  have h1 := letE_b h.le; have h2 := h.si
  exact ⟨by omega, by omega⟩
theorem endB_st {n : Note} (h : 1 ≤ n.State) : endB n = false ↔ n.State = 1 ∨ n.State = 2 := by
  unfold endB; simp; omega
theorem open_eq {n : Note} (h : 1 ≤ n.State) : Q_open n = !endB n := by
  unfold Q_open Q_open_j1 endB
  rw [Bool.eq_iff_iff]; simp; omega
theorem dueN_le (p : Post) (n : Note) : dueN p n ≤ n.Letter.Until := by unfold dueN; split <;> omega
/-- A step of what comes about. -/
theorem NI.grw1 {p : Post} {t t' : Int} {n : Note} (hp : PostR p) (h : NI p t n) (ht : t ≤ t') (hd : endB n = false ∧ dueN p n ≤ t') :
    t < (grw1 p t' n).Since ∧ (grw1 p t' n).Since ≤ t' ∧ ((grw1 p t' n).State = 5 ∨ (grw1 p t' n).State = 7 ∨ ((grw1 p t' n).State = 1 ∧ n.State = 2 ∧ n.Tries < p.Tries)) := by
  have h1 := h.op hd.1
  have h2 := (endB_st h.st.1).1 hd.1
  unfold Go.Beacon.grw1
  rw [if_pos hd]
  refine ⟨h1, hd.2, ?_⟩
  simp only
  by_cases c1 : dueN p n = n.Letter.Until
  · rw [if_pos c1]; exact .inl rfl
  · rw [if_neg c1]
    have c2 : n.State = 2 := by
      rcases h2 with h2 | h2
      · exact (c1 (by unfold dueN; rw [h2, if_neg (by decide)])).elim
      · exact h2
    by_cases c3 : n.Tries = p.Tries
    · rw [if_pos c3]; exact .inr (.inl rfl)
    · rw [if_neg c3]; exact .inr (.inr ⟨rfl, c2, by have := h.tr; omega⟩)
/-- Both steps: the note behind ageing. -/
theorem NI.grw {p : Post} {t t' : Int} {n : Note} (hp : PostR p) (h : NI p t n) (ht : t ≤ t') : NI p t' (grw p t' n) ∧ (endB n = false → endB (grw p t' n) = true → t < (grw p t' n).Since) ∧ (endB n = true → grw p t' n = n) ∧ ((grw p t' n).State = 1 → n.State = 1 ∨ 1 ≤ n.Tries) := by
  have hend : endB n = true → Go.Beacon.grw p t' n = n := by
    intro he
    unfold Go.Beacon.grw
    have : ¬ (endB n = false ∧ dueN p n ≤ t') := by rw [he]; simp
    rw [grw1_off this, grw1_off this]
  have hs := h.si
  have hlt := grw_let p t' n
  have base : ∀ m : Note, m.Letter = n.Letter → m.Tries = n.Tries → (1 ≤ m.State ∧ m.State ≤ 7) → (m.State = 1 → m.Tries < p.Tries) → (m.State = 2 → 1 ≤ m.Tries) → (0 ≤ m.Since ∧ m.Since ≤ t') → (endB m = false → t' < dueN p m) → NI p t' m := fun m e1 e2 a b c d e => ⟨by rw [e1]; exact h.le, a, by rw [e2]; exact h.tr, b, c, d, e⟩
  by_cases h1 : endB n = false ∧ dueN p n ≤ t'
  · obtain ⟨a1, a2, a3⟩ := h.grw1 hp ht h1
    obtain ⟨l1, l2⟩ := grw1_let p t' n
    have hst2 := (endB_st h.st.1).1 h1.1
    by_cases h2 : endB (Go.Beacon.grw1 p t' n) = false ∧ dueN p (Go.Beacon.grw1 p t' n) ≤ t'
    · have hm1 : (Go.Beacon.grw1 p t' n).State = 1 ∧ n.State = 2 ∧ n.Tries < p.Tries := by
        rcases a3 with e | e | e
        · have := h2.1; unfold endB at this; rw [e] at this; simp at this
        · have := h2.1; unfold endB at this; rw [e] at this; simp at this
        · exact e
      have hd : dueN p (Go.Beacon.grw1 p t' n) = (Go.Beacon.grw1 p t' n).Letter.Until := by unfold dueN; rw [hm1.1, if_neg (by decide)]
      have e3 : Go.Beacon.grw p t' n = ⟨(Go.Beacon.grw1 p t' n).Letter, 5, (Go.Beacon.grw1 p t' n).Tries, dueN p (Go.Beacon.grw1 p t' n)⟩ := by
        unfold Go.Beacon.grw
        generalize Go.Beacon.grw1 p t' n = m at h2 hd ⊢
        unfold Go.Beacon.grw1
        rw [if_pos h2, if_pos hd]
      have hgt : t < dueN p (Go.Beacon.grw1 p t' n) := by
        rw [hd, l1]
        have := dueN_le p n; have := h.op h1.1; omega
      refine ⟨base _ hlt.1 hlt.2 ?_ ?_ ?_ ?_ ?_, fun _ _ => by rw [e3]; exact hgt, hend, fun hx => by rw [e3] at hx; simp at hx⟩
      · rw [e3]; simp
      · rw [e3]; simp
      · rw [e3]; simp
      · rw [e3]; exact ⟨by show 0 ≤ dueN p _; omega, h2.2⟩
      · rw [e3]; intro hx; unfold endB at hx; simp at hx
    · have e3 : Go.Beacon.grw p t' n = Go.Beacon.grw1 p t' n := by unfold Go.Beacon.grw; rw [grw1_off h2]
      refine ⟨base _ hlt.1 hlt.2 ?_ ?_ ?_ ?_ ?_, fun _ _ => by rw [e3]; exact a1, hend, fun hx => ?_⟩
      · rw [e3]; omega
      · rw [e3]; intro hx; rw [l2]; omega
      · rw [e3]; intro hx; omega
      · rw [e3]; omega
      · rw [e3]; intro hx
        exact Classical.byContradiction fun hc => h2 ⟨hx, by omega⟩
      · rw [e3] at hx
        right
        exact h.ot (by omega)
  · have e3 : Go.Beacon.grw p t' n = n := by unfold Go.Beacon.grw; rw [grw1_off h1, grw1_off h1]
    refine ⟨base _ hlt.1 hlt.2 ?_ ?_ ?_ ?_ ?_, fun a b => absurd b (by rw [e3, a]; simp), hend, fun hx => .inl (by rw [e3] at hx; exact hx)⟩
    · rw [e3]; exact h.st
    · rw [e3]; exact h.wt
    · rw [e3]; exact h.ot
    · rw [e3]; omega
    · rw [e3]; intro hx
      exact Classical.byContradiction fun hc => h1 ⟨hx, by omega⟩
/-! where something is -/
theorem findI_spec {α : Type} (f : α → Bool) : ∀ (xs : List α) (j : Int), 0 ≤ j → (findI f xs j = -1 ∧ ∀ x ∈ xs, f x = false) ∨ (∃ i : Nat, ∃ x, findI f xs j = j + i ∧ xs[i]? = some x ∧ f x = true)
  | [], j, _ => .inl ⟨rfl, by simp⟩
  | y :: r, j, hj => by
    unfold findI
    cases hy : f y with
    | true => right; exact ⟨0, y, by simp, by simp, hy⟩
    | false =>
      rw [if_neg (by simp)]
      rcases findI_spec f r (j + 1) (by omega) with ⟨h1, h2⟩ | ⟨i, x, h1, h2, h3⟩
      · left; refine ⟨h1, fun x hx => ?_⟩
        rcases List.mem_cons.1 hx with rfl | hx
        · exact hy
        · exact h2 x hx
      · right; exact ⟨i + 1, x, by rw [h1]; omega, by simpa using h2, h3⟩
theorem idx_nat {α : Type} {xs : List α} {i : Nat} {x : α} (h : xs[i]? = some x) : idx xs (i : Int) = some x := by
  unfold idx; rw [if_pos (by omega)]; simpa using h
/-- A note in another form, at its place. -/
def setid (L : List Note) (k : Str) (f : Note → Note) : List Note := L.map (fun n => if nid n = k then f n else n)
theorem setid_id {L : List Note} {k : Str} {f : Note → Note} (hf : ∀ n, nid (f n) = nid n) (h : SI L) : SI (setid L k f) :=
  h.map (fun n => by split <;> simp [hf])
theorem setid_set {L : List Note} (h : SI L) {i : Nat} {n : Note} (hi : L[i]? = some n) (f : Note → Note) : L.set i (f n) = setid L (nid n) f := by
  have hd := SI.ne h
  unfold setid
  apply List.ext_getElem?
  intro j
  rw [List.getElem?_map]
  by_cases hj : i = j
  · subst hj
    rw [List.getElem?_set_self (List.getElem?_eq_some_iff.1 hi).1, hi]
    simp
  · rw [List.getElem?_set_ne hj]
    cases hm : L[j]? with
    | none => rfl
    | some m =>
      have hne : nid m ≠ nid n := by
        obtain ⟨a1, a2⟩ := List.getElem?_eq_some_iff.1 hi
        obtain ⟨b1, b2⟩ := List.getElem?_eq_some_iff.1 hm
        rw [List.pairwise_iff_getElem] at hd
        rcases Nat.lt_or_gt_of_ne hj with hlt | hlt
        · have := hd i j a1 b1 hlt; rw [a2, b2] at this; exact fun e => this e.symm
        · have := hd j i b1 a1 hlt; rw [a2, b2] at this; exact this
      simp [hne]
theorem setid_mset {L : List Note} (h : SI L) {k : Str} {n : Note} (hk : mget? (asM L) k = some n) {f : Note → Note} (hf : ∀ n, nid (f n) = nid n) : mset (asM L) k (f n) = asM (setid L k f) := by
  refine map_ext ((SI.sm h).set _ _) (SI.sm (setid_id hf h)) (fun k' => ?_)
  have e : ∀ m, nid ((fun m => if nid m = k then f m else m) m) = nid m := fun m => by simp only; split <;> simp [hf]
  unfold setid
  rw [mget_mset, asM_map e]
  obtain ⟨_, hn⟩ := asM_some hk
  by_cases hkk : k = k'
  · subst hkk; rw [if_pos rfl, hk]; simp [hn]
  · rw [if_neg hkk]
    cases hm : mget? (asM L) k' with
    | none => rfl
    | some m =>
      obtain ⟨_, hmk⟩ := asM_some hm
      simp [hmk, Ne.symm hkk]
theorem at_eq {d : Fleetref2_Desk} (hl : d.L.length ≤ 1000000) (k : Str) : Q_Desk_at d k = some (findI (fun n => decide (nid n = k)) d.L 0) := by
  unfold Q_Desk_at
  have : slices_IndexFunc_Note_Note d.L (fun y0 => some (Q_Desk_at_1x y0 k)) = some (findI (fun n => decide (nid n = k)) d.L 0) := gIndexFunc_eq d.L _ _ (fun _ _ => rfl) (by omega)
  rw [this]; rfl
/-- Where a note is, and what a map tells of it. -/
theorem at_cases {d : Fleetref2_Desk} (hS : SI d.L) (hl : d.L.length ≤ 1000000) (k : Str) : (Q_Desk_at d k = some (-1) ∧ mget? (asM d.L) k = none) ∨ (∃ i : Nat, ∃ n, Q_Desk_at d k = some (i : Int) ∧ d.L[i]? = some n ∧ nid n = k ∧ mget? (asM d.L) k = some n) := by
  rw [at_eq hl]
  rcases findI_spec (fun n => decide (nid n = k)) d.L 0 (by omega) with ⟨h1, h2⟩ | ⟨i, n, h1, h2, h3⟩
  · left; exact ⟨by rw [h1], asM_none.2 (fun n hn => by simpa using h2 n hn)⟩
  · right
    have hk : nid n = k := by simpa using h3
    exact ⟨i, n, by rw [h1]; simp, h2, hk, by rw [← hk]; exact asM_get hS (List.mem_of_getElem? h2)⟩
def cntO (L : List Note) : Int := ((L.filter (fun n => !endB n)).length : Int)
theorem many_eq {d : Fleetref2_Desk} (hl : d.L.length ≤ 1000000) (hs : ∀ n ∈ d.L, 1 ≤ n.State) : Q_Desk_many d = some (cntO d.L) := by
  have key : ∀ (m : Nat) (i c : Int), 0 ≤ i → i + m = d.L.length → 0 ≤ c → c ≤ i → Q_Desk_many_l1 d c i = some (c + cntO (d.L.drop i.toNat)) := by
    intro m
    induction m with
    | zero =>
      intro i c h0 hm hc hci
      unfold Q_Desk_many_l1
      rw [iter_eq, Q_Desk_many_b1, if_neg (by simp only; omega), map_inr_after, List.drop_of_length_le (by omega)]
      simp [cntO]
    | succ m ih =>
      intro i c h0 hm hc hci
      obtain ⟨x, hx, hxm, hd⟩ := idx_lt d.L h0 (by omega)
      unfold Q_Desk_many_l1 at ih ⊢
      rw [iter_eq, Q_Desk_many_b1, if_pos (by simp only; omega)]
      simp only [hx, Option.bind_some, open_eq (hs x hxm)]
      unfold Q_Desk_many_j1
      have w1 : w64 (i + 1) = i + 1 := w64_in (by omega) (by omega)
      have w2 : w64 (c + 1) = c + 1 := w64_in (by omega) (by omega)
      rw [hd]
      cases he : endB x with
      | true =>
        simp only [Bool.not_true, Bool.false_eq_true, if_false, Option.bind_some, after_inl, w1]
        rw [ih (i + 1) c (by omega) (by omega) hc (by omega)]
        unfold cntO; rw [List.filter_cons, he]; simp
      | false =>
        simp only [Bool.not_false, if_true, Option.bind_some, after_inl, w1, w2]
        rw [ih (i + 1) (c + 1) (by omega) (by omega) (by omega) (by omega)]
        unfold cntO; rw [List.filter_cons, he]; simp; omega
  have := key d.L.length 0 0 (by omega) (by omega) (by omega) (by omega)
  unfold Q_Desk_many
  rw [this]; simp
/-! what a desk forgets -/
/-- The first of those that ended first; how many ended. -/
theorem forget_l2 {d : Fleetref2_Desk} {L : List Note} (hl : L.length ≤ 1000000) (hs : ∀ n ∈ L, 1 ≤ n.State) : ∀ (m : Nat) (i o c : Int), 0 ≤ i → i + m = L.length → c = cntE endB (L.take i.toNat) → (o = -1 ∧ c = 0 ∨ ∃ j : Nat, ∃ x, o = j ∧ (j : Int) < i ∧ L[j]? = some x ∧ endB x = true ∧ ∀ (k : Nat) (y : Note), (k : Int) < i → L[k]? = some y → endB y = true → x.Since < y.Since ∨ (x.Since = y.Since ∧ j ≤ k)) →
    ∃ o', Q_Desk_forget_l2 d L o c i = Q_Desk_forget_k4 d L o' (cntE endB L) ∧ (o' = -1 ∧ cntE endB L = 0 ∨ ∃ j : Nat, ∃ x, o' = j ∧ L[j]? = some x ∧ endB x = true ∧ ∀ (k : Nat) (y : Note), L[k]? = some y → endB y = true → x.Since < y.Since ∨ (x.Since = y.Since ∧ j ≤ k)) := by
  intro m
  induction m with
  | zero =>
    intro i o c h0 hm hc ho
    have hi : L.take i.toNat = L := List.take_of_length_le (by omega)
    rw [hi] at hc
    refine ⟨o, ?_, ?_⟩
    · unfold Q_Desk_forget_l2
      rw [iter_eq, Q_Desk_forget_b2, if_neg (by simp only; omega), map_inr_after, hc]
    · rcases ho with ⟨a, b⟩ | ⟨j, x, a, b, c1, d1, e1⟩
      · left; exact ⟨a, by omega⟩
      · right; exact ⟨j, x, a, c1, d1, fun k y hk he => e1 k y (by have := (List.getElem?_eq_some_iff.1 hk).1; omega) hk he⟩
  | succ m ih =>
    intro i o c h0 hm hc ho
    obtain ⟨x, hx, hxm, hd⟩ := idx_lt L h0 (by omega)
    have hxi : L[i.toNat]? = some x := (idx_some hx).2.2
    have htk : L.take (i + 1).toNat = L.take i.toNat ++ [x] := by
      rw [show (i + 1).toNat = i.toNat + 1 by omega, List.take_add_one, hxi]; rfl
    have hcl : cntE endB (L.take i.toNat) ≤ i := by
      unfold cntE
      have := List.length_filter_le endB (L.take i.toNat)
      simp at this ⊢; omega
    have hcn : 0 ≤ c := by rw [hc]; unfold cntE; omega
    have w1 : w64 (i + 1) = i + 1 := w64_in (by omega) (by omega)
    have w2 : w64 (c + 1) = c + 1 := w64_in (by omega) (by omega)
    have lt_cases : ∀ (k : Nat), (k : Int) < i + 1 → (k : Int) < i ∨ k = i.toNat := fun k hk => by omega
    unfold Q_Desk_forget_l2 at ih ⊢
    rw [iter_eq, Q_Desk_forget_b2, if_pos (by simp only; omega)]
    simp only [hx, Option.bind_some, open_eq (hs x hxm)]
    unfold Q_Desk_forget_j1 Q_Desk_forget_j2 Q_Desk_forget_j3 Q_Desk_forget_j1
    cases he : endB x with
    | false =>
      simp only [Bool.not_false, if_true, Option.bind_some, after_inl, w1]
      refine ih (i + 1) o c (by omega) (by omega) ?_ ?_
      · rw [htk]; unfold cntE at hc ⊢; rw [List.filter_append, List.filter_cons, he]; simpa using hc
      · rcases ho with ⟨a, b⟩ | ⟨j, z, a, b, c1, d1, e1⟩
        · exact .inl ⟨a, b⟩
        · right
          refine ⟨j, z, a, by omega, c1, d1, fun k y hk hy hye => ?_⟩
          rcases lt_cases k hk with h | h
          · exact e1 k y h hy hye
          · subst h; rw [hxi] at hy; obtain rfl := Option.some.inj hy; rw [he] at hye; cases hye
    | true =>
      have hc' : c + 1 = cntE endB (L.take (i + 1).toNat) := by
        rw [htk]; unfold cntE at hc ⊢; rw [List.filter_append, List.filter_cons, he]; simp; omega
      simp only [Bool.not_true, Bool.false_eq_true, if_false, w1, w2]
      have new : (∀ (k : Nat) (y : Note), (k : Int) < i → L[k]? = some y → endB y = true → x.Since < y.Since) → ∃ o', iter (fun x : Int × Int × Int => Q_Desk_forget_b2 d L x.1 x.2.1 x.2.2) (i, c + 1, i + 1) = Q_Desk_forget_k4 d L o' (cntE endB L) ∧ (o' = -1 ∧ cntE endB L = 0 ∨ ∃ j : Nat, ∃ x, o' = j ∧ L[j]? = some x ∧ endB x = true ∧ ∀ (k : Nat) (y : Note), L[k]? = some y → endB y = true → x.Since < y.Since ∨ (x.Since = y.Since ∧ j ≤ k)) := by
        intro hlt
        refine ih (i + 1) i (c + 1) (by omega) (by omega) hc' (.inr ⟨i.toNat, x, by omega, by omega, hxi, he, fun k y hk hy hye => ?_⟩)
        rcases lt_cases k hk with h | h
        · exact .inl (hlt k y h hy hye)
        · subst h; rw [hxi] at hy; obtain rfl := Option.some.inj hy; exact .inr ⟨rfl, Nat.le_refl _⟩
      rcases ho with ⟨a, b⟩ | ⟨j, z, a, b, c1, d1, e1⟩
      · rw [if_pos (by omega)]
        simp only [if_true, Option.bind_some, after_inl]
        refine new (fun k y hk hy hye => ?_)
        have : y ∈ (L.take i.toNat).filter endB := List.mem_filter.2 ⟨List.mem_of_getElem? (i := k) (by rw [List.getElem?_take, if_pos (by omega)]; exact hy), hye⟩
        have h0' : (L.take i.toNat).filter endB = [] := List.eq_nil_of_length_eq_zero (by unfold cntE at hc; omega)
        rw [h0'] at this; cases this
      · subst a
        rw [if_neg (by omega), idx_nat c1]
        simp only [Option.bind_some]
        by_cases hlt : x.Since < z.Since
        · rw [if_pos (by simpa using hlt)]
          simp only [Option.bind_some, after_inl]
          refine new (fun k y hk hy hye => ?_)
          rcases e1 k y hk hy hye with h | h <;> omega
        · rw [if_neg (by simpa using hlt)]
          simp only [Option.bind_some, after_inl]
          refine ih (i + 1) j (c + 1) (by omega) (by omega) hc' (.inr ⟨j, z, rfl, by omega, c1, d1, fun k y hk hy hye => ?_⟩)
          rcases lt_cases k hk with h | h
          · exact e1 k y h hy hye
          · subst h; rw [hxi] at hy; obtain rfl := Option.some.inj hy
            rcases Int.lt_or_eq_of_le (show z.Since ≤ x.Since by omega) with h | h
            · exact .inl h
            · exact .inr ⟨h, by omega⟩
theorem forget_eq : ∀ (m : Nat) (p : Post) (t : Int) (L0 L : List Note), L.length = m → 0 ≤ p.Kept → SI L → L.length ≤ 1000000 → (∀ n ∈ L, 1 ≤ n.State) → ∃ R, Q_Desk_forget_l1 (⟨p, L0, t⟩ : Fleetref2_Desk) L = some ⟨p, R, t⟩ ∧ Forg endB sinC p.Kept L R := by
  intro m
  induction m with
  | zero =>
    intro p t L0 L hm hk hS hl hs
    obtain rfl : L = [] := List.eq_nil_of_length_eq_zero hm
    refine ⟨[], ?_, .done (by simpa [cntE] using hk)⟩
    unfold Q_Desk_forget_l1
    rw [iter_eq, Q_Desk_forget_b1, Q_Desk_forget_l2, iter_eq, Q_Desk_forget_b2, if_neg (by simp), map_inr_after, Q_Desk_forget_k4, if_pos hk, map_inr_after]
  | succ m ih =>
    intro p t L0 L hm hk hS hl hs
    obtain ⟨o, h1, h2⟩ := forget_l2 (d := ⟨p, L0, t⟩) hl hs L.length 0 (-1) 0 (by omega) (by omega) (by simp [cntE]) (.inl ⟨rfl, rfl⟩)
    unfold Q_Desk_forget_l1 at ih ⊢
    rw [iter_eq, Q_Desk_forget_b1, h1, Q_Desk_forget_k4]
    simp only
    by_cases hc : cntE endB L ≤ p.Kept
    · rw [if_pos hc, map_inr_after]
      exact ⟨L, rfl, .done hc⟩
    · rw [if_neg hc]
      rcases h2 with ⟨_, h0⟩ | ⟨j, x, rfl, hj, hx, hmin⟩
      · omega
      · have hjl := (List.getElem?_eq_some_iff.1 hj).1
        have e : slices_Delete_Note_Note L (j : Int) (w64 ((j : Int) + 1)) = some (L.take j ++ L.drop (j + 1)) := by
          unfold slices_Delete_Note_Note delO
          rw [w64_in (by omega) (by omega), if_pos ⟨by omega, by omega, by omega⟩]
          simp only [Int.toNat_natCast]
          rw [show ((j : Int) + 1).toNat = j + 1 by omega]
        rw [e]
        simp only [Option.bind_some, after_inl]
        have hL : L = L.take j ++ x :: L.drop (j + 1) := by
          have : L.drop j = x :: L.drop (j + 1) := by
            rw [List.drop_eq_getElem_cons hjl, (List.getElem?_eq_some_iff.1 hj).2]
          rw [← this, List.take_append_drop]
        have hsub : (L.take j ++ L.drop (j + 1)).Sublist L := by
          conv => rhs; rw [hL]
          exact List.Sublist.append (List.Sublist.refl _) (List.sublist_cons_self _ _)
        have hlen : (L.take j ++ L.drop (j + 1)).length = m := by simp; omega
        obtain ⟨R, r1, r2⟩ := ih p t L0 (L.take j ++ L.drop (j + 1)) hlen hk (hS.sub hsub) (by omega) (fun n hn => hs n (hsub.subset hn))
        refine ⟨R, r1, ?_⟩
        rw [hL]
        refine Forg.drop (by rw [← hL]; omega) hx (fun y hy hye => ?_) r2
        have hyL := hsub.subset hy
        obtain ⟨k, hk1⟩ := List.getElem?_of_mem hyL
        have hkl := (List.getElem?_eq_some_iff.1 hk1).1
        have hd := SI.ne hS
        rcases hmin k y hk1 hye with h | ⟨h, hjk⟩
        · exact sinC_lt h
        · have hjk' : j < k := by
            rcases Nat.lt_or_eq_of_le hjk with h | h
            · exact h
            · exfalso
              subst h
              rw [hj] at hk1; obtain rfl := Option.some.inj hk1
              rw [hL, List.pairwise_append, List.pairwise_cons] at hd
              rcases List.mem_append.1 hy with h | h
              · exact hd.2.2 x h x (by simp) rfl
              · exact hd.2.1.1 x h rfl
          have hlt : Lib.compareBytes (nid x) (nid y) < 0 := by
            have := List.pairwise_iff_getElem.1 hS j k hjl hkl hjk'
            rwa [(List.getElem?_eq_some_iff.1 hj).2, (List.getElem?_eq_some_iff.1 hk1).2] at this
          unfold sinC
          have hz : cmpI x.Since y.Since = 0 := by unfold cmpI; rw [if_neg (by omega), if_neg (by omega)]
          rw [hz, if_neg (by simp)]; exact hlt
/-! what comes about for a desk -/
theorem Qdue_eq {d : Fleetref2_Desk} {n : Note} (hp : PostR d.P) (hs : 0 ≤ n.Since ∧ n.Since ≤ 345686400000) (h : endB n = false) (h1 : 1 ≤ n.State) : Q_Desk_due d n = dueN d.P n := by
  have ht := hp.timeout
  unfold Q_Desk_due dueN
  rcases (endB_st h1).1 h with e | e
  · rw [if_pos e, if_neg (by omega)]
  · rw [if_neg (by omega), if_pos e, if_pos e, w64_in (by omega) (by omega)]
theorem age_l2 {d : Fleetref2_Desk} {t : Int} (hp : PostR d.P) {L : List Note} {i : Nat} {n : Note} (hi : L[i]? = some n) (hb : NoteB n) (h1 : 1 ≤ n.State ∧ n.State ≤ 7) (htr : n.Tries ≤ d.P.Tries) (hl : L.length ≤ 1000000) : Q_Desk_age_l2 d t (i : Int) L = some (.inl (L.set i (grw d.P t n), (i : Int) + 1)) := by
  have hil := (List.getElem?_eq_some_iff.1 hi).1
  have step : ∀ m : Note, NoteB m → (1 ≤ m.State ∧ m.State ≤ 7) → m.Tries ≤ d.P.Tries → Q_Desk_age_b2 d t (i : Int) (L.set i m) = if endB m = false ∧ dueN d.P m ≤ t then some (.inl (L.set i (grw1 d.P t m))) else some (.inr (.inl (L.set i m, (i : Int) + 1))) := by
    intro m hm hm1 hm2
    have ix : ∀ x : Note, idx (L.set i x) (i : Int) = some x := fun x => idx_nat (by rw [List.getElem?_set_self hil])
    unfold Q_Desk_age_b2 Q_Desk_age_j1
    rw [ix m]
    simp only [Option.bind_some, open_eq hm1.1]
    rw [w64_in (by omega) (by omega)]
    cases he : endB m with
    | true => simp
    | false =>
      rw [Qdue_eq (d := ⟨d.P, L.set i m, d.time_⟩) hp hm.since he hm1.1]
      by_cases hd : dueN d.P m ≤ t
      · rw [if_pos (by simpa using hd), if_pos (show false = false ∧ dueN d.P m ≤ t from ⟨rfl, hd⟩)]
        unfold Q_Desk_age_j3 Q_Desk_age_j2
        have ss : ∀ a b : Note, (L.set i a).set ((i : Int)).toNat b = L.set i b := fun a b => by rw [Int.toNat_natCast, List.set_set]
        simp only [ss, ix, Option.bind_some, Qdue_eq (d := ⟨d.P, L.set i m, d.time_⟩) hp hm.since he hm1.1]
        have hg : grw1 d.P t m = ⟨m.Letter, if dueN d.P m = m.Letter.Until then 5 else if m.Tries = d.P.Tries then 7 else 1, m.Tries, dueN d.P m⟩ := by
          unfold grw1; rw [if_pos ⟨he, hd⟩]
        rw [hg]
        by_cases c1 : dueN d.P m = m.Letter.Until
        · rw [if_pos c1, if_pos c1]
        · rw [if_neg c1, if_neg c1]
          by_cases c2 : m.Tries = d.P.Tries
          · rw [if_pos (by omega), if_pos c2]
          · rw [if_neg (by omega), if_neg c2]
      · rw [if_neg (by simpa using hd), if_neg (fun h => hd h.2)]; rfl
  have st1 : ∀ m : Note, (1 ≤ m.State ∧ m.State ≤ 7) → 1 ≤ (grw1 d.P t m).State ∧ (grw1 d.P t m).State ≤ 7 := by
    intro m hm; unfold grw1; repeat' split
    all_goals first | exact hm | (simp only; omega)
  have b1 := hb.grw1 (t := t) hp
  have b2 := b1.grw1 (t := t) hp
  have t1 := (grw1_let d.P t n).2
  have t2 := (grw1_let d.P t (grw1 d.P t n)).2
  have s0 := step n hb h1 htr
  have s1 := step (grw1 d.P t n) b1 (st1 _ h1) (by rw [t1]; exact htr)
  have s2 := step (grw1 d.P t (grw1 d.P t n)) b2 (st1 _ (st1 _ h1)) (by rw [t2, t1]; exact htr)
  have e0 : L.set i n = L := by
    apply List.ext_getElem?
    intro j
    by_cases hj : i = j
    · subst hj; rw [List.getElem?_set_self hil, hi]
    · rw [List.getElem?_set_ne hj]
  rw [e0] at s0
  unfold Q_Desk_age_l2 grw
  rw [iter_eq, s0]
  split
  · rename_i g1
    simp only [Option.bind_some, after_inl]
    rw [iter_eq, s1]
    split
    · rename_i g2
      simp only [Option.bind_some, after_inl]
      rw [iter_eq, s2, if_neg (grw1_two g1 g2)]; rfl
    · rename_i g2
      rw [grw1_off g2]; rfl
  · rename_i g1
    rw [grw1_off g1, grw1_off g1, e0]; rfl
theorem age_eq {p : Post} {L : List Note} {t0 t : Int} (hp : PostR p) (hb : ∀ n ∈ L, NoteB n ∧ (1 ≤ n.State ∧ n.State ≤ 7) ∧ n.Tries ≤ p.Tries) (hl : L.length ≤ 1000000) : Q_Desk_age ⟨p, L, t0⟩ t = Q_Desk_forget ⟨p, L.map (grw p t), t0⟩ := by
  have key : ∀ (m : Nat) (i : Nat), i + m = L.length → Q_Desk_age_l1 ⟨p, L, t0⟩ t ((L.take i).map (grw p t) ++ L.drop i) (i : Int) = Q_Desk_forget ⟨p, L.map (grw p t), t0⟩ := by
    intro m
    induction m with
    | zero =>
      intro i hi
      unfold Q_Desk_age_l1
      rw [iter_eq, Q_Desk_age_b1, if_neg (by simp only; omega), map_inr_after, List.take_of_length_le (by omega), List.drop_of_length_le (by omega), List.append_nil]
      unfold Q_Desk_age_k4
      simp only
      cases Q_Desk_forget (⟨p, L.map (grw p t), t0⟩ : Fleetref2_Desk) <;> rfl
    | succ m ih =>
      intro i hi
      have hil : i < L.length := by omega
      have hlen : ((L.take i).map (grw p t)).length = i := by simp; omega
      have hx : ((L.take i).map (grw p t) ++ L.drop i)[i]? = some L[i] := by
        rw [List.getElem?_append_right (by omega), hlen, Nat.sub_self, List.getElem?_drop]; simp [hil]
      have hm := hb L[i] (List.getElem_mem hil)
      unfold Q_Desk_age_l1 at ih ⊢
      rw [iter_eq, Q_Desk_age_b1, if_pos (by simp only; omega)]
      simp only
      rw [idx_nat hx]
      simp only [Option.bind_some]
      rw [age_l2 (d := ⟨p, L, t0⟩) hp hx hm.1 hm.2.1 hm.2.2 (by simp; omega)]
      simp only [Option.bind_some, after_inl]
      have e : ((L.take i).map (grw p t) ++ L.drop i).set i (grw p t L[i]) = (L.take (i + 1)).map (grw p t) ++ L.drop (i + 1) := by
        have ht : (L.map (grw p t)).take (i + 1) = (L.map (grw p t)).take i ++ [grw p t L[i]] := by rw [List.take_add_one]; simp [hil]
        rw [List.set_append_right _ _ (by omega), hlen, Nat.sub_self, List.drop_eq_getElem_cons hil, List.set_cons_zero, List.map_take, List.map_take, ht]
        simp
      rw [e]
      have := ih (i + 1) (by omega)
      rw [show ((i + 1 : Nat) : Int) = (i : Int) + 1 by omega] at this
      exact this
  have := key L.length 0 (by omega)
  simpa [Q_Desk_age] using this
end Go.Beacon
