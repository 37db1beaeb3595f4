/- The law NotesMerge as a plain statement, second part: the two merges and the drawn notes. No program in sight. -/
import Derived.Test.YtfplpihogacmaaaDoorNotPntm
set_option linter.unusedVariables false
set_option linter.unusedSimpArgs false
namespace Go.Beacon
open Go Go.Eng

theorem nconcat_eq (a b c : List Note) (ha : (a.length : Int) ≤ 5000) (hb : (b.length : Int) ≤ 5000) (hc : (c.length : Int) ≤ 5000) : slices_Concat_Note_Note [a, b, c] = some (a ++ b ++ c) := by
  have i0 : idx [a, b, c] 0 = some a := rfl
  have i1 : idx [a, b, c] 1 = some b := rfl
  have i2 : idx [a, b, c] 2 = some c := rfl
  have u0 : w64 (0 + 1) = 1 := by decide
  have u1 : w64 (1 + 1) = 2 := by decide
  have u2 : w64 (2 + 1) = 3 := by decide
  have grow : ∀ {n : Int}, 0 ≤ n → n ≤ 100000 → slices_Grow_Note_Note_n0x n = some [] := by
    intro n h0 h1
    unfold slices_Grow_Note_Note_n0x slices_Grow_Note_Note_n0x_j1
    rw [show w64 (0 - 0) = 0 by decide, show n - 0 = n by omega, w64_in (by omega) (by omega), if_neg (by omega)]
    by_cases h : 0 < n
    · rw [if_pos h, slc_in (by omega) (by omega) (by simp)]
      unfold mkS
      rw [if_pos (by omega)]
      simp only [Option.bind_some]
      rw [slc_in (by omega) (by omega) (by omega)]
      simp
    · rw [if_neg h]
  unfold slices_Concat_Note_Note slices_Concat_Note_Note_l1
  rw [iter_eq, slices_Concat_Note_Note_b1, if_pos (by simp), i0]
  simp only [Option.bind_some]
  rw [show (0 : Int) + (a.length : Int) = a.length by omega, w64_in (by omega) (by omega), if_neg (by omega), u0]
  simp only [Option.bind_some, after_inl]
  rw [iter_eq, slices_Concat_Note_Note_b1, if_pos (by simp), i1]
  simp only [Option.bind_some]
  rw [w64_in (by omega) (by omega), if_neg (by omega), u1]
  simp only [Option.bind_some, after_inl]
  rw [iter_eq, slices_Concat_Note_Note_b1, if_pos (by simp), i2]
  simp only [Option.bind_some]
  rw [w64_in (by omega) (by omega), if_neg (by omega), u2]
  simp only [Option.bind_some, after_inl]
  rw [iter_eq, slices_Concat_Note_Note_b1, if_neg (by simp), map_inr_after]
  unfold slices_Concat_Note_Note_k1
  simp only
  rw [grow (by omega) (by omega)]
  simp only [Option.bind_some]
  unfold slices_Concat_Note_Note_l2
  rw [iter_eq, slices_Concat_Note_Note_b2, if_pos (by simp), i0]
  simp only [Option.bind_some]
  rw [app_le (by simp; omega), u0]
  simp only [Option.bind_some, after_inl, List.nil_append]
  rw [iter_eq, slices_Concat_Note_Note_b2, if_pos (by simp), i1]
  simp only [Option.bind_some]
  rw [app_le (by omega), u1]
  simp only [Option.bind_some, after_inl]
  rw [iter_eq, slices_Concat_Note_Note_b2, if_pos (by simp), i2]
  simp only [Option.bind_some]
  rw [app_le (by simp; omega), u2]
  simp only [Option.bind_some, after_inl]
  rw [iter_eq, slices_Concat_Note_Note_b2, if_neg (by simp), map_inr_after]

def mout (o : List Note) : Option (List Note) → List Note × Int
  | none => ([], 13)
  | some r => (o ++ r, 0)
theorem tail1 {α : Type} (x : α) (a : List α) : slc (x :: a) (1 : Int) (((x :: a).length : Nat) : Int) = some a := by
  rw [slc_in (by omega) (by simp; omega) (by omega)]
  simp
theorem mout_cons (o : List Note) (x : Note) (m : Option (List Note)) : mout (o ++ [x]) m = mout o (m.map (x :: ·)) := by
  cases m <;> simp [mout]
theorem merge_loop : ∀ (n : Nat) (a b o : List Note), a.length + b.length < n → o.length + a.length + b.length ≤ 1500 → command_Merge_l1 a b o = some (mout o (mrgN n a b))
  | 0, a, b, o, h, _ => by omega
  | n + 1, [], b, o, h, hl => by
    simp only [List.length_nil] at h hl
    unfold command_Merge_l1
    rw [iter_eq, command_Merge_b1, command_Merge_j1, if_neg (by simp), map_inr_after]
    unfold command_Merge_k5
    simp only
    rw [nconcat_eq _ _ _ (by omega) (by simp) (by omega)]
    simp only [Option.bind_some]
    rw [if_neg (by simp; omega)]
    simp [mrgN, mout]
  | n + 1, x :: a, [], o, h, hl => by
    simp only [List.length_nil] at h hl
    unfold command_Merge_l1
    rw [iter_eq, command_Merge_b1, command_Merge_j1, if_neg (by simp), map_inr_after]
    unfold command_Merge_k5
    simp only
    rw [nconcat_eq _ _ _ (by omega) (by omega) (by simp)]
    simp only [Option.bind_some]
    rw [if_neg (by rw [List.append_nil, List.length_append]; omega)]
    simp [mrgN, mout]
  | n + 1, x :: a, y :: b, o, h, hl => by
    simp only [List.length_cons] at h hl
    have x0 : idx (x :: a) 0 = some x := rfl
    have y0 : idx (y :: b) 0 = some y := rfl
    have r1 := merge_loop n a (y :: b) (o ++ [x]) (by simp; omega) (by simp; omega)
    have r2 := merge_loop n (x :: a) b (o ++ [y]) (by simp; omega) (by simp; omega)
    have r3 := fun z => merge_loop n a b (o ++ [z]) (by omega) (by simp; omega)
    unfold command_Merge_l1 at r1 r2 r3 ⊢
    rw [iter_eq, command_Merge_b1, command_Merge_j1, if_pos (by simp)]
    simp only [x0, y0, Option.bind_some, mrgN]
    show Option.bind (if Lib.compareBytes (nid x) (nid y) < 0 then _ else _) _ = _
    by_cases c1 : Lib.compareBytes (nid x) (nid y) < 0
    · rw [if_pos c1, if_pos c1, app_le (by simp; omega)]
      simp only [Option.bind_some, tail1]
      unfold command_Merge_j2
      simp only [Option.bind_some, after_inl]
      rw [r1, mout_cons]
    · rw [if_neg c1, if_neg c1]
      show Option.bind (if 0 < Lib.compareBytes (nid x) (nid y) then _ else _) _ = _
      by_cases c2 : 0 < Lib.compareBytes (nid x) (nid y)
      · rw [if_pos c2, if_pos c2, app_le (by simp; omega)]
        simp only [Option.bind_some, tail1]
        unfold command_Merge_j3 command_Merge_j2
        simp only [Option.bind_some, after_inl]
        rw [r2, mout_cons]
      · rw [if_neg c2, if_neg c2]
        by_cases c3 : x.Letter ≠ y.Letter
        · rw [if_pos c3, if_pos c3, map_inr_after]; rfl
        · rw [if_neg c3, if_neg c3, further_eq]
          simp only [Option.bind_some]
          have fin : ∀ z : Note, command_Merge_j4 (x :: a) (y :: b) o z.Letter.Id z.Letter.Slot z.Letter.Body z.Letter.Prio z.Letter.At z.Letter.Until z.State z.Tries z.Since = some (.inl (a, b, o ++ [z])) := by
            intro z
            unfold command_Merge_j4
            rw [app_le (by simp; omega)]
            simp only [Option.bind_some, tail1]
            rfl
          by_cases c4 : 0 < furF y x
          · rw [if_pos c4, fin, Option.bind_some, after_inl, r3, show pickN x y = y by unfold pickN; rw [if_pos c4], mout_cons]
          · rw [if_neg c4, fin, Option.bind_some, after_inl, r3, show pickN x y = x by unfold pickN; rw [if_neg c4], mout_cons]

/-! the reference's merge -/
def putN : List Note → Note → List Note
  | [], v => [v]
  | x :: r, v => if nid x = nid v then pickN x v :: r else x :: putN r v
theorem put_ids : ∀ (l : List Note) (v z : Note), z ∈ putN l v → nid z = nid v ∨ ∃ m ∈ l, nid m = nid z
  | [], v, z, h => by simp [putN] at h; subst h; exact .inl rfl
  | x :: r, v, z, h => by
    simp only [putN] at h
    split at h
    · rename_i hx
      rcases List.mem_cons.1 h with rfl | h
      · rw [pick_id hx]; exact .inl hx
      · exact .inr ⟨z, by simp [h], rfl⟩
    · rcases List.mem_cons.1 h with rfl | h
      · exact .inr ⟨z, by simp, rfl⟩
      · rcases put_ids r v z h with e | ⟨m, hm, e⟩
        · exact .inl e
        · exact .inr ⟨m, by simp [hm], e⟩
def DId (l : List Note) : Prop := l.Pairwise (fun a b => nid a ≠ nid b)
theorem put_dist : ∀ {l : List Note} {v : Note}, DId l → DId (putN l v)
  | [], v, _ => by simp [putN, DId]
  | x :: r, v, h => by
    have h' := List.pairwise_cons.1 h
    simp only [putN]
    split
    · rename_i hx
      exact List.pairwise_cons.2 ⟨fun z hz => by rw [pick_id hx]; exact h'.1 z hz, h'.2⟩
    · rename_i hx
      refine List.pairwise_cons.2 ⟨fun z hz => ?_, put_dist h'.2⟩
      rcases put_ids r v z hz with e | ⟨m, hm, e⟩
      · rw [e]; exact hx
      · rw [← e]; exact h'.1 m hm
theorem put_get (k : Str) : ∀ {l : List Note} {v : Note}, DId l → gt nid (putN l v) k = if nid v = k then combN (gt nid l k) (some v) else gt nid l k
  | [], v, _ => by
    simp only [putN]
    rw [gt_cons, gt_nil]; rfl
  | x :: r, v, h => by
    have h' := List.pairwise_cons.1 h
    simp only [putN]
    by_cases hx : nid x = nid v
    · rw [if_pos hx, gt_cons, gt_cons, pick_id hx]
      by_cases hk : nid x = k
      · rw [if_pos hk, if_pos hk, if_pos (hx ▸ hk)]; rfl
      · rw [if_neg hk, if_neg hk, if_neg (hx ▸ hk)]
    · rw [if_neg hx, gt_cons, gt_cons, put_get k h'.2]
      by_cases hk : nid x = k
      · rw [if_pos hk, if_pos hk, if_neg (fun e => hx (hk.trans e.symm))]
      · rw [if_neg hk, if_neg hk]
theorem put_len : ∀ (l : List Note) (v : Note), (putN l v).length ≤ l.length + 1
  | [], v => by simp [putN]
  | x :: r, v => by
    simp only [putN]
    split
    · simp
    · have := put_len r v; simp; omega
theorem pick_R {x y : Note} (hx : NotR x) (hy : NotR y) : NotR (pickN x y) := by
  unfold pickN; split
  · exact hy
  · exact hx
theorem put_R : ∀ {l : List Note} {v : Note}, (∀ x ∈ l, NotR x) → NotR v → ∀ x ∈ putN l v, NotR x
  | [], v, _, hv, x, hx => by simp [putN] at hx; subst hx; exact hv
  | y :: r, v, h, hv, x, hx => by
    simp only [putN] at hx
    split at hx
    · rcases List.mem_cons.1 hx with rfl | hx
      · exact pick_R (h y (by simp)) hv
      · exact h x (by simp [hx])
    · rcases List.mem_cons.1 hx with rfl | hx
      · exact h x (by simp)
      · exact put_R (fun z hz => h z (by simp [hz])) hv x hx
theorem put_new : ∀ {l : List Note} {v : Note}, (∀ x ∈ l, nid x ≠ nid v) → putN l v = l ++ [v]
  | [], v, _ => rfl
  | x :: r, v, h => by
    simp only [putN]
    rw [if_neg (h x (by simp)), put_new (fun z hz => h z (by simp [hz]))]; rfl
theorem put_at : ∀ {l : List Note} {v y : Note} {i : Nat}, (∀ x ∈ l.take i, nid x ≠ nid v) → l[i]? = some y → nid y = nid v → putN l v = l.set i (pickN y v) ∧ gt nid l (nid v) = some y
  | [], v, y, i, _, h, _ => by simp at h
  | x :: r, v, y, 0, h1, h2, h3 => by
    simp at h2; subst h2
    simp only [putN]
    rw [if_pos h3, gt_cons, if_pos h3]; exact ⟨rfl, rfl⟩
  | x :: r, v, y, i + 1, h1, h2, h3 => by
    have hx : nid x ≠ nid v := h1 x (by simp)
    obtain ⟨e1, e2⟩ := put_at (l := r) (v := v) (y := y) (i := i) (fun z hz => h1 z (by simp [hz])) (by simpa using h2) h3
    simp only [putN]
    rw [if_neg hx, e1, gt_cons, if_neg hx]; exact ⟨rfl, e2⟩
/-- One after the other. -/
def foldN : List Note → List Note → Option (List Note)
  | o, [] => some o
  | o, v :: r => match gt nid o (nid v) with
    | some y => if y.Letter ≠ v.Letter then none else foldN (putN o v) r
    | none => foldN (putN o v) r
theorem fold_spec : ∀ (b o : List Note), DId o → SId nid b → (∃ r, foldN o b = some r ∧ ¬ Conf o b ∧ DId r ∧ r.length ≤ o.length + b.length ∧ ∀ k, gt nid r k = combN (gt nid o k) (gt nid b k)) ∨ (foldN o b = none ∧ Conf o b)
  | [], o, ho, hb => by
    left
    refine ⟨o, rfl, ?_, ho, by simp, fun k => ?_⟩
    · rintro ⟨k, x, y, _, h1, _⟩; cases h1
    · rw [gt_nil]; unfold combN; cases gt nid o k <;> rfl
  | v :: b, o, ho, hb => by
    have hb' := List.pairwise_cons.1 hb
    have hbv : gt nid b (nid v) = none := (gt_none nid).2 fun z hz he => by have := hb'.1 z hz; rw [he, cmpB_self] at this; omega
    have hcf : Conf (putN o v) b → Conf o (v :: b) := by
      rintro ⟨k, x, y, g1, g2, g3⟩
      have hk : nid v ≠ k := fun e => by subst e; rw [hbv] at g2; cases g2
      rw [put_get k ho, if_neg hk] at g1
      exact ⟨k, x, y, g1, by rw [gt_cons, if_neg hk]; exact g2, g3⟩
    have hfc : Conf o (v :: b) → (∀ y, gt nid o (nid v) = some y → y.Letter = v.Letter) → Conf (putN o v) b := by
      rintro ⟨k, x, y, g1, g2, g3⟩ hn
      rw [gt_cons] at g2
      by_cases hk : nid v = k
      · rw [if_pos hk] at g2
        obtain rfl := Option.some.inj g2
        subst hk
        exact absurd (hn x g1) g3
      · rw [if_neg hk] at g2
        exact ⟨k, x, y, by rw [put_get k ho, if_neg hk]; exact g1, g2, g3⟩
    have step : (∀ y, gt nid o (nid v) = some y → y.Letter = v.Letter) → (∃ r, foldN (putN o v) b = some r ∧ ¬ Conf o (v :: b) ∧ DId r ∧ r.length ≤ o.length + (v :: b).length ∧ ∀ k, gt nid r k = combN (gt nid o k) (gt nid (v :: b) k)) ∨ (foldN (putN o v) b = none ∧ Conf o (v :: b)) := by
      intro hn
      rcases fold_spec b (putN o v) (put_dist ho) hb'.2 with ⟨r, h1, h2, h3, h4, h5⟩ | ⟨h1, h2⟩
      · left
        refine ⟨r, h1, fun hc => h2 (hfc hc hn), h3, by have := put_len o v; simp; omega, fun k => ?_⟩
        rw [h5, put_get k ho, gt_cons]
        by_cases hk : nid v = k
        · rw [if_pos hk, if_pos hk, ← hk, hbv]
          cases gt nid o (nid v) <;> rfl
        · rw [if_neg hk, if_neg hk]
      · exact .inr ⟨h1, hcf h2⟩
    simp only [foldN]
    cases hg : gt nid o (nid v) with
    | none => exact step (fun y hy => by rw [hg] at hy; cases hy)
    | some y =>
      simp only
      by_cases c : y.Letter ≠ v.Letter
      · rw [if_pos c]
        exact .inr ⟨rfl, nid v, y, v, hg, by rw [gt_cons, if_pos rfl], c⟩
      · rw [if_neg c]
        exact step (fun y' hy' => by rw [hg] at hy'; obtain rfl := Option.some.inj hy'; exact Classical.not_not.1 c)
noncomputable def ordN (m : Option (List Note)) : Option (List Note × Int) := match m with
  | none => some ([], 13)
  | some o => Q_NotesOf_k3 o
theorem of_loop (b : List Note) (hb : ∀ x ∈ b, NotR x) (hl : b.length ≤ 1500) : ∀ (n : Nat) (o : List Note) (i : Int), 0 ≤ i → i + n = b.length → (∀ x ∈ o, NotR x) → o.length + n ≤ 5000 → Q_NotesOf_l1 b o i = ordN (foldN o (b.drop i.toNat)) := by
  intro n
  induction n with
  | zero =>
    intro o i h0 hi ho hn
    unfold Q_NotesOf_l1
    rw [iter_eq, Q_NotesOf_b1, if_neg (by simp only; omega), map_inr_after, List.drop_of_length_le (by omega)]
    rfl
  | succ n ih =>
    intro o i h0 hi ho hn
    obtain ⟨v, hv, hvm, hd⟩ := idx_lt b (i := i) h0 (by omega)
    have hvR := hb v hvm
    have hI : slices_IndexFunc_Note_Note o (fun y0 => some (Q_NotesOf_1x y0 v)) = some (findI (fun y0 => Q_NotesOf_1x y0 v) o 0) := gIndexFunc_eq o _ _ (fun x _ => rfl) (by omega)
    have ih' := ih (putN o v) (i + 1) (by omega) (by omega) (put_R ho hvR) (by have := put_len o v; omega)
    have hw : w64 (i + 1) = i + 1 := w64_in (by omega) (by omega)
    unfold Q_NotesOf_l1 at ih' ⊢
    rw [iter_eq, Q_NotesOf_b1, if_pos (by simp only; omega)]
    simp only [hv, Option.bind_some, hI, hd, foldN]
    have hpe : ∀ x : Note, Q_NotesOf_1x x v = decide (nid x = nid v) := fun x => rfl
    rcases findI_first (fun y0 => Q_NotesOf_1x y0 v) o 0 (by omega) with ⟨h1, h2⟩ | ⟨h1, h2, h3, y, h4, h5⟩
    · have hnew : ∀ x ∈ o, nid x ≠ nid v := fun x hx => by have := h2 x hx; rw [hpe] at this; simpa using this
      rw [h1, if_pos (by omega), app_le (by simp; omega), (gt_none nid).2 hnew]
      simp only [Option.bind_some]
      unfold Q_NotesOf_j1
      rw [Option.bind_some, after_inl, hw, ← ih', put_new hnew]
    · rw [show findI (fun y0 => Q_NotesOf_1x y0 v) o 0 - 0 = findI (fun y0 => Q_NotesOf_1x y0 v) o 0 by omega] at h3 h4
      generalize hj : findI (fun y0 => Q_NotesOf_1x y0 v) o 0 = j at h1 h2 h3 h4 ⊢
      have hyid : nid y = nid v := by rw [hpe] at h5; simpa using h5
      obtain ⟨e1, e2⟩ := put_at (i := j.toNat) (fun x hx => by have := h3 x hx; rw [hpe] at this; simpa using this) h4 hyid
      have hlt : j.toNat < o.length := by omega
      have hiy : idx o j = some y := by
        rw [get_idx h1 hlt]
        rw [List.getElem?_eq_getElem hlt] at h4; exact h4
      have hyR := ho y (idx_mem hiy)
      rw [if_neg (by omega), e2]
      simp only [hiy, Option.bind_some]
      by_cases c : y.Letter ≠ v.Letter
      · rw [if_pos c, if_pos c, map_inr_after]; rfl
      · rw [if_neg c, if_neg c, gone_eq hvR]
        simp only [Option.bind_some, gone_eq hyR, compare4, cmpI_negs]
        have hfe : orL [cmpI (rnk v.State) (rnk y.State), cmpI v.Tries y.Tries, cmpI y.Since v.Since, cmpI y.State v.State] = furF v y := rfl
        rw [hfe]
        have hset : ∀ z, pickN y v = z → Q_NotesOf_j2 i (o.set j.toNat z) = some (.inl (putN o v, i + 1)) := by
          intro z hz; subst hz
          unfold Q_NotesOf_j2 Q_NotesOf_j1
          rw [hw, e1]
        by_cases c4 : 0 < furF v y
        · rw [if_pos c4, hset v (by unfold pickN; rw [if_pos c4]), Option.bind_some, after_inl, ih']
        · rw [if_neg c4]
          have : o.set j.toNat y = o := by
            apply List.ext_getElem? ; intro k
            by_cases hk : j.toNat = k
            · subst hk; rw [List.getElem?_set_self hlt, h4]
            · rw [List.getElem?_set_ne hk]
          have h6 := hset y (by unfold pickN; rw [if_neg c4])
          rw [this] at h6
          rw [h6, Option.bind_some, after_inl, ih']
theorem ids_3 : Cmp3 (fun a b : Note => Lib.compareBytes (nid a) (nid b)) := cmpB_3.on nid
theorem k3_eq (o : List Note) (hd : DId o) (hl : o.length ≤ 1500) : ∃ Z, Q_NotesOf_k3 o = some (Z, 0) ∧ SId nid Z ∧ Z.length = o.length ∧ ∀ k, gt nid Z k = gt nid o k := by
  obtain ⟨Z, h1, h2, h3⟩ := sortO_eq (fun y0 y1 => some (Q_NotesOf_2x y0 y1)) (fun a b : Note => Lib.compareBytes (nid a) (nid b)) o (by omega) (fun a _ b _ => rfl) (ids_3.ord o)
  have hdZ : DId Z := (h2.symm).pairwise hd (fun {a b} h => Ne.symm h)
  refine ⟨Z, ?_, ?_, h2.length_eq, fun k => gt_perm nid h2 hdZ k⟩
  · unfold Q_NotesOf_k3
    have h1' : slices_SortFunc_Note_Note o (fun y0 y1 => some (Q_NotesOf_2x y0 y1)) = some Z := h1
    rw [len_ok (Z := Z) h1' h2.length_eq]
    simp only [Option.bind_some]
    rw [if_neg (by have := h2.length_eq; omega)]
  · have hb : Z.Pairwise (fun a b => ¬ Lib.compareBytes (nid b) (nid a) < 0 ∧ nid a ≠ nid b) := List.Pairwise.and h3 hdZ
    refine List.Pairwise.imp (fun {a b} h => ?_) hb
    have n1 := cmpB_3.neg (nid a) (nid b)
    have : Lib.compareBytes (nid a) (nid b) ≠ 0 := fun e => h.2 (cmpB_zero e)
    omega
theorem nclone_eq (a : List Note) (h : a.length ≤ 100000) : slices_Clone_Note_Note a = some a := by
  unfold slices_Clone_Note_Note
  rw [app_le (by simp; omega)]; rfl
theorem errs2 (x y : Int) : L_errs [x, y] = some (orL [x, y]) := gOr_eq _ (by simp)
theorem merges_eq (a b : List Note) (hl : a.length + b.length ≤ 1500) : ∃ t : List Note × Int, command_Merge a b = some t ∧ t.1.length ≤ 100000 ∧ (if orL [chkN a, chkN b] = 0 then Q_NotesOf a b = some t else t = ([], orL [chkN a, chkN b])) := by
  unfold command_Merge
  rw [CheckNotes_eq, CheckNotes_eq]
  simp only [Option.bind_some]
  rw [First_eq _ (by simp)]
  simp only [Option.bind_some]
  by_cases h0 : orL [chkN a, chkN b] = 0
  · rw [if_neg (by simpa using h0)]
    obtain ⟨ca, cb⟩ := orL2_zero h0
    obtain ⟨a1, a2, a3⟩ := chkN_R ca
    obtain ⟨b1, b2, b3⟩ := chkN_R cb
    have ha : SId nid a := a2
    have hb : SId nid b := b2
    rw [merge_loop (a.length + b.length + 1) a b [] (by omega) (by simpa using hl)]
    refine ⟨_, rfl, ?_⟩
    rw [if_pos h0]
    unfold Q_NotesOf
    rw [nclone_eq a (by omega)]
    simp only [Option.bind_some]
    rw [of_loop b b1 b3 b.length a 0 (by omega) (by omega) a1 (by omega)]
    simp only [Int.toNat_zero, List.drop_zero]
    rcases mrg_spec (a.length + b.length + 1) a b (by omega) ha hb with ⟨r, h1, h2, h3, h4⟩ | ⟨h1, h2⟩
    · rcases fold_spec b a (SId.ne nid ha) hb with ⟨q, g1, g2, g3, g4, g5⟩ | ⟨g1, g2⟩
      · obtain ⟨Z, z1, z2, z4, z3⟩ := k3_eq q g3 (by omega)
        have e : r = Z := gt_ext nid h3 z2 (fun k => by rw [h4, z3, g5])
        rw [h1, g1]
        simp only [ordN, mout, List.nil_append]
        rw [z1, e]
        exact ⟨by show Z.length ≤ 100000; omega, rfl⟩
      · exact absurd g2 h2
    · rcases fold_spec b a (SId.ne nid ha) hb with ⟨q, g1, g2, _⟩ | ⟨g1, g2⟩
      · exact absurd h2 g2
      · rw [h1, g1]; simp [ordN, mout]
  · rw [if_pos h0]
    exact ⟨_, rfl, by simp, by rw [if_neg h0]⟩

/-! the drawn notes -/
theorem Notes_loop : ∀ (m : Nat) (l : List Int) (n : Int) (xs : List Note) (i k : Int), i + m = 4 → 0 ≤ i → SOk ⟨l, n⟩ (k + 15 * m) → 0 ≤ k → (xs.length : Int) ≤ i → Gen (Stream_Notes_l1 l n xs i) k (fun xs => xs.length ≤ 4) := by
  intro m
  induction m with
  | zero =>
    intro l n xs i k hi h0 hs hk hl
    unfold Stream_Notes_l1
    rw [iter_eq, Stream_Notes_b1, if_neg (by simp; omega), map_inr_after]
    exact Gen.ret (show xs.length ≤ 4 by omega) (hs.less (by omega))
  | succ m ih =>
    intro l n xs i k hi h0 hs hk hl
    have w1 : w64 (i + 1) = i + 1 := by rw [w64_in] <;> omega
    obtain ⟨v, hv, hvm, _⟩ := idx_lt [([108, 97] : Str), ([108, 98] : Str), ([108, 99] : Str), ([108, 100] : Str)] (i := i) h0 (by simp; omega)
    unfold Stream_Notes_l1 at ih ⊢
    rw [iter_eq, Stream_Notes_b1, if_pos (by simp; omega)]
    simp only [hv, Option.bind_some]
    obtain ⟨c, s1, e1, p1, q1⟩ := Flip_ok (s := ⟨l, n⟩) (n := 3) (k := k + 15 * m + 14) (hs.less (by omega)) (by omega) (by omega) (by omega)
    simp only [e1, Option.bind_some]
    have end_ : ∀ (l' : List Int) (n' : Int) (ys : List Note), (ys.length : Int) ≤ i + 1 → SOk ⟨l', n'⟩ (k + 15 * m) → Gen ((Stream_Notes_j1 i l' n' ys).bind (after (iter fun x : (List Int) × Int × (List Note) × Int => Stream_Notes_b1 x.1 x.2.1 x.2.2.1 x.2.2.2))) k (fun xs => xs.length ≤ 4) := by
      intro l' n' ys hy hs'
      unfold Stream_Notes_j1
      simp only [Option.bind_some, after_inl, w1]
      exact ih l' n' ys (i + 1) k (by omega) (by omega) hs' hk hy
    have end2 : ∀ (a b : Str × Stm) (d : Int × Stm) (l' : List Int) (n' : Int) (q : Str) (x y z : Int), SOk ⟨l', n'⟩ (k + 15 * m) → Gen ((Stream_Notes_j2 xs i a b d l' n' q x y z).bind (after (iter fun x : (List Int) × Int × (List Note) × Int => Stream_Notes_b1 x.1 x.2.1 x.2.2.1 x.2.2.2))) k (fun xs => xs.length ≤ 4) := by
      intro a b d l' n' q x y z hs'
      unfold Stream_Notes_j2
      rw [app_le (by simp; omega)]
      simp only [Option.bind_some]
      exact end_ l' n' _ (by simp; omega) hs'
    by_cases hc : c = true
    · rw [if_pos hc]
      exact end_ _ _ _ (by omega) (q1.less (by omega))
    · rw [if_neg hc]
      obtain ⟨a, s2, e2, p2, q2⟩ := Some_ok (s := s1) (l := [([] : Str), ([115, 97] : Str)]) (k := k + 15 * m + 13) (q1.less (by omega)) (by simp) (by simp) (by omega)
      simp only [e2, Option.bind_some]
      obtain ⟨b, s3, e3, p3, q3⟩ := Some_ok (s := s2) (l := [([100, 111] : Str), ([100, 111] : Str), ([120, 32, 34, 121, 34] : Str)]) (k := k + 15 * m + 12) (q2.less (by omega)) (by simp) (by simp) (by omega)
      simp only [e3, Option.bind_some]
      obtain ⟨d, s4, e4, p4, q4⟩ := Pick_ok (s := s3) (l := [(0 : Int), (0 : Int), (0 : Int), (5 : Int)]) (k := k + 15 * m + 11) (q3.less (by omega)) (by simp) (by simp) (by omega)
      simp only [e4, Option.bind_some]
      obtain ⟨t, s5, e5, p5, q5⟩ := Range_ok (s := s4) (a := 1) (b := 7) (k := k + 15 * m + 10) (q4.less (by omega)) (by omega) (by omega) (by omega) (by omega)
      simp only [e5, Option.bind_some]
      obtain ⟨y, s6, e6, p6, q6⟩ := Pick_ok (s := s5) (l := [(0 : Int), (1 : Int), (1 : Int), (2 : Int)]) (k := k + 15 * m + 9) (q5.less (by omega)) (by simp) (by simp) (by omega)
      simp only [e6, Option.bind_some]
      obtain ⟨z, s7, e7, p7, q7⟩ := Pick_ok (s := s6) (l := [(0 : Int), (5 : Int), (5 : Int), (9 : Int)]) (k := k + 15 * m + 8) (q6.less (by omega)) (by simp) (by simp) (by omega)
      simp only [e7, Option.bind_some]
      obtain ⟨g, s8, e8, p8, q8⟩ := Flip_ok (s := s7) (n := 40) (k := k + 15 * m + 7) (q7.less (by omega)) (by omega) (by omega) (by omega)
      simp only [e8, Option.bind_some]
      by_cases hg : g = true
      · rw [if_pos hg]
        obtain ⟨f, s9, e9, p9, q9⟩ := Some_ok (s := s8) (l := [v, ([] : Str), ([108, 97] : Str)]) (k := k + 15 * m + 6) (q8.less (by omega)) (by simp) (by simp) (by omega)
        simp only [e9, Option.bind_some]
        obtain ⟨o1, t1, f1, r1, h1⟩ := Odd_ok (s := s9) (a := 1) (b := 7) (k := k + 15 * m + 4) (q9.less (by omega)) (by omega) (by omega) (by omega) (by omega)
        simp only [f1, Option.bind_some]
        obtain ⟨o2, t2, f2, r2, h2⟩ := Odd_ok (s := t1) (a := 0) (b := 20) (k := k + 15 * m + 2) (h1.less (by omega)) (by omega) (by omega) (by omega) (by omega)
        simp only [f2, Option.bind_some]
        obtain ⟨o3, t3, f3, r3, h3⟩ := Odd_ok (s := t2) (a := 0) (b := 50) (k := k + 15 * m) (h2.less (by omega)) (by omega) (by omega) (by omega) (by omega)
        simp only [f3, Option.bind_some]
        exact end2 _ _ _ _ _ _ _ _ _ h3
      · rw [if_neg hg]
        exact end2 _ _ _ _ _ _ _ _ _ (q8.less (by omega))
theorem Notes_ok {s : Stm} {k : Int} (hs : SOk s (k + 60)) (hk : 0 ≤ k) : Gen (Stream_Notes s) k (fun xs => xs.length ≤ 4) := by
  unfold Stream_Notes
  exact Notes_loop 4 s.L s.at_ [] 0 k (by omega) (by omega) (hs.less (by omega)) hk (by simp)
theorem notes_j1 (v2 : List Note × Stm) (b : List Note) (ha : v2.1.length ≤ 4) (hb : b.length ≤ 4) : L_NotesMerge_j1 v2 b = some true := by
  obtain ⟨t, h1, h2, h3⟩ := merges_eq v2.1 b (by omega)
  have fin : ∀ u : List Note × Int, u = t → L_NotesMerge_j2 t u.2 u.1 = some true := by
    rintro u rfl
    unfold L_NotesMerge_j2
    rw [if_pos rfl, show slices_Equal_Note_Note u.1 u.1 = some (decide (u.1 = u.1)) from gEqual_eq u.1 u.1 (by omega)]
    simp only [Option.bind_some, decide_true, if_true, posted_eq]
    rfl
  unfold L_NotesMerge_j1
  rw [h1, NotesFault_eq, CheckNotes_eq]
  simp only [Option.bind_some]
  rw [if_neg (by simp), NotesFault_eq]
  simp only [Option.bind_some]
  rw [errs2]
  simp only [Option.bind_some]
  by_cases h0 : orL [chkN v2.1, chkN b] = 0
  · rw [if_pos h0] at h3 ⊢
    rw [h3]
    simp only [Option.bind_some]
    exact fin t rfl
  · rw [if_neg h0] at h3 ⊢
    exact fin ([], _) h3.symm
theorem notes_l1 (v2 : List Note × Stm) (v9 : List Note) (ha : v2.1.length ≤ 4) (hv : v9.length ≤ 4) : ∀ (m : Nat) (l : List Int) (n : Int) (xs : List Note) (i : Int), i + m = v9.length → 0 ≤ i → SOk ⟨l, n⟩ (3 * m) → xs.length = v9.length → L_NotesMerge_l1 v2 v9 l n xs i = some true := by
  intro m
  induction m with
  | zero =>
    intro l n xs i hi h0 hs hx
    unfold L_NotesMerge_l1
    rw [iter_eq, L_NotesMerge_b1, if_neg (by simp only; omega), map_inr_after]
    exact notes_j1 v2 xs ha (by omega)
  | succ m ih =>
    intro l n xs i hi h0 hs hx
    have w1 : w64 (i + 1) = i + 1 := by rw [w64_in] <;> omega
    unfold L_NotesMerge_l1 at ih ⊢
    rw [iter_eq, L_NotesMerge_b1, if_pos (by simp only; omega)]
    obtain ⟨t, s5, e5, p5, q5⟩ := Range_ok (s := ⟨l, n⟩) (a := 1) (b := 7) (k := 3 * m + 2) (hs.less (by omega)) (by omega) (by omega) (by omega) (by omega)
    simp only [e5, Option.bind_some]
    obtain ⟨y, s6, e6, p6, q6⟩ := Pick_ok (s := s5) (l := [(0 : Int), (1 : Int), (2 : Int)]) (k := 3 * m + 1) (q5.less (by omega)) (by simp) (by simp) (by omega)
    simp only [e6, Option.bind_some]
    obtain ⟨z, s7, e7, p7, q7⟩ := Pick_ok (s := s6) (l := [(0 : Int), (5 : Int), (9 : Int)]) (k := 3 * m) (q6.less (by omega)) (by simp) (by simp) (by omega)
    simp only [e7, Option.bind_some]
    obtain ⟨x1, h1, _, _⟩ := idx_lt xs (i := i) h0 (by omega)
    simp only [h1, Option.bind_some]
    obtain ⟨x2, h2, _, _⟩ := idx_lt (xs.set i.toNat (⟨x1.Letter, t, x1.Tries, x1.Since⟩ : Note)) (i := i) h0 (by simp; omega)
    simp only [h2, Option.bind_some]
    obtain ⟨x3, h3, _, _⟩ := idx_lt ((xs.set i.toNat (⟨x1.Letter, t, x1.Tries, x1.Since⟩ : Note)).set i.toNat (⟨x2.Letter, x2.State, y, x2.Since⟩ : Note)) (i := i) h0 (by simp; omega)
    simp only [h3, Option.bind_some, after_inl, w1]
    exact ih s7.L s7.at_ _ (i + 1) (by omega) (by omega) q7 (by simpa using hx)
theorem NotesMerge_plain (l : List Int) : L_NotesMerge l = some true := by
  unfold L_NotesMerge
  refine Gen.use (Notes_ok (k := 100) ⟨by simp, by simp⟩ (by omega)) (fun a s1 ha hs1 => ?_)
  refine Gen.use (Notes_ok (k := 40) (hs1.less (by omega)) (by omega)) (fun b s2 hb hs2 => ?_)
  refine Gen.use (Flip_ok (k := 30) (hs2.less (by omega)) (by omega) (by omega) (by omega)) (fun c s3 hc hs3 => ?_)
  simp only
  split
  · rw [nclone_eq a (by omega)]
    simp only [Option.bind_some]
    exact notes_l1 (a, s1) a ha ha a.length s3.L s3.at_ a 0 (by omega) (by omega) (hs3.less (by omega)) rfl
  · exact notes_j1 (a, s1) b ha hb
end Go.Beacon
