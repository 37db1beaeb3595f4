/- Merging cells: the program's way and the reference's agree. No program in sight. -/
import Derived.Test.YtmlgacejioccmaaGreatDoorCmgPcmg
set_option linter.unusedVariables false
set_option linter.unusedSimpArgs false
namespace Go.Beacon
open Go Go.Eng

theorem cgrow_eq {n : Int} (h0 : 0 ≤ n) (h1 : n ≤ 100000) : slices_Grow_Cell_Cell_n0x n = some [] := by
  unfold slices_Grow_Cell_Cell_n0x slices_Grow_Cell_Cell_n0x_j1
  rw [show w64 (0 - 0) = 0 by decide, show n - 0 = n by omega, w64_in (by omega) (by omega), if_neg (by omega)]
  by_cases h : 0 < n
  · rw [if_pos h, slc_in (by omega) (by omega) (by simp)]
    unfold mkS
    rw [if_pos (by omega)]
    simp only [Option.bind_some]
    rw [slc_in (by omega) (by omega) (by omega)]
    simp
  · rw [if_neg h]
theorem cconcat_eq (a b : List Cell) (ha : (a.length : Int) ≤ 1000) (hb : (b.length : Int) ≤ 1000) : slices_Concat_Cell_Cell [a, b] = some (a ++ b) := by
  have i0 : idx [a, b] 0 = some a := rfl
  have i1 : idx [a, b] 1 = some b := rfl
  have u0 : w64 (0 + 1) = 1 := by decide
  have u1 : w64 (1 + 1) = 2 := by decide
  unfold slices_Concat_Cell_Cell slices_Concat_Cell_Cell_l1
  rw [iter_eq, slices_Concat_Cell_Cell_b1, if_pos (by simp), i0]
  simp only [Option.bind_some]
  rw [show (0 : Int) + (a.length : Int) = a.length by omega, w64_in (by omega) (by omega), if_neg (by omega), u0]
  simp only [Option.bind_some, after_inl]
  rw [iter_eq, slices_Concat_Cell_Cell_b1, if_pos (by simp), i1]
  simp only [Option.bind_some]
  rw [w64_in (by omega) (by omega), if_neg (by omega), u1]
  simp only [Option.bind_some, after_inl]
  rw [iter_eq, slices_Concat_Cell_Cell_b1, if_neg (by simp), map_inr_after]
  unfold slices_Concat_Cell_Cell_k1
  simp only
  rw [cgrow_eq (by omega) (by omega)]
  simp only [Option.bind_some]
  unfold slices_Concat_Cell_Cell_l2
  rw [iter_eq, slices_Concat_Cell_Cell_b2, if_pos (by simp), i0]
  simp only [Option.bind_some]
  rw [app_le (by simp; omega), u0]
  simp only [Option.bind_some, after_inl]
  rw [iter_eq, slices_Concat_Cell_Cell_b2, if_pos (by simp), i1]
  simp only [Option.bind_some]
  rw [app_le (by simp; omega), u1]
  simp only [Option.bind_some, after_inl]
  rw [iter_eq, slices_Concat_Cell_Cell_b2, if_neg (by simp), map_inr_after]
  simp
theorem cconcat3_eq (a b c : List Cell) (ha : (a.length : Int) ≤ 1000) (hb : (b.length : Int) ≤ 1000) (hc : (c.length : Int) ≤ 1000) : slices_Concat_Cell_Cell [a, b, c] = some (a ++ b ++ c) := by
  have i0 : idx [a, b, c] 0 = some a := rfl
  have i1 : idx [a, b, c] 1 = some b := rfl
  have i2 : idx [a, b, c] 2 = some c := rfl
  have u0 : w64 (0 + 1) = 1 := by decide
  have u1 : w64 (1 + 1) = 2 := by decide
  have u2 : w64 (2 + 1) = 3 := by decide
  unfold slices_Concat_Cell_Cell slices_Concat_Cell_Cell_l1
  rw [iter_eq, slices_Concat_Cell_Cell_b1, if_pos (by simp), i0]
  simp only [Option.bind_some]
  rw [show (0 : Int) + (a.length : Int) = a.length by omega, w64_in (by omega) (by omega), if_neg (by omega), u0]
  simp only [Option.bind_some, after_inl]
  rw [iter_eq, slices_Concat_Cell_Cell_b1, if_pos (by simp), i1]
  simp only [Option.bind_some]
  rw [w64_in (by omega) (by omega), if_neg (by omega), u1]
  simp only [Option.bind_some, after_inl]
  rw [iter_eq, slices_Concat_Cell_Cell_b1, if_pos (by simp), i2]
  simp only [Option.bind_some]
  rw [w64_in (by omega) (by omega), if_neg (by omega), u2]
  simp only [Option.bind_some, after_inl]
  rw [iter_eq, slices_Concat_Cell_Cell_b1, if_neg (by simp), map_inr_after]
  unfold slices_Concat_Cell_Cell_k1
  simp only
  rw [cgrow_eq (by omega) (by omega)]
  simp only [Option.bind_some]
  unfold slices_Concat_Cell_Cell_l2
  rw [iter_eq, slices_Concat_Cell_Cell_b2, if_pos (by simp), i0]
  simp only [Option.bind_some]
  rw [app_le (by simp; omega), u0]
  simp only [Option.bind_some, after_inl]
  rw [iter_eq, slices_Concat_Cell_Cell_b2, if_pos (by simp), i1]
  simp only [Option.bind_some]
  rw [app_le (by simp; omega), u1]
  simp only [Option.bind_some, after_inl]
  rw [iter_eq, slices_Concat_Cell_Cell_b2, if_pos (by simp), i2]
  simp only [Option.bind_some]
  rw [app_le (by simp; omega), u2]
  simp only [Option.bind_some, after_inl]
  rw [iter_eq, slices_Concat_Cell_Cell_b2, if_neg (by simp), map_inr_after]
  simp
/-! the program's loop -/
theorem slc_tail {α : Type} (x : α) (a : List α) : slc (x :: a) 1 ((x :: a).length : Int) = some a := by
  rw [slc_in (by omega) (by simp; omega) (by omega)]
  congr 1
  rw [show (1 : Int).toNat = 1 from rfl, List.drop_succ_cons, List.drop_zero]
  exact List.take_of_length_le (by simp)
def jnR (out : List Cell) : Option (List Cell) → List Cell × Int
  | none => ([], 13)
  | some r => (out ++ r, 0)
theorem jnR_map (out : List Cell) (x : Cell) (o : Option (List Cell)) : jnR out (o.map (x :: ·)) = jnR (out ++ [x]) o := by
  cases o with
  | none => rfl
  | some r => simp [jnR]
theorem joined_eq : ∀ (n : Nat) (a b out : List Cell), a.length + b.length ≤ n → out.length + a.length + b.length ≤ 1000 → twin_joined_l1 a b out = some (jnR out (jn a b))
  | n, [], b, out, hn, hl => by
    simp only [List.length_nil] at hl
    unfold twin_joined_l1
    rw [iter_eq]
    show (twin_joined_b1 [] b out).bind _ = _
    unfold twin_joined_b1 twin_joined_j1
    rw [if_neg (by simp), map_inr_after]
    unfold twin_joined_k5
    rw [cconcat3_eq _ _ _ (by omega) (by simp) (by omega), jn]
    simp [jnR]
  | n, x :: a, [], out, hn, hl => by
    unfold twin_joined_l1
    rw [iter_eq]
    show (twin_joined_b1 (x :: a) [] out).bind _ = _
    unfold twin_joined_b1 twin_joined_j1
    rw [if_neg (by simp), map_inr_after]
    unfold twin_joined_k5
    rw [cconcat3_eq _ _ _ (by omega) (by omega) (by simp), jn]
    simp [jnR]
  | 0, x :: a, y :: b, out, hn, hl => by simp at hn
  | n + 1, x :: a, y :: b, out, hn, hl => by
    have hn' : a.length + b.length + 1 ≤ n := by simp only [List.length_cons] at hn; omega
    have hl' : out.length + a.length + b.length + 2 ≤ 1000 := by simp only [List.length_cons] at hl; omega
    have ix : idx (x :: a) 0 = some x := rfl
    have iy : idx (y :: b) 0 = some y := rfl
    have hax : app out [x] = some (out ++ [x]) := app_le (by simp; omega)
    have hay : app out [y] = some (out ++ [y]) := app_le (by simp; omega)
    have goX : iter (fun z : List Cell × List Cell × List Cell => twin_joined_b1 z.1 z.2.1 z.2.2) (a, y :: b, out ++ [x]) = some (jnR (out ++ [x]) (jn a (y :: b))) := joined_eq n a (y :: b) (out ++ [x]) (by simp only [List.length_cons]; omega) (by simp only [List.length_cons, List.length_append, List.length_nil]; omega)
    have goY : iter (fun z : List Cell × List Cell × List Cell => twin_joined_b1 z.1 z.2.1 z.2.2) (x :: a, b, out ++ [y]) = some (jnR (out ++ [y]) (jn (x :: a) b)) := joined_eq n (x :: a) b (out ++ [y]) (by simp only [List.length_cons]; omega) (by simp only [List.length_cons, List.length_append, List.length_nil]; omega)
    have goB : ∀ z, iter (fun z : List Cell × List Cell × List Cell => twin_joined_b1 z.1 z.2.1 z.2.2) (a, b, out ++ [z]) = some (jnR (out ++ [z]) (jn a b)) := fun z => joined_eq n a b (out ++ [z]) (by omega) (by simp only [List.length_append, List.length_cons, List.length_nil]; omega)
    have hb : twin_joined_b1 (x :: a) (y :: b) out = if Lib.compareBytes x.Prop_.Name y.Prop_.Name < 0 then some (.inl (a, y :: b, out ++ [x])) else if 0 < Lib.compareBytes x.Prop_.Name y.Prop_.Name then some (.inl (x :: a, b, out ++ [y])) else if stO x.Stamp y.Stamp = 0 ∧ x.Prop_.Value ≠ y.Prop_.Value then some (.inr ([], 13)) else some (.inl (a, b, out ++ [newer x y])) := by
      unfold twin_joined_b1 twin_joined_j1
      rw [if_pos (by simp)]
      simp only [ix, iy, Option.bind_some]
      by_cases h1 : Lib.compareBytes x.Prop_.Name y.Prop_.Name < 0
      · rw [if_pos h1, if_pos h1, hax]
        simp only [Option.bind_some]
        rw [slc_tail]
        rfl
      · rw [if_neg h1, if_neg h1]
        by_cases h2 : 0 < Lib.compareBytes x.Prop_.Name y.Prop_.Name
        · rw [if_pos h2, if_pos h2, hay]
          simp only [Option.bind_some]
          rw [slc_tail]
          rfl
        · rw [if_neg h2, if_neg h2, byStamp_eq]
          simp only [Option.bind_some]
          have j3 : ∀ c : Bool, (c = true ↔ (stO x.Stamp y.Stamp = 0 ∧ x.Prop_.Value ≠ y.Prop_.Value)) → twin_joined_j3 (x :: a) (y :: b) out (stO x.Stamp y.Stamp) c = if stO x.Stamp y.Stamp = 0 ∧ x.Prop_.Value ≠ y.Prop_.Value then some (.inr ([], 13)) else some (.inl (a, b, out ++ [newer x y])) := by
            intro c hc
            unfold twin_joined_j3
            by_cases hcc : c = true
            · rw [if_pos hcc, if_pos (hc.1 hcc)]; rfl
            · rw [if_neg hcc, if_neg (fun h => hcc (hc.2 h))]
              unfold newer
              by_cases h3 : 0 ≤ stO x.Stamp y.Stamp
              · rw [if_pos h3, if_pos h3, ix]
                simp only [Option.bind_some]
                rw [hax]
                simp only [Option.bind_some, twin_joined_j4]
                rw [slc_tail, slc_tail]
                rfl
              · rw [if_neg h3, if_neg h3, iy]
                simp only [Option.bind_some]
                rw [hay]
                simp only [Option.bind_some, twin_joined_j4]
                rw [slc_tail, slc_tail]
                rfl
          by_cases h3 : stO x.Stamp y.Stamp = 0
          · rw [if_pos h3]
            exact j3 _ (by simp [h3])
          · rw [if_neg h3]
            exact j3 _ (by simp [h3])
    unfold twin_joined_l1
    rw [iter_eq, jn]
    show (twin_joined_b1 (x :: a) (y :: b) out).bind _ = _
    rw [hb]
    unfold cN
    by_cases h1 : Lib.compareBytes x.Prop_.Name y.Prop_.Name < 0
    · rw [if_pos h1, if_pos h1, jnR_map]
      exact goX
    · rw [if_neg h1, if_neg h1]
      by_cases h2 : 0 < Lib.compareBytes x.Prop_.Name y.Prop_.Name
      · rw [if_pos h2, if_pos h2, jnR_map]
        exact goY
      · rw [if_neg h2, if_neg h2]
        by_cases h3 : stO x.Stamp y.Stamp = 0 ∧ x.Prop_.Value ≠ y.Prop_.Value
        · rw [if_pos h3, if_pos h3]; rfl
        · rw [if_neg h3, if_neg h3, jnR_map]
          exact goB (newer x y)
/-- What a merge gives. -/
def mgR : Option (List Cell) → List Cell × Int
  | none => ([], 13)
  | some r => if 500 < r.length then ([], 2) else (r, 0)
theorem merged_eq (a b : List Cell) (h : a.length + b.length ≤ 1000) : twin_merged a b = some (mgR (jn a b)) := by
  unfold twin_merged twin_joined
  rw [joined_eq (a.length + b.length) a b [] (Nat.le_refl _) (by simp; omega)]
  simp only [Option.bind_some]
  unfold twin_merged_j1 twin_merged_j2
  cases jn a b with
  | none => simp [jnR, mgR]
  | some r =>
    by_cases h5 : 500 < r.length
    · have e5 : (500 : Int) < (r.length : Int) := by omega
      simp [jnR, mgR, e5, h5]
    · have e5 : ¬ (500 : Int) < (r.length : Int) := by omega
      simp [jnR, mgR, e5, h5]
/-! the reference's loops -/
theorem sortSC (f : Cell → Cell → Option Int) (hf : ∀ a b, f a b = some (Lib.compareBytes (cN a) (cN b))) (l : List Cell) (hl : l.length ≤ 100000) (hd : l.Pairwise (fun a b => cN a ≠ cN b)) : ∃ Z, sortO f l = some Z ∧ Z.Perm l ∧ SId cN Z := by
  obtain ⟨Z, h1, h2, h3⟩ := sortO_eq f (fun a b => Lib.compareBytes (cN a) (cN b)) l hl (fun a _ b _ => hf a b) ((cmpB_3.on cN).ord l)
  refine ⟨Z, h1, h2, ?_⟩
  have hZ : Z.Pairwise (fun a b => cN a ≠ cN b) := (h2.pairwise_iff (fun {a b} h => h.symm)).2 hd
  refine (h3.and hZ).imp (fun {a b} h => ?_)
  have h1 : ¬ Lib.compareBytes (cN b) (cN a) < 0 := h.1
  have hn := cmpB_neg (cN a) (cN b)
  have hz : Lib.compareBytes (cN a) (cN b) ≠ 0 := fun z => h.2 (cmpB_zero z)
  omega
/-- A map of cells by their names. -/
def CM (m : List (Str × Cell)) : Prop := (∀ e ∈ m, cN e.2 = e.1) ∧ m.Pairwise (fun a b => a.1 ≠ b.1)
theorem cm_names {p : List (Str × Cell)} (h : CM p) : (p.map Prod.snd).Pairwise (fun a b => cN a ≠ cN b) := by
  rw [List.pairwise_map]
  exact List.Pairwise.imp_of_mem (fun {a b} ha hb hne => by rw [h.1 a ha, h.1 b hb]; exact hne) h.2
theorem cm_perm {p m : List (Str × Cell)} (hp : p.Perm m) (h : CM m) : CM p := ⟨fun e he => h.1 e (hp.mem_iff.1 he), (hp.pairwise_iff (fun {a b} h => h.symm)).2 h.2⟩
theorem cm_gt {p : List (Str × Cell)} (h : CM p) (k : Str) : gt cN (p.map Prod.snd) k = mget? p k := by
  induction p with
  | nil => rfl
  | cons e p ih =>
    have h2 : CM p := ⟨fun x hx => h.1 x (List.mem_cons_of_mem _ hx), (List.pairwise_cons.1 h.2).2⟩
    rw [List.map_cons, gt_cons, ih h2, h.1 e (by simp)]
    obtain ⟨a, b⟩ := e
    simp only [mget?]
theorem MergeOf_l2 (m : List (Str × Cell)) (hm : CM m) (hl : m.length ≤ 1000) (r : List Cell) (hr : SId cN r) (hg : ∀ k, gt cN r k = mget? m k) : Q_MergeOf_l2 m [] = some (mgR (some r)) := by
  unfold Q_MergeOf_l2
  refine overP_inv _ _ m [] _ (fun done X => X = done.map Prod.snd) rfl (fun done e rest X hp hi => .inl ?_) (fun p X hp hi => ?_)
  · have hlen : done.length + 1 ≤ m.length := by have := hp.length_eq; simp only [List.length_append, List.length_cons] at this; omega
    refine ⟨(done ++ [e]).map Prod.snd, ?_, rfl⟩
    unfold Q_MergeOf_b2
    rw [hi, app_le (by simp; omega), List.map_append]; rfl
  · subst hi
    have hcm := cm_perm hp hm
    have hpl : p.length ≤ 1000 := by rw [hp.length_eq]; exact hl
    obtain ⟨Z, z1, z2, z3⟩ := sortSC (fun y0 y1 => some (Q_MergeOf_2x y0 y1)) (fun a b => rfl) (p.map Prod.snd) (by simp; omega) (cm_names hcm)
    have hZ : Z = r := gt_ext cN z3 hr (fun k => by
      rw [gt_perm cN z2 (SId.ne cN z3) k, cm_gt hcm k, hg k, ← cm_gt hm k, ← cm_gt hcm k]
      exact gt_perm cN (hp.map Prod.snd) (cm_names hcm) k)
    subst hZ
    unfold Q_MergeOf_f2 slices_SortFunc_Cell_Cell lenOk
    rw [z1]
    simp only [Option.bind_some]
    rw [if_pos (by first | exact z2.length_eq | omega)]
    simp only [Option.bind_some, mgR]
    by_cases h5 : 500 < Z.length
    · rw [if_pos (by omega), if_pos h5]
    · rw [if_neg (by omega), if_neg h5]
theorem cm_mset {m : List (Str × Cell)} (hs : SM m) (h : ∀ e ∈ m, cN e.2 = e.1) (c : Cell) : ∀ e ∈ mset m (cN c) c, cN e.2 = e.1 := by
  intro e he
  have hg := (SM.get_iff (hs.set (cN c) c) (k := e.1) (v := e.2)).2 he
  rw [mget_mset] at hg
  by_cases hk : cN c = e.1
  · rw [if_pos hk] at hg
    have := Option.some.inj hg
    rw [← this]; exact hk
  · rw [if_neg hk] at hg
    exact h _ ((SM.get_iff hs).1 hg)
theorem lp_cm : ∀ (S : List Cell) (m m' : List (Str × Cell)), SM m → (∀ e ∈ m, cN e.2 = e.1) → lp m S = some m' → SM m' ∧ (∀ e ∈ m', cN e.2 = e.1) ∧ m'.length ≤ m.length + S.length
  | [], m, m', h1, h2, h => by
    obtain rfl := Option.some.inj h
    exact ⟨h1, h2, by simp⟩
  | c :: T, m, m', h1, h2, h => by
    rw [lp] at h
    split at h
    · cases h
    · obtain ⟨a1, a2, a3⟩ := lp_cm T _ m' (h1.set (cN c) c) (cm_mset h1 h2 c) h
      have := mset_len m (cN c) c
      exact ⟨a1, a2, by simp only [List.length_cons]; omega⟩
theorem MergeOf_l1 (S : List Cell) (hS : CL S) : Q_MergeOf_l1 S [] 0 = match lp [] S with
    | none => some ([], 13)
    | some m' => Q_MergeOf_l2 m' [] := by
  have hl := hS.1
  unfold Q_MergeOf_l1
  refine iter_to _ (fun x : List (Str × Cell) × Int => (S.length - x.2).toNat) (fun x : List (Str × Cell) × Int => 0 ≤ x.2 ∧ x.2 ≤ S.length ∧ lp [] S = lp x.1 (S.drop x.2.toNat) ∧ ∀ k v, mget? x.1 k = some v → v ∈ S) _ ?_ _ ⟨by simp, by simp, by simp, fun k v h => by cases h⟩
  rintro ⟨X, n⟩ ⟨g0, g1, g2, g3⟩
  simp only at g0 g1 g2 g3 ⊢
  unfold Q_MergeOf_b1
  by_cases hn : n < S.length
  · obtain ⟨v, hvv, hm, _⟩ := idx_lt S g0 hn
    obtain ⟨hn', hg'⟩ := List.getElem?_eq_some_iff.1 (idx_some hvv).2.2
    have e : (n + 1).toNat = n.toNat + 1 := by omega
    have hd : S.drop n.toNat = v :: S.drop (n + 1).toNat := by rw [e, List.drop_eq_getElem_cons hn', hg']
    rw [if_pos hn, hvv]
    simp only [Option.bind_some, mget2]
    rw [hd, lp] at g2
    have hc : ∀ c : Bool, c = bad1 X v → (∃ s', Q_MergeOf_j1 X n v c = some (.inl s') ∧ (0 ≤ s'.2 ∧ s'.2 ≤ S.length ∧ lp [] S = lp s'.1 (S.drop s'.2.toNat) ∧ ∀ k u, mget? s'.1 k = some u → u ∈ S) ∧ (S.length - s'.2).toNat < (S.length - n).toNat) ∨ Q_MergeOf_j1 X n v c = Option.map .inr (match lp [] S with
        | none => some (([] : List Cell), (13 : Int))
        | some m' => Q_MergeOf_l2 m' []) := by
      intro c hcc
      unfold Q_MergeOf_j1
      by_cases hb : c = true
      · right
        rw [if_pos (by rw [← hcc]; exact hb)] at g2
        rw [if_pos hb, g2]
      · left
        rw [if_neg (by rw [← hcc]; exact hb)] at g2
        rw [if_neg hb, w64_in (by omega) (by omega)]
        refine ⟨_, rfl, ⟨by simp only; omega, by simp only; omega, g2, fun k u hu => ?_⟩, by simp only; omega⟩
        simp only at hu
        have hu' : mget? (mset X (cN v) v) k = some u := hu
        rw [mget_mset] at hu'
        split at hu'
        · obtain rfl := Option.some.inj hu'; exact hm
        · exact g3 k u hu'
    refine hc _ ?_
    unfold bad1 cN
    cases hx : mget? X v.Prop_.Name with
    | none => simp
    | some o =>
      have ho : Q_StampOrder o.Stamp v.Stamp = stO o.Stamp v.Stamp := hS.order (g3 _ _ hx) hm
      simp [ho]
  · right
    have hz : S.drop n.toNat = [] := List.drop_eq_nil_of_le (by omega)
    rw [hz, lp] at g2
    rw [if_neg hn, g2]
theorem CL.app {a b : List Cell} (ha : CL a) (hb : CL b) (h : a.length + b.length ≤ 1000) : CL (a ++ b) := ⟨by simp; omega, fun c hc => by
  rcases List.mem_append.1 hc with e | e
  · exact ha.2 c e
  · exact hb.2 c e⟩
theorem CL.perm {a b : List Cell} (ha : CL a) (h : b.Perm a) : CL b := ⟨by rw [h.length_eq]; exact ha.1, fun c hc => ha.2 c (h.mem_iff.1 hc)⟩
theorem MergeOf_eq (a b : List Cell) (ha : CL a) (hb : CL b) (hl : a.length + b.length < 20) (sa : SId cN a) (sb : SId cN b) : Q_MergeOf a b = some (mgR (jn a b)) := by
  have hab : CL (a ++ b) := ha.app hb (by omega)
  unfold Q_MergeOf
  rw [cconcat_eq a b (by omega) (by omega)]
  simp only [Option.bind_some]
  obtain ⟨S, s1, s2, s3⟩ := cstable_gen (fun x y : Cell => stO x.Stamp y.Stamp) (stO_3.on Cell.Stamp) (fun y0 y1 => some (Q_MergeOf_1x y0 y1)) (a ++ b) (by simp only [List.length_append]; omega) (fun x hx y hy => by unfold Q_MergeOf_1x; rw [hab.order hx hy])
  rw [s1]
  simp only [Option.bind_some]
  rw [MergeOf_l1 S (hab.perm s2)]
  have hat := fun k => at_name sa sb s2 s3 k
  have hsl : S.length < 20 := by rw [s2.length_eq]; simp only [List.length_append]; omega
  rcases lp_spec S [] with ⟨l1, k, l2⟩ | ⟨m', l1, l2, l3⟩
  · rw [l1]
    have hcl := (hat k).1.1 l2
    rcases jn_spec _ a b (Nat.le_refl _) sa sb with ⟨j1, _⟩ | ⟨r, _, j2, _⟩
    · rw [j1]; rfl
    · exact absurd hcl (j2 k)
  · rw [l1]
    rcases jn_spec _ a b (Nat.le_refl _) sa sb with ⟨_, k, j2⟩ | ⟨r, j1, j2, j3, j4, j5⟩
    · exact absurd ((hat k).1.2 j2) (l2 k)
    · rw [j1]
      obtain ⟨c1, c2, c3⟩ := lp_cm S [] m' SM.nil (fun e he => by cases he) l1
      exact MergeOf_l2 m' ⟨c2, c1.ne⟩ (by simp only [List.length_nil] at c3; omega) r j3 (fun k => by
        rw [l3 k, j4 k]
        exact ((hat k).2 (l2 k)).symm)
end Go.Beacon
