/- Forgetting the oldest that ended, one after the other, until few enough are left. No program in sight. -/
import Derived.Test.YtibjdfdmkahocaaGreatDoorPmap
set_option linter.unusedVariables false
set_option linter.unusedSimpArgs false
set_option linter.unusedSectionVars false
namespace Go.Beacon
open Go Go.Eng

section
variable {α : Type} [DecidableEq α] (en : α → Bool) (c : α → α → Int) (kept : Int)
def cntE (L : List α) : Int := ((L.filter en).length : Int)
inductive Forg : List α → List α → Prop
  | done {L : List α} : cntE en L ≤ kept → Forg L L
  | drop {A B R : List α} {o : α} : kept < cntE en (A ++ o :: B) → en o = true → (∀ m ∈ A ++ B, en m = true → c o m < 0) → Forg (A ++ B) R → Forg (A ++ o :: B) R
variable {en c kept}
theorem Forg.det (hc : Cmp3 c) {L R R' : List α} (h : Forg en c kept L R) (h' : Forg en c kept L R') : R = R' := by
  induction h generalizing R' with
  | done h1 =>
    cases h' with
    | done => rfl
    | drop h2 => omega
  | @drop A B R o h1 h2 h3 h4 ih =>
    generalize hL : A ++ o :: B = L at h'
    cases h' with
    | done h5 => rw [← hL] at h5; omega
    | @drop A' B' _ o' h5 h6 h7 h8 =>
      have hno : o ∈ A' ++ B' → o' ∈ A ++ B → False := fun x y => by
        have e1 := h3 o' y h6
        have e2 := h7 o x h2
        have := hc.neg o o'; omega
      rcases List.append_eq_append_iff.1 hL with ⟨C, e1, e2⟩ | ⟨C, e1, e2⟩
      · cases C with
        | nil =>
          simp only [List.nil_append, List.append_nil, List.cons.injEq] at e1 e2
          obtain ⟨rfl, rfl⟩ := e2
          subst e1
          exact ih h8
        | cons x C =>
          simp only [List.cons_append, List.cons.injEq] at e2
          obtain ⟨rfl, rfl⟩ := e2
          exact (hno (by rw [e1]; simp) (by simp)).elim
      · cases C with
        | nil =>
          simp only [List.nil_append, List.append_nil, List.cons.injEq] at e1 e2
          obtain ⟨rfl, rfl⟩ := e2
          subst e1
          exact ih h8
        | cons x C =>
          simp only [List.cons_append, List.cons.injEq] at e2
          obtain ⟨rfl, rfl⟩ := e2
          exact (hno (by simp) (by rw [e1]; simp)).elim
theorem Forg.sub {L R : List α} (h : Forg en c kept L R) : R.Sublist L := by
  induction h with
  | done _ => exact List.Sublist.refl _
  | @drop A B R o h1 h2 h3 h4 ih => exact ih.trans (List.Sublist.append (List.Sublist.refl A) (List.sublist_cons_self o B))
theorem Forg.opn {L R : List α} (h : Forg en c kept L R) {m : α} (hm : m ∈ L) (ho : en m = false) : m ∈ R := by
  induction h with
  | done _ => exact hm
  | @drop A B R o h1 h2 h3 h4 ih =>
    refine ih ?_
    rcases List.mem_append.1 hm with h | h
    · exact List.mem_append_left _ h
    · rcases List.mem_cons.1 h with rfl | h
      · rw [h2] at ho; cases ho
      · exact List.mem_append_right _ h
theorem Forg.few {L R : List α} (h : Forg en c kept L R) : cntE en R ≤ kept := by
  induction h with
  | done h => exact h
  | drop _ _ _ _ ih => exact ih
theorem Forg.self {L R : List α} (h : Forg en c kept L R) : Forg en c kept R R := .done h.few
theorem cntE_map (g : α → α) (hg : ∀ n, en n = true → en (g n) = true) : ∀ L : List α, cntE en L ≤ cntE en (L.map g)
  | [] => by simp [cntE]
  | x :: r => by
    have ih := cntE_map g hg r
    unfold cntE at ih ⊢
    rw [List.map_cons, List.filter_cons, List.filter_cons]
    cases hx : en x with
    | true => rw [hg x hx]; simp; omega
    | false => cases en (g x) <;> simp <;> omega
/-- What grows between two times of forgetting. -/
theorem Forg.grow {g : α → α} (hg : ∀ n, en n = true → g n = n) {M R S : List α} (hs : ∀ m ∈ M, ∀ n ∈ M, en m = true → en n = false → en (g n) = true → c m (g n) < 0) (h : Forg en c kept M R) (h2 : Forg en c kept (R.map g) S) : Forg en c kept (M.map g) S := by
  induction h with
  | done _ => exact h2
  | @drop A B R o h3 h4 h5 h6 ih =>
    have hsub : ∀ m ∈ A ++ B, m ∈ A ++ o :: B := fun m hm => by
      rcases List.mem_append.1 hm with h | h
      · exact List.mem_append_left _ h
      · exact List.mem_append_right _ (List.mem_cons_of_mem _ h)
    have i := ih (fun m hm n hn => hs m (hsub m hm) n (hsub n hn)) h2
    rw [List.map_append] at i
    rw [List.map_append, List.map_cons, hg o h4]
    refine Forg.drop ?_ h4 (fun m hm he => ?_) i
    · have := cntE_map g (fun n hn => by rw [hg n hn]; exact hn) (en := en) (A ++ o :: B)
      rw [List.map_append, List.map_cons, hg o h4] at this
      omega
    · rw [← List.map_append] at hm
      obtain ⟨n, hn, rfl⟩ := List.mem_map.1 hm
      cases hen : en n with
      | true => rw [hg n hen]; exact h5 n hn hen
      | false => exact hs o (by simp) n (hsub n hn) h4 hen he
/-- The oldest are the first of all that ended, in order. -/
theorem Forg.sorted (hc : Cmp3 c) : ∀ (k : Nat) (L Z : List α), Z.Perm (L.filter en) → Z.Pairwise (fun a b => c a b < 0) → (k : Int) = max 0 (cntE en L - kept) → 0 ≤ kept → L.Pairwise (fun a b => c a b ≠ 0) → Forg en c kept L (L.filter (fun n => decide (n ∉ Z.take k)))
  | 0, L, Z, hp, hZ, hk, h0, hd => by
    have e : L.filter (fun n => decide (n ∉ Z.take 0)) = L := List.filter_eq_self.2 (fun _ _ => by simp)
    rw [e]
    exact .done (by omega)
  | k + 1, L, [], hp, hZ, hk, h0, hd => by
    have := hp.length_eq
    unfold cntE at hk
    simp at this
    omega
  | k + 1, L, o :: Z, hp, hZ, hk, h0, hd => by
    have hZ' := List.pairwise_cons.1 hZ
    have ho : o ∈ L.filter en := hp.mem_iff.1 (by simp)
    obtain ⟨ho1, ho2⟩ := List.mem_filter.1 ho
    obtain ⟨A, B, rfl⟩ := List.append_of_mem ho1
    have hoo : c o o = 0 := hc.zero o
    rw [List.pairwise_append] at hd
    obtain ⟨d1, d2, d3⟩ := hd
    rw [List.pairwise_cons] at d2
    have hne : ∀ m ∈ A ++ B, m ≠ o := fun m hm e => by
      rcases List.mem_append.1 hm with h | h
      · exact d3 m h o (by simp) (by rw [e]; exact hoo)
      · exact d2.1 m h (by rw [e]; exact hoo)
    have hf : (A ++ o :: B).filter en = A.filter en ++ o :: B.filter en := by
      rw [List.filter_append, List.filter_cons, if_pos (by exact ho2)]
    have hp' : Z.Perm ((A ++ B).filter en) := by
      rw [hf] at hp
      rw [List.filter_append]
      exact List.Perm.cons_inv (hp.trans List.perm_middle)
    have hcnt : cntE en (A ++ o :: B) = cntE en (A ++ B) + 1 := by
      unfold cntE; rw [hf, List.filter_append]; simp; omega
    have ih := Forg.sorted hc k (A ++ B) Z hp' hZ'.2 (by omega) h0 (List.pairwise_append.2 ⟨d1, d2.2, fun a ha b hb => d3 a ha b (by simp [hb])⟩)
    have hflt : (A ++ o :: B).filter (fun n => decide (n ∉ (o :: Z).take (k + 1))) = (A ++ B).filter (fun n => decide (n ∉ Z.take k)) := by
      have key : ∀ D : List α, (∀ m ∈ D, m ≠ o) → D.filter (fun n => decide (n ∉ (o :: Z).take (k + 1))) = D.filter (fun n => decide (n ∉ Z.take k)) := fun D hD => by
        refine List.filter_congr fun n hn => ?_
        simp [List.take_succ_cons, hD n hn]
      rw [List.filter_append, List.filter_cons, if_neg (by simp), List.filter_append, key A (fun m hm => hne m (by simp [hm])), key B (fun m hm => hne m (by simp [hm]))]
    rw [hflt]
    refine Forg.drop (by omega) ho2 (fun m hm he => ?_) ih
    exact hZ'.1 m (hp'.mem_iff.2 (List.mem_filter.2 ⟨hm, he⟩))
end
end Go.Beacon
