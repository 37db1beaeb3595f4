/- Plain maps (sorted lists of pairs) by look-ups; loops over maps in any order. No program in sight. -/
import Derived.Test.YtmlgacejioccmaaGreatDoorPmrg
set_option linter.unusedVariables false
set_option linter.unusedSimpArgs false
set_option linter.unusedSectionVars false
namespace Go.Beacon
open Go Go.Eng

/-- A strict order of keys, as it must be. -/
class LKey (K : Type) [KLt K] : Prop where
  irr : ∀ a : K, KLt.lt a a = false
  tr : ∀ {a b c : K}, KLt.lt a b = true → KLt.lt b c = true → KLt.lt a c = true
  tri : ∀ a b : K, KLt.lt a b = true ∨ a = b ∨ KLt.lt b a = true
instance : LKey Int where
  irr a := by show decide (a < a) = false; simp
  tr {a b c} h1 h2 := by
    have h1 : decide (a < b) = true := h1
    have h2 : decide (b < c) = true := h2
    show decide (a < c) = true
    simp only [decide_eq_true_eq] at *; omega
  tri a b := by
    show decide (a < b) = true ∨ a = b ∨ decide (b < a) = true
    simp only [decide_eq_true_eq]; omega
instance : LKey Bool where
  irr a := by cases a <;> rfl
  tr {a b c} h1 h2 := by revert h1 h2; cases a <;> cases b <;> cases c <;> decide
  tri a b := by cases a <;> cases b <;> decide
instance : LKey (List UInt8) where
  irr a := by
    show Op.bytesLess a a = false
    rw [less_iff, cmpB_self]; rfl
  tr {a b c} h1 h2 := by
    have h1 : Op.bytesLess a b = true := h1
    have h2 : Op.bytesLess b c = true := h2
    show Op.bytesLess a c = true
    rw [less_iff, decide_eq_true_eq] at *
    exact cmpB_3.tr h1 h2
  tri a b := by
    show Op.bytesLess a b = true ∨ a = b ∨ Op.bytesLess b a = true
    rw [less_iff, less_iff, decide_eq_true_eq, decide_eq_true_eq]
    rcases Int.lt_trichotomy (Lib.compareBytes a b) 0 with h | h | h
    · exact .inl h
    · exact .inr (.inl (cmpB_zero h))
    · exact .inr (.inr (by have := cmpB_3.neg a b; omega))
section
variable {K V : Type} [DecidableEq K]
theorem mget_nil (k : K) : mget? ([] : List (K × V)) k = none := rfl
theorem mget_cons (e : K × V) (m : List (K × V)) (k : K) : mget? (e :: m) k = if e.1 = k then some e.2 else mget? m k := rfl
theorem mget_mdel (m : List (K × V)) (k k' : K) : mget? (mdel m k) k' = if k = k' then none else mget? m k' := by
  induction m with
  | nil => simp [mdel, mget?]
  | cons e r ih =>
    unfold mdel at ih ⊢
    rw [List.filter_cons]
    by_cases h : e.1 = k
    · rw [if_neg (by simp [h]), ih, mget_cons]
      by_cases h2 : k = k'
      · rw [if_pos h2, if_pos h2]
      · rw [if_neg h2, if_neg h2, if_neg (by rw [h]; exact h2)]
    · rw [if_pos (by simp [h]), mget_cons, ih, mget_cons]
      by_cases h2 : k = k'
      · rw [if_pos h2, if_pos h2, if_neg (by rw [← h2]; exact h)]
      · rw [if_neg h2, if_neg h2]
variable [KLt K]
theorem mget_mins (k : K) (v : V) (k' : K) : ∀ (m : List (K × V)), mget? m k = none → mget? (mins k v m) k' = if k = k' then some v else mget? m k'
  | [], _ => by simp [mins, mget?]
  | e :: r, h => by
    rw [mget_cons] at h
    have h1 : e.1 ≠ k := fun he => by rw [if_pos he] at h; cases h
    rw [if_neg h1] at h
    unfold mins
    split
    · rw [mget_cons, mget_mins k v k' r h, mget_cons]
      by_cases h2 : k = k'
      · rw [if_pos h2, if_pos h2, if_neg (by rw [← h2]; exact h1)]
      · rw [if_neg h2, if_neg h2]
    · rw [mget_cons]
theorem mget_mset (m : List (K × V)) (k : K) (v : V) (k' : K) : mget? (mset m k v) k' = if k = k' then some v else mget? m k' := by
  unfold mset
  rw [mget_mins k v k' _ (by rw [mget_mdel, if_pos rfl]), mget_mdel]
  by_cases h : k = k'
  · rw [if_pos h, if_pos h]
  · rw [if_neg h, if_neg h, if_neg h]
/-- Sorted by keys. -/
def SM (m : List (K × V)) : Prop := m.Pairwise (fun a b => KLt.lt a.1 b.1 = true)
theorem SM.nil : SM ([] : List (K × V)) := List.Pairwise.nil
theorem SM.del {m : List (K × V)} (h : SM m) (k : K) : SM (mdel m k) := List.Pairwise.filter _ h
theorem mdel_len (m : List (K × V)) (k : K) : (mdel m k).length ≤ m.length := List.length_filter_le _ _
variable [LKey K]
theorem SM.ne {m : List (K × V)} (h : SM m) : m.Pairwise (fun a b => a.1 ≠ b.1) :=
  List.Pairwise.imp (fun {a b} h e => by rw [e, LKey.irr] at h; cases h) h
theorem SM.nodup {m : List (K × V)} (h : SM m) : (m.map Prod.fst).Nodup := by
  unfold List.Nodup
  rw [List.pairwise_map]
  exact SM.ne h
theorem mins_SM (k : K) (v : V) : ∀ {m : List (K × V)}, SM m → mget? m k = none → SM (mins k v m)
  | [], _, _ => by unfold mins SM; simp
  | e :: r, h, hn => by
    have h' := List.pairwise_cons.1 h
    rw [mget_cons] at hn
    have h1 : e.1 ≠ k := fun he => by rw [if_pos he] at hn; cases hn
    rw [if_neg h1] at hn
    unfold mins
    split
    · rename_i hlt
      refine List.pairwise_cons.2 ⟨fun z hz => ?_, mins_SM k v h'.2 hn⟩
      rcases List.mem_cons.1 ((mins_perm k v r).mem_iff.1 hz) with rfl | hz
      · exact hlt
      · exact h'.1 z hz
    · rename_i hlt
      have hke : KLt.lt k e.1 = true := by
        rcases LKey.tri k e.1 with h | h | h
        · exact h
        · exact absurd h.symm h1
        · exact absurd h hlt
      refine List.pairwise_cons.2 ⟨fun z hz => ?_, h⟩
      rcases List.mem_cons.1 hz with rfl | hz
      · exact hke
      · exact LKey.tr hke (h'.1 z hz)
theorem SM.set {m : List (K × V)} (h : SM m) (k : K) (v : V) : SM (mset m k v) :=
  mins_SM k v (h.del k) (by rw [mget_mdel, if_pos rfl])
theorem SM.get_iff {m : List (K × V)} (h : SM m) {k : K} {v : V} : mget? m k = some v ↔ (k, v) ∈ m :=
  ⟨mget_mem, mget_of_mem h.nodup⟩
theorem SM.none_lt {e : K × V} {m : List (K × V)} (h : SM (e :: m)) {k : K} (hk : KLt.lt k e.1 = true) : mget? (e :: m) k = none := by
  rw [mget_none]
  intro z hz he
  have h' := List.pairwise_cons.1 h
  have hkz : KLt.lt k z.1 = true := by
    rcases List.mem_cons.1 hz with rfl | hz
    · exact hk
    · exact LKey.tr hk (h'.1 z hz)
  rw [he, LKey.irr] at hkz; cases hkz
theorem map_ext : ∀ {m m' : List (K × V)}, SM m → SM m' → (∀ k, mget? m k = mget? m' k) → m = m'
  | [], [], _, _, _ => rfl
  | [], y :: B, _, _, h => by have := h y.1; rw [mget_nil, mget_cons, if_pos rfl] at this; cases this
  | x :: A, [], _, _, h => by have := h x.1; rw [mget_nil, mget_cons, if_pos rfl] at this; cases this
  | x :: A, y :: B, h1, h2, h => by
    have h1' := List.pairwise_cons.1 h1
    have h2' := List.pairwise_cons.1 h2
    have hxy : x.1 = y.1 := by
      rcases LKey.tri x.1 y.1 with c | c | c
      · have e := h x.1
        rw [mget_cons, if_pos rfl, h2.none_lt c] at e; cases e
      · exact c
      · have e := h y.1
        rw [mget_cons y, if_pos rfl, h1.none_lt c] at e; cases e
    have e := h x.1
    rw [mget_cons, if_pos rfl, mget_cons, if_pos hxy.symm] at e
    have hx : x = y := Prod.ext hxy (Option.some.inj e)
    subst hx
    rw [map_ext h1'.2 h2'.2 (fun k => ?_)]
    have := h k
    rw [mget_cons, mget_cons] at this
    by_cases hk : x.1 = k
    · subst hk
      have a1 : mget? A x.1 = none := mget_none.2 fun z hz he => by have := h1'.1 z hz; rw [he, LKey.irr] at this; cases this
      have a2 : mget? B x.1 = none := mget_none.2 fun z hz he => by have := h2'.1 z hz; rw [he, LKey.irr] at this; cases this
      rw [a1, a2]
    · rw [if_neg hk, if_neg hk] at this; exact this
theorem mins_len (k : K) (v : V) (m : List (K × V)) : (mins k v m).length = m.length + 1 := by
  have := (mins_perm k v m).length_eq; simpa using this
theorem mset_len (m : List (K × V)) (k : K) (v : V) : (mset m k v).length ≤ m.length + 1 := by
  unfold mset; rw [mins_len]; have := mdel_len m k; omega
theorem mdel_mem_len {m : List (K × V)} (h : SM m) {k : K} {v : V} (hk : mget? m k = some v) : (mdel m k).length + 1 = m.length := by
  have hp : (mset m k v).Perm m := by
    have : mset m k v = m := map_ext (h.set k v) h (fun k' => by
      rw [mget_mset]; split
      · rename_i e; subst e; exact hk.symm
      · rfl)
    rw [this]
  have := hp.length_eq
  unfold mset at this; rw [mins_len] at this; exact this
theorem mset_new_len {m : List (K × V)} {k : K} {v : V} (hk : mget? m k = none) : (mset m k v).length = m.length + 1 := by
  unfold mset; rw [mins_len, mdel_none hk]
theorem mset_old_len {m : List (K × V)} (h : SM m) {k : K} {v u : V} (hk : mget? m k = some u) : (mset m k v).length = m.length := by
  unfold mset; rw [mins_len]; exact mdel_mem_len h hk
end
/-! loops over all orders -/
section
variable {E S A : Type}
/-- A loop over a map, whatever the order: what holds of the elements behind and of the state. -/
theorem loopL_inv (b : E → S → Option (S ⊕ A)) (f : S → Option A) (es : List E) (r : A) (Inv : List E → S → Prop)
    (hs : ∀ done e rest s, (done ++ e :: rest).Perm es → Inv done s → (∃ s', b e s = some (.inl s') ∧ Inv (done ++ [e]) s') ∨ b e s = some (.inr r))
    (hf : ∀ p s, p.Perm es → Inv p s → f s = some r) : ∀ (rest done : List E) (s : S), (done ++ rest).Perm es → Inv done s → loopL b f rest s = some r
  | [], done, s, hp, hi => hf done s (by simpa using hp) hi
  | e :: rest, done, s, hp, hi => by
    show (b e s).bind (after (loopL b f rest)) = some r
    rcases hs done e rest s hp hi with ⟨s', h1, h2⟩ | h1
    · rw [h1]
      simp only [Option.bind_some, after_inl]
      exact loopL_inv b f es r Inv hs hf rest (done ++ [e]) s' (by simpa using hp) h2
    · rw [h1]; rfl
theorem overP_inv (b : E → S → Option (S ⊕ A)) (f : S → Option A) (es : List E) (s0 : S) (r : A) (Inv : List E → S → Prop) (h0 : Inv [] s0)
    (hs : ∀ done e rest s, (done ++ e :: rest).Perm es → Inv done s → (∃ s', b e s = some (.inl s') ∧ Inv (done ++ [e]) s') ∨ b e s = some (.inr r))
    (hf : ∀ p s, p.Perm es → Inv p s → f s = some r) : overP es (fun p => loopL b f p s0) = some r :=
  overP_of fun p hp => loopL_inv b f es r Inv hs hf p [] s0 (by simpa using hp) h0
end
end Go.Beacon
