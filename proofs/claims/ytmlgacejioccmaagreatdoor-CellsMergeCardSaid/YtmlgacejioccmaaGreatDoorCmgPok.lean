/- Plain functions that end, and what their results are like: one lemma for each step. No program in sight. -/
import Derived.Test.YtmlgacejioccmaaGreatDoorCmgPgk
import Derived.Test.YtmlgacejioccmaaGreatDoorCmgPnum
set_option linter.unusedVariables false
set_option linter.unusedSimpArgs false
namespace Go.Beacon
open Go Go.Eng

/-- It ends, and its result is so. -/
def Ok {α : Type} (m : Option α) (Q : α → Prop) : Prop := ∃ r, m = some r ∧ Q r
theorem Ok.ret {α : Type} {v : α} {Q : α → Prop} (h : Q v) : Ok (some v) Q := ⟨v, rfl, h⟩
theorem Ok.mono {α : Type} {m : Option α} {P Q : α → Prop} (h : Ok m P) (hp : ∀ v, P v → Q v) : Ok m Q := by
  obtain ⟨r, h1, h2⟩ := h; exact ⟨r, h1, hp r h2⟩
theorem Ok.bind {α β : Type} {m : Option α} {f : α → Option β} {P : α → Prop} {Q : β → Prop} (h : Ok m P) (hf : ∀ v, P v → Ok (f v) Q) : Ok (m.bind f) Q := by
  obtain ⟨r, rfl, h2⟩ := h; exact hf r h2
theorem Ok.is {α β : Type} {m : Option α} {v : α} {f : α → Option β} {Q : β → Prop} (h : m = some v) (hf : Ok (f v) Q) : Ok (m.bind f) Q := by rw [h]; exact hf
theorem Ok.inr {α β : Type} {m : Option β} {Q : α ⊕ β → Prop} (h : Ok m (fun r => Q (.inr r))) : Ok (Option.map .inr m) Q := by
  obtain ⟨r, rfl, h2⟩ := h; exact ⟨_, rfl, h2⟩
theorem Ok.gen {α β : Type} {m : Option (α × Stm)} {k : Int} {P : α → Prop} {f : α × Stm → Option β} {Q : β → Prop} (h : Gen m k P) (hf : ∀ v s', P v → SOk s' k → Ok (f (v, s')) Q) : Ok (m.bind f) Q := by
  obtain ⟨v, s', rfl, h1, h2⟩ := h; exact hf v s' h1 h2
theorem Gen.of {α : Type} {m : Option (α × Stm)} {k : Int} {P : α → Prop} (h : Ok m (fun r => P r.1 ∧ SOk r.2 k)) : Gen m k P := by
  obtain ⟨⟨v, s⟩, h1, h2, h3⟩ := h; exact ⟨v, s, h1, h2, h3⟩
theorem Ok.of {α : Type} {m : Option (α × Stm)} {k : Int} {P : α → Prop} (h : Gen m k P) : Ok m (fun r => P r.1 ∧ SOk r.2 k) := by
  obtain ⟨v, s, h1, h2, h3⟩ := h; exact ⟨(v, s), h1, h2, h3⟩
theorem Ok.idx {α β : Type} {xs : List α} {i : Int} {f : α → Option β} {Q : β → Prop} (h0 : 0 ≤ i) (h1 : i < xs.length) (hf : ∀ x, idx xs i = some x → x ∈ xs → Ok (f x) Q) : Ok ((idx xs i).bind f) Q := by
  obtain ⟨x, hx, hm, _⟩ := idx_lt xs h0 h1
  rw [hx]; exact hf x hx hm
theorem Ok.app {α β : Type} {xs ys : List α} {f : List α → Option β} {Q : β → Prop} (h : xs.length + ys.length ≤ 1000000000) (hf : Ok (f (xs ++ ys)) Q) : Ok ((app xs ys).bind f) Q := by
  rw [app_le h]; exact hf
theorem Ok.slc {α β : Type} {xs : List α} {a b : Int} {f : List α → Option β} {Q : β → Prop} (h0 : 0 ≤ a) (h1 : a ≤ b) (h2 : b ≤ xs.length) (hf : ∀ ys : List α, ys = (xs.drop a.toNat).take (b.toNat - a.toNat) → (ys.length : Int) = b - a → Ok (f ys) Q) : Ok ((slc xs a b).bind f) Q := by
  rw [slc_in h0 h1 h2]; exact hf _ rfl (by simp; omega)
theorem cat_le {a b : Str} (h : a.length + b.length ≤ 9223372036854775807) : catO a b = some (a ++ b) := by unfold catO; rw [if_pos h]
theorem Ok.cat {β : Type} {a b : Str} {f : Str → Option β} {Q : β → Prop} (h : a.length + b.length ≤ 9223372036854775807) (hf : Ok (f (a ++ b)) Q) : Ok ((catO a b).bind f) Q := by
  rw [cat_le h]; exact hf
/-- What a round of a loop may tell: it keeps something and makes a number smaller, or it is the last. -/
abbrev Stp {S A : Type} (m : S → Nat) (Inv : S → Prop) (R : A → Prop) (s : S) : S ⊕ A → Prop
  | .inl s' => Inv s' ∧ m s' < m s
  | .inr a => R a
theorem Ok.iter {S A : Type} {f : S → Option (S ⊕ A)} {R : A → Prop} (m : S → Nat) (Inv : S → Prop)
    (h : ∀ s, Inv s → Ok (f s) (Stp m Inv R s)) (s : S) (hs : Inv s) : Ok (iter f s) R := by
  refine iter_inv f m Inv R (fun s hi => ?_) s hs
  obtain ⟨r, h1, h2⟩ := h s hi
  cases r with
  | inl s' => exact .inl ⟨s', h1, h2.1, h2.2⟩
  | inr a => exact .inr ⟨a, h1, h2⟩
/-- A round of a loop over the places of a list. -/
abbrev Rng {A : Type} (N : Nat) (R : A → Prop) (i : Int) : Int ⊕ A → Prop
  | .inl j => j = i + 1 ∧ i < N
  | .inr a => R a
theorem Ok.range {A : Type} {f : Int → Option (Int ⊕ A)} {R : A → Prop} (N : Nat) (h : ∀ i : Int, 0 ≤ i → i ≤ N → Ok (f i) (Rng N R i)) : Ok (Eng.iter f 0) R := by
  refine Ok.iter (fun i : Int => N + 1 - i.toNat) (fun i : Int => 0 ≤ i ∧ i ≤ N) (fun i hi => ?_) 0 ⟨by omega, by omega⟩
  refine (h i hi.1 hi.2).mono (fun r hr => ?_)
  cases r with
  | inl j => simp only [Rng, Stp] at hr ⊢; omega
  | inr a => exact hr
theorem strR_len (n : Int) : (strR n).length ≤ 4 := by
  unfold strR Utf8.encode
  simp only
  repeat' split
  all_goals simp
/-- The same loops are the same. -/
theorem iter_same {S A : Type} {f g : S → Option (S ⊕ A)} (h : ∀ s, f s = g s) (s : S) : iter f s = iter g s := by rw [funext h]
/-- Two loops that go side by side, what is kept being kept. -/
theorem iter_mapI {S S' A B : Type} (Inv : S → Prop) (φ : S → S') (ψ : A → B) {f : S → Option (S ⊕ A)} {f' : S' → Option (S' ⊕ B)} (h : ∀ s, Inv s → f' (φ s) = (f s).map (Sum.map φ ψ)) (hi : ∀ s s', Inv s → f s = some (.inl s') → Inv s') (s : S) (hs : Inv s) : iter f' (φ s) = (iter f s).map ψ := by
  have key : ∀ n s, Inv s → iterN f' n (φ s) = (iterN f n s).map ψ := by
    intro n
    induction n with
    | zero => intro s _; rfl
    | succ n ih =>
      intro s hs
      unfold iterN
      rw [h s hs]
      cases hf : f s with
      | none => rfl
      | some r =>
        cases r with
        | inl s' => exact ih s' (hi s s' hs hf)
        | inr a => rfl
  apply Option.ext
  intro b
  rw [iter_some]
  constructor
  · rintro ⟨n, hn⟩
    rw [key n s hs] at hn
    obtain ⟨a, h1, h2⟩ := Option.map_eq_some_iff.1 hn
    rw [iter_some.2 ⟨n, h1⟩]; simp [h2]
  · intro hb
    obtain ⟨a, h1, h2⟩ := Option.map_eq_some_iff.1 hb
    obtain ⟨n, hn⟩ := iter_some.1 h1
    exact ⟨n, by rw [key n s hs, hn]; simp [h2]⟩
theorem iter_map {S S' A B : Type} (φ : S → S') (ψ : A → B) {f : S → Option (S ⊕ A)} {f' : S' → Option (S' ⊕ B)} (h : ∀ s, f' (φ s) = (f s).map (Sum.map φ ψ)) (s : S) : iter f' (φ s) = (iter f s).map ψ :=
  iter_mapI (fun _ => True) φ ψ (fun s _ => h s) (fun _ _ _ _ => trivial) s trivial
theorem idx_map {α β : Type} (f : α → β) (xs : List α) (i : Int) : idx (xs.map f) i = (idx xs i).map f := by
  unfold idx; split
  · simp
  · rfl
theorem app_map {α β : Type} (f : α → β) (xs ys : List α) : app (xs.map f) (ys.map f) = (app xs ys).map (List.map f) := by
  unfold app
  simp only [List.length_map]
  split
  · simp
  · rfl
end Go.Beacon
