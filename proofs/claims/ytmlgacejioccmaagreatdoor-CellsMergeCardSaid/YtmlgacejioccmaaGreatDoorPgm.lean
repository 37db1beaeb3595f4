/- Lists in the order of their names, as maps. No program in sight. -/
import Derived.Test.YtmlgacejioccmaaGreatDoorPmrg
set_option linter.unusedVariables false
set_option linter.unusedSimpArgs false
namespace Go.Beacon
open Go Go.Eng

section
variable {α : Type} (id : α → Str)
def gt (L : List α) (k : Str) : Option α := L.find? (fun n => decide (id n = k))
def SId (L : List α) : Prop := L.Pairwise (fun a b => Lib.compareBytes (id a) (id b) < 0)
theorem gt_nil (k : Str) : gt id [] k = none := rfl
theorem gt_cons (x : α) (L : List α) (k : Str) : gt id (x :: L) k = if id x = k then some x else gt id L k := by
  unfold gt
  rw [List.find?_cons]
  by_cases h : id x = k <;> simp [h]
theorem gt_none {L : List α} {k : Str} : gt id L k = none ↔ ∀ x ∈ L, id x ≠ k := by
  unfold gt
  rw [List.find?_eq_none]
  simp
theorem gt_some {L : List α} {k : Str} {x : α} (h : gt id L k = some x) : x ∈ L ∧ id x = k := by
  unfold gt at h
  exact ⟨List.mem_of_find?_eq_some h, by simpa using List.find?_some h⟩
theorem gt_append (A B : List α) (k : Str) : gt id (A ++ B) k = (gt id A k).or (gt id B k) := by
  unfold gt
  rw [List.find?_append]
theorem gt_mem {L : List α} (hd : L.Pairwise (fun a b => id a ≠ id b)) {x : α} (hx : x ∈ L) : gt id L (id x) = some x := by
  induction L with
  | nil => simp at hx
  | cons y L ih =>
    rw [List.pairwise_cons] at hd
    rw [gt_cons]
    rcases List.mem_cons.1 hx with rfl | hx
    · rw [if_pos rfl]
    · rw [if_neg (hd.1 x hx)]
      exact ih hd.2 hx
theorem SId.ne {L : List α} (h : SId id L) : L.Pairwise (fun a b => id a ≠ id b) :=
  List.Pairwise.imp (fun {a b} h e => by rw [e, cmpB_self] at h; omega) h
theorem gt_perm {A B : List α} (hp : A.Perm B) (hd : A.Pairwise (fun a b => id a ≠ id b)) (k : Str) : gt id A k = gt id B k := by
  have hd' : B.Pairwise (fun a b => id a ≠ id b) := hp.pairwise hd (fun {a b} h => Ne.symm h)
  cases h : gt id A k with
  | none =>
    rw [gt_none] at h
    exact ((gt_none id).2 fun x hx => h x (hp.mem_iff.2 hx)).symm
  | some x =>
    obtain ⟨h1, rfl⟩ := gt_some id h
    exact (gt_mem id hd' (hp.mem_iff.1 h1)).symm
theorem gt_ext : ∀ {A B : List α}, SId id A → SId id B → (∀ k, gt id A k = gt id B k) → A = B
  | [], [], _, _, _ => rfl
  | [], y :: B, _, _, h => by have := h (id y); rw [gt_nil, gt_cons, if_pos rfl] at this; cases this
  | x :: A, [], _, _, h => by have := h (id x); rw [gt_nil, gt_cons, if_pos rfl] at this; cases this
  | x :: A, y :: B, h1, h2, h => by
    have h1' := List.pairwise_cons.1 h1
    have h2' := List.pairwise_cons.1 h2
    have hxy : id x = id y := by
      rcases Int.lt_trichotomy (Lib.compareBytes (id x) (id y)) 0 with c | c | c
      · have e := h (id x)
        rw [gt_cons, if_pos rfl] at e
        have hn : gt id (y :: B) (id x) = none := by
          rw [gt_none]
          intro z hz he
          rcases List.mem_cons.1 hz with rfl | hz
          · rw [he, cmpB_self] at c; omega
          · have := cmpB_3.tr c (h2'.1 z hz)
            rw [he, cmpB_self] at this; omega
        rw [hn] at e; cases e
      · exact cmpB_zero c
      · have c' : Lib.compareBytes (id y) (id x) < 0 := by have := cmpB_3.neg (id x) (id y); omega
        have e := h (id y)
        rw [gt_cons id y, if_pos rfl] at e
        have hn : gt id (x :: A) (id y) = none := by
          rw [gt_none]
          intro z hz he
          rcases List.mem_cons.1 hz with rfl | hz
          · rw [he, cmpB_self] at c'; omega
          · have := cmpB_3.tr c' (h1'.1 z hz)
            rw [he, cmpB_self] at this; omega
        rw [hn] at e; cases e
    have e := h (id x)
    rw [gt_cons, if_pos rfl, gt_cons, if_pos hxy.symm] at e
    obtain rfl := Option.some.inj e
    rw [gt_ext h1'.2 h2'.2 (fun k => ?_)]
    have := h k
    rw [gt_cons, gt_cons] at this
    by_cases hk : id x = k
    · subst hk
      have a1 : gt id A (id x) = none := (gt_none id).2 fun z hz he => by have := h1'.1 z hz; rw [he, cmpB_self] at this; omega
      have a2 : gt id B (id x) = none := (gt_none id).2 fun z hz he => by have := h2'.1 z hz; rw [he, cmpB_self] at this; omega
      rw [a1, a2]
    · rw [if_neg hk, if_neg hk] at this; exact this
/-- Above the first. -/
theorem SId.none_lt {x : α} {L : List α} (h : SId id (x :: L)) {k : Str} (hk : Lib.compareBytes k (id x) < 0) : gt id (x :: L) k = none := by
  rw [gt_none]
  intro z hz he
  have h' := List.pairwise_cons.1 h
  rcases List.mem_cons.1 hz with rfl | hz
  · rw [he, cmpB_self] at hk; omega
  · have := cmpB_3.tr hk (h'.1 z hz)
    rw [he, cmpB_self] at this; omega
end
end Go.Beacon
