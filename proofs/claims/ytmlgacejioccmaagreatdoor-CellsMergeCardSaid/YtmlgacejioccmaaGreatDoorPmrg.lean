/- Plain merging: orders, sorted lists without twins. For any type. No program in sight. -/
import Derived.Test.YtmlgacejioccmaaGreatDoorPcpt
set_option linter.unusedVariables false
set_option linter.unusedSimpArgs false
namespace Go.Beacon
open Go Go.Eng

/-- A comparison in three ways. -/
structure Cmp3 {α : Type} (c : α → α → Int) : Prop where
  neg : ∀ a b, c a b = - c b a
  tr : ∀ {a b d}, c a b < 0 → c b d < 0 → c a d < 0
  cg : ∀ {a b d}, c a b = 0 → c b d < 0 → c a d < 0
theorem Cmp3.zero {α : Type} {c : α → α → Int} (h : Cmp3 c) (a : α) : c a a = 0 := by have := h.neg a a; omega
theorem Cmp3.cg' {α : Type} {c : α → α → Int} (h : Cmp3 c) {a b d : α} (h0 : c a b = 0) (h1 : c d a < 0) : c d b < 0 := by
  have n1 := h.neg d b
  have n2 := h.neg a b
  have n3 := h.neg d a
  by_cases e : c d b = 0
  · have := h.cg e (d := a) 
    by_cases k : c b a < 0
    · omega
    · have e2 : c b d = 0 := by have := h.neg b d; omega
      have := h.cg e2 (d := a) h1
      omega
  · by_cases k : c d b < 0
    · exact k
    · have k1 : c b d < 0 := by omega
      have k2 := h.tr k1 h1
      omega
theorem Cmp3.lex {α : Type} {c1 c2 : α → α → Int} (h1 : Cmp3 c1) (h2 : Cmp3 c2) : Cmp3 (fun a b => if c1 a b ≠ 0 then c1 a b else c2 a b) := by
  refine ⟨fun a b => ?_, fun {a b d} => ?_, fun {a b d} => ?_⟩
  · have n1 := h1.neg a b; have n2 := h2.neg a b
    repeat' split
    all_goals omega
  · intro k1 k2
    by_cases e1 : c1 a b = 0
    · by_cases e2 : c1 b d = 0
      · have e3 : c1 a d = 0 := by
          have n1 := h1.neg a d
          have n2 := h1.neg b d
          have n3 := h1.neg a b
          by_cases k : c1 a d < 0
          · have := h1.cg (a := b) (b := a) (d := d) (by omega) k; omega
          · by_cases k' : c1 d a < 0
            · have := h1.cg' (a := a) (b := b) (d := d) e1 k'; omega
            · omega
        rw [if_neg (by simpa using e1)] at k1
        rw [if_neg (by simpa using e2)] at k2
        rw [if_neg (by simpa using e3)]
        exact h2.tr k1 k2
      · rw [if_pos e2] at k2
        have := h1.cg e1 k2
        rw [if_pos (by omega)]; exact this
    · rw [if_pos e1] at k1
      by_cases e2 : c1 b d = 0
      · have := h1.cg' e2 k1
        rw [if_pos (by omega)]; exact this
      · rw [if_pos e2] at k2
        have := h1.tr k1 k2
        rw [if_pos (by omega)]; exact this
  · intro k1 k2
    by_cases e1 : c1 a b = 0
    · rw [if_neg (by simpa using e1)] at k1
      by_cases e2 : c1 b d = 0
      · have e3 : c1 a d = 0 := by
          have n1 := h1.neg a d
          have n2 := h1.neg b d
          have n3 := h1.neg a b
          by_cases k : c1 a d < 0
          · have := h1.cg (a := b) (b := a) (d := d) (by omega) k; omega
          · by_cases k' : c1 d a < 0
            · have := h1.cg' (a := a) (b := b) (d := d) e1 k'; omega
            · omega
        rw [if_neg (by simpa using e2)] at k2
        rw [if_neg (by simpa using e3)]
        exact h2.cg k1 k2
      · rw [if_pos e2] at k2
        have := h1.cg e1 k2
        rw [if_pos (by omega)]; exact this
    · rw [if_pos e1] at k1; exact absurd k1 e1
theorem Cmp3.on {α β : Type} {c : α → α → Int} (h : Cmp3 c) (f : β → α) : Cmp3 (fun a b => c (f a) (f b)) :=
  ⟨fun a b => h.neg _ _, fun h1 h2 => h.tr h1 h2, fun h1 h2 => h.cg h1 h2⟩
theorem cmpI_3 : Cmp3 cmpI := by
  refine ⟨fun a b => ?_, fun {a b d} => ?_, fun {a b d} => ?_⟩ <;> unfold cmpI <;> repeat' split
  all_goals omega
theorem cmpB_tr : ∀ {a b c : List UInt8}, Lib.compareBytes a b < 0 → Lib.compareBytes b c < 0 → Lib.compareBytes a c < 0
  | [], [], c, h1, h2 => by simp [Lib.compareBytes] at h1
  | [], _ :: _, [], h1, h2 => by simp [Lib.compareBytes] at h2
  | [], _ :: _, _ :: _, h1, h2 => by simp [Lib.compareBytes]
  | _ :: _, [], c, h1, h2 => by simp [Lib.compareBytes] at h1
  | _ :: _, _ :: _, [], h1, h2 => by simp [Lib.compareBytes] at h2
  | a :: la, b :: lb, c :: lc, h1, h2 => by
    simp only [Lib.compareBytes] at h1 h2 ⊢
    rcases u8_tri a b with h | h | h
    · rcases u8_tri b c with k | k | k
      · rw [if_pos (UInt8.lt_trans h k)]; omega
      · subst k; rw [if_pos h]; omega
      · rw [if_neg (u8_asymm k), if_pos k] at h2; omega
    · subst h
      rcases u8_tri a c with k | k | k
      · rw [if_pos k]; omega
      · subst k
        rw [if_neg (by simp), if_neg (by simp)] at h1 h2 ⊢
        exact cmpB_tr h1 h2
      · rw [if_neg (u8_asymm k), if_pos k] at h2; omega
    · rw [if_neg (u8_asymm h), if_pos h] at h1; omega
theorem cmpB_3 : Cmp3 Lib.compareBytes := ⟨cmpB_neg, cmpB_tr, fun h1 h2 => by rw [cmpB_zero h1]; exact h2⟩
theorem cmpI_zero {a b : Int} (h : cmpI a b = 0) : a = b := by
  unfold cmpI at h
  repeat' split at h
  all_goals omega
theorem Cmp3.ord {α : Type} {c : α → α → Int} (h : Cmp3 c) (xs : List α) : Ord3 c xs := by
  refine ⟨fun x _ k => ?_, fun x _ y _ z _ h1 h2 => h.tr h1 h2, fun x _ y _ z _ h1 h2 h3 => ?_⟩
  · have := h.zero x; omega
  · have n1 := h.neg x y
    have n2 := h.neg y z
    by_cases h4 : c x y = 0
    · have h5 : c y x = 0 := by omega
      exact h2 (h.cg h5 h3)
    · have : c y x < 0 := by omega
      exact h2 (h.tr this h3)

/-! neighbours that the order holds for equal -/
def adjC {α : Type} (c : α → α → Int) : List α → Bool
  | x :: y :: r => decide (c x y = 0) || adjC c (y :: r)
  | _ => false
theorem adjC_end {α : Type} (c : α → α → Int) {xs : List α} {i : Int} (h1 : 1 ≤ i) (h2 : ¬ i < xs.length) : adjC c (xs.drop (i - 1).toNat) = false := by
  have : (xs.drop (i - 1).toNat).length ≤ 1 := by simp; omega
  match xs.drop (i - 1).toNat, this with
  | [], _ => rfl
  | [x], _ => rfl
theorem two_in {α : Type} {xs : List α} {i : Int} (h1 : 1 ≤ i) (h2 : i < xs.length) : ∃ x y, idx xs (i - 1) = some x ∧ idx xs i = some y ∧ x ∈ xs ∧ y ∈ xs ∧ xs.drop (i - 1).toNat = x :: y :: xs.drop (i + 1).toNat ∧ xs.drop i.toNat = y :: xs.drop (i + 1).toNat := by
  obtain ⟨x, hx, hxm, hd⟩ := idx_lt xs (i := i - 1) (by omega) (by omega)
  obtain ⟨y, hy, hym, hd'⟩ := idx_lt xs (i := i) (by omega) h2
  refine ⟨x, y, hx, hy, hxm, hym, ?_, hd'⟩
  rw [hd, show i - 1 + 1 = i by omega, hd']
theorem inddA {α : Type} [DecidableEq α] (x : α) : ∀ (p : α) (r : List α), x ∈ r → x = p ∨ x ∈ ddA eqB p r
  | _, [], h => by simp at h
  | p, y :: r, h => by
    simp only [ddA]
    by_cases hc : eqB y p = true
    · rw [if_pos hc]
      have hyp : y = p := by simpa [eqB] using hc
      rcases List.mem_cons.1 h with rfl | h
      · exact .inl hyp
      · rcases inddA x y r h with h' | h'
        · exact .inl (h'.trans hyp)
        · exact .inr h'
    · rw [if_neg hc]
      rcases List.mem_cons.1 h with rfl | h
      · exact .inr (by simp)
      · rcases inddA x y r h with h' | h'
        · exact .inr (by simp [h'])
        · exact .inr (by simp [h'])
theorem indd {α : Type} [DecidableEq α] {x : α} {xs : List α} (h : x ∈ xs) : x ∈ dd eqB xs := by
  cases xs with
  | nil => simp at h
  | cons y r =>
    simp only [dd]
    rcases List.mem_cons.1 h with rfl | h
    · simp
    · rcases inddA x y r h with h' | h'
      · simp [h']
      · simp [h']
theorem strictC {α : Type} {c : α → α → Int} (hc : Cmp3 c) : ∀ v : List α, Srt c v → adjC c v = false → v.Pairwise (fun a b => c a b < 0)
  | [], _, _ => .nil
  | [x], _, _ => by simp
  | x :: y :: r, hs, ha => by
    simp only [adjC, Bool.or_eq_false_iff, decide_eq_false_iff_not] at ha
    have hs' := List.pairwise_cons.1 hs
    have ih := strictC hc (y :: r) hs'.2 ha.2
    have hxy : c x y < 0 := by
      have h1 := hs'.1 y (by simp)
      have := hc.neg x y
      have := ha.1
      omega
    refine List.pairwise_cons.2 ⟨fun z hz => ?_, ih⟩
    rcases List.mem_cons.1 hz with rfl | hz
    · exact hxy
    · exact hc.tr hxy ((List.pairwise_cons.1 ih).1 z hz)
theorem srtdd {α : Type} [DecidableEq α] {c : α → α → Int} {xs : List α} (h : Srt c xs) : Srt c (dd eqB xs) := h.sublist (dd_sub eqB xs)
theorem confC {α : Type} [DecidableEq α] {c : α → α → Int} (hc : Cmp3 c) {xs : List α} (h : Srt c xs) {p q : α} (hp : p ∈ xs) (hq : q ∈ xs) (h0 : c p q = 0) (hne : p ≠ q) : adjC c (dd eqB xs) = true := by
  cases hb : adjC c (dd eqB xs) with
  | true => rfl
  | false =>
    have hs := strictC hc _ (srtdd h) hb
    have key : ∀ v : List α, v.Pairwise (fun a b => c a b < 0) → p ∈ v → q ∈ v → c p q < 0 ∨ c q p < 0 := by
      intro v
      induction v with
      | nil => intro _ h; simp at h
      | cons x r ih =>
        intro hv h1 h2
        have hv' := List.pairwise_cons.1 hv
        rcases List.mem_cons.1 h1 with e1 | h1
        · rcases List.mem_cons.1 h2 with e2 | h2
          · exact absurd (e1.trans e2.symm) hne
          · left; rw [e1]; exact hv'.1 q h2
        · rcases List.mem_cons.1 h2 with e2 | h2
          · right; rw [e2]; exact hv'.1 p h1
          · exact ih hv'.2 h1 h2
    have := hc.neg p q
    rcases key _ hs (indd hp) (indd hq) with h | h <;> omega
/-- What a merge of a sorted list hands back. -/
def mresC {α : Type} (c : α → α → Int) (e : Int) (v : List α) : List α × Int := if adjC c v = true then ([], e) else (v, 0)
theorem mergedC {α : Type} [DecidableEq α] {c : α → α → Int} (hc : Cmp3 c) (e : Int) {X Y : List α} (hp : X.Perm Y) (hX : Srt c X) (hY : Srt c Y) : mresC c e (dd eqB X) = mresC c e (dd eqB Y) := by
  by_cases hcf : ∃ p ∈ X, ∃ q ∈ X, c p q = 0 ∧ p ≠ q
  · obtain ⟨p, h1, q, h2, h3, h4⟩ := hcf
    unfold mresC
    rw [confC hc hX h1 h2 h3 h4, confC hc hY (hp.mem_iff.1 h1) (hp.mem_iff.1 h2) h3 h4]
    rfl
  · have : X = Y := srt_unique hp hX hY (fun a ha b hb h1 h2 => by
      have := hc.neg a b
      have h0 : c a b = 0 := by omega
      by_cases hab : a = b
      · exact hab
      · exact absurd ⟨a, ha, b, hb, h0, hab⟩ hcf)
    rw [this]
/-! checks of a list, element by element, each with the one before it -/
def prevOf {α : Type} (xs : List α) (i : Int) : Option α := if i ≤ 0 then none else idx xs (i - 1)
def scanC {α : Type} (st : Option α → α → Int) : Option α → List α → Int
  | _, [] => 0
  | p, s :: r => if st p s = 0 then scanC st (some s) r else st p s
theorem scan_iter {α : Type} (st : Option α → α → Int) (xs : List α) (f : Int → Option (Int ⊕ Int)) (hf : ∀ {i : Int} {s : α}, 0 ≤ i → i < xs.length → idx xs i = some s → f i = some (if st (prevOf xs i) s = 0 then .inl (i + 1) else .inr (st (prevOf xs i) s)))
    (he : f xs.length = some (.inr 0)) : ∀ (n : Nat) (i : Int), 0 ≤ i → i + n = xs.length → iter f i = some (scanC st (prevOf xs i) (xs.drop i.toNat))
  | 0, i, h0, hn => by
    obtain rfl : i = xs.length := by omega
    rw [iter_eq, he, List.drop_of_length_le (by omega)]; rfl
  | n + 1, i, h0, hn => by
    obtain ⟨s, hs, _, hd⟩ := idx_lt xs h0 (by omega)
    rw [iter_eq, hf h0 (by omega) hs, hd]
    simp only [Option.bind_some, scanC]
    split
    · have hp : prevOf xs (i + 1) = some s := by unfold prevOf; rw [if_neg (by omega), show i + 1 - 1 = i by omega, hs]
      have := scan_iter st xs f hf he n (i + 1) (by omega) (by omega)
      rw [after_inl, this, hp]
    · rfl
theorem scan_all {α : Type} (st : Option α → α → Int) (xs : List α) (f : Int → Option (Int ⊕ Int)) (hf : ∀ {i : Int} {s : α}, 0 ≤ i → i < xs.length → idx xs i = some s → f i = some (if st (prevOf xs i) s = 0 then .inl (i + 1) else .inr (st (prevOf xs i) s)))
    (he : f xs.length = some (.inr 0)) : iter f 0 = some (scanC st none xs) := by
  rw [scan_iter st xs f hf he xs.length 0 (by omega) (by omega)]; rfl
theorem inset {α : Type} {B : α → Prop} {xs : List α} {i : Nat} {y : α} (h : ∀ x ∈ xs, B x) (hy : B y) : ∀ x ∈ xs.set i y, B x := by
  intro x hx
  rcases List.mem_or_eq_of_mem_set hx with h1 | h1
  · exact h x h1
  · rw [h1]; exact hy
theorem len_ok {α : Type} {n : Nat} {m : Option (List α)} {Z : List α} (h : m = some Z) (hl : Z.length = n) : lenOk n (fun r : List α => r.length) m = some Z := by
  rw [h]; unfold lenOk
  simp only [Option.bind_some]
  rw [if_pos hl]
end Go.Beacon
