/- Plain facts of sorting, compacting, deleting and joining lists of anything. No program in sight. -/
import Derived.Test.YtmlgacejioccmaaGreatDoorPgen
set_option linter.unusedVariables false
set_option linter.unusedSimpArgs false
namespace Go.Beacon
open Go Go.Eng

/-- An order: less, as a comparison tells. -/
structure Ord3 {α : Type} (cf : α → α → Int) (xs : List α) : Prop where
  irr : ∀ x ∈ xs, ¬ cf x x < 0
  tr : ∀ x ∈ xs, ∀ y ∈ xs, ∀ z ∈ xs, cf x y < 0 → cf y z < 0 → cf x z < 0
  ntr : ∀ x ∈ xs, ∀ y ∈ xs, ∀ z ∈ xs, ¬ cf x y < 0 → ¬ cf y z < 0 → ¬ cf x z < 0
def Srt {α : Type} (cf : α → α → Int) (xs : List α) : Prop := xs.Pairwise (fun a b => ¬ cf b a < 0)
theorem Ord3.mono {α : Type} {cf : α → α → Int} {xs ys : List α} (h : Ord3 cf xs) (hs : ∀ y ∈ ys, y ∈ xs) : Ord3 cf ys :=
  ⟨fun x hx => h.irr x (hs x hx), fun x hx y hy z hz => h.tr x (hs x hx) y (hs y hy) z (hs z hz), fun x hx y hy z hz => h.ntr x (hs x hx) y (hs y hy) z (hs z hz)⟩

/-! insertion -/
def gIns_j1 {α : Type} (n4 : Int) (l7 : List α) (n8 : Int) (c9 : Bool) : Option (((List α) × Int) ⊕ (((List α) × Int) ⊕ (List α))) :=
  if c9 = true then
    (idx l7 (w64 (n8 - (1 : Int)))).bind fun v13 =>
    (idx l7 n8).bind fun v14 =>
    (idx l7 n8).bind fun v15 =>
    (idx (l7.set n8.toNat v13) (w64 (n8 - (1 : Int)))).bind fun v16 =>
    some (.inl ((l7.set n8.toNat v13).set (w64 (n8 - (1 : Int))).toNat v14, w64 (n8 - (1 : Int))))
  else
    Option.map .inr (some (.inl (l7, w64 (n4 + (1 : Int)))))
def gIns_b2 {α : Type} (p1x0 : Int) (fnd : α → α → Option Int) (n4 : Int) (l7 : List α) (n8 : Int) : Option (((List α) × Int) ⊕ (((List α) × Int) ⊕ (List α))) :=
  if p1x0 < n8 then
    (idx l7 n8).bind fun v10 =>
    (idx l7 (w64 (n8 - (1 : Int)))).bind fun v11 =>
    (fnd v10 v11).bind fun v12 =>
    gIns_j1 n4 l7 n8 (decide (v12 < (0 : Int)))
  else
    gIns_j1 n4 l7 n8 false
noncomputable def gIns_l2 {α : Type} (p1x0 : Int) (fnd : α → α → Option Int) (n4 : Int) (l7 : List α) (n8 : Int) : Option (((List α) × Int) ⊕ (List α)) :=
  iter (fun x : (List α) × Int => gIns_b2 p1x0 fnd n4 x.1 x.2) (l7, n8)
noncomputable def gIns_b1 {α : Type} (p1x0 : Int) (p2x0 : Int) (fnd : α → α → Option Int) (l3 : List α) (n4 : Int) : Option (((List α) × Int) ⊕ (List α)) :=
  if n4 < p2x0 then
    gIns_l2 p1x0 fnd n4 l3 n4
  else
    Option.map .inr (some l3)
noncomputable def gIns_l1 {α : Type} (p1x0 : Int) (p2x0 : Int) (fnd : α → α → Option Int) (l3 : List α) (n4 : Int) : Option (List α) :=
  iter (fun x : (List α) × Int => gIns_b1 p1x0 p2x0 fnd x.1 x.2) (l3, n4)
noncomputable def gIns {α : Type} (p0x0 : List α) (p1x0 : Int) (p2x0 : Int) (fnd : α → α → Option Int) : Option (List α) :=
  gIns_l1 p1x0 p2x0 fnd p0x0 (w64 (p1x0 + (1 : Int)))
theorem set_swap {α : Type} (P : List α) (x y : α) (T : List α) : ((P ++ y :: x :: T).set (P.length + 1) y).set P.length x = P ++ x :: y :: T := by
  induction P with
  | nil => rfl
  | cons p P ih => simp only [List.cons_append, List.length_cons, List.set_cons_succ, ih]
theorem idx_app {α : Type} (P : List α) (x : α) (T : List α) {i : Int} (hi : i = P.length) : idx (P ++ x :: T) i = some x := by
  subst hi
  unfold idx
  rw [if_pos (by omega)]
  simp
theorem ins_inner {α : Type} (fnd : α → α → Option Int) (cf : α → α → Int) (n4 : Int) (hn : n4 ≤ 1000000) (x : α) : ∀ (k : Nat) (P R post : List α), P.length = k → (P.length : Int) ≤ 1000000 →
    (∀ y ∈ P, fnd x y = some (cf x y)) → Ord3 cf (x :: (P ++ R)) → Srt cf (P ++ R) → (∀ r ∈ R, cf x r < 0) →
    ∃ Z, gIns_l2 0 fnd n4 (P ++ x :: (R ++ post)) P.length = some (.inl (Z ++ post, w64 (n4 + 1))) ∧ Z.Perm (x :: (P ++ R)) ∧ Srt cf Z := by
  intro k
  induction k with
  | zero =>
    intro P R post hP hl hf hO hs hR
    obtain rfl : P = [] := List.eq_nil_of_length_eq_zero hP
    refine ⟨x :: R, ?_, by simp, ?_⟩
    · unfold gIns_l2
      rw [iter_eq, gIns_b2, if_neg (by simp), gIns_j1, if_neg (by simp), map_inr_after]; simp
    · refine List.pairwise_cons.2 ⟨fun r hr hlt => ?_, by simpa [Srt] using hs⟩
      have h1 := hR r hr
      exact hO.irr x (by simp) (hO.tr x (by simp) r (by simp [hr]) x (by simp) h1 hlt)
  | succ k ih =>
    intro P R post hP hl hf hO hs hR
    obtain ⟨Q, y, rfl⟩ : ∃ Q y, P = Q ++ [y] := by
      rcases List.eq_nil_or_concat P with h | ⟨Q, y, h⟩
      · rw [h] at hP; simp at hP
      · exact ⟨Q, y, by simpa using h⟩
    have hQ : Q.length = k := by simpa using hP
    have hlen : ((Q ++ [y]).length : Int) = Q.length + 1 := by simp
    have hlq : (Q.length : Int) + 1 ≤ 1000000 := by rw [← hlen]; exact hl
    have w1 : w64 ((Q.length : Int) + 1 - 1) = Q.length := by rw [w64_in] <;> omega
    have e1 : (Q ++ [y]) ++ x :: (R ++ post) = Q ++ y :: x :: (R ++ post) := by simp
    have i1 : idx (Q ++ y :: x :: (R ++ post)) ((Q.length : Int) + 1) = some x := by
      have := idx_app (Q ++ [y]) x (R ++ post) (i := (Q.length : Int) + 1) (by simp)
      simpa using this
    have i0 : idx (Q ++ y :: x :: (R ++ post)) (Q.length : Int) = some y := idx_app Q y _ rfl
    rw [e1, hlen]
    by_cases hc : cf x y < 0
    · obtain ⟨Z, z1, z2, z3⟩ := ih Q (y :: R) post hQ (by omega) (fun z hz => hf z (by simp [hz])) (hO.mono (fun z hz => by simp at hz ⊢; rcases hz with h | h | h | h <;> simp [h])) (by simpa using hs) (fun r hr => by rcases List.mem_cons.1 hr with rfl | hr; exact hc; exact hR r hr)
      refine ⟨Z, ?_, z2.trans (by simp), z3⟩
      unfold gIns_l2 at z1 ⊢
      rw [iter_eq, gIns_b2, if_pos (by simp only; omega)]
      simp only [i1, w1, i0, Option.bind_some, hf y (by simp), hc, decide_true]
      unfold gIns_j1
      rw [if_pos rfl, w1]
      simp only [i0, i1, Option.bind_some]
      have i2 : idx ((Q ++ y :: x :: (R ++ post)).set ((Q.length : Int) + 1).toNat y) (Q.length : Int) = some y := by
        rw [show ((Q.length : Int) + 1).toNat = Q.length + 1 by omega]
        unfold idx
        rw [if_pos (by omega), List.getElem?_set_ne (by simp)]
        simp
      rw [i2]
      simp only [Option.bind_some, after_inl]
      have e2 : ((Q ++ y :: x :: (R ++ post)).set ((Q.length : Int) + 1).toNat y).set ((Q.length : Int)).toNat x = Q ++ x :: (y :: R ++ post) := by
        rw [show ((Q.length : Int) + 1).toNat = Q.length + 1 by omega, show ((Q.length : Int)).toNat = Q.length by omega, set_swap]; simp
      rw [e2]
      exact z1
    · refine ⟨Q ++ y :: x :: R, ?_, ?_, ?_⟩
      · unfold gIns_l2
        rw [iter_eq, gIns_b2, if_pos (by simp only; omega)]
        simp only [i1, w1, i0, Option.bind_some, hf y (by simp), hc, decide_false]
        unfold gIns_j1
        rw [if_neg (by simp), map_inr_after]; simp
      · have : (Q ++ y :: x :: R).Perm (x :: (Q ++ y :: R)) := by
          have h := List.perm_middle (a := x) (l₁ := Q ++ [y]) (l₂ := R)
          simpa using h
        simpa using this
      · unfold Srt at hs ⊢
        have hs' : (Q ++ y :: R).Pairwise (fun a b => ¬ cf b a < 0) := by simpa using hs
        rw [List.pairwise_append, List.pairwise_cons] at hs' ⊢
        obtain ⟨a1, ⟨a2, a3⟩, a4⟩ := hs'
        have hxQ : ∀ q ∈ Q, ¬ cf x q < 0 := fun q hq => hO.ntr x (by simp) y (by simp) q (by simp [hq]) hc (a4 q hq y (by simp))
        refine ⟨a1, ⟨fun z hz => ?_, List.pairwise_cons.2 ⟨fun r hr hlt => ?_, a3⟩⟩, fun q hq z hz => ?_⟩
        · rcases List.mem_cons.1 hz with rfl | hz
          · exact hc
          · exact a2 z hz
        · exact hO.irr x (by simp) (hO.tr x (by simp) r (by simp [hr]) x (by simp) (hR r hr) hlt)
        · rcases List.mem_cons.1 hz with rfl | hz
          · exact a4 q hq z (by simp)
          · rcases List.mem_cons.1 hz with rfl | hz
            · exact hxQ q hq
            · exact a4 q hq z (by simp [hz])
theorem ins_outer {α : Type} (fnd : α → α → Option Int) (cf : α → α → Int) (xs : List α) (hl : (xs.length : Int) ≤ 100000) (hf : ∀ x ∈ xs, ∀ y ∈ xs, fnd x y = some (cf x y)) (hO : Ord3 cf xs) : ∀ (n : Nat) (P post : List α) (i : Int), i = P.length → post.length = n → (P ++ post).Perm xs → Srt cf P →
    ∃ Z, gIns_l1 0 xs.length fnd (P ++ post) i = some Z ∧ Z.Perm xs ∧ Srt cf Z := by
  intro n
  induction n with
  | zero =>
    intro P post i hi hn hp hs
    obtain rfl : post = [] := List.eq_nil_of_length_eq_zero hn
    have hlen := hp.length_eq
    simp only [List.append_nil] at hp hlen ⊢
    refine ⟨P, ?_, hp, hs⟩
    unfold gIns_l1
    rw [iter_eq, gIns_b1, if_neg (by simp only; omega), map_inr_after]
  | succ n ih =>
    intro P post i hi hn hp hs
    match post, hn with
    | x :: r, hn =>
      have hlen := hp.length_eq
      simp only [List.length_append, List.length_cons] at hlen
      have hmem : ∀ z ∈ P ++ x :: r, z ∈ xs := fun z hz => hp.mem_iff.1 hz
      obtain ⟨Z, z1, z2, z3⟩ := ins_inner fnd cf i (by omega) x P.length P [] r rfl (by omega) (fun y hy => hf x (hmem x (by simp)) y (hmem y (by simp [hy]))) (hO.mono (fun z hz => hmem z (by simp at hz ⊢; rcases hz with h | h <;> simp [h]))) (by simpa using hs) (by simp)
      simp only [List.append_nil, List.nil_append] at z1 z2
      have hzl := z2.length_eq
      obtain ⟨Y, y1, y2, y3⟩ := ih Z r (i + 1) (by rw [hi]; simp at hzl; omega) (by simpa using hn) (by
        refine List.Perm.trans ?_ hp
        have : (Z ++ r).Perm ((x :: P) ++ r) := z2.append_right r
        refine this.trans ?_
        have h := List.perm_middle (a := x) (l₁ := P) (l₂ := r)
        simpa using h.symm) z3
      refine ⟨Y, ?_, y2, y3⟩
      unfold gIns_l1 at y1 ⊢
      rw [iter_eq, gIns_b1, if_pos (by simp only; omega)]
      simp only
      rw [← hi] at z1
      rw [z1]
      simp only [Option.bind_some, after_inl]
      rw [w64_in (by omega) (by omega)]
      exact y1
theorem gIns_eq {α : Type} (fnd : α → α → Option Int) (cf : α → α → Int) (xs : List α) (hl : (xs.length : Int) ≤ 100000) (hf : ∀ x ∈ xs, ∀ y ∈ xs, fnd x y = some (cf x y)) (hO : Ord3 cf xs) : ∃ Z, gIns xs 0 xs.length fnd = some Z ∧ Z.Perm xs ∧ Srt cf Z := by
  unfold gIns
  rw [show w64 (0 + 1) = 1 by decide]
  cases xs with
  | nil =>
    refine ⟨[], ?_, List.Perm.refl _, .nil⟩
    unfold gIns_l1
    rw [iter_eq, gIns_b1, if_neg (by simp), map_inr_after]
  | cons x r =>
    exact ins_outer fnd cf (x :: r) hl hf hO r.length [x] r 1 (by simp) rfl (List.Perm.refl _) (by simp [Srt])

/-! Go's own sort -/
theorem swo_of {α : Type} {f : α → α → Option Int} {cf : α → α → Int} {x : α} {r : List α} (hf : ∀ a ∈ x :: r, ∀ b ∈ x :: r, f a b = some (cf a b)) (hO : Ord3 cf (x :: r)) : Sort.SWO (Go.Proofs.ltOf (ordx f x r)) := by
  have e : ∀ i j, ordx f x r i j = cf (elx x r i) (elx x r j) := fun i j => by unfold ordx; rw [hf _ (elx_mem x r i) _ (elx_mem x r j)]; rfl
  refine ⟨fun i => ?_, fun i j k h1 h2 => ?_, fun i j k h1 h2 => ?_⟩
  · unfold Go.Proofs.ltOf; rw [e]; simpa using hO.irr _ (elx_mem x r i)
  · unfold Go.Proofs.ltOf at *; rw [e] at *
    simp only [decide_eq_true_eq] at *
    exact hO.tr _ (elx_mem x r i) _ (elx_mem x r j) _ (elx_mem x r k) h1 h2
  · unfold Go.Proofs.ltOf at *; rw [e] at *
    simp only [decide_eq_false_iff_not] at *
    exact hO.ntr _ (elx_mem x r i) _ (elx_mem x r j) _ (elx_mem x r k) h1 h2
theorem range_map {α : Type} (x : α) (r : List α) : (List.range (r.length + 1)).map (elx x r) = x :: r := by
  apply List.ext_getElem?
  intro i
  rw [List.getElem?_map]
  by_cases hi : i < r.length + 1
  · rw [List.getElem?_range hi, Option.map_some]
    unfold elx
    rw [List.getD_eq_getElem?_getD, List.getElem?_eq_getElem (l := x :: r) (by simpa using hi)]; rfl
  · rw [List.getElem?_eq_none (by simp; omega), List.getElem?_eq_none (by simp; omega)]; rfl
theorem sortO_eq {α : Type} (f : α → α → Option Int) (cf : α → α → Int) (xs : List α) (hl : xs.length ≤ 100000) (hf : ∀ a ∈ xs, ∀ b ∈ xs, f a b = some (cf a b)) (hO : Ord3 cf xs) : ∃ Z, sortO f xs = some Z ∧ Z.Perm xs ∧ Srt cf Z := by
  cases xs with
  | nil => exact ⟨[], rfl, List.Perm.refl _, .nil⟩
  | cons x r =>
    have hS := swo_of hf hO
    have hlen : r.length + 1 ≤ 100000 := by simpa using hl
    rw [sortO_cons, if_pos ⟨by omega, fun a ha b hb => ⟨_, hf a ha b hb⟩, hS⟩]
    have hps := Sort.pdq_sorts (Go.Proofs.ltOf (ordx f x r)) hS (Array.range (r.length + 1)) 0 (r.length + 1) (Lib.bitLen (r.length + 1)) true true (Nat.zero_le _) (by simp) (Or.inl rfl)
    generalize Sort.pdq (Go.Proofs.ltOf (ordx f x r)) (Array.range (r.length + 1)) 0 (r.length + 1) (Lib.bitLen (r.length + 1)) true true = d at hps
    obtain ⟨⟨h1, _, h3⟩, h4⟩ := hps
    have hd : d.size = r.length + 1 := by simpa using h1
    have hperm : d.toList.Perm (List.range (r.length + 1)) := by
      have a1 : (d.extract 0 (r.length + 1)).toList = d.toList := by
        rw [Array.toList_extract]
        simp [List.extract]
        exact List.take_of_length_le (by simp [hd])
      have a2 : ((Array.range (r.length + 1)).extract 0 (r.length + 1)).toList = List.range (r.length + 1) := by
        rw [Array.toList_extract]
        simp [List.extract]
      rw [a1, a2] at h3
      exact h3
    refine ⟨_, rfl, ?_, ?_⟩
    · have := hperm.map (elx x r)
      rw [range_map] at this
      exact this
    · unfold Srt
      rw [List.pairwise_map, List.pairwise_iff_getElem]
      intro i j hi hj hij
      have hi' : i < d.size := by simpa using hi
      have hj' : j < d.size := by simpa using hj
      have h := h4 i j (Nat.zero_le _) hij (by omega)
      unfold Go.Proofs.ltOf ordx at h
      rw [hf _ (elx_mem x r _) _ (elx_mem x r _)] at h
      simp only [Option.getD_some, decide_eq_false_iff_not] at h
      rw [getElem!_pos d i hi', getElem!_pos d j hj'] at h
      simpa using h
/-- Where equals are one, there is one sorted list. -/
theorem srt_unique {α : Type} {cf : α → α → Int} : ∀ {X Y : List α}, X.Perm Y → Srt cf X → Srt cf Y → (∀ a ∈ X, ∀ b ∈ X, ¬ cf a b < 0 → ¬ cf b a < 0 → a = b) → X = Y
  | [], Y, hp, _, _, _ => by rw [List.nil_perm.1 hp]
  | x :: X, [], hp, _, _, _ => by have := hp.length_eq; simp at this
  | x :: X, y :: Y, hp, hX, hY, ha => by
    have hxy : x = y := by
      have hx : x ∈ y :: Y := hp.mem_iff.1 (by simp)
      have hy : y ∈ x :: X := hp.mem_iff.2 (by simp)
      rcases List.mem_cons.1 hx with h | h
      · exact h
      · rcases List.mem_cons.1 hy with h' | h'
        · exact h'.symm
        · exact ha x (by simp) y (by simp [h']) ((List.pairwise_cons.1 hY).1 x h) ((List.pairwise_cons.1 hX).1 y h')
    subst hxy
    rw [srt_unique (List.Perm.cons_inv hp) (List.pairwise_cons.1 hX).2 (List.pairwise_cons.1 hY).2 (fun a h b h' => ha a (by simp [h]) b (by simp [h']))]
end Go.Beacon
