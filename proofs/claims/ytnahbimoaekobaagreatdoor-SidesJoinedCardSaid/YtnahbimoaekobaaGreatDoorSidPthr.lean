/- Joining two sides: the program and the reference tell the same. No program in sight. -/
import Derived.Test.YtnahbimoaekobaaGreatDoorSidPchl
set_option linter.unusedVariables false
set_option linter.unusedSimpArgs false
namespace Go.Beacon
open Go Go.Eng

/-- A loop whose state tells of what is behind. -/
theorem iter_st {α S A : Type} (xs : List α) (f : S → Option (S ⊕ A)) (r : Option A) (mk : List α → Int → S)
    (h1 : ∀ (i : Int) x, 0 ≤ i → i < xs.length → idx xs i = some x → x ∈ xs → f (mk (xs.take i.toNat) i) = some (.inl (mk (xs.take i.toNat ++ [x]) (i + 1))))
    (h2 : f (mk xs xs.length) = r.map .inr) : iter f (mk [] 0) = r := by
  have key : ∀ (k : Nat) (i : Int), 0 ≤ i → i + k = xs.length → iter f (mk (xs.take i.toNat) i) = r := by
    intro k
    induction k with
    | zero =>
      intro i h0 hi
      have hi' : i = xs.length := by omega
      subst hi'
      rw [List.take_of_length_le (by omega), iter_eq, h2, map_inr_after]
    | succ k ih =>
      intro i h0 hi
      obtain ⟨v, hv, hm, _⟩ := idx_lt xs h0 (by omega)
      obtain ⟨hn', hg'⟩ := List.getElem?_eq_some_iff.1 (idx_some hv).2.2
      have e : (i + 1).toNat = i.toNat + 1 := by omega
      have := ih (i + 1) (by omega) (by omega)
      rw [e, List.take_succ_eq_append_getElem hn', hg'] at this
      rw [iter_eq, h1 i v h0 (by omega) hv hm]
      exact this
  have := key xs.length 0 (by omega) (by omega)
  simpa using this
/-- The value of both sides at a name. -/
def vT (o a b : List PropS) (n : Str) : ValueS := if (decide (valL a n = valL o n) || decide (valL a n = valL b n)) = true then valL b n else if valL b n = valL o n then valL a n else valL o n
def clG (o a b : List PropS) (n : Str) : List Clash := if (decide (valL a n = valL o n) || decide (valL a n = valL b n)) = true then [] else if valL b n = valL o n then [] else [⟨n, valL o n, valL a n, valL b n⟩]
def prG (o a b : List PropS) (n : Str) : List PropS := if (vT o a b n).Kind ≠ 0 then [⟨n, vT o a b n⟩] else []
theorem clG_len (o a b : List PropS) (n : Str) : (clG o a b n).length ≤ 1 := by
  unfold clG
  split
  · simp
  · split <;> simp
theorem prG_len (o a b : List PropS) (n : Str) : (prG o a b n).length ≤ 1 := by unfold prG; split <;> simp
theorem Three_loop (o a b : List PropS) (ho : o.length ≤ 1000) (ha : a.length ≤ 1000) (hb : b.length ≤ 1000) (uo : SN o) (ua : SN a) (ub : SN b) (N : List Str) (hN : N.length ≤ 100000) : twin_Three_l1 o a b N [] [] 0 = twin_Three_k5 (N.flatMap (prG o a b)) (N.flatMap (clG o a b)) := by
  unfold twin_Three_l1
  refine iter_st N _ _ (fun pre i => (pre.flatMap (prG o a b), pre.flatMap (clG o a b), i)) (fun i x h0 h1 hx hm => ?_) ?_
  · have l1 := flat_len (prG o a b) (prG_len o a b) (N.take i.toNat)
    have l2 := flat_len (clG o a b) (clG_len o a b) (N.take i.toNat)
    simp only [List.length_take] at l1 l2
    simp only [List.flatMap_append, List.flatMap_cons, List.flatMap_nil, List.append_nil]
    generalize (N.take i.toNat).flatMap (prG o a b) = X at l1 ⊢
    generalize (N.take i.toNat).flatMap (clG o a b) = C at l2 ⊢
    rw [twin_Three_b1, if_pos h1, hx]
    simp only [Option.bind_some]
    rw [TvalueOf_eq o ho uo x, TvalueOf_eq a ha ua x, TvalueOf_eq b hb ub x]
    simp only [Option.bind_some]
    have j2 : ∀ (D : List Clash) (v : ValueS), v = vT o a b x → D = C ++ clG o a b x → twin_Three_j2 X i x D v.Kind v.Flag v.Number v.Words = some (.inl (X ++ prG o a b x, C ++ clG o a b x, i + 1)) := by
      intro D v hv hD
      unfold twin_Three_j2 twin_Three_j4 prG
      rw [w64_in (by omega) (by omega), ← hv, ← hD]
      by_cases hk : v.Kind ≠ 0
      · rw [if_pos hk, if_pos hk, app_le (by simp; omega)]; rfl
      · rw [if_neg hk, if_neg hk, List.append_nil]
    unfold twin_Three_j1 twin_Three_j3
    by_cases c1 : (decide (valL a x = valL o x) || decide (valL a x = valL b x)) = true
    · rw [if_pos c1]
      exact j2 C (valL b x) (by unfold vT; rw [if_pos c1]) (by unfold clG; rw [if_pos c1, List.append_nil])
    · rw [if_neg c1]
      by_cases c2 : valL b x = valL o x
      · rw [if_pos c2]
        exact j2 C (valL a x) (by unfold vT; rw [if_neg c1, if_pos c2]) (by unfold clG; rw [if_neg c1, if_pos c2, List.append_nil])
      · rw [if_neg c2, app_le (by simp; omega)]
        simp only [Option.bind_some]
        exact j2 _ (valL o x) (by unfold vT; rw [if_neg c1, if_neg c2]) (by unfold clG; rw [if_neg c1, if_neg c2])
  · simp only
    rw [twin_Three_b1, if_neg (by omega)]
theorem ThreeOf_loop (o a b : List PropS) (ho : o.length ≤ 1000) (ha : a.length ≤ 1000) (hb : b.length ≤ 1000) (N : List Str) (hN : N.length ≤ 100000) : Q_ThreeOf_l1 o a b N [] [] 0 = Q_ThreeOf_k4 (setG (fun n : Str => n) (vT o a b) [] N) (N.flatMap (clG o a b)) := by
  unfold Q_ThreeOf_l1
  refine iter_st N _ _ (fun pre i => (setG (fun n : Str => n) (vT o a b) [] pre, pre.flatMap (clG o a b), i)) (fun i x h0 h1 hx hm => ?_) ?_
  · have l2 := flat_len (clG o a b) (clG_len o a b) (N.take i.toNat)
    simp only [List.length_take] at l2
    simp only [List.flatMap_append, List.flatMap_cons, List.flatMap_nil, List.append_nil]
    rw [setG_snoc]
    generalize setG (fun n : Str => n) (vT o a b) [] (N.take i.toNat) = M
    generalize (N.take i.toNat).flatMap (clG o a b) = C at l2 ⊢
    rw [Q_ThreeOf_b1, if_pos h1, hx]
    simp only [Option.bind_some]
    rw [QValueOf_eq o ho x, QValueOf_eq a ha x, QValueOf_eq b hb x]
    simp only [Option.bind_some]
    unfold Q_ThreeOf_j1 Q_ThreeOf_j3 Q_ThreeOf_j2 vT clG
    rw [w64_in (by omega) (by omega)]
    by_cases c1 : (decide (valL a x = valL o x) || decide (valL a x = valL b x)) = true
    · rw [if_pos c1, if_pos c1, if_pos c1, List.append_nil]
    · rw [if_neg c1, if_neg c1, if_neg c1]
      by_cases c2 : valL b x = valL o x
      · rw [if_pos c2, if_pos c2, if_pos c2, List.append_nil]
      · rw [if_neg c2, if_neg c2, if_neg c2, app_le (by simp; omega)]; rfl
  · simp only
    rw [Q_ThreeOf_b1, if_neg (by omega)]
theorem pr_ofM (o a b : List PropS) : ∀ N : List Str, N.flatMap (prG o a b) = ofM (N.map fun n => (n, vT o a b n))
  | [] => rfl
  | n :: N => by
    rw [List.flatMap_cons, List.map_cons, ofM_cons, pr_ofM o a b N]
    unfold prG
    split <;> rfl
theorem ofM_SN {p : List (Str × ValueS)} (h : p.Pairwise (fun a b => Lib.compareBytes a.1 b.1 < 0)) : SN (ofM p) := by
  unfold SN ofM
  rw [List.pairwise_map]
  exact h.filter _
theorem mget_map (v : Str → ValueS) : ∀ (N : List Str) (k : Str), mget? (N.map fun n => (n, v n)) k = (gt (fun n : Str => n) N k).map v
  | [], k => rfl
  | n :: N, k => by
    rw [List.map_cons, mget_cons, gt_cons, mget_map v N k]
    split <;> rfl
theorem ss_ne {N : List Str} (h : SS N) : N.Pairwise (fun a b => a ≠ b) := SId.ne (fun n : Str => n) h
theorem flatN3 (a b c : List PropS) : (flatN [a, b, c]).length = a.length + b.length + c.length := by unfold flatN; simp; omega
theorem orL3z {x y z : Int} (h : orL [x, y, z] = 0) : x = 0 ∧ y = 0 ∧ z = 0 := by
  by_cases h1 : x = 0 <;> by_cases h2 : y = 0 <;> by_cases h3 : z = 0 <;> simp [orL, h1, h2, h3] at h ⊢
/-- Properties, short and few. -/
def PS (l : List PropS) : Prop := PB l ∧ l.length ≤ 40
theorem vT_words {o a b : List PropS} (ho : PB o) (ha : PB a) (hb : PB b) (n : Str) : (vT o a b n).Words.length ≤ 100000 := by
  have h1 := valL_words o n 100000 (fun p hp => (ho.2 p hp).2)
  have h2 := valL_words a n 100000 (fun p hp => (ha.2 p hp).2)
  have h3 := valL_words b n 100000 (fun p hp => (hb.2 p hp).2)
  unfold vT
  split
  · exact h3
  · split
    · exact h2
    · exact h1
theorem Three_eq (o a b : List PropS) (ho : PS o) (ha : PS a) (hb : PS b) {r1 r2 r3 : Int} (h1 : twin_CheckProps o = some r1) (h2 : twin_CheckProps a = some r2) (h3 : twin_CheckProps b = some r3) (q1 : r1 = 0 → SN o) (q2 : r2 = 0 → SN a) (q3 : r3 = 0 → SN b) :
    ∃ x, twin_Three o a b = some x ∧ x.1.length ≤ 1000 ∧ x.2.1.length ≤ 1000 ∧ ((orL [r1, r2, r3] ≠ 0 ∧ x = ([], [], orL [r1, r2, r3])) ∨ (orL [r1, r2, r3] = 0 ∧ Q_ThreeOf o a b = some x)) := by
  have lo := ho.2
  have la := ha.2
  have lb := hb.2
  have hf := flatN3 o a b
  have hn := nms_len [o, a, b]
  unfold twin_Three
  rw [h1, h2, h3]
  simp only [Option.bind_some]
  rw [First_eq _ (by simp)]
  simp only [Option.bind_some]
  by_cases c : orL [r1, r2, r3] ≠ 0
  · rw [if_pos c]; exact ⟨_, rfl, by simp, by simp, .inl ⟨c, rfl⟩⟩
  rw [if_neg c]
  have c' : orL [r1, r2, r3] = 0 := by simpa using c
  obtain ⟨z1, z2, z3⟩ := orL3z c'
  rw [names_eq [o, a, b] (by simp) (by omega)]
  simp only [Option.bind_some]
  have hSS := nms_SS [o, a, b]
  have hshort : ∀ n ∈ nmsL [o, a, b], n.length ≤ 100000 := by
    intro n hn
    obtain ⟨l, hl, p, hp, rfl⟩ := (nms_mem _ _).1 hn
    rcases List.mem_cons.1 hl with e | e
    · subst e; exact (ho.1.2 p hp).1
    · rcases List.mem_cons.1 e with e | e
      · subst e; exact (ha.1.2 p hp).1
      · rw [List.mem_singleton] at e; subst e; exact (hb.1.2 p hp).1
  have hQ : Q_ThreeOf o a b = Q_ThreeOf_k4 (setG (fun n : Str => n) (vT o a b) [] (nmsL [o, a, b])) ((nmsL [o, a, b]).flatMap (clG o a b)) := by
    unfold Q_ThreeOf
    rw [namesOf_eq [o, a, b] (by simp) (by omega)]
    exact ThreeOf_loop o a b (by omega) (by omega) (by omega) _ (by omega)
  rw [Three_loop o a b (by omega) (by omega) (by omega) (q1 z1) (q2 z2) (q3 z3) _ (by omega), hQ]
  generalize nmsL [o, a, b] = N at *
  have hne : (N.map fun n => (n, vT o a b n)).Pairwise (fun a b => a.1 ≠ b.1) := by
    rw [List.pairwise_map]; exact ss_ne hSS
  have hX : SN (N.flatMap (prG o a b)) := by
    rw [pr_ofM]
    exact ofM_SN (by rw [List.pairwise_map]; exact hSS)
  have lX := flat_len (prG o a b) (prG_len o a b) N
  have lC := flat_len (clG o a b) (clG_len o a b) N
  have hS : SM (setG (fun n : Str => n) (vT o a b) [] N) := setG_SM _ _ N SM.nil
  have hget : ∀ k, mget? (setG (fun n : Str => n) (vT o a b) [] N) k = (gt (fun n : Str => n) N k).map (vT o a b) := fun k => by
    rw [setG_get _ _ N [] k (ss_ne hSS)]
    cases (gt (fun n : Str => n) N k).map (vT o a b) <;> rfl
  have hMB : MB (setG (fun n : Str => n) (vT o a b) [] N) := by
    have hl := setG_len (fun n : Str => n) (vT o a b) N []
    refine ⟨by simp only [List.length_nil] at hl; omega, fun e he => ?_⟩
    have hg := (hS.get_iff (k := e.1) (v := e.2)).2 he
    rw [hget] at hg
    obtain ⟨n, g1, g2⟩ := Option.map_eq_some_iff.1 hg
    obtain ⟨g3, g4⟩ := gt_some (fun n : Str => n) g1
    have g4 : n = e.1 := g4
    rw [← g2, ← g4]
    exact ⟨hshort n g3, vT_words ho.1 ha.1 hb.1 n⟩
  obtain ⟨Z, r, y1, ⟨y2, _⟩, y3, y4, y5⟩ := fromValues_eq _ hS hMB
  have hXZ : N.flatMap (prG o a b) = Z := sn_ext hX y1 (fun k => by
    rw [y3 k, hget k, pr_ofM, ofM_gt _ k hne, mget_map])
  rw [hXZ]
  rw [hXZ] at lX
  obtain ⟨r', e1, e2, _⟩ := CheckProps_eq Z y2
  have hrr : r' = r := by rw [y4] at e2; exact (Option.some.inj e2).symm
  subst hrr
  unfold twin_Three_k5 Q_ThreeOf_k4
  rw [e1, y5]
  simp only [Option.bind_some]
  by_cases hr : r' ≠ 0
  · rw [if_pos hr, if_pos hr]
    simp only [Option.bind_some]
    rw [if_pos hr]
    exact ⟨_, rfl, by simp, by simp, .inr ⟨c', rfl⟩⟩
  · rw [if_neg hr, if_neg hr]
    simp only [Option.bind_some]
    rw [if_neg (by simp)]
    have hr' : r' = 0 := by simpa using hr
    exact ⟨_, rfl, by simp only; omega, by simp only; omega, .inr ⟨c', rfl⟩⟩
/-! making changes ends, whatever they are -/
def MS (k : Nat) (m : List (Str × ValueS)) : Prop := SM m ∧ m.length ≤ k ∧ ∀ e ∈ m, e.1.length ≤ 100000 ∧ e.2.Words.length ≤ 100000
theorem MS.set {k : Nat} {m : List (Str × ValueS)} (h : MS k m) {n : Str} {v : ValueS} (hn : n.length ≤ 100000) (hv : v.Words.length ≤ 100000) : MS (k + 1) (mset m n v) := by
  refine ⟨h.1.set n v, Nat.le_trans (mset_len m n v) (by have := h.2.1; omega), fun e he => ?_⟩
  have hp := (mins_perm n v (mdel m n)).mem_iff.1 he
  rcases List.mem_cons.1 hp with g | g
  · subst g; exact ⟨hn, hv⟩
  · exact h.2.2 e (List.mem_filter.1 g).1
theorem setG_ms {α : Type} (key : α → Str) (val : α → ValueS) : ∀ (xs : List α) (k : Nat) (m : List (Str × ValueS)), MS k m → (∀ x ∈ xs, (key x).length ≤ 100000 ∧ (val x).Words.length ≤ 100000) → MS (k + xs.length) (setG key val m xs)
  | [], k, m, h, _ => h
  | x :: xs, k, m, h, hx => by
    have := setG_ms key val xs (k + 1) _ (h.set (hx x (by simp)).1 (hx x (by simp)).2) (fun y hy => hx y (by simp [hy]))
    rw [setG_cons, List.length_cons, show k + (xs.length + 1) = k + 1 + xs.length by omega]
    exact this
theorem ApplyOf_ok (o : List PropS) (c : List Change) (ho : PF 6 o) (hc : CF c) : Ok (Q_ApplyOf o c) (fun x => PS x.1) := by
  have lo := ho.1
  have lc := hc.1
  unfold Q_ApplyOf
  rw [ApplyOf_l1 o c (by omega)]
  have h0 : MS 6 (setG PropS.Name PropS.Value [] o) := by
    have := setG_ms PropS.Name PropS.Value o 0 [] ⟨SM.nil, by simp, fun e he => by cases he⟩ (fun x hx => by have := ho.2 x hx; omega)
    exact ⟨this.1, by have := this.2.1; omega, this.2.2⟩
  generalize setG PropS.Name PropS.Value [] o = m0 at h0
  unfold Q_ApplyOf_l2
  refine Ok.iter (fun x : List (Str × ValueS) × Int => (c.length - x.2).toNat) (fun x : List (Str × ValueS) × Int => 0 ≤ x.2 ∧ x.2 ≤ c.length ∧ MS (6 + x.2.toNat) x.1) ?_ _ ⟨by simp, by simp, by simpa using h0⟩
  rintro ⟨X, n⟩ ⟨g0, g1, g2⟩
  simp only at g0 g1 g2 ⊢
  unfold Q_ApplyOf_b2
  split
  · rename_i hn
    refine Ok.idx g0 hn (fun v hv hm => ?_)
    have hv' := hc.2 v hm
    simp only [mgetO, Option.bind_some]
    split
    · exact Ok.ret ⟨⟨by simp, fun p hp => by cases hp⟩, by simp⟩
    · refine Ok.ret ?_
      rw [w64_in (by omega) (by omega)]
      have := g2.set (n := v.Name) (v := v.To) (by omega) (by omega)
      refine ⟨⟨by simp only; omega, by simp only; omega, ?_⟩, by simp only; omega⟩
      simp only
      rw [show (n + 1).toNat = n.toNat + 1 by omega]
      exact this
  · obtain ⟨Z, r, z1, ⟨z2, z3⟩, _, _, z5⟩ := fromValues_eq X g2.1 ⟨by have := g2.2.1; omega, g2.2.2⟩
    refine Ok.inr ?_
    unfold Q_ApplyOf_k1
    rw [z5]
    have := g2.2.1
    split
    · exact Ok.ret ⟨⟨by simp, fun p hp => by cases hp⟩, by simp⟩
    · exact Ok.ret ⟨z2, by simp only; omega⟩
end Go.Beacon
