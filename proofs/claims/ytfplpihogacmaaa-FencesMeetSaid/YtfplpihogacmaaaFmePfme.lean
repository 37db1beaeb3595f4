/- The law FencesMeet as a plain statement. No program in sight. -/
import Derived.Test.YtfplpihogacmaaaFmePfng
import Derived.Test.YtfplpihogacmaaaFmePhul
import Derived.Test.YtfplpihogacmaaaPmrg
set_option linter.unusedVariables false
set_option linter.unusedSimpArgs false
namespace Go.Beacon
open Go Go.Eng

/-! the order of spots -/
def spC (a b : Spot) : Int := if cmpI a.X b.X ≠ 0 then cmpI a.X b.X else cmpI a.Y b.Y
theorem spC_3 : Cmp3 spC := (cmpI_3.on Spot.X).lex (cmpI_3.on Spot.Y)
theorem bySpot_eq (a b : Spot) : place_bySpot a b = some (spC a b) := by
  unfold place_bySpot
  rw [CompareI_eq, CompareI_eq]
  have h : cmp_Or_int [cmpI a.X b.X, cmpI a.Y b.Y] = some (orL [cmpI a.X b.X, cmpI a.Y b.Y]) := gOr_eq _ (by simp)
  rw [h, orL2]; rfl
theorem sign_cmp {a b : Int} (ha : -10000 ≤ a ∧ a ≤ 10000) (hb : -10000 ≤ b ∧ b ≤ 10000) : Q_sign (w64 (a - b)) = cmpI a b := by
  rw [sub_w ha hb]
  unfold Q_sign cmpI
  repeat' split
  all_goals omega
theorem spotOrder_eq {a b : Spot} (ha : SB a) (hb : SB b) : Q_spotOrder a b = spC a b := by
  unfold Q_spotOrder spC
  rw [sign_cmp ha.1 hb.1, sign_cmp ha.2 hb.2]
  by_cases h : a.X = b.X
  · rw [if_neg (by simpa using h), if_neg]
    unfold cmpI; rw [h]; simp
  · rw [if_pos h, if_pos]
    unfold cmpI
    repeat' split
    all_goals omega
theorem spC_lx {a b : Spot} : spC a b < 0 ↔ Ahd lxp a b := by
  unfold spC Ahd lxp cmpI
  repeat' split
  all_goals omega
theorem spC_one {a b : Spot} (h1 : ¬ spC a b < 0) (h2 : ¬ spC b a < 0) : a = b := by
  rw [spC_lx] at h1 h2
  rcases Ahd.tri lxp_cone a b with h | h | h
  · exact h
  · exact (h1 h).elim
  · exact (h2 h).elim
def ZSp : Spot := ⟨0, 0⟩
theorem ddA_lt : ∀ (xs : List Spot) (p : Spot), (∀ x ∈ xs, ¬ spC x p < 0) → Srt spC xs → (∀ x ∈ ddA eqB p xs, Ahd lxp p x) ∧ (ddA eqB p xs).Pairwise (Ahd lxp)
  | [], p, _, _ => ⟨fun x hx => by simp [ddA] at hx, by simp [ddA]⟩
  | y :: r, p, h1, h2 => by
    have h2' := List.pairwise_cons.1 h2
    obtain ⟨g1, g2⟩ := ddA_lt r y h2'.1 h2'.2
    have hy := h1 y (by simp)
    unfold ddA
    by_cases he : eqB y p = true
    · rw [if_pos he]
      have : y = p := by unfold eqB at he; simpa using he
      subst this
      exact ⟨g1, g2⟩
    · rw [if_neg he]
      have hne : y ≠ p := by unfold eqB at he; simpa using he
      have hpy : Ahd lxp p y := by
        rw [spC_lx] at hy
        rcases Ahd.tri lxp_cone p y with h | h | h
        · exact absurd h.symm hne
        · exact h
        · exact (hy h).elim
      refine ⟨fun x hx => ?_, List.pairwise_cons.2 ⟨g1, g2⟩⟩
      rcases List.mem_cons.1 hx with rfl | hx
      · exact hpy
      · exact hpy.trans lxp_cone (g1 x hx)
theorem dd_lt {xs : List Spot} (h : Srt spC xs) : (dd eqB xs).Pairwise (Ahd lxp) := by
  cases xs with
  | nil => exact List.Pairwise.nil
  | cons x r =>
    have h' := List.pairwise_cons.1 h
    obtain ⟨g1, g2⟩ := ddA_lt r x h'.1 h'.2
    exact List.pairwise_cons.2 ⟨g1, g2⟩
/-! half -/
theorem popS_ne : ∀ (r : List Spot) (a s : Spot), ∃ t r', popS (a :: r) s = t :: r' ∧ r'.length ≤ r.length ∧ ∀ x ∈ t :: r', x ∈ a :: r
  | [], a, s => ⟨a, [], rfl, by simp, fun x hx => hx⟩
  | b :: r, a, s => by
    unfold popS
    split
    · obtain ⟨t, r', h1, h2, h3⟩ := popS_ne r b s
      exact ⟨t, r', h1, by simp; omega, fun x hx => List.mem_cons_of_mem _ (h3 x hx)⟩
    · exact ⟨a, b :: r, rfl, by simp, fun x hx => hx⟩
theorem popS_len (st : List Spot) (s : Spot) : (popS st s).length ≤ st.length ∧ ∀ x ∈ popS st s, x ∈ st := by
  cases st with
  | nil => exact ⟨by simp [popS], fun x hx => hx⟩
  | cons a r =>
    obtain ⟨t, r', h1, h2, h3⟩ := popS_ne r a s
    rw [h1]; exact ⟨by simp; omega, h3⟩
theorem rev_idx (st : List Spot) {k : Nat} (hk : k < st.length) (hl : st.length ≤ 100000) : idx st.reverse (w64 ((st.reverse.length : Int) - ((k : Int) + 1))) = some st[k] := by
  rw [w64_in (by simp; omega) (by simp; omega)]
  unfold idx
  rw [if_pos (by simp; omega)]
  rw [show ((st.reverse.length : Int) - ((k : Int) + 1)).toNat = st.length - 1 - k by simp; omega]
  rw [List.getElem?_reverse (by omega), show st.length - 1 - (st.length - 1 - k) = k by omega, List.getElem?_eq_getElem hk]
theorem half_inner {n6 : Int} {s : Spot} (hs : SB s) : ∀ (st : List Spot), (∀ x ∈ st, SB x) → st.length ≤ 5000 → place_half_l2 n6 s st.reverse (st.reverse.length : Int) = place_half_k2 n6 s (popS st s).reverse
  | [], _, _ => by
    unfold place_half_l2
    rw [iter_eq, place_half_b2, if_neg (by simp), place_half_j1, if_neg (by simp), map_inr_after]
    rfl
  | [a], _, _ => by
    unfold place_half_l2
    rw [iter_eq, place_half_b2, if_neg (by simp), place_half_j1, if_neg (by simp), map_inr_after]
    rfl
  | a :: b :: r, hB, hl => by
    have i0 := rev_idx (a :: b :: r) (k := 1) (by simp) (by omega)
    have i1 := rev_idx (a :: b :: r) (k := 0) (by simp) (by omega)
    simp only [List.getElem_cons_succ, List.getElem_cons_zero] at i0 i1
    rw [show ((1 : Nat) : Int) + 1 = 2 from rfl] at i0
    rw [show ((0 : Nat) : Int) + 1 = 1 from rfl] at i1
    unfold place_half_l2
    rw [iter_eq, place_half_b2, if_pos (by simp only [List.length_reverse, List.length_cons]; omega)]
    simp only
    rw [i0, i1]
    simp only [Option.bind_some]
    rw [side_eq (hB b (by simp)) (hB a (by simp)) hs, crs_sd]
    unfold place_half_j1 popS
    by_cases h : crs b a s ≤ 0
    · rw [if_pos h, if_pos (by simpa using h)]
      have w1 : w64 (((a :: b :: r).reverse.length : Int) - 1) = ((b :: r).reverse.length : Int) := by rw [w64_in] <;> (simp at hl ⊢; omega)
      rw [w1, slc_in (by omega) (by omega) (by simp only [List.length_reverse, List.length_cons]; omega)]
      have e : ((a :: b :: r).reverse.drop (0 : Int).toNat).take (((b :: r).reverse.length : Int).toNat - (0 : Int).toNat) = (b :: r).reverse := by
        rw [List.reverse_cons (a := a)]
        simp only [Int.toNat_zero, List.drop_zero, Nat.sub_zero, Int.toNat_natCast]
        rw [List.take_left']
        rfl
      rw [e]
      simp only [Option.bind_some, after_inl]
      exact half_inner hs (b :: r) (fun x hx => hB x (List.mem_cons_of_mem _ hx)) (by simp at hl ⊢; omega)
    · rw [if_neg h, if_neg (by simpa using h), map_inr_after]
theorem half_loop {xs : List Spot} (hB : ∀ x ∈ xs, SB x) (hl : xs.length ≤ 2000) : ∀ (m i : Nat) (st : List Spot), i + m = xs.length → (∀ x ∈ st, SB x) → st.length ≤ i → place_half_l1 xs st.reverse i = some (halfS st (xs.drop i)).reverse := by
  intro m
  induction m with
  | zero =>
    intro i st hi hs hn
    unfold place_half_l1
    rw [iter_eq, place_half_b1, if_neg (by simp only; omega), map_inr_after, List.drop_of_length_le (by omega)]
    rfl
  | succ m ih =>
    intro i st hi hs hn
    obtain ⟨x, hx, hxm, hd⟩ := idx_lt xs (i := (i : Int)) (by omega) (by omega)
    have w1 : w64 ((i : Int) + 1) = ((i + 1 : Nat) : Int) := by rw [w64_in] <;> omega
    rw [show ((i : Int)).toNat = i by omega, show ((i : Int) + 1).toNat = i + 1 by omega] at hd
    obtain ⟨p1, p2⟩ := popS_len st x
    unfold place_half_l1 at ih ⊢
    rw [iter_eq, place_half_b1, if_pos (by simp only; omega)]
    simp only [hx, Option.bind_some]
    rw [half_inner (hB x hxm) st hs (by omega)]
    unfold place_half_k2
    rw [app_le (by simp; omega)]
    simp only [Option.bind_some, after_inl, w1]
    have e : (popS st x).reverse ++ [x] = (x :: popS st x).reverse := by simp
    rw [e, ih (i + 1) (x :: popS st x) (by omega) (fun y hy => by
      rcases List.mem_cons.1 hy with rfl | hy
      · exact hB _ hxm
      · exact hs y (p2 y hy)) (by simp; omega), hd]
    rfl
theorem half_eq {xs : List Spot} (hB : ∀ x ∈ xs, SB x) (hl : xs.length ≤ 2000) : place_half xs = some (halfS [] xs).reverse := by
  unfold place_half
  have := half_loop hB hl xs.length 0 [] (by omega) (by simp) (by simp)
  simpa using this
/-! turning a list round -/
theorem rev_loop (xs : List Spot) (hl : xs.length ≤ 100000) : ∀ (m i j : Nat) (l : List Spot), i + j + 1 = xs.length → j ≤ i + m → l.length = xs.length → (∀ k, l[k]? = if k < i ∨ j < k then xs.reverse[k]? else xs[k]?) → slices_Reverse_Spot_Spot_l1 l i j = some xs.reverse := by
  have fin : ∀ (i j : Nat) (l : List Spot), i + j + 1 = xs.length → ¬ i < j → l.length = xs.length → (∀ k, l[k]? = if k < i ∨ j < k then xs.reverse[k]? else xs[k]?) → l = xs.reverse := by
    intro i j l hij hlt hll hk
    apply List.ext_getElem?
    intro k
    rw [hk k]
    split
    · rfl
    · rename_i h
      have hkk : k < xs.length := by omega
      rw [List.getElem?_reverse hkk, show xs.length - 1 - k = k by omega]
  intro m
  induction m with
  | zero =>
    intro i j l hij hm hll hk
    unfold slices_Reverse_Spot_Spot_l1
    rw [iter_eq, slices_Reverse_Spot_Spot_b1, if_neg (by simp only; omega), map_inr_after, fin i j l hij (by omega) hll hk]
  | succ m ih =>
    intro i j l hij hm hll hk
    unfold slices_Reverse_Spot_Spot_l1 at ih ⊢
    by_cases h : i < j
    · obtain ⟨x, hx, _, _⟩ := idx_lt l (i := (i : Int)) (by omega) (by omega)
      obtain ⟨y, hy, _, _⟩ := idx_lt l (i := (j : Int)) (by omega) (by omega)
      have hx' := (idx_some hx).2.2
      have hy' := (idx_some hy).2.2
      rw [show ((i : Int)).toNat = i by omega] at hx'
      rw [show ((j : Int)).toNat = j by omega] at hy'
      have hz : idx (l.set i y) (j : Int) = some y := by
        unfold idx; rw [if_pos (by omega), show ((j : Int)).toNat = j by omega, List.getElem?_set_ne (by omega)]; exact hy'
      have w1 : w64 ((i : Int) + 1) = ((i + 1 : Nat) : Int) := by rw [w64_in] <;> omega
      have w2 : w64 ((j : Int) - 1) = ((j - 1 : Nat) : Int) := by rw [w64_in] <;> omega
      rw [iter_eq, slices_Reverse_Spot_Spot_b1, if_pos (by simp only; omega)]
      simp only [hx, hy, Option.bind_some, show ((i : Int)).toNat = i by omega, show ((j : Int)).toNat = j by omega, hz, after_inl, w1, w2]
      refine ih (i + 1) (j - 1) _ (by omega) (by omega) (by simpa using hll) (fun k => ?_)
      have ki := hk i
      have kj := hk j
      rw [if_neg (by omega)] at ki kj
      by_cases q2 : j = k
      · subst q2
        rw [List.getElem?_set_self (by simp; omega), if_pos (by omega), List.getElem?_reverse (by omega), show xs.length - 1 - j = i by omega, ← ki, hx']
      · rw [List.getElem?_set_ne q2]
        by_cases q1 : i = k
        · subst q1
          rw [List.getElem?_set_self (by omega), if_pos (by omega), List.getElem?_reverse (by omega), show xs.length - 1 - i = j by omega, ← kj, hy']
        · rw [List.getElem?_set_ne q1, hk k]
          by_cases q3 : k < i ∨ j < k
          · rw [if_pos q3, if_pos (by omega)]
          · rw [if_neg q3, if_neg (by omega)]
    · rw [iter_eq, slices_Reverse_Spot_Spot_b1, if_neg (by simp only; omega), map_inr_after, fin i j l hij h hll hk]
theorem reverse_eq (xs : List Spot) (hl : xs.length ≤ 100000) : slices_Reverse_Spot_Spot xs = some xs.reverse := by
  unfold slices_Reverse_Spot_Spot
  by_cases h0 : xs.length = 0
  · have : xs = [] := List.eq_nil_of_length_eq_zero h0
    subst this
    unfold slices_Reverse_Spot_Spot_l1
    rw [iter_eq, slices_Reverse_Spot_Spot_b1, if_neg (by rw [w64_in] <;> simp), map_inr_after]; rfl
  · have w1 : w64 ((xs.length : Int) - 1) = ((xs.length - 1 : Nat) : Int) := by rw [w64_in] <;> omega
    rw [w1]
    have := rev_loop xs hl xs.length 0 (xs.length - 1) xs (by omega) (by omega) rfl (fun k => by
      split
      · rename_i h
        have hk : xs.length ≤ k := by omega
        rw [List.getElem?_eq_none hk, List.getElem?_eq_none (by simpa using hk)]
      · rfl)
    exact this
/-! two lists put together -/
theorem sconcat_eq (a b : List Spot) (ha : (a.length : Int) ≤ 5000) (hb : (b.length : Int) ≤ 5000) : slices_Concat_Spot_Spot [a, b] = some (a ++ b) := by
  have i0 : idx [a, b] 0 = some a := rfl
  have i1 : idx [a, b] 1 = some b := rfl
  have u0 : w64 (0 + 1) = 1 := by decide
  have u1 : w64 (1 + 1) = 2 := by decide
  have grow : ∀ {n : Int}, 0 ≤ n → n ≤ 100000 → slices_Grow_Spot_Spot_n0x n = some [] := by
    intro n h0 h1
    unfold slices_Grow_Spot_Spot_n0x slices_Grow_Spot_Spot_n0x_j1
    rw [show w64 (0 - 0) = 0 by decide, show n - 0 = n by omega, w64_in (by omega) (by omega), if_neg (by omega)]
    by_cases h : 0 < n
    · rw [if_pos h, slc_in (by omega) (by omega) (by simp)]
      unfold mkS
      rw [if_pos (by omega)]
      simp only [Option.bind_some]
      rw [slc_in (by omega) (by omega) (by omega)]
      simp
    · rw [if_neg h]
  unfold slices_Concat_Spot_Spot slices_Concat_Spot_Spot_l1
  rw [iter_eq, slices_Concat_Spot_Spot_b1, if_pos (by simp), i0]
  simp only [Option.bind_some]
  rw [show (0 : Int) + (a.length : Int) = a.length by omega, w64_in (by omega) (by omega), if_neg (by omega), u0]
  simp only [Option.bind_some, after_inl]
  rw [iter_eq, slices_Concat_Spot_Spot_b1, if_pos (by simp), i1]
  simp only [Option.bind_some]
  rw [w64_in (by omega) (by omega), if_neg (by omega), u1]
  simp only [Option.bind_some, after_inl]
  rw [iter_eq, slices_Concat_Spot_Spot_b1, if_neg (by simp), map_inr_after]
  unfold slices_Concat_Spot_Spot_k1
  simp only
  rw [grow (by omega) (by omega)]
  simp only [Option.bind_some]
  unfold slices_Concat_Spot_Spot_l2
  rw [iter_eq, slices_Concat_Spot_Spot_b2, if_pos (by simp), i0]
  simp only [Option.bind_some]
  rw [app_le (by simp; omega), u0]
  simp only [Option.bind_some, after_inl]
  rw [iter_eq, slices_Concat_Spot_Spot_b2, if_pos (by simp), i1]
  simp only [Option.bind_some]
  rw [app_le (by simp; omega), u1]
  simp only [Option.bind_some, after_inl]
  rw [iter_eq, slices_Concat_Spot_Spot_b2, if_neg (by simp), map_inr_after]
  simp
/-! the gift wrapper of the reference -/
theorem dst_dot {a b : Spot} (ha : SB a) (hb : SB b) : Q_dot (Q_minus b a) (Q_minus b a) = dst a b := dot_eq hb ha hb ha
theorem wrap_inner {ys out : List Spot} (hB : ∀ x ∈ ys, SB x) (hl : ys.length ≤ 2000) {a : Spot} (ha : SB a) : ∀ (m i : Nat) (nx : Spot), i + m = ys.length → SB nx → Q_HullOf_l2 ys out a nx.X nx.Y i = Q_HullOf_k4 out ((ys.drop i).foldl (wrp a) nx).X ((ys.drop i).foldl (wrp a) nx).Y := by
  intro m
  induction m with
  | zero =>
    intro i nx hi hn
    unfold Q_HullOf_l2
    rw [iter_eq, Q_HullOf_b2, if_neg (by simp only; omega), map_inr_after, List.drop_of_length_le (by omega)]
    rfl
  | succ m ih =>
    intro i nx hi hn
    obtain ⟨x, hx, hxm, hd⟩ := idx_lt ys (i := (i : Int)) (by omega) (by omega)
    have w1 : w64 ((i : Int) + 1) = ((i + 1 : Nat) : Int) := by rw [w64_in] <;> omega
    rw [show ((i : Int)).toNat = i by omega, show ((i : Int) + 1).toNat = i + 1 by omega] at hd
    have hxB := hB x hxm
    rw [hd, List.foldl_cons]
    have hw : SB (wrp a nx x) := by unfold wrp; split; exact hn; split; exact hxB; exact hn
    rw [← ih (i + 1) (wrp a nx x) (by omega) hw]
    unfold Q_HullOf_l2
    rw [iter_eq, Q_HullOf_b2, if_pos (by simp only; omega)]
    simp only [hx, Option.bind_some]
    have enx : (⟨nx.X, nx.Y⟩ : Spot) = nx := rfl
    rw [enx]
    unfold wrp
    by_cases h1 : x = a
    · rw [if_pos h1, if_pos h1]
      unfold Q_HullOf_j1
      simp only [Option.bind_some, after_inl, w1]
    · rw [if_neg h1, if_neg h1]
      unfold Q_HullOf_j2 Q_HullOf_j3 Q_HullOf_j1
      obtain ⟨s1, s2, s3⟩ := Qside_s ha hn hxB
      rw [crs_sd] at s1 s2 s3
      rw [dst_dot ha hn, dst_dot ha hxB]
      have hc : (decide (nx = a) || (decide (Q_side a nx x < 0) || (decide (Q_side a nx x = 0) && decide (dst a nx < dst a x)))) = true ↔ (nx = a ∨ crs a nx x < 0 ∨ (crs a nx x = 0 ∧ dst a nx < dst a x)) := by
        simp only [Bool.or_eq_true, Bool.and_eq_true, decide_eq_true_eq, s1, s2]
      by_cases h2 : nx = a ∨ crs a nx x < 0 ∨ (crs a nx x = 0 ∧ dst a nx < dst a x)
      · rw [if_pos h2, if_pos (hc.2 h2)]
        simp only [Option.bind_some, after_inl, w1]
      · rw [if_neg h2, if_neg (fun h => h2 (hc.1 h))]
        simp only [Option.bind_some, after_inl, w1]
theorem wrap_loop {ys : List Spot} (hB : ∀ x ∈ ys, SB x) (hl : ys.length ≤ 2000) {a : Spot} (ha : a ∈ ys) : ∀ (todo done : List Spot) (cur : Spot), (a :: done).getLast (by simp) = cur → Lnk (fun q => q ∈ ys) (cur :: (todo ++ [a])) → (∀ x ∈ todo, x ∈ ys ∧ x ≠ a) → cur ∈ ys → done.length + todo.length ≤ 5000 → Q_HullOf_l1 ys (a :: done) = some (a :: done ++ todo) := by
  intro todo
  have step : ∀ (done : List Spot) (cur c : Spot), (a :: done).getLast (by simp) = cur → cur ≠ c → Nx (fun q => q ∈ ys) cur c → c ∈ ys → cur ∈ ys → done.length ≤ 5000 → Q_HullOf_b1 ys (a :: done) = Q_HullOf_k4 (a :: done) c.X c.Y := by
    intro done cur c hlast hne hnx hc hcur hdl
    have hlen : idx (a :: done) (w64 (((a :: done).length : Int) - 1)) = some cur := by
      have hcl : ((a :: done).length : Int) = (done.length : Int) + 1 := by simp
      rw [w64_in (by omega) (by omega)]
      unfold idx
      rw [if_pos (by omega), show (((a :: done).length : Int) - 1).toNat = (a :: done).length - 1 by simp, ← hlast, List.getLast_eq_getElem]
      exact List.getElem?_eq_getElem _
    unfold Q_HullOf_b1
    rw [hlen]
    simp only [Option.bind_some]
    have := wrap_inner (out := a :: done) hB hl (hB cur hcur) ys.length 0 cur (by omega) (hB cur hcur)
    rw [show ((0 : Nat) : Int) = 0 from rfl, List.drop_zero, wrp_fold hnx (Ne.symm hne) ys cur (fun x hx => hx) (.inl rfl) (.inr hc)] at this
    exact this
  induction todo with
  | nil =>
    intro done cur hlast hlnk htodo hcur hdl
    obtain ⟨⟨hne, hnx⟩, _⟩ := hlnk
    unfold Q_HullOf_l1
    rw [iter_eq, step done cur a hlast hne hnx ha hcur (by simpa using hdl)]
    unfold Q_HullOf_k4
    have i0 : idx (a :: done) 0 = some a := rfl
    rw [i0]
    simp only [Option.bind_some, if_true, map_inr_after]
    simp
  | cons c todo ih =>
    intro done cur hlast hlnk htodo hcur hdl
    obtain ⟨⟨hne, hnx⟩, hl2⟩ := hlnk
    obtain ⟨hcy, hca⟩ := htodo c (by simp)
    have h := ih (done ++ [c]) c (by rw [List.getLast_cons (by simp), List.getLast_append_of_ne_nil _ (by simp)]; rfl) hl2 (fun x hx => htodo x (List.mem_cons_of_mem _ hx)) hcy (by simp at hdl ⊢; omega)
    unfold Q_HullOf_l1 at h ⊢
    rw [iter_eq, step done cur c hlast hne hnx hcy hcur (by simp at hdl; omega)]
    unfold Q_HullOf_k4
    have i0 : idx (a :: done) 0 = some a := rfl
    rw [i0]
    simp only [Option.bind_some]
    rw [if_neg (show ¬ ((⟨c.X, c.Y⟩ : Spot) = a) from hca), app_le (by simp at hdl ⊢; omega)]
    simp only [Option.bind_some, after_inl]
    have e : a :: done ++ [(⟨c.X, c.Y⟩ : Spot)] = a :: (done ++ [c]) := rfl
    rw [e, h]
    simp
/-- The chain of a list that goes one way, as a list from its first to its last spot. -/
theorem side_path {L : Int → Int → Prop} (C : Cone L) {a m : Spot} {ys : List Spot} (hp : ys.Pairwise (Ahd L)) (ha : ys.head? = some a) (hm : ys.getLast? = some m) (hne : a ≠ m) :
    ∃ mid, (halfS [] ys).reverse = a :: (mid ++ [m]) ∧ Lnk (fun q => q ∈ ys) (a :: (mid ++ [m])) ∧ (∀ x ∈ mid, x ∈ ys ∧ x ≠ a ∧ x ≠ m) ∧ mid.length ≤ ys.length ∧ ((∀ q ∈ ys, crs a m q = 0) → mid = []) := by
  cases ys with
  | nil => simp at ha
  | cons a' xs =>
    obtain rfl : a' = a := by simpa using ha
    obtain ⟨t, r, h1, h2, h3, h4, h5, h6⟩ := half_all C a' xs hp
    have hmt : t = m := by
      rw [List.getLast?_eq_some_getLast (by simp)] at hm
      rw [h2]; exact Option.some.inj hm
    subst hmt
    have hr : r ≠ [] := by
      intro h; subst h
      simp at h3
      exact hne h3.symm
    have hrl : r.getLast hr = a' := by
      rw [List.getLast_cons hr] at h3; exact h3
    obtain ⟨r0, hr0⟩ : ∃ r0, r = r0 ++ [a'] := ⟨r.dropLast, by rw [← hrl]; exact (List.dropLast_concat_getLast hr).symm⟩
    subst hr0
    have hlen : (t :: (r0 ++ [a'])).length ≤ (a' :: xs).length := by
      have hnd : (t :: (r0 ++ [a'])).Pairwise (· ≠ ·) := h5.imp (fun {x y} h => Ne.symm (h.ne C))
      exact nodup_sub_len hnd h6
    have e : (t :: (r0 ++ [a'])).reverse = a' :: (r0.reverse ++ [t]) := by simp
    rw [h1, e]
    rw [e] at h4
    have h5' := List.pairwise_cons.1 h5
    have hmid : ∀ x ∈ r0.reverse, x ∈ a' :: xs ∧ x ≠ a' ∧ x ≠ t := by
      intro x hx
      have hx0 : x ∈ r0 := by simpa using hx
      refine ⟨h6 x (by simp [hx0]), ?_, ?_⟩
      · have := (List.pairwise_append.1 h5'.2).2.2 x hx0 a' (by simp)
        exact Ne.symm (this.ne C)
      · exact (h5'.1 x (by simp [hx0])).ne C
    refine ⟨r0.reverse, rfl, h4, hmid, by simp at hlen ⊢; omega, fun hcol => ?_⟩
    cases hm0 : r0.reverse with
    | nil => rfl
    | cons b rest =>
      exfalso
      rw [hm0] at h4 hmid
      obtain ⟨q1, q2, q3⟩ := hmid b (by simp)
      obtain ⟨⟨n1, n2⟩, _⟩ := h4
      have hbt : Ahd L b t := h5'.1 b (by
        have : b ∈ r0.reverse := by rw [hm0]; simp
        simp at this; simp [this])
      have hab : Ahd L a' b := (List.pairwise_append.1 h5'.2).2.2 b (by
        have : b ∈ r0.reverse := by rw [hm0]; simp
        simpa using this) a' (by simp)
      have hc := hcol b q1
      have hsw := crs_swap a' b t
      have htm : t ∈ a' :: xs := h6 t (by simp)
      have hnear : dst a' b < dst a' t := by
        unfold Ahd at hab hbt
        exact C.dst _ _ _ _ hab (by rw [show t.X - a'.X - (b.X - a'.X) = t.X - b.X by omega, show t.Y - a'.Y - (b.Y - a'.Y) = t.Y - b.Y by omega]; exact hbt) hc
      rcases n2 t htm (Ne.symm hne) (Ne.symm q3) with g | g
      · omega
      · omega
/-! Hull -/
theorem sorted_both {xs : List Spot} (hB : ∀ x ∈ xs, SB x) (hl : xs.length ≤ 2000) : ∃ Z : List Spot, lenOk xs.length (fun r : List Spot => r.length) (slices_SortFunc_Spot_Spot xs (fun y0 y1 => place_bySpot y0 y1)) = some Z ∧ lenOk xs.length (fun r : List Spot => r.length) (slices_SortFunc_Spot_Spot xs (fun y0 y1 => some (Q_spotOrder y0 y1))) = some Z ∧ Z.Perm xs ∧ Srt spC Z := by
  obtain ⟨Z, z1, z2, z3⟩ := sortO_eq (fun y0 y1 => place_bySpot y0 y1) spC xs (by omega) (fun a _ b _ => bySpot_eq a b) (spC_3.ord xs)
  obtain ⟨Y, y1, y2, y3⟩ := sortO_eq (fun y0 y1 => some (Q_spotOrder y0 y1)) spC xs (by omega) (fun a ha b hb => by rw [spotOrder_eq (hB a ha) (hB b hb)]) (spC_3.ord xs)
  have hYZ : Z = Y := srt_unique (z2.trans y2.symm) z3 y3 (fun a _ b _ h1 h2 => spC_one h1 h2)
  subst hYZ
  exact ⟨Z, len_ok z1 z2.length_eq, len_ok y1 z2.length_eq, z2, z3⟩
theorem Hull_both {xs : List Spot} (hB : ∀ x ∈ xs, SB x) (hl : xs.length ≤ 2000) : ∃ H : List Spot, place_Hull xs = some (H, 0) ∧ Q_HullOf xs = some H ∧ H.length ≤ 10000 := by
  obtain ⟨Z, z1, z2, z3, z4⟩ := sorted_both hB hl
  have hZl := z3.length_eq
  have hcl : slices_Clone_Spot_Spot xs = some xs := by unfold slices_Clone_Spot_Spot; rw [app_le (by simp; omega)]; simp
  have hcp : slices_Compact_Spot_Spot Z = some (dd eqB Z) := gCpt_eq ZSp Z (by omega)
  have hdl := dd_len eqB Z
  have hdB : ∀ x ∈ dd eqB Z, SB x := fun x hx => hB x (z3.mem_iff.1 ((dd_sub eqB Z).subset hx))
  have hdp := dd_lt z4
  have hcf : slices_ContainsFunc_Spot_Spot xs (fun y0 => some (place_Hull_1x y0)) = some false := by
    have := gContainsFunc_eq xs (fun y0 => some (place_Hull_1x y0)) (fun y => place_Hull_1x y) (fun y _ => rfl) (by omega)
    rw [show xs.any (fun y => place_Hull_1x y) = false from ?_] at this
    · exact this
    · rw [List.any_eq_false]
      intro x hx
      unfold place_Hull_1x
      rw [(isSpot_eq x).2 (hB x hx)]; simp
  unfold place_Hull Q_HullOf
  rw [if_neg (by omega), hcf, hcl]
  simp only [Option.bind_some, z1, z2, hcp, Bool.false_eq_true, if_false]
  generalize dd eqB Z = ys at hdl hdB hdp
  by_cases h2 : (ys.length : Int) < 2
  · rw [if_pos h2, if_pos (by omega)]
    exact ⟨ys, rfl, rfl, by omega⟩
  · rw [if_neg h2]
    obtain ⟨a, ha⟩ : ∃ a, ys.head? = some a := by
      cases ys with
      | nil => simp at h2
      | cons a r => exact ⟨a, rfl⟩
    obtain ⟨m, hm⟩ : ∃ m, ys.getLast? = some m := by
      cases ys with
      | nil => simp at h2
      | cons a r => exact ⟨_, List.getLast?_eq_some_getLast (by simp)⟩
    have ham : a ∈ ys := List.mem_of_mem_head? ha
    have hmm : m ∈ ys := List.mem_of_getLast? hm
    have hne : a ≠ m := by
      cases ys with
      | nil => simp at h2
      | cons a' r =>
        obtain rfl : a' = a := by simpa using ha
        cases r with
        | nil => simp at h2
        | cons b r =>
          rw [List.getLast?_eq_some_getLast (by simp), List.getLast_cons (by simp)] at hm
          have hmr : m ∈ b :: r := by rw [← Option.some.inj hm]; exact List.getLast_mem (by simp)
          exact ((List.pairwise_cons.1 hdp).1 m hmr).ne lxp_cone
    have hrp : ys.reverse.Pairwise (Ahd (fun x y => lxp (-x) (-y))) := by
      rw [List.pairwise_reverse]
      refine hdp.imp (fun {x y} h => ?_)
      unfold Ahd at h ⊢
      show lxp (-(x.X - y.X)) (-(x.Y - y.Y))
      rw [show -(x.X - y.X) = y.X - x.X by omega, show -(x.Y - y.Y) = y.Y - x.Y by omega]
      exact h
    obtain ⟨m1, p1, p2, p3, p4, p5⟩ := side_path lxp_cone hdp ha hm hne
    obtain ⟨m2, q1, q2, q3, q4, q5⟩ := side_path neg_cone (a := m) (m := a) hrp (by rw [List.head?_reverse]; exact hm) (by rw [List.getLast?_reverse]; exact ha) (Ne.symm hne)
    have q2' : Lnk (fun q => q ∈ ys) (m :: (m2 ++ [a])) := by
      have e : (fun q => q ∈ ys.reverse) = fun q => q ∈ ys := by funext q; simp
      rw [e] at q2; exact q2
    rw [half_eq hdB (by omega), reverse_eq ys (by omega)]
    simp only [Option.bind_some, p1]
    rw [len_ok rfl (by simp)]
    simp only [Option.bind_some]
    rw [half_eq (fun x hx => hdB x (by simpa using hx)) (by simp; omega)]
    simp only [Option.bind_some, q1]
    have q4' : m2.length ≤ ys.length := by simpa using q4
    have hml : ((m :: (m2 ++ [a])).length : Int) = (m2.length : Int) + 2 := by simp; omega
    have w1 : w64 (((m :: (m2 ++ [a])).length : Int) - 1) = (m2.length : Int) + 1 := by rw [w64_in] <;> omega
    rw [w1, slc_in (by omega) (by omega) (by omega)]
    have e1 : ((m :: (m2 ++ [a])).drop (1 : Int).toNat).take (((m2.length : Int) + 1).toNat - (1 : Int).toNat) = m2 := by
      rw [show (1 : Int).toNat = 1 from rfl, List.drop_one, List.tail_cons, show ((m2.length : Int) + 1).toNat - 1 = m2.length by omega, List.take_left']
      rfl
    rw [e1]
    simp only [Option.bind_some]
    rw [sconcat_eq _ _ (by simp; omega) (by omega)]
    simp only [Option.bind_some]
    refine ⟨_, rfl, ?_, by simp; omega⟩
    by_cases h3 : (ys.length : Int) < 3
    · rw [if_pos h3]
      obtain ⟨u, v, hys⟩ : ∃ u v, ys = [u, v] := by
        match ys, h2, h3 with
        | [u, v], _, _ => exact ⟨u, v, rfl⟩
        | [], h2, _ => simp at h2
        | [u], h2, _ => simp at h2
        | _ :: _ :: _ :: _, _, h3 => simp at h3; omega
      subst hys
      obtain rfl : u = a := by simpa using ha
      obtain rfl : v = m := by simpa using hm
      have c1 : ∀ q ∈ [u, v], crs u v q = 0 := by
        intro q hq
        rcases List.mem_cons.1 hq with rfl | hq
        · unfold crs; simp
        · rw [List.mem_singleton] at hq; subst hq; unfold crs; grind
      rw [p5 c1, q5 (fun q hq => by
        have := c1 q (List.mem_reverse.1 hq)
        have e : crs v u q = - crs u v q := by unfold crs; grind
        omega)]
      rfl
    · rw [if_neg h3]
      have i0 : idx ys 0 = some a := by
        unfold idx; rw [if_pos (by omega)]
        rw [List.head?_eq_getElem?] at ha; exact ha
      have i1 : idx ys (w64 ((ys.length : Int) - 1)) = some m := by
        rw [w64_in (by omega) (by omega)]
        unfold idx; rw [if_pos (by omega), show ((ys.length : Int) - 1).toNat = ys.length - 1 by omega]
        rw [List.getLast?_eq_getElem?] at hm; exact hm
      have hcol : slices_ContainsFunc_Spot_Spot ys (fun y0 => Q_HullOf_1x y0 ys) = some (ys.any (fun q => decide (crs a m q ≠ 0))) := by
        refine gContainsFunc_eq ys _ _ (fun q hq => ?_) (by omega)
        unfold Q_HullOf_1x
        rw [i0, i1]
        simp only [Option.bind_some]
        have := (Qside_s (hdB a ham) (hdB m hmm) (hdB q hq)).1
        rw [crs_sd] at this
        congr 1
        rw [Bool.eq_iff_iff]
        simp only [decide_eq_true_eq, ne_eq, this]
      rw [hcol]
      simp only [Option.bind_some]
      cases hany : ys.any (fun q => decide (crs a m q ≠ 0)) with
      | false =>
        rw [List.any_eq_false] at hany
        have c1 : ∀ q ∈ ys, crs a m q = 0 := fun q hq => by simpa using hany q hq
        have c2 : ∀ q ∈ ys.reverse, crs m a q = 0 := fun q hq => by
          have := c1 q (by simpa using hq)
          have e : crs m a q = - crs a m q := by unfold crs; grind
          omega
        simp only [Bool.not_false, if_true, i0, i1, Option.bind_some]
        rw [p5 c1, q5 c2]
        rfl
      | true =>
        simp only [Bool.not_true, Bool.false_eq_true, if_false, i0, Option.bind_some]
        have hpath : Lnk (fun q => q ∈ ys) (a :: ((m1 ++ [m] ++ m2) ++ [a])) := by
          have := Lnk_app (a :: m1) m (m2 ++ [a]) (by simpa using p2) q2'
          simpa using this
        rw [wrap_loop hdB (by omega) ham (m1 ++ [m] ++ m2) [] a rfl hpath (fun x hx => ?_) ham (by simp; omega)]
        · simp
        · simp only [List.mem_append, List.mem_singleton] at hx
          rcases hx with (hx | rfl) | hx
          · exact ⟨(p3 x hx).1, (p3 x hx).2.1⟩
          · exact ⟨hmm, Ne.symm hne⟩
          · exact ⟨by simpa using (q3 x hx).1, (q3 x hx).2.2⟩
theorem Hull_bad {xs : List Spot} (hl : xs.length ≤ 2000) (hB : ¬ ∀ x ∈ xs, SB x) : place_Hull xs = some ([], 1) := by
  have hcf : slices_ContainsFunc_Spot_Spot xs (fun y0 => some (place_Hull_1x y0)) = some true := by
    have := gContainsFunc_eq xs (fun y0 => some (place_Hull_1x y0)) (fun y => place_Hull_1x y) (fun y _ => rfl) (by omega)
    rw [show xs.any (fun y => place_Hull_1x y) = true from ?_] at this
    · exact this
    · rw [List.any_eq_true]
      obtain ⟨x, hx⟩ := Classical.not_forall.1 hB
      obtain ⟨hx1, hx2⟩ := Classical.not_imp.1 hx
      refine ⟨x, hx1, ?_⟩
      unfold place_Hull_1x
      cases h : place_isSpot x with
      | true => exact absurd ((isSpot_eq x).1 h) hx2
      | false => rfl
  unfold place_Hull
  rw [if_neg (by omega), hcf]
  simp
/-! Meet -/
theorem touch_both {l k : List Spot} (hl : Right l) (hk : Right k) : ∃ b, place_touch l k = some b ∧ Q_MeetOf l k = some b := by
  have l1 := hl.lo; have l2 := hl.hi; have k1 := hk.lo; have k2 := hk.hi
  obtain ⟨a, a1, a2, _⟩ := idx_lt l (i := 0) (by omega) (by omega)
  obtain ⟨c, c1, c2, _⟩ := idx_lt k (i := 0) (by omega) (by omega)
  have hB : ((∃ i, 0 ≤ i ∧ i < l.length ∧ ∃ j, 0 ≤ j ∧ j < k.length ∧ meet (pl l i) (pl l (i + 1)) (pl k j) (pl k (j + 1))) → place_edges l (fun y0 y1 => place_touch_1x y0 y1 k) = some true) ∧ ((¬ ∃ i, 0 ≤ i ∧ i < l.length ∧ ∃ j, 0 ≤ j ∧ j < k.length ∧ meet (pl l i) (pl l (i + 1)) (pl k j) (pl k (j + 1))) → place_edges l (fun y0 y1 => place_touch_1x y0 y1 k) = some false) := by
    refine edges_any (l := l) (by omega) _ (fun i => ∃ j, 0 ≤ j ∧ j < k.length ∧ meet (pl l i) (pl l (i + 1)) (pl k j) (pl k (j + 1))) (fun i x y hi h1 h2 h3 h4 => ?_)
    have hin := edges_any (l := k) (by omega) (fun y0 y1 => some (place_touch_1x_1x y0 y1 x y)) (fun j => meet (pl l i) (pl l (i + 1)) (pl k j) (pl k (j + 1))) (fun j u v hj g1 g2 g3 g4 => by
      unfold place_touch_1x_1x
      rw [meets_eq (hl.sb x h3) (hl.sb y h4) (hk.sb u g3) (hk.sb v g4), h1, h2, g1, g2]
      constructor
      · intro h; rw [decide_eq_true h]
      · intro h; rw [decide_eq_false h])
    unfold place_touch_1x
    constructor
    · intro h; rw [hin.1 h]; rfl
    · intro h; rw [hin.2 h]; rfl
  have hQ := iter_anyP (fun x : Int => Q_MeetOf_b1 l k x) (fun i => ∃ j, 0 ≤ j ∧ j < k.length ∧ meet (pl l i) (pl l (i + 1)) (pl k j) (pl k (j + 1))) true (decide (whereE l c ≠ 0) || decide (whereE k a ≠ 0)) l.length 0 (fun i _ hi => by
    obtain ⟨x, y, e1, e2, e3, e4, e5⟩ := Qedge_at l hi (by omega)
    have w1 : w64 ((i : Int) + 1) = (i : Int) + 1 := by rw [w64_in] <;> omega
    have hin := iter_anyP (fun z : Int => Q_MeetOf_b2 k (i : Int) (x, y) z) (fun j => meet (pl l i) (pl l (i + 1)) (pl k j) (pl k (j + 1))) (.inr true) (.inl ((i : Int) + 1)) k.length 0 (fun j _ hj => by
      obtain ⟨u, v, g1, g2, g3, g4, g5⟩ := Qedge_at k hj (by omega)
      have w2 : w64 ((j : Int) + 1) = (j : Int) + 1 := by rw [w64_in] <;> omega
      show (_ → Q_MeetOf_b2 k (i : Int) (x, y) (j : Int) = _) ∧ (_ → Q_MeetOf_b2 k (i : Int) (x, y) (j : Int) = _)
      rw [Q_MeetOf_b2, if_pos (by omega), g1]
      simp only [Option.bind_some]
      rw [touches_eq (hl.sb x e4) (hl.sb y e5) (hk.sb u g4) (hk.sb v g5), e2, e3, g2, g3, w2]
      constructor
      · intro h; rw [if_pos (decide_eq_true h)]; rfl
      · intro h; rw [if_neg (by simpa using h)]) (by show Q_MeetOf_b2 k (i : Int) (x, y) (k.length : Int) = _; rw [Q_MeetOf_b2, if_neg (by omega), w1]; rfl) (by omega)
    show (_ → Q_MeetOf_b1 l k (i : Int) = _) ∧ (_ → Q_MeetOf_b1 l k (i : Int) = _)
    rw [Q_MeetOf_b1, if_pos (by omega), e1]
    simp only [Option.bind_some]
    unfold Q_MeetOf_l2
    constructor
    · intro h; exact hin.1 h
    · intro h; exact hin.2 h) (by
    show Q_MeetOf_b1 l k (l.length : Int) = _
    rw [Q_MeetOf_b1, if_neg (by omega)]
    unfold Q_MeetOf_k2 Q_MeetOf_j1
    rw [a1, c1]
    simp only [Option.bind_some]
    rw [WhereOf_eq hl.sb (by omega) (hk.sb c c2), WhereOf_eq hk.sb (by omega) (hl.sb a a2)]
    simp only [Option.bind_some]
    by_cases h : whereE l c ≠ 0
    · rw [if_pos h, decide_eq_true h]; rfl
    · rw [if_neg h, decide_eq_false h]; rfl) (by omega)
  unfold place_touch place_touch_j1 Q_MeetOf Q_MeetOf_l1
  rw [a1, c1]
  simp only [Option.bind_some]
  rw [where_eq hl (hk.sb c c2), where_eq hk (hl.sb a a2)]
  simp only [Option.bind_some]
  by_cases hm : ∃ i, 0 ≤ i ∧ i < l.length ∧ ∃ j, 0 ≤ j ∧ j < k.length ∧ meet (pl l i) (pl l (i + 1)) (pl k j) (pl k (j + 1))
  · have h1 := hB.1 hm
    have h2 := hQ.1 hm
    refine ⟨true, ?_, h2⟩
    split
    · rfl
    · split
      · rfl
      · rw [h1]; rfl
  · have h1 := hB.2 hm
    have h2 := hQ.2 hm
    refine ⟨_, ?_, h2⟩
    by_cases g1 : whereE l c ≠ 0
    · rw [if_pos g1, decide_eq_true g1]; rfl
    · rw [if_neg g1, decide_eq_false g1]
      by_cases g2 : whereE k a ≠ 0
      · rw [if_pos g2, decide_eq_true g2]; rfl
      · rw [if_neg g2, decide_eq_false g2, h1]; rfl
/-! the law -/
noncomputable def sptE (xs : List Spot) : Int := open Classical in if ∀ x ∈ xs, SB x then 0 else 1
theorem spots_loop {v2 v3 : FenceS × Stm} {l13 xs : List Spot} {v34 : Bool × Int} {v35 : List Spot × Int} {v39 : Int} (hl : xs.length ≤ 2000) : ∀ (m i : Nat) (n : Int), i + m = xs.length → n = sptE (xs.take i) → L_FencesMeet_l3 v2 l13 xs v34 v35 v39 n i = L_FencesMeet_k3 v2 l13 xs v34 v35 v39 (sptE xs) := by
  have hE2 : ∀ x y : Int, L_errs [x, y] = some (orL [x, y]) := fun x y => gOr_eq _ (by simp)
  intro m
  induction m with
  | zero =>
    intro i n hi hn
    unfold L_FencesMeet_l3
    rw [iter_eq, L_FencesMeet_b3, if_neg (by simp only; omega), map_inr_after, hn, List.take_of_length_le (by omega)]
  | succ m ih =>
    intro i n hi hn
    obtain ⟨x, hx, hxm, _⟩ := idx_lt xs (i := (i : Int)) (by omega) (by omega)
    have hx' := (idx_some hx).2.2
    rw [show ((i : Int)).toNat = i by omega] at hx'
    have w1 : w64 ((i : Int) + 1) = ((i + 1 : Nat) : Int) := by rw [w64_in] <;> omega
    unfold L_FencesMeet_l3 at ih ⊢
    rw [iter_eq, L_FencesMeet_b3, if_pos (by simp only; omega)]
    simp only [hx, hE2, Option.bind_some, after_inl, w1]
    refine ih (i + 1) _ (by omega) ?_
    rw [hn, orL2]
    have ht : xs.take (i + 1) = xs.take i ++ [x] := by rw [List.take_add_one, hx']; rfl
    rw [ht]
    unfold sptE
    by_cases h1 : ∀ y ∈ xs.take i, SB y
    · rw [if_pos h1, if_neg (by simp)]
      by_cases h2 : SB x
      · rw [if_pos (by intro y hy; rcases List.mem_append.1 hy with h | h; exact h1 y h; rw [List.mem_singleton] at h; rw [h]; exact h2), (SpotFault_eq x).1 h2]
      · rw [if_neg (fun h => h2 (h x (by simp))), (SpotFault_eq x).2 h2]
    · have h2 : ¬ ∀ y ∈ xs.take i ++ [x], SB y := fun h => h1 (fun y hy => h y (List.mem_append_left _ hy))
      rw [if_neg h1, if_neg h2]
      rfl
theorem FM_end {v2 v3 : FenceS × Stm} {l13 xs : List Spot} (hl : xs.length ≤ 2000) : L_FencesMeet_k4 v2 v3 l13 xs = some true := by
  have hE2 : ∀ x y : Int, L_errs [x, y] = some (orL [x, y]) := fun x y => gOr_eq _ (by simp)
  generalize hg : (⟨v3.1.Key, l13⟩ : FenceS) = g
  have hgc : g.Corners = l13 := by rw [← hg]
  have hMe : ∃ b, place_Meet v2.1 g = some (b, orL [fenE v2.1, fenE g]) ∧ (orL [fenE v2.1, fenE g] = 0 → Q_MeetOf v2.1.Corners l13 = some b) ∧ (orL [fenE v2.1, fenE g] ≠ 0 → b = false) := by
    unfold place_Meet
    rw [CheckFence_eq, CheckFence_eq]
    simp only [Option.bind_some]
    rw [First_eq _ (by simp)]
    simp only [Option.bind_some]
    by_cases h : orL [fenE v2.1, fenE g] = 0
    · obtain ⟨h1, h2⟩ := orL2_zero h
      obtain ⟨b, b1, b2⟩ := touch_both (fenE_right h1) (fenE_right h2)
      rw [if_neg (by simpa using h), b1]
      rw [hgc] at b2
      exact ⟨b, by rw [h]; rfl, fun _ => b2, fun h' => absurd h h'⟩
    · rw [if_pos h]
      exact ⟨false, rfl, fun h' => absurd h' h, fun _ => rfl⟩
  have hHu : ∃ H, place_Hull xs = some (H, sptE xs) ∧ H.length ≤ 10000 ∧ (if sptE xs = 0 then Q_HullOf xs = some H else H = []) := by
    unfold sptE
    by_cases h : ∀ x ∈ xs, SB x
    · obtain ⟨H, h1, h2, h3⟩ := Hull_both h hl
      rw [if_pos h]
      exact ⟨H, h1, h3, by rw [if_pos rfl]; exact h2⟩
    · rw [if_neg h]
      exact ⟨[], Hull_bad hl h, by simp, by simp⟩
  obtain ⟨b, b1, b2, b3⟩ := hMe
  obtain ⟨H, h1, h2, h3⟩ := hHu
  unfold L_FencesMeet_k4
  rw [hg, b1, h1, FenceFault_eq, FenceFault_eq]
  simp only [Option.bind_some, hE2]
  have hlp := spots_loop (v2 := v2) (v3 := v3) (l13 := l13) (v34 := (b, orL [fenE v2.1, fenE g])) (v35 := (H, sptE xs)) (v39 := orL [fenE v2.1, fenE g]) hl xs.length 0 0 (by omega) (by unfold sptE; simp)
  rw [show ((0 : Nat) : Int) = 0 from rfl] at hlp
  rw [hlp]
  have j1 : L_FencesMeet_j1 v2 l13 (b, orL [fenE v2.1, fenE g]) (H, sptE xs) (orL [fenE v2.1, fenE g]) (sptE xs) H = some true := by
    unfold L_FencesMeet_j1 L_FencesMeet_j2
    have q : slices_Equal_Spot_Spot H H = some true := by have := gEqual_eq H H (by omega); rw [decide_eq_true rfl] at this; exact this
    by_cases h : orL [fenE v2.1, fenE g] = 0
    · simp only [h, if_true, b2 h, Option.bind_some, beq_self_eq_true, q, placedL_eq]
    · simp only [h, if_true, if_false, b3 h, beq_self_eq_true, q, Option.bind_some, placedL_eq]
  unfold L_FencesMeet_k3
  by_cases h : sptE xs = 0
  · rw [if_pos h] at h3 ⊢; rw [h3]; exact j1
  · rw [if_neg h] at h3 ⊢; rw [h3] at j1 ⊢; exact j1
theorem FM_spots {v2 v3 : FenceS × Stm} {l13 : List Spot} {v19 : Int × Stm} (hv : v19.1 ≤ 8) : ∀ (m : Nat) (l25 : List Int) (n26 : Int) (xs : List Spot) (i : Int), i + m = v19.1 → 0 ≤ i → SOk ⟨l25, n26⟩ (5 * m + 5) → (xs.length : Int) ≤ i → L_FencesMeet_l2 v2 v3 l13 v19 l25 n26 xs i = some true := by
  intro m
  induction m with
  | zero =>
    intro l25 n26 xs i hi h0 hs hx
    unfold L_FencesMeet_l2
    rw [iter_eq, L_FencesMeet_b2, if_neg (by simp only; omega), map_inr_after]
    exact FM_end (by simp only; omega)
  | succ m ih =>
    intro l25 n26 xs i hi h0 hs hx
    have w1 : w64 (i + 1) = i + 1 := by rw [w64_in] <;> omega
    obtain ⟨p, s1, e1, p1, q1⟩ := Spot_ok (s := ⟨l25, n26⟩) (k := 5 * m + 5) (hs.less (by omega)) (by omega)
    unfold L_FencesMeet_l2 at ih ⊢
    rw [iter_eq, L_FencesMeet_b2, if_pos (by simp only; omega)]
    simp only [e1, Option.bind_some]
    rw [app_le (by simp; omega)]
    simp only [Option.bind_some, after_inl, w1]
    exact ih s1.L s1.at_ _ (i + 1) (by omega) (by omega) q1 (by simp; omega)
theorem FM_shift {v2 v3 : FenceS × Stm} {v6 v7 : Int × Stm} {v9 : List Spot} (hs : SOk v7.2 60) (hl : v9.length ≤ 2000) : ∀ (m i : Nat) (l : List Spot), i + m = v9.length → l.length = v9.length → L_FencesMeet_l1 v2 v3 v6 v7 v9 l i = some true := by
  intro m
  induction m with
  | zero =>
    intro i l hi hll
    unfold L_FencesMeet_l1
    rw [iter_eq, L_FencesMeet_b1, if_neg (by simp only; omega), map_inr_after]
    unfold L_FencesMeet_k5
    refine Gen.use (Range_ok (k := 50) (hs.less (by omega)) (by omega) (by omega) (by omega) (by omega)) (fun n s2 hn hs2 => ?_)
    exact FM_spots (v19 := (n, s2)) (by simp only; omega) n.toNat s2.L s2.at_ [] 0 (by simp only; omega) (by omega) (hs2.less (by omega)) (by simp)
  | succ m ih =>
    intro i l hi hll
    have w1 : w64 ((i : Int) + 1) = ((i + 1 : Nat) : Int) := by rw [w64_in] <;> omega
    obtain ⟨x, hx, _, _⟩ := idx_lt l (i := (i : Int)) (by omega) (by omega)
    unfold L_FencesMeet_l1 at ih ⊢
    rw [iter_eq, L_FencesMeet_b1, if_pos (by simp only; omega)]
    simp only [hx, Option.bind_some]
    obtain ⟨y, hy, _, _⟩ := idx_lt (l.set ((i : Int)).toNat (⟨w64 (x.X + v6.1), x.Y⟩ : Spot)) (i := (i : Int)) (by omega) (by simp; omega)
    simp only [hy, Option.bind_some, after_inl, w1]
    exact ih (i + 1) _ (by omega) (by simpa using hll)
theorem FencesMeet_plain (l : List Int) : L_FencesMeet l = some true := by
  unfold L_FencesMeet
  refine Gen.use (Fence_ok (k := 300) ⟨by simp, by simp⟩ (by omega)) (fun f s1 hf hs1 => ?_)
  refine Gen.use (Fence_ok (k := 100) (hs1.less (by omega)) (by omega)) (fun g s2 hg hs2 => ?_)
  refine Gen.use (Pick_ok (k := 90) (hs2.less (by omega)) (by simp) (by simp) (by omega)) (fun x s3 hx hs3 => ?_)
  refine Gen.use (Pick_ok (k := 80) (hs3.less (by omega)) (by simp) (by simp) (by omega)) (fun y s4 hy hs4 => ?_)
  have hcl : slices_Clone_Spot_Spot g.Corners = some g.Corners := by unfold slices_Clone_Spot_Spot; rw [app_le (by simp; omega)]; simp
  simp only [hcl, Option.bind_some]
  exact FM_shift (v7 := (y, s4)) (hs4.less (by omega)) (by omega) g.Corners.length 0 g.Corners (by omega) rfl
end Go.Beacon
