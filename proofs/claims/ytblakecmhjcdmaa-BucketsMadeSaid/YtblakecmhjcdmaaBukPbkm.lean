/- The law BucketsMade as a plain statement. No program in sight. -/
import Derived.Test.YtblakecmhjcdmaaBukPbuk
import Derived.Test.YtblakecmhjcdmaaBukPfrc
set_option linter.unusedVariables false
set_option linter.unusedSimpArgs false
namespace Go.Beacon
open Go Go.Eng

/-! groups of values -/
def minL : List Int → Int
  | [] => 0
  | v :: r => r.foldl min v
def maxL : List Int → Int
  | [] => 0
  | v :: r => r.foldl max v
def lastL (l : List Int) : Int := l.getLast?.getD 0
def bkt (long k : Int) (vs : List Int) : Bucket := ⟨⟨k * long, (k + 1) * long⟩, vs.length, vs.foldl (· + ·) 0, minL vs, maxL vs, vs.headD 0, lastL vs⟩
theorem minL_snoc (vs : List Int) (v : Int) (h : vs ≠ []) : minL (vs ++ [v]) = min (minL vs) v := by
  cases vs with
  | nil => exact absurd rfl h
  | cons x r => simp [minL]
theorem maxL_snoc (vs : List Int) (v : Int) (h : vs ≠ []) : maxL (vs ++ [v]) = max (maxL vs) v := by
  cases vs with
  | nil => exact absurd rfl h
  | cons x r => simp [maxL]
theorem sum_bd (vs : List Int) (h : ∀ v ∈ vs, -1000000000 ≤ v ∧ v ≤ 1000000000) : ∀ a : Int, a - 1000000000 * vs.length ≤ vs.foldl (· + ·) a ∧ vs.foldl (· + ·) a ≤ a + 1000000000 * vs.length := by
  induction vs with
  | nil => intro a; simp
  | cons v r ih =>
    intro a
    have h1 := h v (by simp)
    have h2 := ih (fun x hx => h x (by simp [hx])) (a + v)
    simp only [List.foldl_cons, List.length_cons]
    omega
/-! the reference's bucket -/
theorem slMin_eq (l : List Int) (hl : l.length ≤ 100000) : ∀ (n : Nat) (m i : Int), 0 ≤ i → i + n = l.length → slices_Min_int_int_l1 l m i = some ((l.drop i.toNat).foldl min m) := by
  intro n
  induction n with
  | zero =>
    intro m i h0 hi
    unfold slices_Min_int_int_l1
    rw [iter_eq, slices_Min_int_int_b1, if_neg (by simp only; omega), map_inr_after, List.drop_of_length_le (by omega)]
    rfl
  | succ n ih =>
    intro m i h0 hi
    obtain ⟨v, hv, _, hd⟩ := idx_lt l (i := i) h0 (by omega)
    have ih' := ih (min m v) (i + 1) (by omega) (by omega)
    unfold slices_Min_int_int_l1 at ih' ⊢
    rw [iter_eq, slices_Min_int_int_b1, if_pos (by simp only; omega)]
    simp only [hv, Option.bind_some, after_inl]
    rw [w64_in (by omega) (by omega), ih', hd]
    rfl
theorem slMax_eq (l : List Int) (hl : l.length ≤ 100000) : ∀ (n : Nat) (m i : Int), 0 ≤ i → i + n = l.length → slices_Max_int_int_l1 l m i = some ((l.drop i.toNat).foldl max m) := by
  intro n
  induction n with
  | zero =>
    intro m i h0 hi
    unfold slices_Max_int_int_l1
    rw [iter_eq, slices_Max_int_int_b1, if_neg (by simp only; omega), map_inr_after, List.drop_of_length_le (by omega)]
    rfl
  | succ n ih =>
    intro m i h0 hi
    obtain ⟨v, hv, _, hd⟩ := idx_lt l (i := i) h0 (by omega)
    have ih' := ih (max m v) (i + 1) (by omega) (by omega)
    unfold slices_Max_int_int_l1 at ih' ⊢
    rw [iter_eq, slices_Max_int_int_b1, if_pos (by simp only; omega)]
    simp only [hv, Option.bind_some, after_inl]
    rw [w64_in (by omega) (by omega), ih', hd]
    rfl
theorem bof_loop (w : Window) (l : List Int) (a b c d : Int) (hl : l.length ≤ 1000) (hv : ∀ v ∈ l, -1000000000 ≤ v ∧ v ≤ 1000000000) : ∀ (n : Nat) (s i : Int), 0 ≤ i → i + n = l.length → -1000000000 * i ≤ s ∧ s ≤ 1000000000 * i → Q_bucketOf_l1 w l a b c d s i = some ⟨w, l.length, (l.drop i.toNat).foldl (· + ·) s, a, b, c, d⟩ := by
  intro n
  induction n with
  | zero =>
    intro s i h0 hi hs
    unfold Q_bucketOf_l1
    rw [iter_eq, Q_bucketOf_b1, if_neg (by simp only; omega), map_inr_after, List.drop_of_length_le (by omega)]
    rfl
  | succ n ih =>
    intro s i h0 hi hs
    obtain ⟨v, hv', hvm, hd⟩ := idx_lt l (i := i) h0 (by omega)
    have hvB := hv v hvm
    have ih' := ih (s + v) (i + 1) (by omega) (by omega) (by omega)
    unfold Q_bucketOf_l1 at ih' ⊢
    rw [iter_eq, Q_bucketOf_b1, if_pos (by simp only; omega)]
    simp only [hv', Option.bind_some, after_inl]
    rw [w64_in (x := i + 1) (by omega) (by omega), w64_in (by omega) (by omega), ih', hd]
    rfl
theorem bucketOf_eq (w : Window) (l : List Int) (h : l ≠ []) (hl : l.length ≤ 1000) (hv : ∀ v ∈ l, -1000000000 ≤ v ∧ v ≤ 1000000000) : Q_bucketOf w l = some ⟨w, l.length, l.foldl (· + ·) 0, minL l, maxL l, l.headD 0, lastL l⟩ := by
  have h3 : 0 < l.length := List.length_pos_iff.2 h
  obtain ⟨x, r, rfl⟩ : ∃ x r, l = x :: r := by cases l with | nil => exact absurd rfl h | cons x r => exact ⟨x, r, rfl⟩
  have hx : idx (x :: r) 0 = some x := rfl
  obtain ⟨y, hy, _, _⟩ := idx_lt (x :: r) (i := ((x :: r).length : Int) - 1) (by omega) (by omega)
  have hyl : y = lastL (x :: r) := by
    unfold lastL
    rw [List.getLast?_eq_getElem?]
    have := (idx_some hy).2.2
    rw [show (((x :: r).length : Int) - 1).toNat = (x :: r).length - 1 by omega] at this
    rw [this]; rfl
  unfold Q_bucketOf slices_Min_int_int slices_Max_int_int
  rw [if_neg (by omega), if_neg (by omega), hx, w64_in (by omega) (by omega), hy]
  simp only [Option.bind_some]
  rw [slMin_eq (x :: r) (by omega) r.length x 1 (by omega) (by simp; omega), slMax_eq (x :: r) (by omega) r.length x 1 (by omega) (by simp; omega)]
  simp only [Option.bind_some]
  rw [bof_loop w (x :: r) _ _ _ _ hl hv (x :: r).length 0 0 (by omega) (by omega) (by omega), hyl]
  rfl
/-! the groups of a series, in order -/
def addG (G : List (Int × List Int)) (k v : Int) : List (Int × List Int) := match G.getLast? with
  | none => [(k, [v])]
  | some e => if e.1 = k then G.dropLast ++ [(k, e.2 ++ [v])] else G ++ [(k, [v])]
theorem addG_last (G : List (Int × List Int)) (e : Int × List Int) (k v : Int) : addG (G ++ [e]) k v = if e.1 = k then G ++ [(k, e.2 ++ [v])] else G ++ [e] ++ [(k, [v])] := by
  unfold addG
  rw [List.getLast?_concat, List.dropLast_concat]
structure GR (G : List (Int × List Int)) (long n t : Int) : Prop where
  sorted : SM G
  some_ : ∀ e ∈ G, e.2 ≠ [] ∧ ((e.2.length : Nat) : Int) ≤ n ∧ ∀ v ∈ e.2, -1000000000 ≤ v ∧ v ≤ 1000000000
  key : ∀ e ∈ G, 0 ≤ e.1 ∧ e.1 * long ≤ t
  len : ((G.length : Nat) : Int) ≤ n
theorem SM.snoc {m : List (Int × List Int)} {e : Int × List Int} : SM (m ++ [e]) ↔ SM m ∧ ∀ x ∈ m, x.1 < e.1 := by
  unfold SM
  rw [List.pairwise_append]
  constructor
  · rintro ⟨h1, _, h3⟩
    exact ⟨h1, fun x hx => by have : decide (x.1 < e.1) = true := h3 x hx e (by simp); simpa using this⟩
  · rintro ⟨h1, h2⟩
    refine ⟨h1, by simp, fun x hx y hy => ?_⟩
    simp at hy; subst hy
    show decide (x.1 < y.1) = true
    simpa using h2 x hx
theorem mget_app (A : List (Int × List Int)) (e : Int × List Int) (k : Int) : mget? (A ++ [e]) k = (mget? A k).or (if e.1 = k then some e.2 else none) := by
  induction A with
  | nil => simp [mget?]
  | cons d D ih => rw [List.cons_append, mget_cons, mget_cons, ih]; split <;> rfl
theorem none_of {A : List (Int × List Int)} {k : Int} (h : ∀ x ∈ A, x.1 < k) : mget? A k = none := mget_none.2 fun x hx e => by have := h x hx; omega
/-- What a round does to map, order and buckets. -/
theorem addG_round {G : List (Int × List Int)} {long n t k v : Int} (h : GR G long n t) (hk : ∀ e ∈ G, e.1 ≤ k) (hk0 : 0 ≤ k) (hkt : k * long ≤ t) (hv : -1000000000 ≤ v ∧ v ≤ 1000000000) (hn : 0 ≤ n) :
    GR (addG G k v) long (n + 1) t ∧ mset G k (inM G k ++ [v]) = addG G k v ∧ (addG G k v).map Prod.fst = (if ((inM G k).length : Int) = 0 then G.map Prod.fst ++ [k] else G.map Prod.fst) ∧ ∀ e ∈ addG G k v, e.1 ≤ k := by
  rcases List.eq_nil_or_concat G with rfl | ⟨A, e, rfl⟩
  · refine ⟨⟨by unfold addG SM; simp, fun x hx => ?_, fun x hx => ?_, by simp [addG]; omega⟩, rfl, rfl, fun x hx => ?_⟩
    · simp [addG] at hx; subst hx; exact ⟨by simp, by simp; omega, fun z hz => by simp at hz; subst hz; exact hv⟩
    · simp [addG] at hx; subst hx; exact ⟨hk0, hkt⟩
    · simp [addG] at hx; subst hx; exact Int.le_refl _
  · rw [List.concat_eq_append] at *
    obtain ⟨hA, hlt⟩ := SM.snoc.1 h.sorted
    obtain ⟨e1, e2, e3⟩ := h.some_ e (by simp)
    have hek := hk e (by simp)
    rw [addG_last]
    by_cases hc : e.1 = k
    · rw [if_pos hc]
      have hin : inM (A ++ [e]) k = e.2 := by
        unfold inM
        rw [mget_app, none_of (fun x hx => by have := hlt x hx; omega), if_pos hc]; rfl
      have hs : SM (A ++ [(k, e.2 ++ [v])]) := SM.snoc.2 ⟨hA, fun x hx => by have := hlt x hx; simp only; omega⟩
      refine ⟨⟨hs, fun x hx => ?_, fun x hx => ?_, by have := h.len; simp at this ⊢; omega⟩, ?_, ?_, fun x hx => ?_⟩
      · rcases List.mem_append.1 hx with hx | hx
        · obtain ⟨f1, f2, f3⟩ := h.some_ x (by simp [hx]); exact ⟨f1, by omega, f3⟩
        · simp at hx; subst hx
          refine ⟨by simp, by simp; omega, fun z hz => ?_⟩
          rcases List.mem_append.1 hz with hz | hz
          · exact e3 z hz
          · simp at hz; subst hz; exact hv
      · rcases List.mem_append.1 hx with hx | hx
        · exact h.key x (by simp [hx])
        · simp at hx; subst hx; exact ⟨hk0, hkt⟩
      · rw [hin]
        refine map_ext (h.sorted.set _ _) hs fun q => ?_
        rw [mget_mset, mget_app, mget_app]
        by_cases hq : k = q
        · subst hq
          rw [if_pos rfl, none_of (fun x hx => by have := hlt x hx; omega)]
          simp
        · rw [if_neg hq, if_neg (by omega), if_neg hq]
      · rw [hin, if_neg (by have := List.length_pos_iff.2 e1; omega)]
        simp [hc]
      · rcases List.mem_append.1 hx with hx | hx
        · exact hk x (by simp [hx])
        · simp at hx; subst hx; exact Int.le_refl _
    · rw [if_neg hc]
      have hlk : ∀ x ∈ A ++ [e], x.1 < k := fun x hx => by
        rcases List.mem_append.1 hx with hx | hx
        · have := hlt x hx; omega
        · simp at hx; subst hx; omega
      have hin : inM (A ++ [e]) k = [] := by unfold inM; rw [none_of hlk]; rfl
      have hs : SM (A ++ [e] ++ [(k, [v])]) := SM.snoc.2 ⟨h.sorted, hlk⟩
      refine ⟨⟨hs, fun x hx => ?_, fun x hx => ?_, by have := h.len; simp at this ⊢; omega⟩, ?_, ?_, fun x hx => ?_⟩
      · rcases List.mem_append.1 hx with hx | hx
        · obtain ⟨f1, f2, f3⟩ := h.some_ x hx; exact ⟨f1, by omega, f3⟩
        · simp at hx; subst hx
          exact ⟨by simp, by simp; omega, fun z hz => by simp at hz; subst hz; exact hv⟩
      · rcases List.mem_append.1 hx with hx | hx
        · exact h.key x hx
        · simp at hx; subst hx; exact ⟨hk0, hkt⟩
      · rw [hin]
        refine map_ext (h.sorted.set _ _) hs fun q => ?_
        rw [mget_mset, mget_app (A ++ [e]) (k, [v]) q]
        by_cases hq : k = q
        · subst hq
          rw [if_pos rfl, none_of hlk]
          simp
        · rw [if_neg hq, if_neg hq]; simp
      · rw [hin, if_pos (by simp)]
        simp
      · rcases List.mem_append.1 hx with hx | hx
        · exact hk x hx
        · simp at hx; subst hx; exact Int.le_refl _
/-! the program's buckets -/
def bks (long : Int) (G : List (Int × List Int)) : List Bucket := G.map fun e => bkt long e.1 e.2
theorem set5m {α : Type} (l : List α) (n : Nat) (a b c d e : α) : ((((l.set n a).set n b).set n c).set n d).set n e = l.set n e := by
  simp only [List.set_set]
theorem added_G {G : List (Int × List Int)} {long n t k v : Int} (h : GR G long n t) (hl : 1 ≤ long) (hn : n ≤ 1000) (hv : -1000000000 ≤ v ∧ v ≤ 1000000000) : series_added_o0x (bks long G) (⟨⟨k * long, k * long + long⟩, 1, v, v, v, v, v⟩ : Bucket) = some (bks long (addG G k v)) := by
  have hb1 : (⟨⟨k * long, k * long + long⟩, 1, v, v, v, v, v⟩ : Bucket) = bkt long k [v] := by
    unfold bkt minL maxL lastL
    simp only [List.foldl_nil, List.foldl_cons, List.length_cons, List.length_nil, List.headD_cons, Int.zero_add]
    rw [Int.add_mul, Int.one_mul]; rfl
  have hln := h.len
  unfold series_added_o0x series_added_o0x_j1
  rcases List.eq_nil_or_concat G with rfl | ⟨A, e, rfl⟩
  · rw [if_pos (by show w64 ((0 : Int) - 1) < 0; decide), if_pos rfl, app_le (by simp [bks]), hb1]; rfl
  · rw [List.concat_eq_append] at *
    obtain ⟨e1, e2, e3⟩ := h.some_ e (by simp)
    have hbl : bks long (A ++ [e]) = bks long A ++ [bkt long e.1 e.2] := by simp [bks]
    have hbA : (bks long A).length = A.length := by simp [bks]
    have hlA : ((A.length : Nat) : Int) ≤ 1000 := by simp at hln; omega
    rw [hbl]
    have hw : w64 (((bks long A ++ [bkt long e.1 e.2]).length : Int) - 1) = (A.length : Int) := by
      rw [w64_in] <;> simp [hbA] <;> omega
    have hi : idx (bks long A ++ [bkt long e.1 e.2]) (A.length : Int) = some (bkt long e.1 e.2) := by
      unfold idx; rw [if_pos (by omega)]
      rw [show ((A.length : Int)).toNat = (bks long A).length by rw [hbA]; omega]
      simp
    rw [hw, if_neg (by omega), hi]
    simp only [Option.bind_some]
    rw [addG_last]
    have hte : (bkt long e.1 e.2).Time = (⟨⟨k * long, k * long + long⟩, 1, v, v, v, v, v⟩ : Bucket).Time ↔ e.1 = k := by
      show (⟨e.1 * long, (e.1 + 1) * long⟩ : Window) = ⟨k * long, k * long + long⟩ ↔ _
      constructor
      · intro q
        injection q with q1 q2
        exact Int.eq_of_mul_eq_mul_right (by omega) q1
      · intro q
        subst q
        rw [Int.add_mul, Int.one_mul]
    by_cases hc : e.1 = k
    · rw [if_neg (by simpa using hte.2 hc), if_pos hc, set5m]
      have hs := sum_bd e.2 e3 0
      have hmin := minL_snoc e.2 v e1
      have hmax := maxL_snoc e.2 v e1
      have hb : (⟨(bkt long e.1 e.2).Time, w64 ((bkt long e.1 e.2).Count + 1), w64 ((bkt long e.1 e.2).Sum + v), min (bkt long e.1 e.2).Min v, max (bkt long e.1 e.2).Max v, (bkt long e.1 e.2).First, v⟩ : Bucket) = bkt long k (e.2 ++ [v]) := by
        unfold bkt
        simp only
        rw [w64_in (by omega) (by omega), w64_in (by omega) (by omega), hmin, hmax, hc, List.foldl_append]
        have h1 : (e.2 ++ [v]).headD 0 = e.2.headD 0 := by cases he : e.2 with | nil => exact absurd he e1 | cons => rfl
        have h2 : lastL (e.2 ++ [v]) = v := by simp [lastL]
        rw [h1, h2]
        simp
      show some ((bks long A ++ [bkt long e.1 e.2]).set ((A.length : Int)).toNat _) = _
      rw [hb, show ((A.length : Int)).toNat = (bks long A).length by rw [hbA]; omega, List.set_append_right _ _ (by omega)]
      simp [bks]
    · rw [if_pos (by simpa using fun q => hc (hte.1 q)), if_neg hc, app_le (by simp [hbA]; omega), hb1]
      simp [bks]
theorem in_eq (w : Window) (t : Int) : series_in w t = Q_within t w := rfl
/-- Round by round, the same groups. -/
theorem buckets_loop (xs : List Sample) (w : Window) (long : Int) (hlong : 1 ≤ long ∧ long ≤ 345686400000) (hv : ∀ x ∈ xs, 0 ≤ x.At ∧ x.At ≤ 345686399999 ∧ -1000000000 ≤ x.Value ∧ x.Value ≤ 1000000000) (hs : xs.Pairwise (fun a b => a.At < b.At)) (hl : xs.length ≤ 500) : ∀ (n : Nat) (G : List (Int × List Int)) (i : Int), 0 ≤ i → i + n = xs.length → GR G long i 345686399999 → (∀ e ∈ G, ∀ x ∈ xs.drop i.toNat, e.1 ≤ x.At / long) →
    ∃ G', GR G' long 500 345686399999 ∧ series_Buckets_l1 xs w long (bks long G) i = some (bks long G', 0) ∧ Q_BucketsOf_l1 xs w long G (G.map Prod.fst) i = Q_BucketsOf_l2 long G' (G'.map Prod.fst) [] 0 := by
  intro n
  induction n with
  | zero =>
    intro G i h0 hi hG hk
    refine ⟨G, ⟨hG.sorted, fun e he => by obtain ⟨a, b, c⟩ := hG.some_ e he; exact ⟨a, by omega, c⟩, hG.key, by have := hG.len; omega⟩, ?_, ?_⟩
    · unfold series_Buckets_l1
      rw [iter_eq, series_Buckets_b1, if_neg (by simp only; omega), map_inr_after]
    · unfold Q_BucketsOf_l1
      rw [iter_eq, Q_BucketsOf_b1, if_neg (by simp only; omega), map_inr_after]
  | succ n ih =>
    intro G i h0 hi hG hk
    obtain ⟨x, hx, hxm, hd⟩ := idx_lt xs (i := i) h0 (by omega)
    obtain ⟨x1, x2, x3, x4⟩ := hv x hxm
    have wi : w64 (i + 1) = i + 1 := w64_in (by omega) (by omega)
    have hGl := hG.len
    have hdk : ∀ e ∈ G, ∀ y ∈ xs.drop (i + 1).toNat, e.1 ≤ y.At / long := fun e he y hy => hk e he y (by rw [hd]; simp [hy])
    have hq0 : 0 ≤ x.At / long := Int.ediv_nonneg x1 (by omega)
    have hq1 : x.At / long * long ≤ x.At := Int.ediv_mul_le x.At (by omega)
    have hq2 := Int.mul_nonneg hq0 (show 0 ≤ long by omega)
    by_cases hw : Q_within x.At w = true
    · obtain ⟨a1, a2, a3, a4⟩ := addG_round (k := x.At / long) (v := x.Value) hG (fun e he => hk e he x (by rw [hd]; simp)) hq0 (by omega) ⟨x3, x4⟩ h0
      obtain ⟨G', g1, g2, g3⟩ := ih (addG G (x.At / long) x.Value) (i + 1) (by omega) (by omega) a1 (fun e he y hy => by
        have h1 := a4 e he
        have hlt : x.At < y.At := by
          have hs' := hs.sublist (List.drop_sublist i.toNat xs)
          rw [hd] at hs'
          exact (List.pairwise_cons.1 hs').1 y hy
        have h2 : x.At / long ≤ y.At / long := Int.ediv_le_ediv (by omega) (by omega)
        omega)
      refine ⟨G', g1, ?_, ?_⟩
      · unfold series_Buckets_l1 at g2 ⊢
        rw [iter_eq, series_Buckets_b1, if_pos (by simp only; omega)]
        simp only [hx, Option.bind_some]
        rw [if_pos (by rw [in_eq]; exact hw), quo_pos (by omega) x1 (by omega)]
        simp only [Option.bind_some]
        rw [w64_in (x := x.At / long * long) (by omega) (by omega), w64_in (x := x.At / long * long + long) (by omega) (by omega), added_G hG (by omega) (by omega) ⟨x3, x4⟩]
        simp only [Option.bind_some]
        unfold series_Buckets_j1
        rw [Option.bind_some, after_inl, wi]
        exact g2
      · have hin : (((inM G (x.At / long)).length : Nat) : Int) ≤ i := by
          unfold inM
          cases hm : mget? G (x.At / long) with
          | none => simp; omega
          | some vs => have := (hG.some_ _ (mget_mem hm)).2.1; simpa using this
        unfold Q_BucketsOf_l1 at g3 ⊢
        rw [iter_eq, Q_BucketsOf_b1, if_pos (by simp only; omega)]
        simp only [hx, Option.bind_some]
        rw [if_neg (by simp [hw]), quo_pos (by omega) x1 (by omega)]
        simp only [Option.bind_some]
        rw [show mgetO G (x.At / long) [] = some (inM G (x.At / long)) from rfl]
        simp only [Option.bind_some]
        have j2 : ∀ o : List Int, Q_BucketsOf_j2 G i x (x.At / long) o = some (.inl (addG G (x.At / long) x.Value, o, i + 1)) := by
          intro o
          unfold Q_BucketsOf_j2
          rw [show mgetO G (x.At / long) [] = some (inM G (x.At / long)) from rfl]
          simp only [Option.bind_some]
          rw [app_le (by simp; omega)]
          simp only [Option.bind_some]
          unfold Q_BucketsOf_j1
          rw [wi, a2]
        by_cases hc : ((inM G (x.At / long)).length : Int) = 0
        · rw [if_pos hc] at a3 ⊢
          rw [app_le (by simp; omega)]
          simp only [Option.bind_some]
          rw [j2, Option.bind_some, after_inl, ← a3]
          exact g3
        · rw [if_neg hc] at a3 ⊢
          rw [j2, Option.bind_some, after_inl, ← a3]
          exact g3
    · have hG1 : GR G long (i + 1) 345686399999 := ⟨hG.sorted, fun e he => by obtain ⟨a, b, c⟩ := hG.some_ e he; exact ⟨a, by omega, c⟩, hG.key, by omega⟩
      obtain ⟨G', g1, g2, g3⟩ := ih G (i + 1) (by omega) (by omega) hG1 hdk
      refine ⟨G', g1, ?_, ?_⟩
      · unfold series_Buckets_l1 at g2 ⊢
        rw [iter_eq, series_Buckets_b1, if_pos (by simp only; omega)]
        simp only [hx, Option.bind_some]
        rw [if_neg (by rw [in_eq]; exact hw)]
        unfold series_Buckets_j1
        rw [Option.bind_some, after_inl, wi]
        exact g2
      · unfold Q_BucketsOf_l1 at g3 ⊢
        rw [iter_eq, Q_BucketsOf_b1, if_pos (by simp only; omega)]
        simp only [hx, Option.bind_some]
        rw [if_pos (by simpa using hw)]
        unfold Q_BucketsOf_j1
        rw [Option.bind_some, after_inl, wi]
        exact g3
theorem l2_G (long : Int) (hlong : 1 ≤ long ∧ long ≤ 345686400000) (G : List (Int × List Int)) (hG : GR G long 500 345686399999) : ∀ (n : Nat) (i : Int), 0 ≤ i → i + n = G.length → Q_BucketsOf_l2 long G (G.map Prod.fst) (bks long (G.take i.toNat)) i = some (bks long G) := by
  intro n
  induction n with
  | zero =>
    intro i h0 hi
    unfold Q_BucketsOf_l2
    rw [iter_eq, Q_BucketsOf_b2, if_neg (by simp; omega), map_inr_after, List.take_of_length_le (by omega)]
  | succ n ih =>
    intro i h0 hi
    have hGl := hG.len
    obtain ⟨e, he, hem, hd⟩ := idx_lt G (i := i) h0 (by omega)
    have hk : idx (G.map Prod.fst) i = some e.1 := by
      have := (idx_some he).2.2
      unfold idx; rw [if_pos h0, List.getElem?_map, this]; rfl
    obtain ⟨e1, e2, e3⟩ := hG.some_ e hem
    obtain ⟨e4, e5⟩ := hG.key e hem
    have hin : inM G e.1 = e.2 := by
      unfold inM; rw [(hG.sorted.get_iff).2 (show (e.1, e.2) ∈ G from hem)]; rfl
    have hm := Int.mul_nonneg e4 (show 0 ≤ long by omega)
    have hk1 : e.1 ≤ 345686399999 := by
      have := Int.mul_le_mul_of_nonneg_left hlong.1 e4
      omega
    have ih' := ih (i + 1) (by omega) (by omega)
    have htk : G.take (i + 1).toNat = G.take i.toNat ++ [e] := by
      rw [show (i + 1).toNat = i.toNat + 1 by omega, List.take_add_one, (idx_some he).2.2]; rfl
    unfold Q_BucketsOf_l2 at ih' ⊢
    rw [iter_eq, Q_BucketsOf_b2, if_pos (by simp; omega)]
    simp only [hk, Option.bind_some]
    rw [show mgetO G e.1 [] = some (inM G e.1) from rfl, hin]
    simp only [Option.bind_some]
    rw [w64_in (x := e.1 * long) (by omega) (by omega), w64_in (x := e.1 + 1) (by omega) (by omega), w64_in (x := (e.1 + 1) * long) (by rw [Int.add_mul]; omega) (by rw [Int.add_mul]; omega), bucketOf_eq _ e.2 e1 (by omega) e3]
    simp only [Option.bind_some]
    rw [app_le (by simp [bks]; omega), w64_in (x := i + 1) (by omega) (by omega)]
    simp only [Option.bind_some, after_inl]
    rw [show (⟨⟨e.1 * long, (e.1 + 1) * long⟩, (e.2.length : Int), e.2.foldl (· + ·) 0, minL e.2, maxL e.2, e.2.headD 0, lastL e.2⟩ : Bucket) = bkt long e.1 e.2 from rfl]
    rw [htk] at ih'
    rw [show bks long (G.take i.toNat ++ [e]) = bks long (G.take i.toNat) ++ [bkt long e.1 e.2] by simp [bks]] at ih'
    exact ih'
theorem Buckets_eq (a : List Sample) (w : Window) (long : Int) (hl : (a.length : Int) ≤ 20) : ∃ t : List Bucket × Int, series_Buckets a w long = some t ∧ t.1.length ≤ 1000 ∧ t.2 = orL [faultS a w, if long < 1 ∨ 345686400000 < long then 1 else 0] ∧ (if t.2 = 0 then Q_BucketsOf a w long = some t.1 else t.1 = []) := by
  unfold series_Buckets
  rw [fault_eq]
  simp only [Option.bind_some]
  rw [orL2]
  by_cases h0 : faultS a w = 0
  · simp only [h0, ne_eq, not_true_eq_false, if_false]
    rw [Out_eq]
    by_cases h1 : long < 1 ∨ 345686400000 < long
    · rw [if_pos (by simpa using h1)]
      exact ⟨_, rfl, by simp, by simp [h1], by simp⟩
    · rw [if_neg (by simpa using h1)]
      have hc : chkS a = 0 := by
        unfold faultS at h0
        split at h0
        · exact absurd h0 ‹_›
        · exact Classical.not_not.1 ‹_›
      have hg := chkS_good hc
      obtain ⟨G', g1, g2, g3⟩ := buckets_loop a w long (by omega) (fun x hx => by have h1 := hg.at_ x hx; have h2 := hg.val x hx; omega) hg.up (by omega) a.length [] 0 (by omega) (by omega) ⟨SM.nil, by simp, by simp, by simp⟩ (by simp)
      have g4 := l2_G long (by omega) G' g1 G'.length 0 (by omega) (by omega)
      have gl := g1.len
      refine ⟨(bks long G', 0), g2, by simp [bks]; omega, by rw [if_neg h1], ?_⟩
      rw [if_pos rfl]
      unfold Q_BucketsOf
      exact g3.trans g4
  · rw [if_pos h0]
    exact ⟨_, rfl, by simp, by simp [h0], by simp [h0]⟩
theorem Mean_eq (x : Bucket) : ∃ f : Fraction, series_Mean x = some (f, chkB [x]) ∧ (chkB [x] ≠ 0 → f = ⟨0, 0⟩) ∧ (chkB [x] = 0 → Q_Lowest x.Sum x.Count = some f) := by
  unfold series_Mean
  rw [CheckBuckets_eq]
  simp only [Option.bind_some]
  by_cases h : chkB [x] = 0
  · rw [if_neg (by simpa using h)]
    obtain ⟨h1, _, _⟩ := chkB_R h
    have hb := (h1 x (by simp)).1
    have hs := hb.sum; have hc := hb.count
    obtain ⟨f, f1, f2⟩ := Fraction_eq (n := x.Sum) (d := x.Count) (by omega) (by omega)
    rw [f1]
    exact ⟨f, by rw [h]; rfl, fun q => absurd h q, fun _ => f2⟩
  · rw [if_pos h]
    exact ⟨_, rfl, fun _ => rfl, fun q => absurd q h⟩
theorem means_loop (c : List Bucket) (hl : c.length ≤ 1000) : ∀ (n : Nat) (i : Int), 0 ≤ i → i + n = c.length → L_BucketsMade_l1 c i = some true := by
  intro n
  induction n with
  | zero =>
    intro i h0 hi
    unfold L_BucketsMade_l1
    rw [iter_eq, L_BucketsMade_b1, if_neg (by omega), map_inr_after]
    unfold L_BucketsMade_k6
    rw [measured_eq]; rfl
  | succ n ih =>
    intro i h0 hi
    obtain ⟨x, hx, _, _⟩ := idx_lt c (i := i) h0 (by omega)
    have ih' := ih (i + 1) (by omega) (by omega)
    obtain ⟨f, f1, f2, f3⟩ := Mean_eq x
    have go : (L_BucketsMade_j5 i false).bind (after (iter fun x : Int => L_BucketsMade_b1 c x)) = some true := by
      unfold L_BucketsMade_j5
      rw [if_neg (by simp), Option.bind_some, after_inl, w64_in (by omega) (by omega)]
      exact ih'
    unfold L_BucketsMade_l1
    rw [iter_eq, L_BucketsMade_b1, if_pos (by omega), hx]
    simp only [Option.bind_some, f1, BucketsFault_eq]
    rw [if_neg (by simp)]
    by_cases h : chkB [x] = 0
    · rw [if_pos h, f3 h]
      simp only [Option.bind_some]
      have e : (decide (f ≠ f) || (decide (chkB [x] ≠ 0) && decide (f ≠ (⟨0, 0⟩ : Fraction)))) = false := by simp [h]
      rw [e]; exact go
    · rw [if_neg h]
      have e : (decide (chkB [x] ≠ 0) && decide (f ≠ (⟨0, 0⟩ : Fraction))) = false := by simp [f2 h]
      rw [e]; exact go
theorem made_j4 (c : List Bucket) (hl : c.length ≤ 1000) : L_BucketsMade_j4 c = some true := by
  unfold L_BucketsMade_j4
  rw [CheckBuckets_eq, BucketsFault_eq]
  simp only [Option.bind_some]
  rw [if_neg (by simp)]
  exact means_loop c hl c.length 0 (by omega) (by omega)
theorem errs3 (x y z : Int) : L_errs [x, y, z] = some (orL [x, y, z]) := gOr_eq _ (by simp)
theorem eqB_self (l : List Bucket) (h : l.length ≤ 20000) : slices_Equal_Bucket_Bucket l l = some true := by
  rw [show slices_Equal_Bucket_Bucket l l = some (decide (l = l)) from gEqual_eq l l (by omega)]; simp
theorem faultS_or (a : List Sample) (w : Window) (z : Int) : orL [faultS a w, z] = orL [chkS a, winF w, z] := by
  rw [orL3, orL2, orL2]
  unfold faultS
  by_cases h : chkS a = 0
  · simp [h]
  · simp [h]
theorem BucketsMade_plain (l : List Int) : L_BucketsMade l = some true := by
  unfold L_BucketsMade
  refine Gen.use (Series_ok (k := 1000) ⟨by simp, by simp⟩ (by omega) (by omega)) (fun a s1 ha hs1 => ?_)
  refine Gen.use (Frame_ok (k := 900) (hs1.less (by omega)) (by omega)) (fun w s2 hw hs2 => ?_)
  refine Gen.use (Pick_ok (k := 800) (hs2.less (by omega)) (by simp) (by simp) (by omega)) (fun long s3 hlong hs3 => ?_)
  obtain ⟨t, t1, t2, t3, t4⟩ := Buckets_eq a w long ha.1
  have j3 : L_BucketsMade_j3 (long, s3) false = some true := by
    unfold L_BucketsMade_j3
    rw [if_neg (by simp)]
    refine Gen.use (Pick_ok (k := 700) (hs3.less (by omega)) (by simp) (by simp) (by omega)) (fun g s4 hg hs4 => ?_)
    have hg0 : g ≠ 0 := by have := pick_le (lo := 1) (hi := 100) hg (by decide); omega
    refine Gen.use (RightBuckets_ok (k := 600) (hs4.less (by omega)) hg0 (by omega)) (fun c s5 hc hs5 => ?_)
    refine Gen.use (Flip_ok (k := 500) (hs5.less (by omega)) (by omega) (by omega) (by omega)) (fun b s6 hb hs6 => ?_)
    simp only
    split
    · refine Gen.use (SpoiltBuckets_ok (k := 400) (hs6.less (by omega)) (by omega) hc) (fun c' s7 hc' hs7 => ?_)
      exact made_j4 c' hc'
    · exact made_j4 c hc
  have j1 : L_BucketsMade_j1 (a, s1) (w, s2) (long, s3) t t.2 = some true := by
    unfold L_BucketsMade_j1 L_BucketsMade_j2
    by_cases h : t.2 = 0
    · rw [if_pos h] at t4 ⊢
      simp only [t4, Option.bind_some]
      rw [if_neg (by simp), eqB_self _ (by omega)]
      simp only [Option.bind_some, Bool.not_true]
      exact j3
    · rw [if_neg h] at t4 ⊢
      rw [if_neg (by simp), t4, eqB_self _ (by simp)]
      simp only [Option.bind_some, Bool.not_true]
      exact j3
  rw [faultS_or] at t3
  simp only [t1, Option.bind_some]
  rw [SeriesFault_eq a ha.2, WindowFault_eq]
  simp only [Option.bind_some]
  unfold L_when
  by_cases h1 : long < 1
  · rw [if_pos h1, errs3]
    simp only [Option.bind_some, if_true]
    rw [if_pos (.inl h1)] at t3
    rw [← t3]; exact j1
  · rw [if_neg h1, errs3]
    simp only [Option.bind_some, decide_eq_true_eq]
    have e : (if long < 1 ∨ 345686400000 < long then (1 : Int) else 0) = if 345686400000 < long then 1 else 0 := by
      by_cases h2 : 345686400000 < long
      · rw [if_pos (.inr h2), if_pos h2]
      · rw [if_neg (by omega), if_neg h2]
    rw [e] at t3
    rw [← t3]; exact j1
end Go.Beacon
