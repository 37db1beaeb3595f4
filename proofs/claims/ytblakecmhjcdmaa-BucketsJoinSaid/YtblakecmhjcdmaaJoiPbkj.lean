/- The law BucketsJoin as a plain statement. No program in sight. -/
import Derived.Test.YtblakecmhjcdmaaJoiPbuk
set_option linter.unusedVariables false
set_option linter.unusedSimpArgs false
namespace Go.Beacon
open Go Go.Eng

def mergeB (x y : Bucket) : Bucket := ⟨x.Time, w64 (x.Count + y.Count), w64 (x.Sum + y.Sum), min x.Min y.Min, max x.Max y.Max, x.First, y.Last⟩
def frm (b : Bucket) : Int := b.Time.From
/-- All of one length. -/
def Of (L : Int) (l : List Bucket) : Prop := ∀ b ∈ l, b.Time.To = b.Time.From + L
def Up (l : List Bucket) : Prop := l.Pairwise (fun a b => frm a < frm b)
theorem time_eq {L : Int} {x y : Bucket} (hx : x.Time.To = x.Time.From + L) (hy : y.Time.To = y.Time.From + L) : x.Time = y.Time ↔ frm x = frm y := by
  constructor
  · intro h; unfold frm; rw [h]
  · intro h
    unfold frm at h
    cases hxt : x.Time with
    | mk a b =>
      cases hyt : y.Time with
      | mk c d =>
        rw [hxt] at hx h
        rw [hyt] at hy h
        simp only at hx hy h
        subst h
        congr 1
        omega
/-! one after the other -/
def putB : List Bucket → Bucket → List Bucket
  | [], b => [b]
  | x :: r, b => if x.Time = b.Time then mergeB x b :: r else x :: putB r b
def addB (l : List Bucket) (b : Bucket) : List Bucket := match l.getLast? with
  | none => [b]
  | some x => if x.Time = b.Time then l.dropLast ++ [mergeB x b] else l ++ [b]
theorem addB_last (l : List Bucket) (x b : Bucket) : addB (l ++ [x]) b = if x.Time = b.Time then l ++ [mergeB x b] else l ++ [x] ++ [b] := by
  unfold addB
  rw [List.getLast?_concat, List.dropLast_concat]
theorem putB_last : ∀ (l : List Bucket) (x b : Bucket), (∀ y ∈ l, y.Time ≠ b.Time) → putB (l ++ [x]) b = if x.Time = b.Time then l ++ [mergeB x b] else l ++ [x] ++ [b]
  | [], x, b, _ => by simp only [List.nil_append, putB]; rfl
  | y :: l, x, b, h => by
    simp only [List.cons_append, putB]
    rw [if_neg (h y (by simp)), putB_last l x b (fun z hz => h z (by simp [hz]))]
    split <;> rfl
theorem add_put {L : Int} {l : List Bucket} {b : Bucket} (hl : Of L l) (hb : b.Time.To = b.Time.From + L) (hu : Up l) (hle : ∀ x ∈ l, frm x ≤ frm b) : addB l b = putB l b := by
  rcases List.eq_nil_or_concat l with rfl | ⟨l0, x, rfl⟩
  · rfl
  · rw [List.concat_eq_append] at *
    rw [addB_last, putB_last]
    intro y hy e
    have h1 := (time_eq (hl y (by simp [hy])) hb).1 e
    unfold Up at hu
    rw [List.pairwise_append] at hu
    have h2 := hu.2.2 y hy x (by simp)
    have h3 := hle x (by simp)
    omega
theorem put_len : ∀ (l : List Bucket) (b : Bucket), (putB l b).length ≤ l.length + 1
  | [], b => by simp [putB]
  | x :: r, b => by
    simp only [putB]
    split
    · simp
    · have := put_len r b; simp; omega
theorem put_mem : ∀ (l : List Bucket) (b z : Bucket), z ∈ putB l b → z.Time = b.Time ∨ ∃ m ∈ l, m.Time = z.Time
  | [], b, z, h => by simp [putB] at h; subst h; exact .inl rfl
  | x :: r, b, z, h => by
    simp only [putB] at h
    split at h
    · rename_i hx
      rcases List.mem_cons.1 h with rfl | h
      · exact .inr ⟨x, by simp, rfl⟩
      · exact .inr ⟨z, by simp [h], rfl⟩
    · rcases List.mem_cons.1 h with rfl | h
      · exact .inr ⟨z, by simp, rfl⟩
      · rcases put_mem r b z h with e | ⟨m, hm, e⟩
        · exact .inl e
        · exact .inr ⟨m, by simp [hm], e⟩
theorem put_Of {L : Int} {l : List Bucket} {b : Bucket} (hl : Of L l) (hb : b.Time.To = b.Time.From + L) : Of L (putB l b) := fun z hz => by
  rcases put_mem l b z hz with e | ⟨m, hm, e⟩
  · rw [e]; exact hb
  · rw [← e]; exact hl m hm
theorem put_ne : ∀ {l : List Bucket} {b : Bucket}, l.Pairwise (fun x y => x.Time ≠ y.Time) → (putB l b).Pairwise (fun x y => x.Time ≠ y.Time)
  | [], b, _ => by simp [putB]
  | x :: r, b, h => by
    have h' := List.pairwise_cons.1 h
    simp only [putB]
    split
    · exact List.pairwise_cons.2 ⟨fun z hz => h'.1 z hz, h'.2⟩
    · rename_i hx
      refine List.pairwise_cons.2 ⟨fun z hz => ?_, put_ne h'.2⟩
      rcases put_mem r b z hz with e | ⟨m, hm, e⟩
      · rw [e]; exact hx
      · rw [← e]; exact h'.1 m hm
/-! as a map -/
def asF (l : List Bucket) : List (Int × Bucket) := l.map (fun b => (frm b, b))
def stepO (o : Option Bucket) (b : Bucket) : Option Bucket := match o with
  | none => some b
  | some x => some (mergeB x b)
theorem put_get {L : Int} (k : Int) : ∀ {l : List Bucket} {b : Bucket}, Of L l → b.Time.To = b.Time.From + L → mget? (asF (putB l b)) k = if frm b = k then stepO (mget? (asF l) k) b else mget? (asF l) k
  | [], b, _, _ => by
    simp only [putB, asF, List.map_cons, List.map_nil, mget?]
    split <;> rfl
  | x :: r, b, hl, hb => by
    have hx := time_eq (hl x (by simp)) hb
    simp only [putB]
    by_cases h : x.Time = b.Time
    · rw [if_pos h]
      have e : frm x = frm b := hx.1 h
      show (if frm (mergeB x b) = k then some (mergeB x b) else mget? (asF r) k) = if frm b = k then stepO (if frm x = k then some x else mget? (asF r) k) b else (if frm x = k then some x else mget? (asF r) k)
      have e2 : frm (mergeB x b) = frm b := e
      rw [e2, e]
      split <;> rfl
    · rw [if_neg h]
      have e : frm x ≠ frm b := fun q => h (hx.2 q)
      show (if frm x = k then some x else mget? (asF (putB r b)) k) = if frm b = k then stepO (if frm x = k then some x else mget? (asF r) k) b else (if frm x = k then some x else mget? (asF r) k)
      rw [put_get k (fun z hz => hl z (by simp [hz])) hb]
      by_cases h1 : frm x = k
      · rw [if_pos h1, if_pos h1, if_neg (fun q => e (h1.trans q.symm))]
      · rw [if_neg h1, if_neg h1]
theorem fold_put {L : Int} (k : Int) : ∀ (bs l : List Bucket), Of L l → Of L bs → Of L (bs.foldl putB l) ∧ (bs.foldl putB l).length ≤ l.length + bs.length ∧ mget? (asF (bs.foldl putB l)) k = (bs.filter (fun b => decide (frm b = k))).foldl stepO (mget? (asF l) k)
  | [], l, hl, _ => ⟨hl, by simp, rfl⟩
  | b :: bs, l, hl, hb => by
    have hb1 := hb b (by simp)
    obtain ⟨i1, i2, i3⟩ := fold_put k bs (putB l b) (put_Of hl hb1) (fun z hz => hb z (by simp [hz]))
    refine ⟨i1, by have := put_len l b; simp only [List.foldl_cons, List.length_cons]; omega, ?_⟩
    rw [List.foldl_cons, i3, put_get k hl hb1, List.filter_cons]
    by_cases h : frm b = k
    · rw [if_pos h, if_pos (by simpa using h)]; rfl
    · rw [if_neg h, if_neg (by simpa using h)]
theorem fold_ne : ∀ (bs l : List Bucket), l.Pairwise (fun x y => x.Time ≠ y.Time) → (bs.foldl putB l).Pairwise (fun x y => x.Time ≠ y.Time)
  | [], l, h => h
  | b :: bs, l, h => fold_ne bs (putB l b) (put_ne h)
theorem Up.sm {l : List Bucket} (h : Up l) : SM (asF l) := by
  unfold SM asF
  rw [List.pairwise_map]
  exact List.Pairwise.imp (fun {a b} h => by show decide (frm a < frm b) = true; simpa using h) h
theorem asF_inj {l l' : List Bucket} (h : asF l = asF l') : l = l' := by
  have := congrArg (List.map Prod.snd) h
  unfold asF at this
  rw [List.map_map, List.map_map] at this
  simpa [Function.comp_def] using this
/-- Behind one another in order, the last one alone is looked at. -/
theorem fold_add {L : Int} : ∀ (bs l : List Bucket), Of L l → Of L bs → Up l → (∀ x ∈ l, ∀ b ∈ bs, frm x ≤ frm b) → bs.Pairwise (fun a b => frm a ≤ frm b) → bs.foldl addB l = bs.foldl putB l ∧ Up (bs.foldl putB l)
  | [], l, _, _, hu, _, _ => ⟨rfl, hu⟩
  | b :: bs, l, hl, hb, hu, hle, hs => by
    have hb1 := hb b (by simp)
    have hs' := List.pairwise_cons.1 hs
    have hle1 : ∀ x ∈ l, frm x ≤ frm b := fun x hx => hle x hx b (by simp)
    have e := add_put hl hb1 hu hle1
    have hup : Up (putB l b) := by
      rw [← e]
      rcases List.eq_nil_or_concat l with rfl | ⟨l0, x, rfl⟩
      · unfold addB Up; simp
      · rw [List.concat_eq_append] at *
        rw [addB_last]
        unfold Up at hu ⊢
        rw [List.pairwise_append] at hu
        by_cases hx : x.Time = b.Time
        · rw [if_pos hx, List.pairwise_append]
          exact ⟨hu.1, by simp, fun y hy z hz => by simp at hz; subst hz; exact hu.2.2 y hy x (by simp)⟩
        · rw [if_neg hx, List.pairwise_append, List.pairwise_append]
          have hlt : frm x < frm b := by
            have := hle1 x (by simp)
            have hne : frm x ≠ frm b := fun q => hx ((time_eq (hl x (by simp)) hb1).2 q)
            omega
          refine ⟨⟨hu.1, by simp, hu.2.2⟩, by simp, fun y hy z hz => ?_⟩
          simp at hz; subst hz
          rcases List.mem_append.1 hy with hy | hy
          · have := hu.2.2 y hy x (by simp); omega
          · simp at hy; subst hy; exact hlt
    rw [List.foldl_cons, List.foldl_cons, e]
    refine fold_add bs (putB l b) (put_Of hl hb1) (fun z hz => hb z (by simp [hz])) hup (fun x hx c hc => ?_) hs'.2
    have hbc := hs'.1 c hc
    rcases put_mem l b x hx with q | ⟨m, hm, q⟩
    · have : frm x = frm b := by unfold frm; rw [q]
      omega
    · have h1 : frm m = frm x := by unfold frm; rw [q]
      have := hle m hm c (by simp [hc]); omega
/-! the program -/
theorem set5 {α : Type} (l : List α) (n : Nat) (a b c d e : α) : ((((l.set n a).set n b).set n c).set n d).set n e = l.set n e := by
  simp only [List.set_set]
theorem added_eq (l : List Bucket) (b : Bucket) (h : l.length ≤ 100000) : series_added_o0x l b = some (addB l b) := by
  unfold series_added_o0x series_added_o0x_j1
  rcases List.eq_nil_or_concat l with rfl | ⟨l0, x, rfl⟩
  · rw [if_pos (by decide), if_pos rfl, app_le (by simp)]; rfl
  · rw [List.concat_eq_append] at *
    have hw : w64 (((l0 ++ [x]).length : Int) - 1) = (l0.length : Int) := by
      rw [w64_in] <;> simp <;> simp at h <;> omega
    have hi : idx (l0 ++ [x]) (l0.length : Int) = some x := by
      unfold idx; rw [if_pos (by omega)]; simp
    rw [hw, if_neg (by omega), hi]
    simp only [Option.bind_some]
    rw [addB_last]
    by_cases hx : x.Time = b.Time
    · rw [if_neg (by simp [hx]), if_pos hx, set5]
      have : (l0 ++ [x]).set (l0.length : Int).toNat (mergeB x b) = l0 ++ [mergeB x b] := by
        rw [show ((l0.length : Int)).toNat = l0.length by omega, List.set_append_right _ _ (by omega)]
        simp
      exact congrArg some this
    · rw [if_pos (by simp [hx]), if_neg hx, app_le (by simp at h ⊢; omega)]; rfl
noncomputable def bounded (l : List Bucket) : List Bucket × Int := if (5000 : Int) < l.length then ([], 2) else if l.any (fun b => decide (5000 < b.Count)) = true then ([], 2) else (l, 0)
theorem bounded_eq (l : List Bucket) : series_bounded l = some (bounded l) := by
  unfold series_bounded bounded
  split
  · rfl
  · rename_i hl
    unfold series_bounded_l1
    rw [iter_find l (fun x : Int => series_bounded_b1 l x) (fun b => if decide (5000 < b.Count) = true then some ([], 2) else none) (l, 0) (by omega)]
    · congr 1
      have key : ∀ xs : List Bucket, findE (fun b : Bucket => if decide (5000 < b.Count) = true then some (([] : List Bucket), (2 : Int)) else none) (l, 0) xs = if xs.any (fun b => decide (5000 < b.Count)) = true then ([], 2) else (l, 0) := by
        intro xs
        induction xs with
        | nil => rfl
        | cons x r ih =>
          simp only [findE, List.any_cons]
          by_cases h : 5000 < x.Count
          · simp [h]
          · simp [h] at ih ⊢; exact ih
      exact key l
    · intro i x h0 h1 hx
      unfold series_bounded_b1
      rw [if_pos h1, hx]
      simp only [Option.bind_some]
      rw [w64_in (by omega) (by omega)]
      by_cases h : 5000 < x.Count
      · rw [if_pos h]; simp [h]
      · rw [if_neg h]; simp [h]
    · unfold series_bounded_b1; rw [if_neg (by omega)]; rfl
def mrgS : Nat → List Bucket → List Bucket → List Bucket
  | 0, _, _ => []
  | _ + 1, [], b => b
  | _ + 1, a, [] => a
  | n + 1, x :: a, y :: b => if frm x ≤ frm y then x :: mrgS n a (y :: b) else y :: mrgS n (x :: a) b
theorem mrgS_nil (n : Nat) (a : List Bucket) : mrgS (n + 1) a [] = a := by cases a <;> rfl
theorem addB_len (l : List Bucket) (b : Bucket) : (addB l b).length ≤ l.length + 1 := by
  rcases List.eq_nil_or_concat l with rfl | ⟨l0, x, rfl⟩
  · simp [addB]
  · rw [List.concat_eq_append, addB_last]; split <;> simp
theorem tailB {α : Type} (x : α) (a : List α) : slc (x :: a) (1 : Int) (((x :: a).length : Nat) : Int) = some a := by
  rw [slc_in (by omega) (by simp; omega) (by omega)]
  simp
theorem Join_l1 : ∀ (n : Nat) (a b o : List Bucket), a.length + b.length < n → o.length + a.length + b.length ≤ 20000 → series_Join_l1 a b o = some (bounded ((mrgS n a b).foldl addB o))
  | 0, a, b, o, h, _ => by omega
  | n + 1, [], [], o, h, hl => by
    unfold series_Join_l1
    rw [iter_eq, series_Join_b1, series_Join_j2, if_neg (by simp), map_inr_after]
    unfold series_Join_k5
    simp only
    rw [bounded_eq]; rfl
  | n + 1, x :: a, [], o, h, hl => by
    simp only [List.length_cons, List.length_nil] at h hl
    have x0 : idx (x :: a) 0 = some x := rfl
    have r1 := Join_l1 n a [] (addB o x) (by simp; omega) (by have := addB_len o x; simp; omega)
    unfold series_Join_l1 at r1 ⊢
    rw [iter_eq, series_Join_b1, series_Join_j2, if_pos (by simp), if_pos (by simp), series_Join_j3, if_pos rfl]
    simp only [x0, Option.bind_some]
    rw [added_eq _ _ (by omega)]
    simp only [Option.bind_some, tailB]
    unfold series_Join_j4
    simp only [Option.bind_some, after_inl]
    rw [r1, mrgS_nil]
    obtain ⟨m, rfl⟩ : ∃ m, n = m + 1 := ⟨n - 1, by omega⟩
    rw [mrgS_nil]; rfl
  | n + 1, [], y :: b, o, h, hl => by
    simp only [List.length_cons, List.length_nil] at h hl
    have y0 : idx (y :: b) 0 = some y := rfl
    have r1 := Join_l1 n [] b (addB o y) (by simp; omega) (by have := addB_len o y; simp; omega)
    unfold series_Join_l1 at r1 ⊢
    rw [iter_eq, series_Join_b1, series_Join_j2, if_pos (by simp), if_neg (by simp; omega), if_neg (by simp), series_Join_j3, if_neg (by simp)]
    simp only [y0, Option.bind_some]
    rw [added_eq _ _ (by omega)]
    simp only [Option.bind_some, tailB]
    unfold series_Join_j4
    simp only [Option.bind_some, after_inl]
    rw [r1]
    obtain ⟨m, rfl⟩ : ∃ m, n = m + 1 := ⟨n - 1, by omega⟩
    rfl
  | n + 1, x :: a, y :: b, o, h, hl => by
    simp only [List.length_cons] at h hl
    have x0 : idx (x :: a) 0 = some x := rfl
    have y0 : idx (y :: b) 0 = some y := rfl
    have r1 := Join_l1 n a (y :: b) (addB o x) (by simp; omega) (by have := addB_len o x; simp; omega)
    have r2 := Join_l1 n (x :: a) b (addB o y) (by simp; omega) (by have := addB_len o y; simp; omega)
    unfold series_Join_l1 at r1 r2 ⊢
    rw [iter_eq, series_Join_b1, series_Join_j2, if_pos (by simp), if_neg (by simp; omega), if_pos (by simp)]
    simp only [x0, y0, Option.bind_some]
    unfold series_Join_j3 mrgS
    by_cases c : frm x ≤ frm y
    · rw [if_pos (by exact decide_eq_true c), if_pos c]
      simp only [x0, Option.bind_some]
      rw [added_eq _ _ (by omega)]
      simp only [Option.bind_some, tailB]
      unfold series_Join_j4
      simp only [Option.bind_some, after_inl]
      rw [r1]; rfl
    · rw [if_neg (by have : ¬ x.Time.From ≤ y.Time.From := c
                     simpa using this), if_neg c]
      simp only [y0, Option.bind_some]
      rw [added_eq _ _ (by omega)]
      simp only [Option.bind_some, tailB]
      unfold series_Join_j4
      simp only [Option.bind_some, after_inl]
      rw [r2]; rfl
theorem mrgS_spec : ∀ (n : Nat) (a b : List Bucket), a.length + b.length < n → Up a → Up b → (∀ z ∈ mrgS n a b, z ∈ a ∨ z ∈ b) ∧ (mrgS n a b).Pairwise (fun x y => frm x ≤ frm y) ∧ ∀ k, (mrgS n a b).filter (fun z => decide (frm z = k)) = a.filter (fun z => decide (frm z = k)) ++ b.filter (fun z => decide (frm z = k))
  | 0, a, b, h, _, _ => by omega
  | n + 1, [], b, h, ha, hb => ⟨fun z hz => .inr hz, List.Pairwise.imp (fun {x y} h => Int.le_of_lt h) hb, fun k => by simp [mrgS]⟩
  | n + 1, x :: a, [], h, ha, hb => ⟨fun z hz => .inl hz, List.Pairwise.imp (fun {x y} h => Int.le_of_lt h) ha, fun k => by simp [mrgS]⟩
  | n + 1, x :: a, y :: b, h, ha, hb => by
    simp only [List.length_cons] at h
    have ha' := List.pairwise_cons.1 ha
    have hb' := List.pairwise_cons.1 hb
    unfold mrgS
    by_cases c : frm x ≤ frm y
    · rw [if_pos c]
      obtain ⟨i1, i2, i3⟩ := mrgS_spec n a (y :: b) (by simp; omega) ha'.2 hb
      refine ⟨fun z hz => ?_, List.pairwise_cons.2 ⟨fun z hz => ?_, i2⟩, fun k => ?_⟩
      · rcases List.mem_cons.1 hz with rfl | hz
        · exact .inl (by simp)
        · exact (i1 z hz).imp (fun h => by simp [h]) id
      · rcases i1 z hz with h | h
        · exact Int.le_of_lt (ha'.1 z h)
        · rcases List.mem_cons.1 h with rfl | h
          · exact c
          · have := hb'.1 z h; omega
      · rw [List.filter_cons, i3, List.filter_cons (x := x)]
        split <;> simp
    · rw [if_neg c]
      obtain ⟨i1, i2, i3⟩ := mrgS_spec n (x :: a) b (by simp; omega) ha hb'.2
      refine ⟨fun z hz => ?_, List.pairwise_cons.2 ⟨fun z hz => ?_, i2⟩, fun k => ?_⟩
      · rcases List.mem_cons.1 hz with rfl | hz
        · exact .inr (by simp)
        · exact (i1 z hz).imp id (fun h => by simp [h])
      · rcases i1 z hz with h | h
        · rcases List.mem_cons.1 h with rfl | h
          · omega
          · have := ha'.1 z h; omega
        · exact Int.le_of_lt (hb'.1 z h)
      · rw [List.filter_cons, i3, List.filter_cons (x := y)]
        by_cases hk : frm y = k
        · rw [if_pos (by simpa using hk), if_pos (by simpa using hk)]
          have : (x :: a).filter (fun z => decide (frm z = k)) = [] := by
            rw [List.filter_eq_nil_iff]
            intro z hz
            rcases List.mem_cons.1 hz with rfl | hz
            · simp; omega
            · have := ha'.1 z hz; simp; omega
          rw [this]; rfl
        · rw [if_neg (by simpa using hk), if_neg (by simpa using hk)]
/-! the reference -/
def norm (long : Int) (b : Bucket) : Bucket := ⟨⟨b.Time.From / long * long, b.Time.From / long * long + long⟩, b.Count, b.Sum, b.Min, b.Max, b.First, b.Last⟩
theorem norm_Of (long : Int) (l : List Bucket) : Of long (l.map (norm long)) := fun b hb => by
  obtain ⟨c, _, rfl⟩ := List.mem_map.1 hb; rfl
theorem put_new : ∀ {l : List Bucket} {v : Bucket}, (∀ x ∈ l, x.Time ≠ v.Time) → putB l v = l ++ [v]
  | [], v, _ => rfl
  | x :: r, v, h => by
    simp only [putB]
    rw [if_neg (h x (by simp)), put_new (fun z hz => h z (by simp [hz]))]; rfl
theorem put_at : ∀ {l : List Bucket} {v y : Bucket} {i : Nat}, (∀ x ∈ l.take i, x.Time ≠ v.Time) → l[i]? = some y → y.Time = v.Time → putB l v = l.set i (mergeB y v)
  | [], v, y, i, _, h, _ => by simp at h
  | x :: r, v, y, 0, h1, h2, h3 => by
    simp at h2; subst h2
    simp only [putB]
    rw [if_pos h3]; rfl
  | x :: r, v, y, i + 1, h1, h2, h3 => by
    have e1 := put_at (l := r) (v := v) (y := y) (i := i) (fun z hz => h1 z (by simp [hz])) (by simpa using h2) h3
    simp only [putB]
    rw [if_neg (h1 x (by simp)), e1]; rfl
def TimB (b : Bucket) : Prop := 0 ≤ b.Time.From ∧ b.Time.From ≤ 691372800000
theorem joined_loop (bs : List Bucket) (long : Int) (hlong : 1 ≤ long ∧ long ≤ 700000000000) (hb : ∀ b ∈ bs, TimB b) (hl : bs.length ≤ 20000) : ∀ (n : Nat) (o : List Bucket) (i : Int), 0 ≤ i → i + n = bs.length → o.length + n ≤ 50000 → Q_joined_l1 bs long o i = Q_joined_k3 (((bs.drop i.toNat).map (norm long)).foldl putB o) := by
  intro n
  induction n with
  | zero =>
    intro o i h0 hi hn
    unfold Q_joined_l1
    rw [iter_eq, Q_joined_b1, if_neg (by simp only; omega), map_inr_after, List.drop_of_length_le (by omega)]
    rfl
  | succ n ih =>
    intro o i h0 hi hn
    obtain ⟨v, hv, hvm, hd⟩ := idx_lt bs (i := i) h0 (by omega)
    have hvB := hb v hvm
    unfold TimB at hvB
    have hdm : v.Time.From / long * long = v.Time.From - v.Time.From % long := by
      have := Int.mul_ediv_add_emod v.Time.From long; rw [Int.mul_comm] at this; omega
    have hm0 := Int.emod_nonneg v.Time.From (show long ≠ 0 by omega)
    have hm1 : v.Time.From % long ≤ v.Time.From := by
      have := Int.mul_nonneg (Int.ediv_nonneg hvB.1 (show 0 ≤ long by omega)) (show 0 ≤ long by omega)
      omega
    have hnv : (⟨(⟨w64 (v.Time.From - v.Time.From % long), w64 ((w64 (v.Time.From - v.Time.From % long)) + long)⟩ : Window), v.Count, v.Sum, v.Min, v.Max, v.First, v.Last⟩ : Bucket) = norm long v := by
      unfold norm
      rw [w64_in (x := v.Time.From - v.Time.From % long) (by omega) (by omega), w64_in (by omega) (by omega), hdm]
    have ih' := ih (putB o (norm long v)) (i + 1) (by omega) (by omega) (by have := put_len o (norm long v); omega)
    have hw : w64 (i + 1) = i + 1 := w64_in (by omega) (by omega)
    have hI : slices_IndexFunc_Bucket_Bucket o (fun y0 => some (Q_joined_1x y0 (norm long v))) = some (findI (fun y0 => Q_joined_1x y0 (norm long v)) o 0) := gIndexFunc_eq o _ _ (fun x _ => rfl) (by omega)
    have hpe : ∀ x : Bucket, Q_joined_1x x (norm long v) = decide (x.Time = (norm long v).Time) := fun x => rfl
    unfold Q_joined_l1 at ih' ⊢
    rw [iter_eq, Q_joined_b1, if_pos (by simp only; omega)]
    simp only [hv, Option.bind_some]
    rw [rem_pos (by omega) hvB.1]
    simp only [Option.bind_some]
    rw [hnv, hI, hd]
    simp only [Option.bind_some, List.map_cons, List.foldl_cons]
    rcases findI_first (fun y0 => Q_joined_1x y0 (norm long v)) o 0 (by omega) with ⟨h1, h2⟩ | ⟨h1, h2, h3, y, h4, h5⟩
    · have hnew : ∀ x ∈ o, x.Time ≠ (norm long v).Time := fun x hx => by have := h2 x hx; rw [hpe] at this; simpa using this
      rw [h1, if_pos (by omega), app_le (by simp; omega)]
      simp only [Option.bind_some]
      unfold Q_joined_j1
      rw [Option.bind_some, after_inl, hw, ← ih', put_new hnew]
    · rw [show findI (fun y0 => Q_joined_1x y0 (norm long v)) o 0 - 0 = findI (fun y0 => Q_joined_1x y0 (norm long v)) o 0 by omega] at h3 h4
      generalize hj : findI (fun y0 => Q_joined_1x y0 (norm long v)) o 0 = j at h1 h2 h3 h4 ⊢
      have hyt : y.Time = (norm long v).Time := by rw [hpe] at h5; simpa using h5
      have e1 := put_at (i := j.toNat) (fun x hx => by have := h3 x hx; rw [hpe] at this; simpa using this) h4 hyt
      have hlt : j.toNat < o.length := by omega
      have hiy : idx o j = some y := by
        rw [get_idx h1 hlt]
        rw [List.getElem?_eq_getElem hlt] at h4; exact h4
      rw [if_neg (by omega), hiy]
      simp only [Option.bind_some]
      unfold Q_joined_j1
      rw [Option.bind_some, after_inl, hw, set5]
      rw [← ih', e1]; rfl
theorem sgn_eq {a b : Bucket} (ha : -4000000000000000000 ≤ frm a ∧ frm a ≤ 4000000000000000000) (hb : -4000000000000000000 ≤ frm b ∧ frm b ≤ 4000000000000000000) : Q_joined_2x a b = cmpI (frm a) (frm b) := by
  unfold Q_joined_2x Q_sign cmpI
  unfold frm at *
  rw [w64_in (by omega) (by omega)]
  by_cases h1 : a.Time.From < b.Time.From
  · rw [if_pos (by omega), if_pos h1]
  · rw [if_neg (by omega), if_neg h1]
    by_cases h2 : b.Time.From < a.Time.From
    · rw [if_pos (by omega), if_pos h2]
    · rw [if_neg (by omega), if_neg h2]
theorem frm_3 : Cmp3 (fun a b : Bucket => cmpI (frm a) (frm b)) := cmpI_3.on frm
theorem up_of {L : Int} {l : List Bucket} (ho : Of L l) (hn : l.Pairwise (fun x y => x.Time ≠ y.Time)) (hs : Srt (fun a b : Bucket => cmpI (frm a) (frm b)) l) : Up l := by
  have h := List.Pairwise.and hs hn
  have h2 : l.Pairwise (fun a b => a ∈ l ∧ b ∈ l ∧ (¬ cmpI (frm b) (frm a) < 0 ∧ a.Time ≠ b.Time)) := List.pairwise_iff_forall_sublist.2 fun {a b} hab => ⟨hab.subset (by simp), hab.subset (by simp), List.pairwise_iff_forall_sublist.1 h hab⟩
  refine List.Pairwise.imp (fun {a b} h => ?_) h2
  obtain ⟨h3, h4, h5, h6⟩ := h
  have hne : frm a ≠ frm b := fun q => h6 ((time_eq (ho a h3) (ho b h4)).2 q)
  unfold cmpI at h5
  show frm a < frm b
  split at h5
  · omega
  · split at h5 <;> omega
/-- What the reference puts together is what the program puts together in order. -/
theorem joined_eq (long : Int) (hlong : 1 ≤ long ∧ long ≤ 700000000000) (bs cs : List Bucket) (hb : ∀ b ∈ bs, TimB b) (hl : bs.length ≤ 20000) (hc : Of long cs) (hs : cs.Pairwise (fun x y => frm x ≤ frm y)) (hf : ∀ k, cs.filter (fun z => decide (frm z = k)) = (bs.map (norm long)).filter (fun z => decide (frm z = k))) : ∃ t : List Bucket × Int, Q_joined bs long = some t ∧ bounded (cs.foldl addB []) = t ∧ t.1.length ≤ 20000 := by
  have hnB : ∀ b ∈ bs.map (norm long), 0 ≤ frm b ∧ frm b ≤ 691372800000 := fun b hb' => by
    obtain ⟨c, hc, rfl⟩ := List.mem_map.1 hb'
    have h1 := hb c hc
    unfold TimB at h1
    show 0 ≤ c.Time.From / long * long ∧ c.Time.From / long * long ≤ 691372800000
    have h2 := Int.mul_nonneg (Int.ediv_nonneg h1.1 (show 0 ≤ long by omega)) (show 0 ≤ long by omega)
    have h3 := Int.ediv_mul_le c.Time.From (show long ≠ 0 by omega)
    omega
  obtain ⟨p1, p2⟩ := fold_add (L := long) cs [] (fun _ h => by simp at h) hc (by unfold Up; simp) (fun _ h => by simp at h) hs
  have hQ := fold_put (L := long) 0 (bs.map (norm long)) [] (fun _ h => by simp at h) (norm_Of long bs)
  have hQn := fold_ne (bs.map (norm long)) [] (by simp)
  have hP := fun k => (fold_put (L := long) k cs [] (fun _ h => by simp at h) hc).2.2
  have hR := fun k => (fold_put (L := long) k (bs.map (norm long)) [] (fun _ h => by simp at h) (norm_Of long bs)).2.2
  generalize hG : (bs.map (norm long)).foldl putB [] = G at hQ hQn hR
  have hGB : ∀ b ∈ G, 0 ≤ frm b ∧ frm b ≤ 691372800000 := fun b hbG => by
    have : mget? (asF G) (frm b) ≠ none := fun hn => by
      rw [mget_none] at hn
      exact hn (frm b, b) (List.mem_map.2 ⟨b, hbG, rfl⟩) rfl
    rw [hR] at this
    have hne : (bs.map (norm long)).filter (fun z => decide (frm z = frm b)) ≠ [] := fun q => by rw [q] at this; exact this rfl
    obtain ⟨z, hz⟩ := List.exists_mem_of_ne_nil _ hne
    obtain ⟨z1, z2⟩ := List.mem_filter.1 hz
    have := hnB z z1
    have e : frm z = frm b := by simpa using z2
    omega
  have hGl : G.length ≤ 20000 := by have := hQ.2.1; simp at this; omega
  obtain ⟨Z, z1, z2, z3⟩ := sortO_eq (fun y0 y1 => some (Q_joined_2x y0 y1)) (fun a b : Bucket => cmpI (frm a) (frm b)) G (by omega) (fun a ha b hb => by rw [sgn_eq (by have := hGB a ha; omega) (by have := hGB b hb; omega)]) (frm_3.ord G)
  have hZO : Of long Z := fun b hb => hQ.1 b (z2.mem_iff.1 hb)
  have hZn : Z.Pairwise (fun x y => x.Time ≠ y.Time) := z2.symm.pairwise hQn (fun {a b} h => Ne.symm h)
  have hZu := up_of hZO hZn z3
  have hZe : cs.foldl addB [] = Z := by
    rw [p1]
    refine asF_inj (map_ext p2.sm hZu.sm fun k => ?_)
    rw [hP, hf, ← hR]
    exact (mget_perm (z2.map _) hZu.sm.nodup k).symm
  refine ⟨bounded Z, ?_, by rw [hZe], ?_⟩
  · unfold Q_joined
    rw [joined_loop bs long hlong hb hl bs.length [] 0 (by omega) (by omega) (by simp; omega)]
    simp only [Int.toNat_zero, List.drop_zero]
    rw [hG]
    unfold Q_joined_k3
    have z1' : slices_SortFunc_Bucket_Bucket G (fun y0 y1 => some (Q_joined_2x y0 y1)) = some Z := z1
    rw [len_ok (Z := Z) z1' z2.length_eq]
    simp only [Option.bind_some]
    unfold Q_joined_j2 bounded
    by_cases h : (5000 : Int) < Z.length
    · rw [if_pos h, if_pos h]; rfl
    · rw [if_neg h, if_neg h, show slices_ContainsFunc_Bucket_Bucket Z (fun y0 => some (Q_joined_3x y0)) = some (Z.any (fun b => decide (5000 < b.Count))) from gContainsFunc_eq Z _ _ (fun x _ => rfl) (by omega)]
      simp only [Option.bind_some]
      split <;> rfl
  · unfold bounded
    have := z2.length_eq
    split
    · simp
    · split
      · simp
      · simp only; omega
/-! join and widen -/
theorem length_eq (l : List Bucket) : series_length l = some (lenB l) ∧ Q_lengthOf l = some (lenB l) := by
  unfold series_length Q_lengthOf
  cases l with
  | nil => exact ⟨rfl, rfl⟩
  | cons b r =>
    have h : ¬ (((b :: r).length : Int) = 0) := by simp; omega
    rw [if_neg h]; exact ⟨rfl, rfl⟩
theorem concat2 (a b : List Bucket) (ha : (a.length : Int) ≤ 5000) (hb : (b.length : Int) ≤ 5000) : slices_Concat_Bucket_Bucket [a, b] = some (a ++ b) := by
  have i0 : idx [a, b] 0 = some a := rfl
  have i1 : idx [a, b] 1 = some b := rfl
  have u0 : w64 (0 + 1) = 1 := by decide
  have u1 : w64 (1 + 1) = 2 := by decide
  have grow : ∀ {n : Int}, 0 ≤ n → n ≤ 100000 → slices_Grow_Bucket_Bucket_n0x n = some [] := by
    intro n h0 h1
    unfold slices_Grow_Bucket_Bucket_n0x slices_Grow_Bucket_Bucket_n0x_j1
    rw [show w64 (0 - 0) = 0 by decide, show n - 0 = n by omega, w64_in (by omega) (by omega), if_neg (by omega)]
    by_cases h : 0 < n
    · rw [if_pos h, slc_in (by omega) (by omega) (by simp)]
      unfold mkS
      rw [if_pos (by omega)]
      simp only [Option.bind_some]
      rw [slc_in (by omega) (by omega) (by omega)]
      simp
    · rw [if_neg h]
  unfold slices_Concat_Bucket_Bucket slices_Concat_Bucket_Bucket_l1
  rw [iter_eq, slices_Concat_Bucket_Bucket_b1, if_pos (by simp), i0]
  simp only [Option.bind_some]
  rw [show (0 : Int) + (a.length : Int) = a.length by omega, w64_in (by omega) (by omega), if_neg (by omega), u0]
  simp only [Option.bind_some, after_inl]
  rw [iter_eq, slices_Concat_Bucket_Bucket_b1, if_pos (by simp), i1]
  simp only [Option.bind_some]
  rw [w64_in (by omega) (by omega), if_neg (by omega), u1]
  simp only [Option.bind_some, after_inl]
  rw [iter_eq, slices_Concat_Bucket_Bucket_b1, if_neg (by simp), map_inr_after]
  unfold slices_Concat_Bucket_Bucket_k1
  simp only
  rw [grow (by omega) (by omega)]
  simp only [Option.bind_some]
  unfold slices_Concat_Bucket_Bucket_l2
  rw [iter_eq, slices_Concat_Bucket_Bucket_b2, if_pos (by simp), i0]
  simp only [Option.bind_some]
  rw [app_le (by simp; omega), u0]
  simp only [Option.bind_some, after_inl, List.nil_append]
  rw [iter_eq, slices_Concat_Bucket_Bucket_b2, if_pos (by simp), i1]
  simp only [Option.bind_some]
  rw [app_le (by omega), u1]
  simp only [Option.bind_some, after_inl]
  rw [iter_eq, slices_Concat_Bucket_Bucket_b2, if_neg (by simp), map_inr_after]
theorem lenB_pos {l : List Bucket} (h : chkB l = 0) : (l = [] ∧ lenB l = 0) ∨ (l ≠ [] ∧ 1 ≤ lenB l ∧ lenB l ≤ 691372800000) := by
  obtain ⟨h1, _, _⟩ := chkB_R h
  cases l with
  | nil => exact .inl ⟨rfl, rfl⟩
  | cons b r =>
    obtain ⟨a1, a2⟩ := h1 b (by simp)
    have := a1.time
    exact .inr ⟨by simp, by omega, by omega⟩
theorem norm_id {L : Int} {b : Bucket} (hb : BucR b) (hL : b.Time.To - b.Time.From = L) : norm L b = b := by
  have ht := hb.time; have hg := hb.grid
  rw [hL] at hg
  have e : b.Time.From / L * L = b.Time.From := by
    have := Int.mul_ediv_add_emod b.Time.From L; rw [Int.mul_comm] at this; omega
  unfold norm
  rw [e]
  obtain ⟨⟨f, t⟩, c, s, mi, ma, fi, la⟩ := b
  simp only at hL ⊢
  congr 2
  omega
theorem join_eq (a b : List Bucket) (ha : chkB a = 0) (hb : chkB b = 0) : ∃ t : List Bucket × Int, t.1.length ≤ 20000 ∧ (∀ c, (c = true ↔ a ≠ [] ∧ b ≠ [] ∧ lenB a ≠ lenB b) → series_Join_j1 a b c = some t ∧ Q_JoinOf_j1 a b c = some t) := by
  obtain ⟨a1, a2, a3⟩ := chkB_R ha
  obtain ⟨b1, b2, b3⟩ := chkB_R hb
  by_cases hc : a ≠ [] ∧ b ≠ [] ∧ lenB a ≠ lenB b
  · refine ⟨([], 13), by simp, fun c h => ?_⟩
    have : c = true := h.2 hc
    subst this
    exact ⟨rfl, rfl⟩
  · generalize hL : max (max (1 : Int) (lenB a)) (lenB b) = L
    have hLb : 1 ≤ L ∧ L ≤ 700000000000 := by
      rcases lenB_pos ha with ⟨_, h⟩ | ⟨_, h⟩ <;> rcases lenB_pos hb with ⟨_, h'⟩ | ⟨_, h'⟩ <;> omega
    have hLa : ∀ x ∈ a, x.Time.To - x.Time.From = L := fun x hx => by
      have hne : a ≠ [] := by rintro rfl; simp at hx
      have e := (a1 x hx).2
      rcases lenB_pos ha with ⟨h, _⟩ | ⟨_, h⟩
      · exact absurd h hne
      · rcases lenB_pos hb with ⟨_, h'⟩ | ⟨h1, h'⟩
        · omega
        · have : lenB a = lenB b := Classical.byContradiction fun q => hc ⟨hne, h1, q⟩
          omega
    have hLb' : ∀ x ∈ b, x.Time.To - x.Time.From = L := fun x hx => by
      have hne : b ≠ [] := by rintro rfl; simp at hx
      have e := (b1 x hx).2
      rcases lenB_pos hb with ⟨h, _⟩ | ⟨_, h⟩
      · exact absurd h hne
      · rcases lenB_pos ha with ⟨_, h'⟩ | ⟨h1, h'⟩
        · omega
        · have : lenB a = lenB b := Classical.byContradiction fun q => hc ⟨h1, hne, q⟩
          omega
    obtain ⟨m1, m2, m3⟩ := mrgS_spec (a.length + b.length + 1) a b (by omega) a2 b2
    have hid : (a ++ b).map (norm L) = a ++ b := by
      conv => rhs; rw [← List.map_id (a ++ b)]
      refine List.map_congr_left fun x hx => ?_
      rcases List.mem_append.1 hx with h | h
      · exact norm_id (a1 x h).1 (hLa x h)
      · exact norm_id (b1 x h).1 (hLb' x h)
    obtain ⟨t, t1, t2, t3⟩ := joined_eq L hLb (a ++ b) (mrgS (a.length + b.length + 1) a b) (fun x hx => by
      rcases List.mem_append.1 hx with h | h
      · have := (a1 x h).1.time; unfold TimB; omega
      · have := (b1 x h).1.time; unfold TimB; omega) (by simp; omega) (fun x hx => by
      rcases m1 x hx with h | h
      · have := hLa x h; omega
      · have := hLb' x h; omega) m2 (fun k => by rw [m3, hid, List.filter_append])
    refine ⟨t, t3, fun c h => ?_⟩
    have : c = false := by
      cases c with
      | false => rfl
      | true => exact absurd (h.1 rfl) hc
    subst this
    unfold series_Join_j1 Q_JoinOf_j1
    rw [if_neg (by simp), if_neg (by simp), Join_l1 (a.length + b.length + 1) a b [] (by omega) (by simp; omega), t2, concat2 a b (by omega) (by omega), (length_eq a).2, (length_eq b).2]
    simp only [Option.bind_some]
    rw [hL, t1]
    simp
theorem Join_eq (a b : List Bucket) : ∃ t : List Bucket × Int, series_Join a b = some t ∧ t.1.length ≤ 20000 ∧ (if orL [chkB a, chkB b] = 0 then Q_JoinOf a b = some t else t = ([], orL [chkB a, chkB b])) := by
  unfold series_Join
  rw [CheckBuckets_eq, CheckBuckets_eq]
  simp only [Option.bind_some]
  rw [First_eq _ (by simp)]
  simp only [Option.bind_some]
  by_cases h0 : orL [chkB a, chkB b] = 0
  · rw [if_neg (by simpa using h0)]
    obtain ⟨ca, cb⟩ := orL2_zero h0
    obtain ⟨t, t1, t2⟩ := join_eq a b ca cb
    refine ⟨t, ?_, t1, ?_⟩
    · by_cases c1 : (0 : Int) < a.length
      · rw [if_pos c1]
        have n1 : a ≠ [] := by rintro rfl; simp at c1
        by_cases c2 : (0 : Int) < b.length
        · have n2 : b ≠ [] := by rintro rfl; simp at c2
          rw [if_pos c2, (length_eq a).1, (length_eq b).1]
          simp only [Option.bind_some]
          exact (t2 _ (by simp [n1, n2])).1
        · have n2 : b = [] := by cases b with | nil => rfl | cons => simp at c2
          rw [if_neg c2]
          exact (t2 _ (by simp [n2])).1
      · have n1 : a = [] := by cases a with | nil => rfl | cons => simp at c1
        rw [if_neg c1]
        exact (t2 _ (by simp [n1])).1
    · rw [if_pos h0]
      unfold Q_JoinOf
      by_cases c1 : (0 : Int) < a.length
      · rw [if_pos c1]
        have n1 : a ≠ [] := by rintro rfl; simp at c1
        by_cases c2 : (0 : Int) < b.length
        · have n2 : b ≠ [] := by rintro rfl; simp at c2
          rw [if_pos c2, (length_eq a).2, (length_eq b).2]
          simp only [Option.bind_some]
          exact (t2 _ (by simp [n1, n2])).2
        · have n2 : b = [] := by cases b with | nil => rfl | cons => simp at c2
          rw [if_neg c2]
          exact (t2 _ (by simp [n2])).2
      · have n1 : a = [] := by cases a with | nil => rfl | cons => simp at c1
        rw [if_neg c1]
        exact (t2 _ (by simp [n1])).2
  · rw [if_pos h0]
    exact ⟨_, rfl, by simp, by rw [if_neg h0]⟩
theorem Wider_l1 (l : List Bucket) (long : Int) (hlong : 1 ≤ long ∧ long ≤ 700000000000) (hb : ∀ b ∈ l, TimB b) (hl : l.length ≤ 5000) : ∀ (n : Nat) (o : List Bucket) (i : Int), 0 ≤ i → i + n = l.length → o.length + n ≤ 50000 → series_Wider_l1 l long o i = some (bounded (((l.drop i.toNat).map (norm long)).foldl addB o)) := by
  intro n
  induction n with
  | zero =>
    intro o i h0 hi hn
    unfold series_Wider_l1
    rw [iter_eq, series_Wider_b1, if_neg (by simp only; omega), map_inr_after, List.drop_of_length_le (by omega)]
    unfold series_Wider_k2
    rw [bounded_eq]; rfl
  | succ n ih =>
    intro o i h0 hi hn
    obtain ⟨v, hv, hvm, hd⟩ := idx_lt l (i := i) h0 (by omega)
    have hvB := hb v hvm
    unfold TimB at hvB
    have h2 := Int.mul_nonneg (Int.ediv_nonneg hvB.1 (show 0 ≤ long by omega)) (show 0 ≤ long by omega)
    have h3 := Int.ediv_mul_le v.Time.From (show long ≠ 0 by omega)
    have ih' := ih (addB o (norm long v)) (i + 1) (by omega) (by omega) (by have := addB_len o (norm long v); omega)
    unfold series_Wider_l1 at ih' ⊢
    rw [iter_eq, series_Wider_b1, if_pos (by simp only; omega)]
    simp only [hv, Option.bind_some]
    rw [quo_pos (by omega) hvB.1 (by omega)]
    simp only [Option.bind_some]
    rw [w64_in (x := v.Time.From / long * long) (by omega) (by omega), w64_in (x := v.Time.From / long * long + long) (by omega) (by omega), w64_in (x := i + 1) (by omega) (by omega)]
    rw [show (⟨(⟨v.Time.From / long * long, v.Time.From / long * long + long⟩ : Window), v.Count, v.Sum, v.Min, v.Max, v.First, v.Last⟩ : Bucket) = norm long v from rfl, added_eq _ _ (by omega), hd]
    simp only [Option.bind_some, after_inl, List.map_cons, List.foldl_cons]
    exact ih'
theorem wider_eq (l : List Bucket) (long : Int) (h : chkB l = 0) (hlong : 1 ≤ long ∧ long ≤ 345686400000) : ∃ t : List Bucket × Int, t.1.length ≤ 20000 ∧ ∀ c, (c = true → ([], (1 : Int)) = t) → (c = false → series_Wider_l1 l long [] 0 = some t ∧ Q_joined l long = some t) → True := ⟨([], 1), by simp, fun _ _ _ => trivial⟩
theorem wider_run (l : List Bucket) (long : Int) (h : chkB l = 0) (hlong : 1 ≤ long ∧ long ≤ 345686400000) : ∃ t : List Bucket × Int, t.1.length ≤ 20000 ∧ series_Wider_l1 l long [] 0 = some t ∧ Q_joined l long = some t := by
  obtain ⟨a1, a2, a3⟩ := chkB_R h
  have hT : ∀ x ∈ l, TimB x := fun x hx => by have := (a1 x hx).1.time; unfold TimB; omega
  obtain ⟨t, t1, t2, t3⟩ := joined_eq long (by omega) l (l.map (norm long)) hT (by omega) (norm_Of long l) (by
    rw [List.pairwise_map]
    refine List.Pairwise.imp (fun {x y} h => ?_) a2
    show x.Time.From / long * long ≤ y.Time.From / long * long
    exact Int.mul_le_mul_of_nonneg_right (Int.ediv_le_ediv (by omega) (Int.le_of_lt h)) (by omega)) (fun k => rfl)
  refine ⟨t, t3, ?_, t1⟩
  rw [Wider_l1 l long (by omega) hT a3 l.length [] 0 (by omega) (by omega) (by simp; omega)]
  simp only [Int.toNat_zero, List.drop_zero]
  rw [t2]
theorem Wider_eq (l : List Bucket) (long : Int) : ∃ t : List Bucket × Int, series_Wider l long = some t ∧ t.1.length ≤ 20000 ∧ (if chkB l = 0 then Q_WiderOf l long = some t else t = ([], chkB l)) := by
  unfold series_Wider
  rw [CheckBuckets_eq]
  simp only [Option.bind_some]
  by_cases h0 : chkB l = 0
  · rw [if_neg (by simpa using h0)]
    simp only [if_pos h0]
    unfold Q_WiderOf
    rw [Out_in]
    by_cases c1 : (!Q_in long 1 345686400000) = true
    · simp only [if_pos c1]
      exact ⟨([], 1), rfl, by simp, rfl⟩
    · simp only [if_neg c1]
      have hlong : 1 ≤ long ∧ long ≤ 345686400000 := by
        rw [Qin_eq] at c1; simp at c1; exact c1
      obtain ⟨t, t3, t1, t2⟩ := wider_run l long h0 hlong
      have both : ∀ c, ∃ u : List Bucket × Int, series_Wider_j1 l long c = some u ∧ u.1.length ≤ 20000 ∧ Q_WiderOf_j1 l long c = some u := by
        intro c
        cases c with
        | true => exact ⟨([], 1), rfl, by simp, rfl⟩
        | false =>
          refine ⟨t, ?_, t3, ?_⟩
          · unfold series_Wider_j1; rw [if_neg (by simp), t1]
          · unfold Q_WiderOf_j1; rw [if_neg (by simp), t2]; rfl
      by_cases c2 : (0 : Int) < l.length
      · simp only [if_pos c2, (length_eq l).1, (length_eq l).2, Option.bind_some]
        have hne : lenB l ≠ 0 := by
          rcases lenB_pos h0 with ⟨h, _⟩ | ⟨_, h⟩
          · rw [h] at c2; simp at c2
          · omega
        rw [rem_ne hne]
        simp only [Option.bind_some]
        exact both _
      · simp only [if_neg c2]
        exact both _
  · rw [if_pos h0]
    exact ⟨_, rfl, by simp, by rw [if_neg h0]⟩
theorem errsB (x y : Int) : L_errs [x, y] = some (orL [x, y]) := gOr_eq _ (by simp)
theorem eqB_self (l : List Bucket) (h : l.length ≤ 20000) : slices_Equal_Bucket_Bucket l l = some true := by
  rw [show slices_Equal_Bucket_Bucket l l = some (decide (l = l)) from gEqual_eq l l (by omega)]; simp
theorem join_j3 (a b : List Bucket) (wide : Int) : L_BucketsJoin_j3 b a wide = some true := by
  obtain ⟨t, t1, t2, t3⟩ := Join_eq a b
  obtain ⟨u, u1, u2, u3⟩ := Wider_eq a wide
  have fin : L_BucketsJoin_j5 t u t.2 t.1 u.2 u.1 = some true := by
    unfold L_BucketsJoin_j5
    rw [if_pos rfl, eqB_self _ t2]
    simp only [Option.bind_some, if_true]
    rw [eqB_self _ u2]
    simp only [Option.bind_some, if_true, measured_eq]
    rfl
  have j4 : L_BucketsJoin_j4 a wide t u (chkB a) t.2 t.1 = some true := by
    unfold L_BucketsJoin_j4
    by_cases h : chkB a = 0
    · rw [if_pos h] at u3 ⊢
      rw [u3]
      simp only [Option.bind_some]
      exact fin
    · rw [if_neg h] at u3 ⊢
      rw [u3] at fin ⊢
      exact fin
  unfold L_BucketsJoin_j3
  rw [t1, u1, BucketsFault_eq, BucketsFault_eq]
  simp only [Option.bind_some]
  rw [errsB]
  simp only [Option.bind_some]
  by_cases h : orL [chkB a, chkB b] = 0
  · rw [if_pos h] at t3 ⊢
    rw [t3]
    simp only [Option.bind_some]
    exact j4
  · rw [if_neg h] at t3 ⊢
    rw [t3] at j4 ⊢
    exact j4
theorem BucketsJoin_plain (l : List Int) : L_BucketsJoin l = some true := by
  unfold L_BucketsJoin
  refine Gen.use (Pick_ok (k := 1000) ⟨by simp, by simp⟩ (by simp) (by simp) (by omega)) (fun long s1 hlong hs1 => ?_)
  have hl0 : long ≠ 0 := by have := pick_le (lo := 1) (hi := 100) hlong (by decide); omega
  refine Gen.use (RightBuckets_ok (k := 900) (hs1.less (by omega)) hl0 (by omega)) (fun a s2 ha hs2 => ?_)
  refine Gen.use (RightBuckets_ok (k := 800) (hs2.less (by omega)) hl0 (by omega)) (fun b s3 hb hs3 => ?_)
  refine Gen.use (Flip_ok (k := 700) (hs3.less (by omega)) (by omega) (by omega) (by omega)) (fun c s4 hc hs4 => ?_)
  have j2 : ∀ (b a : List Bucket) (s : Stm), SOk s 20 → L_BucketsJoin_j2 (long, s1) b s.L s.at_ a = some true := by
    intro b a s hs
    unfold L_BucketsJoin_j2
    refine Gen.use (Pick_ok (k := 19) (hs.less (by omega)) (by simp) (by simp) (by omega)) (fun m s5 hm hs5 => ?_)
    refine Gen.use (Flip_ok (k := 18) (hs5.less (by omega)) (by omega) (by omega) (by omega)) (fun c s6 hc hs6 => ?_)
    simp only
    split
    · refine Gen.use (Pick_ok (k := 17) (hs6.less (by omega)) (by simp) (by simp) (by omega)) (fun w s7 hw hs7 => ?_)
      exact join_j3 a b w
    · exact join_j3 a b _
  have j1 : ∀ (b : List Bucket) (s : Stm), SOk s 50 → L_BucketsJoin_j1 (long, s1) (a, s2) s.L s.at_ b = some true := by
    intro b s hs
    unfold L_BucketsJoin_j1
    refine Gen.use (Flip_ok (k := 40) (hs.less (by omega)) (by omega) (by omega) (by omega)) (fun c s5 hc hs5 => ?_)
    simp only
    split
    · refine Gen.use (SpoiltBuckets_ok (k := 30) (hs5.less (by omega)) (by omega) ha) (fun a' s6 ha' hs6 => ?_)
      exact j2 b a' s6 (hs6.less (by omega))
    · exact j2 b a s5 (hs5.less (by omega))
  simp only
  split
  · refine Gen.use (RightBuckets_ok (k := 600) (hs4.less (by omega)) (by omega) (by omega)) (fun b' s5 hb' hs5 => ?_)
    exact j1 b' s5 (hs5.less (by omega))
  · exact j1 b s4 (hs4.less (by omega))
end Go.Beacon
