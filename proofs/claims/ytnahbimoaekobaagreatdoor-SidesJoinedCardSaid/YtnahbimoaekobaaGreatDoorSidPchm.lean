/- Properties by maps: what writing changes into a map gives. No program in sight. -/
import Derived.Test.YtnahbimoaekobaaGreatDoorSidPnms
import Derived.Test.YtnahbimoaekobaaGreatDoorPmap
set_option linter.unusedVariables false
set_option linter.unusedSimpArgs false
namespace Go.Beacon
open Go Go.Eng

section
variable {α : Type} (key : α → Str) (val : α → ValueS)
/-- Writing a list into a map. -/
def setG (m : List (Str × ValueS)) (xs : List α) : List (Str × ValueS) := xs.foldl (fun m x => mset m (key x) (val x)) m
theorem setG_cons (m : List (Str × ValueS)) (x : α) (xs : List α) : setG key val m (x :: xs) = setG key val (mset m (key x) (val x)) xs := rfl
theorem setG_snoc (m : List (Str × ValueS)) (xs : List α) (x : α) : setG key val m (xs ++ [x]) = mset (setG key val m xs) (key x) (val x) := by
  unfold setG; rw [List.foldl_append]; rfl
theorem setG_SM : ∀ (xs : List α) {m : List (Str × ValueS)}, SM m → SM (setG key val m xs)
  | [], m, h => h
  | x :: xs, m, h => setG_SM xs (h.set _ _)
theorem setG_len : ∀ (xs : List α) (m : List (Str × ValueS)), (setG key val m xs).length ≤ m.length + xs.length
  | [], m => Nat.le_refl _
  | x :: xs, m => by
    have h1 := setG_len xs (mset m (key x) (val x))
    have h2 := mset_len m (key x) (val x)
    rw [setG_cons]; simp only [List.length_cons]; omega
theorem setG_get : ∀ (xs : List α) (m : List (Str × ValueS)) (k : Str), xs.Pairwise (fun a b => key a ≠ key b) → mget? (setG key val m xs) k = ((gt key xs k).map val).or (mget? m k)
  | [], m, k, _ => rfl
  | x :: xs, m, k, h => by
    have h1 := List.pairwise_cons.1 h
    rw [setG_cons, setG_get xs _ k h1.2, gt_cons, mget_mset]
    by_cases e : key x = k
    · rw [if_pos e, if_pos e]
      have : gt key xs k = none := (gt_none key).2 (fun y hy => by rw [← e]; exact (h1.1 y hy).symm)
      rw [this]; rfl
    · rw [if_neg e, if_neg e]
end
/-- Properties of the values of a map, in any order. -/
def ofM (p : List (Str × ValueS)) : List PropS := (p.filter (fun e => decide (e.2.Kind ≠ 0))).map (fun e => ⟨e.1, e.2⟩)
theorem ofM_cons (e : Str × ValueS) (p : List (Str × ValueS)) : ofM (e :: p) = if e.2.Kind ≠ 0 then ⟨e.1, e.2⟩ :: ofM p else ofM p := by
  unfold ofM
  by_cases h : e.2.Kind ≠ 0
  · rw [List.filter_cons_of_pos (by simpa using h), if_pos h]; rfl
  · rw [List.filter_cons_of_neg (by simpa using h), if_neg h]
theorem ofM_snoc (p : List (Str × ValueS)) (e : Str × ValueS) : ofM (p ++ [e]) = if e.2.Kind ≠ 0 then ofM p ++ [⟨e.1, e.2⟩] else ofM p := by
  unfold ofM
  rw [List.filter_append, List.map_append]
  by_cases h : e.2.Kind ≠ 0
  · rw [if_pos h, List.filter_cons_of_pos (by simpa using h)]; rfl
  · rw [if_neg h, List.filter_cons_of_neg (by simpa using h)]; simp
theorem ofM_len (p : List (Str × ValueS)) : (ofM p).length ≤ p.length := by
  unfold ofM; rw [List.length_map]; exact List.length_filter_le _ _
theorem mget_gt (p : List (Str × ValueS)) (k : Str) : mget? p k = (gt Prod.fst p k).map Prod.snd := by
  induction p with
  | nil => rfl
  | cons e p ih =>
    rw [mget_cons, gt_cons, ih]
    split <;> rfl
theorem ofM_names : ∀ {p : List (Str × ValueS)}, p.Pairwise (fun a b => a.1 ≠ b.1) → (ofM p).Pairwise (fun a b => a.Name ≠ b.Name) := by
  intro p h
  unfold ofM
  rw [List.pairwise_map]
  exact h.filter _
theorem ofM_gt : ∀ (p : List (Str × ValueS)) (k : Str), p.Pairwise (fun a b => a.1 ≠ b.1) → gt PropS.Name (ofM p) k = (mget? p k).bind (fun v => if v.Kind ≠ 0 then some ⟨k, v⟩ else none)
  | [], k, _ => rfl
  | e :: p, k, h => by
    have h1 := List.pairwise_cons.1 h
    have ih := ofM_gt p k h1.2
    rw [ofM_cons, mget_cons]
    by_cases c : e.1 = k
    · rw [if_pos c]
      have hn : mget? p k = none := by
        rw [mget_gt, (gt_none Prod.fst).2 (fun y hy => by rw [← c]; exact (h1.1 y hy).symm)]; rfl
      by_cases d : e.2.Kind ≠ 0
      · rw [if_pos d, gt_cons, if_pos c]
        simp only [Option.bind_some]
        rw [if_pos d, c]
      · rw [if_neg d, ih, hn]
        simp only [Option.bind_some]
        rw [if_neg d]; rfl
    · rw [if_neg c]
      by_cases d : e.2.Kind ≠ 0
      · rw [if_pos d, gt_cons, if_neg c, ih]
      · rw [if_neg d, ih]
theorem sn_ne {l : List PropS} (h : SN l) : l.Pairwise (fun a b => a.Name ≠ b.Name) := SId.ne PropS.Name h
theorem sortSN (f : PropS → PropS → Option Int) (hf : ∀ a b, f a b = some (Lib.compareBytes a.Name b.Name)) (l : List PropS) (hl : l.length ≤ 100000) (hd : l.Pairwise (fun a b => a.Name ≠ b.Name)) : ∃ Z, sortO f l = some Z ∧ Z.Perm l ∧ SN Z := by
  obtain ⟨Z, h1, h2, h3⟩ := sortO_eq f (fun a b => Lib.compareBytes a.Name b.Name) l hl (fun a _ b _ => hf a b) ((cmpB_3.on PropS.Name).ord l)
  refine ⟨Z, h1, h2, ?_⟩
  have hZ : Z.Pairwise (fun a b => a.Name ≠ b.Name) := (h2.pairwise_iff (fun {a b} h => h.symm)).2 hd
  unfold SN
  refine (h3.and hZ).imp (fun {a b} h => ?_)
  have h1 : ¬ Lib.compareBytes b.Name a.Name < 0 := h.1
  have hn := cmpB_neg a.Name b.Name
  have hz : Lib.compareBytes a.Name b.Name ≠ 0 := fun z => h.2 (cmpB_zero z)
  omega
theorem sn_ext {A B : List PropS} (hA : SN A) (hB : SN B) (h : ∀ k, gt PropS.Name A k = gt PropS.Name B k) : A = B := gt_ext PropS.Name hA hB h
end Go.Beacon
