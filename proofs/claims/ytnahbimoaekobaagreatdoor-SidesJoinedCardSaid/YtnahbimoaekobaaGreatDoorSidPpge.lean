/- The generators of properties. No program in sight. -/
import Derived.Test.YtnahbimoaekobaaGreatDoorSidPptl
import Derived.Test.YtnahbimoaekobaaGreatDoorPsrt
set_option linter.unusedVariables false
set_option linter.unusedSimpArgs false
namespace Go.Beacon
open Go Go.Eng

theorem mem_len {l : List Str} {n : Nat} (h : l.all (fun s => decide (s.length ≤ n)) = true) {v : Str} (hv : v ∈ l) : v.length ≤ n := by
  have := List.all_eq_true.1 h v hv
  simpa using this
theorem repA : repeatO ([97] : Str) (41 : Int) = some (Lib.repeatL ([97] : Str) (41 : Int).toNat) := by unfold repeatO; rw [if_pos ⟨by omega, by omega, by decide⟩]
theorem repW : repeatO ([119] : Str) (1001 : Int) = some (Lib.repeatL ([119] : Str) (1001 : Int).toNat) := by unfold repeatO; rw [if_pos ⟨by omega, by omega, by decide⟩]
theorem PropName_k {s : Stm} {K : Int} (hs : SOk s K) (hK : 2 ≤ K) : Gen (Stream_PropName s) (K - 2) (fun t => t.length ≤ 1000) := by
  refine Gen.of ?_
  unfold Stream_PropName
  refine Ok.gen (Flip_k hs (by omega) (by omega) (by omega)) (fun c s1 _ q1 => ?_)
  dsimp only
  split
  · rw [repA]
    simp only [Option.bind_some]
    refine Ok.gen (Some_k q1 (by omega) (by simp) (by simp)) (fun t s2 ht q2 => ?_)
    exact Ok.ret ⟨mem_len (by decide) ht, q2.less (by omega)⟩
  · refine Ok.gen (Some_k q1 (by omega) (by simp) (by simp)) (fun t s2 ht q2 => ?_)
    exact Ok.ret ⟨mem_len (by decide) ht, q2.less (by omega)⟩
theorem RightValue_k {s : Stm} {K : Int} (hs : SOk s K) (hK : 2 ≤ K) : Gen (Stream_RightValue s) (K - 2) (fun v => v.Words.length ≤ 1001) := by
  refine Gen.of ?_
  unfold Stream_RightValue
  refine Ok.gen (Next_k hs (by omega) (by omega) (by omega)) (fun c s1 _ q1 => ?_)
  dsimp only
  split
  · refine Ok.gen (Flip_k q1 (by omega) (by omega) (by omega)) (fun t s2 ht q2 => ?_)
    exact Ok.ret ⟨by simp, q2.less (by omega)⟩
  · split
    · refine Ok.gen (Some_k q1 (by omega) (by simp) (by simp)) (fun t s2 ht q2 => ?_)
      exact Ok.ret ⟨mem_len (n := 1001) (by decide) ht, q2.less (by omega)⟩
    · refine Ok.gen (Pick_k q1 (by omega) (by simp) (by simp)) (fun t s2 ht q2 => ?_)
      exact Ok.ret ⟨by simp, q2.less (by omega)⟩
theorem Value_k {s : Stm} {K : Int} (hs : SOk s K) (hK : 8 ≤ K) : Gen (Stream_Value s) (K - 8) (fun v => v.Words.length ≤ 1001) := by
  refine Gen.of ?_
  unfold Stream_Value Stream_Value_j5 Stream_Value_j4 Stream_Value_j3 Stream_Value_j2 Stream_Value_j1
  refine Ok.gen (RightValue_k hs (by omega)) (fun v s1 h1 q1 => ?_)
  refine Ok.gen (Flip_k q1 (by omega) (by omega) (by omega)) (fun c s2 _ q2 => ?_)
  dsimp only
  split
  · exact Ok.ret ⟨by simp, q2.less (by omega)⟩
  · refine Ok.gen (Flip_k q2 (by omega) (by omega) (by omega)) (fun c s3 _ q3 => ?_)
    dsimp only
    split
    · refine Ok.gen (Next_k q3 (by omega) (by omega) (by omega)) (fun n s4 _ q4 => ?_)
      dsimp only
      split
      · refine Ok.gen (Pick_k q4 (by omega) (by simp) (by simp)) (fun t s5 ht q5 => ?_)
        exact Ok.ret ⟨h1, q5.less (by omega)⟩
      · split
        · exact Ok.ret ⟨h1, q4.less (by omega)⟩
        · split
          · refine Ok.gen (Odd_k q4 (by omega) (by omega) (by omega) (by omega)) (fun t s5 ht q5 => ?_)
            exact Ok.ret ⟨h1, q5.less (by omega)⟩
          · split
            · rw [repW]
              simp only [Option.bind_some]
              refine Ok.gen (Some_k q4 (by omega) (by simp) (by simp)) (fun t s5 ht q5 => ?_)
              exact Ok.ret ⟨mem_len (n := 1001) (by decide +kernel) ht, q5.less (by omega)⟩
            · exact Ok.ret ⟨by simp, q4.less (by omega)⟩
    · exact Ok.ret ⟨h1, q3.less (by omega)⟩
/-- Few and short properties. -/
def PF (k : Nat) (l : List PropS) : Prop := l.length ≤ k ∧ ∀ p ∈ l, p.Name.length ≤ 1000 ∧ p.Value.Words.length ≤ 1001
theorem PF.pb {k : Nat} {l : List PropS} (h : PF k l) (hk : k ≤ 1000) : PB l := ⟨Nat.le_trans h.1 hk, fun p hp => ⟨by have := (h.2 p hp).1; omega, by have := (h.2 p hp).2; omega⟩⟩
theorem PF.snoc {k : Nat} {l : List PropS} {n : Str} {v : ValueS} (h : PF k l) (hn : n.length ≤ 1000) (hv : v.Words.length ≤ 1001) : PF (k + 1) (l ++ [⟨n, v⟩]) :=
  ⟨by have := h.1; simp; omega, fun p hp => by
    rcases List.mem_append.1 hp with e | e
    · exact h.2 p e
    · rw [List.mem_singleton] at e; subst e; exact ⟨hn, hv⟩⟩
theorem sortP_eq (l : List PropS) {k : Nat} (h : PF k l) (hk : k ≤ 1000) : ∃ Z, lenOk l.length (fun r : (List PropS) => r.length) (slices_SortFunc_Prop_Prop l (fun y0 y1 => some (propOrder y0 y1))) = some Z ∧ PF k Z := by
  obtain ⟨Z, h1, h2, _⟩ := sortO_eq (fun y0 y1 => some (propOrder y0 y1)) propOrder l (by have := h.1; omega) (fun a _ b _ => rfl) ((cmpB_3.on PropS.Name).ord l)
  refine ⟨Z, ?_, by rw [h2.length_eq]; exact h.1, fun p hp => h.2 p (h2.mem_iff.1 hp)⟩
  unfold slices_SortFunc_Prop_Prop lenOk
  rw [h1]
  simp [h2.length_eq]
theorem cloneG_eq (a : List PropS) (h : a.length ≤ 100000) : slices_Clone_Prop_Prop a = some a := cloneP_eq a h
theorem RightProps_loop (v1 : Int × Stm) (hv : v1.1 ≤ 5) : ∀ (m : Nat) (L : List Int) (a : Int) (l : List PropS) (n K : Int), n + m = v1.1 → 0 ≤ n → SOk ⟨L, a⟩ (K + 3 * m) → 0 ≤ K → PF n.toNat l → Gen (Stream_RightProps_l1 v1 L a l n) K (fun l => PF 5 l)
  | 0, L, a, l, n, K, hm, h0, hs, hK, hl => by
    unfold Stream_RightProps_l1
    rw [iter_eq]
    show Gen (Option.bind (Stream_RightProps_b1 v1 L a l n) _) _ _
    unfold Stream_RightProps_b1
    rw [if_neg (by omega)]
    exact ⟨l, ⟨L, a⟩, rfl, ⟨by have := hl.1; omega, hl.2⟩, hs.less (by omega)⟩
  | m + 1, L, a, l, n, K, hm, h0, hs, hK, hl => by
    have ih := RightProps_loop v1 hv m
    unfold Stream_RightProps_l1 at ih ⊢
    rw [iter_eq]
    show Gen (Option.bind (Stream_RightProps_b1 v1 L a l n) _) _ _
    unfold Stream_RightProps_b1 Stream_RightProps_j1
    have hln := hl.1
    rw [if_pos (by omega), cloneG_eq l (by omega)]
    simp only [Option.bind_some]
    obtain ⟨t, s2, e2, p2, q2⟩ := Some_k (s := ⟨L, a⟩) (l := [([97] : Str), ([97, 46, 120] : Str), ([97, 46, 121] : Str), ([97, 46, 120, 46, 112] : Str), ([98] : Str), ([98, 46, 122] : Str), ([97, 98] : Str)]) hs (by omega) (by simp) (by simp)
    rw [e2]
    simp only [Option.bind_some]
    obtain ⟨v, s3, e3, p3, q3⟩ := RightValue_k q2 (by omega)
    rw [e3]
    simp only [Option.bind_some]
    have ht : t.length ≤ 1000 := mem_len (by decide) p2
    have hsn := hl.snoc ht p3
    have happ : app l [(⟨t, v⟩ : PropS)] = some (l ++ [⟨t, v⟩]) := by unfold app; rw [if_pos (by simp; omega)]
    rw [happ]
    simp only [Option.bind_some]
    obtain ⟨Z, e4, p4⟩ := sortP_eq _ hsn (by omega)
    rw [e4]
    simp only [Option.bind_some]
    obtain ⟨r, _, e5, _⟩ := CheckProps_eq Z (p4.pb (by omega))
    rw [e5]
    simp only [Option.bind_some]
    rw [w64_in (by omega) (by omega)]
    have hnn : (n + 1).toNat = n.toNat + 1 := by omega
    split
    · exact ih s3.L s3.at_ Z (n + 1) K (by omega) (by omega) (q3.less (by omega)) hK (by rw [hnn]; exact p4)
    · exact ih s3.L s3.at_ l (n + 1) K (by omega) (by omega) (q3.less (by omega)) hK ⟨by omega, hl.2⟩
end Go.Beacon
