/- Streams of versions, their texts and images. No program in sight. -/
import Derived.Test.YtibjdfdmkahocaaDoorVerPver
set_option linter.unusedVariables false
set_option linter.unusedSimpArgs false
namespace Go.Beacon
open Go Go.Eng

theorem RightVersion_k {s : Stm} {K : Int} (hs : SOk s K) (hK : 3 ≤ K) : Gen (Stream_RightVersion s) (K - 3) (fun v => verB v = true) := by
  unfold Stream_RightVersion
  refine Gen.of ?_
  refine Ok.gen (Range_k hs (by omega) (by omega) (by omega) (by omega)) (fun a s1 h1 q1 => ?_)
  refine Ok.gen (Pick_k q1 (by omega) (by simp) (by simp)) (fun b s2 h2 q2 => ?_)
  refine Ok.gen (Pick_k q2 (by omega) (by simp) (by simp)) (fun c s3 h3 q3 => ?_)
  have b2 := pick_le (lo := 0) (hi := 9999) h2 (by decide)
  have b3 := pick_le (lo := 0) (hi := 9999) h3 (by decide)
  refine Ok.ret ⟨?_, q3.less (by omega)⟩
  unfold verB; simp; omega
theorem Version_k {s : Stm} {K : Int} (hs : SOk s K) (hK : 8 ≤ K) : Gen (Stream_Version s) (K - 8) (fun _ => True) := by
  unfold Stream_Version Stream_Version_j1
  refine Gen.of ?_
  refine Ok.gen (RightVersion_k hs (by omega)) (fun a s1 h1 q1 => ?_)
  refine Ok.gen (Flip_k q1 (by omega) (by omega) (by omega)) (fun b s2 h2 q2 => ?_)
  split
  · refine Ok.gen (Odd_k q2 (by omega) (by omega) (by omega) (by omega)) (fun c s3 h3 q3 => ?_)
    refine Ok.gen (Odd_k q3 (by omega) (by omega) (by omega) (by omega)) (fun d s4 h4 q4 => ?_)
    exact Ok.ret ⟨trivial, q4.less (by omega)⟩
  · exact Ok.ret ⟨trivial, q2.less (by omega)⟩
theorem Changed_k {s : Stm} {t w : Str} {K : Int} (hs : SOk s K) (hK : 3 ≤ K) (ht : t.length ≤ 1000000) (hw : w.length ≤ 1000) : Gen (Stream_Changed s t w) (K - 3) (fun r => r.length ≤ t.length + 4 + w.length) := by
  unfold Stream_Changed Stream_Changed_j1
  refine Gen.of ?_
  split
  · exact Ok.ret ⟨by show w.length ≤ _; omega, hs.less (by omega)⟩
  · rename_i hne
    simp only [Bool.or_eq_true, decide_eq_true_eq, not_or] at hne
    have l1 := List.length_pos_iff.2 hne.1
    have l2 := List.length_pos_iff.2 hne.2
    refine Ok.gen (Next_k hs (by omega) (by omega) (by omega)) (fun i s1 h1 q1 => ?_)
    refine Ok.gen (Next_k q1 (by omega) (by omega) (by omega)) (fun j s2 h2 q2 => ?_)
    refine Ok.idx h2.1 h2.2 (fun c hc hm => ?_)
    refine Ok.gen (Next_k q2 (by omega) (by omega) (by omega)) (fun k s3 h3 q3 => ?_)
    dsimp only at h1 h2 h3 ⊢
    have w1 : w64 (i + 1) = i + 1 := w64_in (by omega) (by omega)
    have lr := strR_len (IntKind.i32.wrap (c.toNat : Int))
    rw [w1]
    split
    · refine Ok.slc (by omega) (by omega) (by omega) (fun a ha la => ?_)
      refine Ok.cat (by omega) ?_
      refine Ok.slc (by omega) (by omega) (by omega) (fun b hb lb => ?_)
      refine Ok.cat (by simp; omega) ?_
      exact Ok.ret ⟨by simp; omega, q3.less (by omega)⟩
    · split
      · refine Ok.slc (by omega) (by omega) (by omega) (fun a ha la => ?_)
        refine Ok.cat (by omega) ?_
        refine Ok.slc (by omega) (by omega) (by omega) (fun b hb lb => ?_)
        refine Ok.cat (by simp; omega) ?_
        exact Ok.ret ⟨by simp; omega, q3.less (by omega)⟩
      · refine Ok.slc (by omega) (by omega) (by omega) (fun a ha la => ?_)
        refine Ok.slc (by omega) (by omega) (by omega) (fun b hb lb => ?_)
        refine Ok.cat (by omega) ?_
        exact Ok.ret ⟨by simp; omega, q3.less (by omega)⟩
theorem VText_loop (v : Int × Stm) (hv : 0 ≤ v.1 ∧ v.1 ≤ 1) {l : List Int} {n : Int} {t : Str} {K : Int} (hs : SOk ⟨l, n⟩ K) (hK : 3 ≤ K) (ht : t.length ≤ 100) : Gen (Stream_VersionText_l1 v l n t 0) (K - 3) (fun r => r.length ≤ 1000) := by
  unfold Stream_VersionText_l1
  refine Gen.of ?_
  refine Ok.iter (fun x : (List Int) × Int × Str × Int => (1 - x.2.2.2).toNat) (fun x => 0 ≤ x.2.2.2 ∧ SOk ⟨x.1, x.2.1⟩ (K - 3 * x.2.2.2) ∧ x.2.2.2 ≤ v.1 ∧ (x.2.2.1.length : Int) ≤ 100 + 10 * x.2.2.2) ?_ _ ⟨by simp, by simpa using hs, hv.1, by simp; omega⟩
  rintro ⟨l, n, t, i⟩ ⟨h0, h1, h2, h3⟩
  dsimp only at h0 h1 h2 h3 ⊢
  unfold Stream_VersionText_b1
  have w1 : w64 (i + 1) = i + 1 := w64_in (by omega) (by omega)
  rw [w1]
  split
  · refine Ok.gen (Changed_k h1 (by omega) (by omega) (by simp)) (fun r s1 p1 q1 => ?_)
    dsimp only at p1 ⊢
    refine Ok.ret ⟨⟨by dsimp only; omega, q1.less (by dsimp only; omega), by dsimp only; omega, ?_⟩, by dsimp only; omega⟩
    dsimp only
    simp only [List.length_cons, List.length_nil] at p1
    omega
  · exact Ok.inr (Ok.ret ⟨by show t.length ≤ 1000; omega, h1.less (by omega)⟩)
theorem VersionText_k {s : Stm} {K : Int} (hs : SOk s K) (hK : 9 ≤ K) : Gen (Stream_VersionText s) (K - 9) (fun r => r.length ≤ 1000) := by
  unfold Stream_VersionText Stream_VersionText_j1
  refine Gen.of ?_
  refine Ok.gen (RightVersion_k hs (by omega)) (fun v s1 h1 q1 => ?_)
  obtain ⟨e, le⟩ := verT_eq v h1
  refine Ok.is e ?_
  refine Ok.gen (Flip_k q1 (by omega) (by omega) (by omega)) (fun b s2 h2 q2 => ?_)
  dsimp only
  split
  · refine Ok.gen (Some_k q2 (by omega) (by simp) (by simp)) (fun c s3 h3 q3 => ?_)
    refine Ok.gen (Pick_k q3 (by omega) (by simp) (by simp)) (fun d s4 h4 q4 => ?_)
    have b4 := pick_le (lo := 0) (hi := 1) h4 (by decide)
    have lc : c.length ≤ 100 := by
      simp only [List.mem_cons, List.not_mem_nil, or_false] at h3
      rcases h3 with h | h | h | h | h | h | h | h <;> subst h <;> simp
    exact Ok.of ((VText_loop (d, s4) b4 q4 (by omega) lc).mono (by omega) (fun _ h => h))
  · refine Ok.gen (Pick_k q2 (by omega) (by simp) (by simp)) (fun d s4 h4 q4 => ?_)
    have b4 := pick_le (lo := 0) (hi := 1) h4 (by decide)
    exact Ok.of ((VText_loop (d, s4) b4 q4 (by omega) (by omega)).mono (by omega) (fun _ h => h))
theorem mem_app {α : Type} {P : α → Prop} {xs : List α} {y : α} (h : ∀ x ∈ xs, P x) (hy : P y) : ∀ x ∈ xs ++ [y], P x := by
  intro x hx
  rcases List.mem_append.1 hx with h1 | h1
  · exact h x h1
  · rw [List.mem_singleton.1 h1]; exact hy
theorem mem_set {α : Type} {P : α → Prop} {xs : List α} {i : Nat} {y : α} (h : ∀ x ∈ xs, P x) (hy : P y) : ∀ x ∈ xs.set i y, P x := by
  intro x hx
  rcases List.mem_or_eq_of_mem_set hx with h1 | h1
  · exact h x h1
  · rw [h1]; exact hy
def ImgR (x : Image) : Prop := x.Models.length ≤ 2 ∧ x.From.length ≤ 2
def ImgsR (xs : List Image) : Prop := xs.length ≤ 8 ∧ ∀ x ∈ xs, ImgR x
theorem ImgR.b {x : Image} (h : ImgR x) : ImgB x := ⟨by have := h.1; omega, by have := h.2; omega⟩
theorem RI_inner {n10 : Int} (hn : 2 ≤ n10 ∧ n10 ≤ 5) {l : List Int} {n : Int} {xs : List Image} {K : Int} (hs : SOk ⟨l, n⟩ K) (hK : 12 ≤ K) (hx : xs.length ≤ 100 ∧ ∀ x ∈ xs, ImgR x) :
    Ok (Stream_RightImages_l2 n10 l n xs 0) (fun r => ∃ l' n' ys, r = .inl (l', n', ys, n10 + 1) ∧ SOk ⟨l', n'⟩ (K - 12) ∧ ys.length ≤ xs.length + 2 ∧ ∀ x ∈ ys, ImgR x) := by
  unfold Stream_RightImages_l2
  refine Ok.iter (fun x : (List Int) × Int × (List Image) × Int => (2 - x.2.2.2).toNat) (fun x => (0 ≤ x.2.2.2 ∧ x.2.2.2 ≤ 2) ∧ SOk ⟨x.1, x.2.1⟩ (K - 6 * x.2.2.2) ∧ (x.2.2.1.length : Int) ≤ xs.length + x.2.2.2 ∧ ∀ y ∈ x.2.2.1, ImgR y) ?_ _ ⟨by simp, by simpa using hs, by simp, hx.2⟩
  rintro ⟨l, n, ys, i⟩ ⟨h0, h1, h2, h3⟩
  dsimp only at h0 h1 h2 h3 ⊢
  have w1 : w64 (i + 1) = i + 1 := w64_in (by omega) (by omega)
  have w2 : w64 (n10 + 1) = n10 + 1 := w64_in (by omega) (by omega)
  have w3 : w64 (n10 - 1) = n10 - 1 := w64_in (by omega) (by omega)
  unfold Stream_RightImages_b2
  rw [w2, w3]
  have j1 : ∀ (l' : List Int) (n' : Int) (zs : List Image), i < 2 → SOk ⟨l', n'⟩ (K - 6 * i - 6) → zs.length ≤ ys.length + 1 → (∀ y ∈ zs, ImgR y) → Ok (Stream_RightImages_j1 i l' n' zs) (Stp (fun x : (List Int) × Int × (List Image) × Int => (2 - x.2.2.2).toNat) (fun x => (0 ≤ x.2.2.2 ∧ x.2.2.2 ≤ 2) ∧ SOk ⟨x.1, x.2.1⟩ (K - 6 * x.2.2.2) ∧ (x.2.2.1.length : Int) ≤ xs.length + x.2.2.2 ∧ ∀ y ∈ x.2.2.1, ImgR y) (fun r => ∃ l' n' ys, r = .inl (l', n', ys, n10 + 1) ∧ SOk ⟨l', n'⟩ (K - 12) ∧ ys.length ≤ xs.length + 2 ∧ ∀ x ∈ ys, ImgR x) (l, n, ys, i)) := by
    intro l' n' zs hi hq hl hb
    unfold Stream_RightImages_j1
    rw [w1]
    exact Ok.ret ⟨⟨⟨by dsimp only; omega, by dsimp only; omega⟩, hq.less (by dsimp only; omega), by dsimp only; omega, hb⟩, by dsimp only; omega⟩
  split
  · rename_i hi
    have hi : i < 2 := by simpa using hi
    refine Ok.idx h0.1 (by simpa using hi) (fun m hm _ => ?_)
    refine Ok.gen (Flip_k h1 (by omega) (by omega) (by omega)) (fun b s1 p1 q1 => ?_)
    split
    · exact j1 _ _ _ hi (q1.less (by omega)) (by omega) h3
    · refine Ok.gen (Next_k q1 (by omega) (by omega) (by omega)) (fun c s2 p2 q2 => ?_)
      refine Ok.idx p2.1 (by simpa using p2.2) (fun ms hms hmm => ?_)
      have lms : ms.length ≤ 2 := by
        simp only [List.mem_cons, List.not_mem_nil, or_false] at hmm
        rcases hmm with h | h | h | h <;> subst h <;> simp
      refine Ok.gen (Pick_k q2 (by omega) (by simp) (by simp)) (fun d s3 p3 q3 => ?_)
      refine Ok.gen (Range_k q3 (by omega) (by omega) (by omega) (by omega)) (fun e s4 p4 q4 => ?_)
      refine Ok.gen (Pick_k q4 (by omega) (by simp) (by simp)) (fun f s5 p5 q5 => ?_)
      refine Ok.gen (Flip_k q5 (by omega) (by omega) (by omega)) (fun g s6 p6 q6 => ?_)
      dsimp only
      refine (fun (H : ∀ Q, (∀ (zs : List Image), zs.length ≤ ys.length + 1 → (∀ y ∈ zs, ImgR y) → Ok (Stream_RightImages_j1 i s6.L s6.at_ zs) Q) → Ok (Stream_RightImages_j2 n10 ys i m ms (d, s3) (e, s4) (f, s5) s6.L s6.at_ (g && decide (m = 5))) Q) => H _ (fun zs hl hb => j1 _ _ zs hi (q6.less (by omega)) hl hb)) (fun Q J => ?_)
      have j5 : ∀ (rs : List Range), rs.length ≤ 2 → Ok (Stream_RightImages_j5 n10 ys i m ms (d, s3) s6.L s6.at_ rs) Q := by
        intro rs hr
        unfold Stream_RightImages_j5
        refine Ok.app (by simp; omega) ?_
        exact J _ (by simp) (mem_app h3 ⟨by show ms.length ≤ 2; omega, by show rs.length ≤ 2; omega⟩)
      have j4 : ∀ (rs : List Range) (a1 a2 a3 a4 a5 : Int) (c : Bool), rs.length ≤ 1 → Ok (Stream_RightImages_j4 n10 ys i m ms (d, s3) s6.L s6.at_ rs a1 a2 a3 a4 a5 c) Q := by
        intro rs a1 a2 a3 a4 a5 c hr
        unfold Stream_RightImages_j4
        split
        · refine Ok.app (by simp; omega) ?_
          exact j5 _ (by simp; omega)
        · exact j5 _ (by omega)
      have j3 : ∀ (rs : List Range) (a1 a2 a3 a4 a5 : Int), rs.length ≤ 1 → Ok (Stream_RightImages_j3 n10 ys i m ms (d, s3) s6.L s6.at_ rs a1 a2 a3 a4 a5) Q := by
        intro rs a1 a2 a3 a4 a5 hr
        unfold Stream_RightImages_j3
        split
        · exact j4 _ _ _ _ _ _ _ hr
        · refine Ok.idx (by omega) (by omega) (fun r _ _ => ?_)
          simp only [vOrder_eq, Option.bind_some]
          exact j4 _ _ _ _ _ _ _ hr
      unfold Stream_RightImages_j2
      split
      · refine Ok.app (by simp) ?_
        exact j3 _ _ _ _ _ _ (by simp)
      · exact j3 _ _ _ _ _ _ (by simp)
  · rename_i hi
    have hi : ¬ i < 2 := by simpa using hi
    exact Ok.inr (Ok.ret ⟨l, n, ys, rfl, h1.less (by omega), by omega, h3⟩)
theorem RightImages_k {s : Stm} {K : Int} (hs : SOk s K) (hK : 48 ≤ K) : Gen (Stream_RightImages s) (K - 48) ImgsR := by
  unfold Stream_RightImages Stream_RightImages_l1
  refine Gen.of ?_
  refine Ok.iter (fun x : (List Int) × Int × (List Image) × Int => (6 - x.2.2.2).toNat) (fun x => (2 ≤ x.2.2.2 ∧ x.2.2.2 ≤ 6) ∧ SOk ⟨x.1, x.2.1⟩ (K - 12 * (x.2.2.2 - 2)) ∧ (x.2.2.1.length : Int) ≤ 2 * (x.2.2.2 - 2) ∧ ∀ y ∈ x.2.2.1, ImgR y) ?_ _ ⟨by simp, by simpa using hs, by simp, by simp⟩
  rintro ⟨l, n, ys, i⟩ ⟨h0, h1, h2, h3⟩
  dsimp only at h0 h1 h2 h3 ⊢
  unfold Stream_RightImages_b1
  split
  · rename_i hi
    obtain ⟨r, e, l', n', zs, rfl, g1, g2, g3⟩ := RI_inner (n10 := i) ⟨h0.1, hi⟩ h1 (by omega) ⟨by omega, h3⟩
    exact ⟨_, e, ⟨by dsimp only; omega, g1.less (by dsimp only; omega), by dsimp only; omega, g3⟩, by dsimp only; omega⟩
  · exact Ok.inr (Ok.ret ⟨⟨by show ys.length ≤ 8; omega, h3⟩, h1.less (by omega)⟩)
theorem Images_k {s : Stm} {K : Int} (hs : SOk s K) (hK : 68 ≤ K) : Gen (Stream_Images s) (K - 68) ImgsB := by
  unfold Stream_Images
  refine Gen.of ?_
  refine Ok.gen (RightImages_k hs (by omega)) (fun xs s1 h1 q1 => ?_)
  dsimp only
  have e2 : ∀ (l : List Int) (n : Int) (ys : List Image), SOk ⟨l, n⟩ (K - 68) → ImgsB ys → Ok (Stream_Images_j2 l n ys) (fun r => ImgsB r.1 ∧ SOk r.2 (K - 68)) := fun l n ys hq hy => Ok.ret ⟨hy, hq⟩
  unfold Stream_Images_j1
  have hset : ∀ {i : Nat} {y : Image}, ImgB y → ImgsB (xs.set i y) := fun hy => ⟨by simpa using h1.1, mem_set (fun x hx => (h1.2 x hx).b) hy⟩
  split
  · rename_i hp
    have hp : 0 < xs.length := by simpa using hp
    refine Ok.gen (Flip_k q1 (by omega) (by omega) (by omega)) (fun b s2 p2 q2 => ?_)
    dsimp only
    split
    · refine Ok.gen (Next_k q2 (by omega) (by omega) (by have := h1.1; omega)) (fun i s3 p3 q3 => ?_)
      refine Ok.idx p3.1 p3.2 (fun x hx hm => ?_)
      have hb := h1.2 x hm
      refine Ok.gen (Next_k q3 (by omega) (by omega) (by omega)) (fun c s4 p4 q4 => ?_)
      unfold Stream_Images_j3 Stream_Images_j4 Stream_Images_j5 Stream_Images_j6
      unfold Stream_Images_j5
      unfold Stream_Images_j4
      unfold Stream_Images_j3
      dsimp only
      split
      · refine Ok.gen (Version_k q4 (by omega)) (fun v s5 p5 q5 => ?_)
        exact e2 _ _ _ (q5.less (by omega)) (hset hb.b)
      · split
        · refine Ok.gen (Next_k q4 (by omega) (by omega) (by omega)) (fun c s5 p5 q5 => ?_)
          refine Ok.idx p5.1 (by simpa using p5.2) (fun ms hms hmm => ?_)
          refine e2 _ _ _ (q5.less (by omega)) (hset ⟨?_, hb.b.2⟩)
          simp only [List.mem_cons, List.not_mem_nil, or_false] at hmm
          rcases hmm with h | h | h | h <;> subst h <;> simp
        · split
          · have hcl : slices_Clone_Range_Range x.From = some x.From := by
              unfold slices_Clone_Range_Range
              rw [app_le (by have := hb.2; simp; omega)]; rfl
            refine Ok.is hcl ?_
            refine Ok.gen (Version_k q4 (by omega)) (fun v s5 p5 q5 => ?_)
            refine Ok.gen (Version_k q5 (by omega)) (fun w s6 p6 q6 => ?_)
            have hf := hb.2
            refine Ok.app (by simp; omega) ?_
            exact e2 _ _ _ (q6.less (by omega)) (hset ⟨hb.b.1, by simp; omega⟩)
          · split
            · exact e2 _ _ _ (q4.less (by omega)) (hset ⟨hb.b.1, by simp⟩)
            · refine Ok.gen (Odd_k q4 (by omega) (by omega) (by omega) (by omega)) (fun c s5 p5 q5 => ?_)
              exact e2 _ _ _ (q5.less (by omega)) (hset hb.b)
    · exact e2 _ _ _ (q2.less (by omega)) ⟨h1.1, fun x hx => (h1.2 x hx).b⟩
  · rw [if_neg (by simp)]
    exact e2 _ _ _ (q1.less (by omega)) ⟨h1.1, fun x hx => (h1.2 x hx).b⟩
theorem VersionsRead_plain (l : List Int) : L_VersionsRead l = some true := by
  suffices Ok (L_VersionsRead l) (fun r => r = true) by obtain ⟨r, h, rfl⟩ := this; exact h
  unfold L_VersionsRead
  have hs : SOk (⟨l, 0⟩ : Stm) 1000 := ⟨by simp, by simp⟩
  refine Ok.gen (Version_k hs (by omega)) (fun v s1 h1 q1 => ?_)
  refine Ok.gen (Version_k q1 (by omega)) (fun w s2 h2 q2 => ?_)
  refine Ok.gen (VersionText_k q2 (by omega)) (fun t s3 h3 q3 => ?_)
  refine Ok.gen (Images_k q3 (by omega)) (fun x s4 h4 q4 => ?_)
  dsimp only
  rw [vText_eq]
  simp only [Option.bind_some]
  have key : ∀ (q : Str), q = (if verB v = true then verT v else []) → Ok (L_VersionsRead_j1 (v, s1) (w, s2) (t, s3) (x, s4) (if verB v = true then (verT v, 0) else ([], 1)) q) (fun r => r = true) := by
    intro q hq
    subst hq
    unfold L_VersionsRead_j1 Q_VersionFault L_VersionsRead_j2
    rw [Qver_eq, Parse_eq t (by omega), QOf_eq t (by omega)]
    simp only [Option.bind_some]
    rw [if_pos (by split <;> rfl), if_pos (by split <;> rfl)]
    simp only [vCompare_eq, vOrder_eq, Option.bind_some, if_true]
    obtain ⟨r, hr, _⟩ := Images_ends x h4
    rw [← Images_chk, hr, versioned_eq]
    simp only [Option.bind_some, if_true]
    exact Ok.ret rfl
  unfold Q_VersionFault
  rw [Qver_eq]
  by_cases c : verB v = true
  · rw [if_pos c, if_pos rfl, (verT_eq v c).1]
    simp only [Option.bind_some]
    exact key (verT v) (by rw [if_pos c])
  · rw [if_neg c, if_neg (by simp)]
    exact key [] (by rw [if_neg c])
end Go.Beacon
