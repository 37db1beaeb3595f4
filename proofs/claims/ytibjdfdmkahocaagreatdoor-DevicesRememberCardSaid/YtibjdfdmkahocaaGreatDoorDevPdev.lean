/- The law DevicesRemember as a plain statement. No program in sight. -/
import Derived.Test.YtibjdfdmkahocaaGreatDoorDevPlet
import Derived.Test.YtibjdfdmkahocaaGreatDoorDevPok
set_option linter.unusedVariables false
set_option linter.unusedSimpArgs false
namespace Go.Beacon
open Go Go.Eng

/-- What the device keeps of a letter. -/
def dn (x : Letter) : Command_done := ⟨x.Id, x.Until⟩
def dnH (h : Fleetref2_Hand) : Command_Doer := ⟨h.Most, h.L.map dn, h.time_⟩
def dnR (r : Bool × Int × Fleetref2_Hand) : Bool × Int × Command_Doer := (r.1, r.2.1, dnH r.2.2)
theorem del_map (xs : List Letter) (i j : Int) : delO (xs.map dn) i j = (delO xs i j).map (List.map dn) := by
  unfold delO
  simp only [List.length_map]
  split
  · simp
  · rfl
theorem k3_map (h : Fleetref2_Hand) (t : Int) (l : List Letter) (i : Int) : command_Doer_Do_k3 (dnH h) t (l.map dn) i = (Q_Hand_Do_k3 h t l i).map (Sum.map (List.map dn) dnR) := by
  unfold command_Doer_Do_k3 Q_Hand_Do_k3
  rw [idx_map]
  cases idx l i with
  | none => rfl
  | some x =>
    simp only [Option.map_some, Option.bind_some, dn]
    split
    · rfl
    · unfold slices_Delete_command_done_command_done slices_Delete_Letter_Letter
      rw [del_map l i (w64 (i + 1))]
      cases delO l i (w64 (i + 1)) with
      | none => rfl
      | some r => rfl
theorem l2_map (h : Fleetref2_Hand) (t : Int) (l : List Letter) (i k : Int) : command_Doer_Do_l2 (dnH h) t (l.map dn) i k = (Q_Hand_Do_l2 h t l i k).map (Sum.map (List.map dn) dnR) := by
  unfold command_Doer_Do_l2 Q_Hand_Do_l2
  refine iter_map (fun x : Int × Int => x) (Sum.map (List.map dn) dnR) (fun s => ?_) (i, k)
  unfold command_Doer_Do_b2 Q_Hand_Do_b2
  rw [List.length_map]
  split
  · rw [idx_map, idx_map]
    cases idx l s.2 with
    | none => rfl
    | some x =>
      cases idx l s.1 with
      | none => rfl
      | some y =>
        simp only [Option.map_some, Option.bind_some, dn]
        split
        · rfl
        · rfl
  · rw [k3_map]
    cases Q_Hand_Do_k3 h t l s.1 with
    | none => rfl
    | some r => rfl
theorem l1_map (h : Fleetref2_Hand) (t : Int) (l : List Letter) : command_Doer_Do_l1 (dnH h) t (l.map dn) = (Q_Hand_Do_l1 h t l).map dnR := by
  unfold command_Doer_Do_l1 Q_Hand_Do_l1
  refine iter_map (fun l : List Letter => l.map dn) dnR (fun l => ?_) l
  unfold command_Doer_Do_b1 Q_Hand_Do_b1
  rw [List.length_map]
  show (if h.Most < _ then _ else _) = _
  split
  · exact l2_map h t l 0 0
  · rfl
theorem any_map (l : List Letter) (x : Letter) (hl : l.length ≤ 1000000) : slices_ContainsFunc_command_done_command_done (l.map dn) (fun y0 => some (command_Doer_Do_1x y0 x)) = some (l.any fun y => decide (y.Id = x.Id)) ∧ slices_ContainsFunc_Letter_Letter l (fun y0 => some (Q_Hand_Do_1x y0 x)) = some (l.any fun y => decide (y.Id = x.Id)) := by
  have h1 : slices_ContainsFunc_command_done_command_done (l.map dn) (fun y0 => some (command_Doer_Do_1x y0 x)) = some ((l.map dn).any fun y => decide (y.id_ = x.Id)) := gContainsFunc_eq (l.map dn) _ _ (fun y _ => rfl) (by simp; omega)
  have h2 : slices_ContainsFunc_Letter_Letter l (fun y0 => some (Q_Hand_Do_1x y0 x)) = some (l.any fun y => decide (y.Id = x.Id)) := gContainsFunc_eq l _ _ (fun y _ => rfl) (by omega)
  refine ⟨?_, h2⟩
  rw [h1, List.any_map]; rfl
theorem Do_map (h : Fleetref2_Hand) (x : Letter) (t : Int) (hl : h.L.length ≤ 1000000) : command_Doer_Do (dnH h) x t = (Q_Hand_Do h x t).map dnR := by
  unfold command_Doer_Do Q_Hand_Do
  rw [CheckLetter_eq, LetterFault_eq]
  simp only [Option.bind_some]
  rw [show Q_Moment t = base_Moment t by rw [Moment_eq, QMoment_eq]]
  obtain ⟨a1, a2⟩ := any_map h.L x hl
  have j : ∀ c, command_Doer_Do_j1 (dnH h) x t c = (Q_Hand_Do_j1 h x t c).map dnR := by
    intro c
    unfold command_Doer_Do_j1 Q_Hand_Do_j1
    split
    · rfl
    · unfold slices_Clone_command_done_command_done slices_Clone_Letter_Letter
      have e := app_map dn [] h.L
      simp only [List.map_nil] at e
      show (app [] (h.L.map dn)).bind _ = _
      rw [e]
      cases app [] h.L with
      | none => rfl
      | some v =>
        simp only [Option.map_some, Option.bind_some]
        have e2 := app_map dn v [x]
        show (app (v.map dn) [dn x]).bind _ = _
        rw [show [dn x] = [x].map dn from rfl, e2]
        cases app v [x] with
        | none => rfl
        | some l => exact l1_map h t l
  by_cases c1 : letE x ≠ 0
  · rw [if_pos c1, if_pos c1]; rfl
  · rw [if_neg c1, if_neg c1]
    by_cases c2 : (!(base_Moment t)) = true
    · rw [if_pos c2, if_pos c2]; rfl
    · rw [if_neg c2, if_neg c2]
      show (if t < h.time_ then _ else _) = _
      by_cases c3 : t < h.time_
      · rw [if_pos c3, if_pos c3]; rfl
      · rw [if_neg c3, if_neg c3]
        show _ = Option.map dnR ((slices_ContainsFunc_Letter_Letter h.L fun y0 => some (Q_Hand_Do_1x y0 x)).bind _)
        rw [a2]
        simp only [Option.bind_some]
        split
        · rename_i hu
          rw [decide_eq_true hu, Bool.or_true]
          exact j true
        · rename_i hu
          rw [decide_eq_false hu, Bool.or_false]
          show ((slices_ContainsFunc_command_done_command_done (h.L.map dn) _).bind _) = _
          rw [a1]
          exact j _
theorem doneQ (h : Fleetref2_Hand) (hl : h.L.length ≤ 1000000) : Q_Hand_Done_c0x1x h = some (h.L.map (·.Id)) := by
  unfold Q_Hand_Done_c0x1x Q_Hand_Done_c0x1x_l1
  have key : ∀ (m : Nat) (i : Int), 0 ≤ i → i + m = h.L.length → iter (fun x : (List Str) × Int => Q_Hand_Done_c0x1x_b1 h x.1 x.2) ((h.L.take i.toNat).map (·.Id), i) = some (h.L.map (·.Id)) := by
    intro m
    induction m with
    | zero =>
      intro i h0 hm
      rw [iter_eq, Q_Hand_Done_c0x1x_b1, if_neg (by simp only; omega), map_inr_after, List.take_of_length_le (by omega)]
    | succ m ih =>
      intro i h0 hm
      obtain ⟨x, hx, _, hd⟩ := idx_lt h.L h0 (by omega)
      rw [iter_eq, Q_Hand_Done_c0x1x_b1, if_pos (by simp only; omega)]
      simp only [hx, Option.bind_some]
      rw [app_le (by simp; omega)]
      simp only [Option.bind_some, after_inl]
      rw [w64_in (by omega) (by omega), ← ih (i + 1) (by omega) (by omega), take_next h0 hx]
      simp
  exact key h.L.length 0 (by omega) (by omega)
theorem doneP (h : Fleetref2_Hand) (hl : h.L.length ≤ 1000000) : command_Doer_Done_c0x1x (dnH h) = some (h.L.map (·.Id)) := by
  rw [← doneQ h hl]
  unfold command_Doer_Done_c0x1x command_Doer_Done_c0x1x_l1 Q_Hand_Done_c0x1x Q_Hand_Done_c0x1x_l1
  have := iter_map (fun x : (List Str) × Int => x) (id : List Str → List Str) (f := fun x : (List Str) × Int => Q_Hand_Done_c0x1x_b1 h x.1 x.2) (f' := fun x : (List Str) × Int => command_Doer_Done_c0x1x_b1 (dnH h) x.1 x.2) (fun s => by
    unfold command_Doer_Done_c0x1x_b1 Q_Hand_Done_c0x1x_b1
    show (if s.2 < (((h.L.map dn).length : Nat) : Int) then (idx (h.L.map dn) s.2).bind _ else _) = _
    rw [List.length_map, idx_map]
    split
    · cases idx h.L s.2 with
      | none => rfl
      | some x =>
        simp only [Option.map_some, Option.bind_some]
        show ((app s.1 [x.Id]).bind _) = _
        cases app s.1 [x.Id] with
        | none => rfl
        | some l => rfl
    · rfl) (([] : List Str), (0 : Int))
  simpa using this
/-- The memory, as great as it may become. -/
theorem HandDo_ends (h : Fleetref2_Hand) (x : Letter) (t : Int) (hl : h.L.length ≤ 1000) (hm : 1 ≤ h.Most) : Ok (Q_Hand_Do h x t) (fun r => r.2.2.Most = h.Most ∧ r.2.2.L.length ≤ h.L.length + 1) := by
  unfold Q_Hand_Do
  rw [LetterFault_eq]
  simp only [Option.bind_some]
  split
  · exact Ok.ret ⟨rfl, by simp only; omega⟩
  · split
    · exact Ok.ret ⟨rfl, by simp only; omega⟩
    · split
      · exact Ok.ret ⟨rfl, by simp only; omega⟩
      · refine Ok.is (any_map h.L x (by omega)).2 ?_
        unfold Q_Hand_Do_j1
        split
        · exact Ok.ret ⟨rfl, by simp only; omega⟩
        · unfold slices_Clone_Letter_Letter
          refine Ok.app (by simp; omega) ?_
          refine Ok.app (by simp; omega) ?_
          unfold Q_Hand_Do_l1
          refine Ok.iter (fun l : List Letter => l.length) (fun l => l.length ≤ h.L.length + 1) (fun l hl' => ?_) _ (by simp)
          unfold Q_Hand_Do_b1
          split
          · rename_i hlt
            unfold Q_Hand_Do_l2
            have w1 : ∀ i : Int, 0 ≤ i → i < l.length → w64 (i + 1) = i + 1 := fun i _ _ => w64_in (by omega) (by omega)
            refine Ok.iter (fun s : Int × Int => (l.length - s.2).toNat) (fun s => (0 ≤ s.1 ∧ s.1 < l.length) ∧ 0 ≤ s.2 ∧ s.2 ≤ l.length) (fun s hs => ?_) _ ⟨⟨by simp, by simp only; omega⟩, by simp, by simp⟩
            obtain ⟨i, k⟩ := s
            simp only at hs
            unfold Q_Hand_Do_b2 Q_Hand_Do_j2
            simp only
            split
            · refine Ok.idx (by omega) (by omega) (fun y _ _ => ?_)
              refine Ok.idx (by omega) (by omega) (fun z _ _ => ?_)
              rw [w1 k (by omega) (by omega)]
              split
              · exact Ok.ret ⟨⟨⟨by simp only; omega, by simp only; omega⟩, by simp only; omega, by simp only; omega⟩, by simp only; omega⟩
              · exact Ok.ret ⟨⟨⟨by simp only; omega, by simp only; omega⟩, by simp only; omega, by simp only; omega⟩, by simp only; omega⟩
            · refine Ok.inr ?_
              unfold Q_Hand_Do_k3
              refine Ok.idx (by omega) (by omega) (fun y _ _ => ?_)
              split
              · exact Ok.inr (Ok.ret ⟨rfl, by simp only; omega⟩)
              · rw [w1 i (by omega) (by omega)]
                have e : slices_Delete_Letter_Letter l i (i + 1) = some (l.take i.toNat ++ l.drop (i + 1).toNat) := by
                  unfold slices_Delete_Letter_Letter delO; rw [if_pos ⟨by omega, by omega, by omega⟩]
                refine Ok.is e (Ok.ret ⟨?_, ?_⟩)
                · simp; omega
                · simp; omega
          · exact Ok.inr (Ok.ret ⟨rfl, by simp only; omega⟩)
theorem New_eq (m : Int) : command_NewDoer m = if 1 ≤ m ∧ m ≤ 1000 then (some ⟨m, [], 0⟩, 0) else (none, 1) := by
  unfold command_NewDoer
  rw [Out_eq]
  by_cases h : 1 ≤ m ∧ m ≤ 1000
  · rw [if_pos h, if_neg (by simp; omega)]
  · rw [if_neg h, if_pos (by simp; omega)]
theorem Dev_loop (v : Int × Stm) (hv : 1 ≤ v.1 ∧ v.1 ≤ 14) {l : List Int} {n : Int} {m : Int} (hm : 1 ≤ m) (hs : SOk ⟨l, n⟩ 1000) : Ok (L_DevicesRemember_l1 v l n m [] 0 m [] 0 0 0) (fun r => r = true) := by
  unfold L_DevicesRemember_l1
  refine Ok.iter (fun x : (List Int) × Int × Int × (List Command_done) × Int × Int × (List Letter) × Int × Int × Int => (14 - x.2.2.2.2.2.2.2.2.2).toNat)
    (fun x => ((0 ≤ x.2.2.2.2.2.2.2.2.2 ∧ x.2.2.2.2.2.2.2.2.2 ≤ v.1) ∧ SOk ⟨x.1, x.2.1⟩ (1000 - 20 * x.2.2.2.2.2.2.2.2.2)) ∧ (x.2.2.1 = x.2.2.2.2.2.1 ∧ 1 ≤ x.2.2.1) ∧ x.2.2.2.1 = x.2.2.2.2.2.2.1.map dn ∧ x.2.2.2.2.1 = x.2.2.2.2.2.2.2.1 ∧ (x.2.2.2.2.2.2.1.length : Int) ≤ x.2.2.2.2.2.2.2.2.2 ∧ 0 ≤ x.2.2.2.2.2.2.2.2.1 ∧ x.2.2.2.2.2.2.2.2.1 ≤ 10 * x.2.2.2.2.2.2.2.2.2) ?_ _ ⟨⟨⟨by simp, by simp; omega⟩, by simpa using hs⟩, ⟨rfl, hm⟩, rfl, rfl, by simp, by simp, by simp⟩
  rintro ⟨l, n, m, dl, dt, m', ls, ht, at_, i⟩ ⟨⟨⟨h0, h1⟩, h2⟩, ⟨h3, h3'⟩, h4, h5, h6, h7, h8⟩
  simp only at h0 h1 h2 h3 h3' h4 h5 h6 h7 h8 ⊢
  subst h3 h4 h5
  unfold L_DevicesRemember_b1
  have w1 : w64 (i + 1) = i + 1 := w64_in (by omega) (by omega)
  split
  · rename_i hi
    refine Ok.gen (Pick_k h2 (by omega) (by simp) (by simp)) (fun a s1 p1 q1 => ?_)
    have b1 := pick_le (lo := 0) (hi := 10) p1 (by decide)
    have w2 : w64 (at_ + a) = at_ + a := w64_in (by omega) (by omega)
    have w3 : w64 (at_ + a - 1) = at_ + a - 1 := w64_in (by omega) (by omega)
    refine Ok.gen (Flip_k q1 (by omega) (by omega) (by omega)) (fun b s2 p2 q2 => ?_)
    dsimp only
    rw [w2, w3]
    have j7 : ∀ (l2 : List Int) (n2 t : Int), SOk ⟨l2, n2⟩ (1000 - 20 * i - 3) → Ok (L_DevicesRemember_j7 m (ls.map dn) dt m ls dt at_ i (a, s1) l2 n2 t) (Stp (fun x : (List Int) × Int × Int × (List Command_done) × Int × Int × (List Letter) × Int × Int × Int => (14 - x.2.2.2.2.2.2.2.2.2).toNat)
    (fun x => ((0 ≤ x.2.2.2.2.2.2.2.2.2 ∧ x.2.2.2.2.2.2.2.2.2 ≤ v.1) ∧ SOk ⟨x.1, x.2.1⟩ (1000 - 20 * x.2.2.2.2.2.2.2.2.2)) ∧ (x.2.2.1 = x.2.2.2.2.2.1 ∧ 1 ≤ x.2.2.1) ∧ x.2.2.2.1 = x.2.2.2.2.2.2.1.map dn ∧ x.2.2.2.2.1 = x.2.2.2.2.2.2.2.1 ∧ (x.2.2.2.2.2.2.1.length : Int) ≤ x.2.2.2.2.2.2.2.2.2 ∧ 0 ≤ x.2.2.2.2.2.2.2.2.1 ∧ x.2.2.2.2.2.2.2.2.1 ≤ 10 * x.2.2.2.2.2.2.2.2.2) (fun r => r = true) (l, n, m, ls.map dn, dt, m, ls, dt, at_, i)) := by
      intro l2 n2 t hq
      unfold L_DevicesRemember_j7
      refine Ok.gen (Pick_k hq (by omega) (by simp) (by simp)) (fun c s3 p3 q3 => ?_)
      have b3 := pick_le (lo := 0) (hi := 20) p3 (by decide)
      dsimp only
      rw [w2, w64_in (x := at_ + a - c) (by omega) (by omega)]
      refine Ok.gen (Letter_k q3 (by omega) (t := max 0 (at_ + a - c)) ⟨by omega, by omega⟩) (fun x s4 p4 q4 => ?_)
      dsimp only
      have hD := Do_map ⟨m, ls, dt⟩ x t (by simp only; omega)
      obtain ⟨r, hr, hr1, hr2⟩ := HandDo_ends ⟨m, ls, dt⟩ x t (by simp only; omega) h3'
      have hD' : command_Doer_Do ⟨m, ls.map dn, dt⟩ x t = some (dnR r) := by
        have : dnH ⟨m, ls, dt⟩ = ⟨m, ls.map dn, dt⟩ := rfl
        rw [← this, hD, hr]; rfl
      simp only at hr1 hr2
      rw [hD', hr]
      simp only [Option.bind_some]
      rw [if_neg (by simp [dnR]), if_neg (by simp [dnR])]
      have l1 : r.2.2.L.length ≤ 1000000 := by omega
      rw [show (dnR r).2.2 = dnH r.2.2 from rfl, doneP r.2.2 l1, doneQ r.2.2 l1]
      simp only [Option.bind_some]
      have hE : slices_Equal_string_string (r.2.2.L.map (·.Id)) (r.2.2.L.map (·.Id)) = some (decide (r.2.2.L.map (·.Id) = r.2.2.L.map (·.Id))) := gEqual_eq _ _ (by simp; omega)
      rw [hE]
      simp only [Option.bind_some]
      unfold L_DevicesRemember_j8
      rw [if_neg (by simp)]
      refine Ok.ret ⟨⟨⟨⟨by simp only; rw [w1]; omega, by simp only; rw [w1]; omega⟩, q4.less (by simp only; rw [w1]; omega)⟩, ⟨rfl, by simp only [dnR, dnH]; omega⟩, rfl, rfl, by simp only; rw [w1]; omega, by simp only; rw [w2]; omega, by simp only; rw [w1, w2]; omega⟩, by simp only; rw [w1]; omega⟩
    split
    · refine Ok.gen (Pick_k q2 (by omega) (by simp) (by simp)) (fun c s3 p3 q3 => ?_)
      exact j7 _ _ _ (q3.less (by omega))
    · exact j7 _ _ _ (q2.less (by omega))
  · refine Ok.inr ?_
    unfold L_DevicesRemember_k9
    rw [posted_eq]
    exact Ok.ret rfl
theorem DevicesRemember_plain (l : List Int) : L_DevicesRemember l = some true := by
  suffices Ok (L_DevicesRemember l) (fun r => r = true) by obtain ⟨r, h, rfl⟩ := this; exact h
  unfold L_DevicesRemember
  have hs : SOk (⟨l, 0⟩ : Stm) 1100 := ⟨by simp, by simp⟩
  refine Ok.gen (Pick_k hs (by omega) (by simp) (by simp)) (fun m s1 h1 q1 => ?_)
  have b1 := pick_le (lo := 0) (hi := 1001) h1 (by decide)
  dsimp only
  have hw : ∀ c : Bool, L_when c 1 = if c = true then 1 else 0 := fun c => by unfold L_when; cases c <;> rfl
  rw [New_eq m]
  by_cases hc : 1 ≤ m ∧ m ≤ 1000
  · rw [if_pos hc]
    simp only [casesO_some]
    rw [if_neg (by omega), hw, if_neg (by simp; omega)]
    unfold L_DevicesRemember_j4 L_DevicesRemember_j5
    simp only
    rw [New_eq m, if_pos hc, if_neg (by simp)]
    refine Ok.gen (Range_k q1 (by omega) (by omega) (by omega) (by omega)) (fun v s2 h2 q2 => ?_)
    exact Dev_loop (v, s2) h2 hc.1 (q2.less (by omega))
  · rw [if_neg hc]
    simp only [casesO_none]
    have j1 : ∀ c, (L_DevicesRemember_j1 (m, s1) (if c = true then 1 else 0) = L_DevicesRemember_j1 (m, s1) 1) → True := fun _ _ => trivial
    have e1 : Ok (L_DevicesRemember_j1 (m, s1) 1) (fun r => r = true) := by
      unfold L_DevicesRemember_j1 L_DevicesRemember_j2 L_DevicesRemember_j3
      simp only
      rw [New_eq m, if_neg hc, if_pos (by simp), if_pos rfl, posted_eq]
      exact Ok.ret rfl
    split
    · rw [hw, if_pos rfl]; exact e1
    · rw [hw, if_pos (by simp; omega)]; exact e1
end Go.Beacon
