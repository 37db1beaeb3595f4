/- The law OfficesKeep as a plain statement. No program in sight. -/
import Derived.Test.YtibjdfdmkahocaaGreatDoorOffPofs
set_option linter.unusedVariables false
set_option linter.unusedSimpArgs false
namespace Go.Beacon
open Go Go.Eng

/-! letters that are put -/
def slotB (l : Letter) (n : Note) : Bool := (decide (l.Slot ≠ []) && (decide (n.Letter.Slot = l.Slot) && (decide (n.State = 1) && decide (n.Tries = 0))))
theorem slotB_iff {l : Letter} {n : Note} : slotB l n = true ↔ l.Slot ≠ [] ∧ n.Letter.Slot = l.Slot ∧ frB n = true := by
  unfold slotB frB; simp
def repF (t : Int) (n : Note) : Note := ⟨n.Letter, 6, n.Tries, t⟩
theorem key_ne {l : Letter} (h : letE l = 0) : l.Id ≠ [] := by
  intro e
  unfold letE at h
  rw [e] at h
  simp [keyB] at h
/-- A new letter among the notes. -/
theorem put_new {p : Post} {k : Nat} {l : Letter} {M R : List Note} (hp : PostR p) (hk : k ≤ 1000) (hl : letE l = 0) (hS : SI M) (hN : ∀ n ∈ M, NI p l.At n) (hu : UQ M) (hM : M.length ≤ k) (hid : ∀ n ∈ M, nid n ≠ l.Id) (hns : ∀ n ∈ M, slotB l n = false) :
    ∃ Z, lenOk (M ++ [(⟨l, 1, 0, l.At⟩ : Note)]).length (fun r : List Note => r.length) (slices_SortFunc_Note_Note (M ++ [⟨l, 1, 0, l.At⟩]) (fun y0 y1 => some (Q_Desk_Put_2x y0 y1))) = some Z ∧ mset (asM M) l.Id ⟨l, 1, 0, l.At⟩ = asM Z ∧ SI Z ∧ (∀ n ∈ Z, NI p l.At n) ∧ UQ Z ∧ Z.length ≤ k + 1 := by
  have hb := letE_b hl
  have hd : (M ++ [(⟨l, 1, 0, l.At⟩ : Note)]).Pairwise (fun a b => nid a ≠ nid b) := by
    rw [List.pairwise_append]
    refine ⟨SI.ne hS, List.pairwise_singleton _ _, fun a ha b hb => ?_⟩
    rw [List.mem_singleton.1 hb]; exact hid a ha
  obtain ⟨Z, z1, z2, z3⟩ := nsort_eq (fun y0 y1 => Q_Desk_Put_2x y0 y1) (fun a b => rfl) (M ++ [⟨l, 1, 0, l.At⟩]) (M ++ [⟨l, 1, 0, l.At⟩]) (List.Perm.refl _) hd (by simp; omega)
  have hmem : ∀ n ∈ Z, n ∈ M ∨ n = ⟨l, 1, 0, l.At⟩ := fun n hn => by
    rcases List.mem_append.1 (z2.mem_iff.1 hn) with h | h
    · exact .inl h
    · exact .inr (List.mem_singleton.1 h)
  refine ⟨Z, z1, ?_, z3, fun n hn => ?_, fun a ha b hb fa fb s1 s2 => ?_, by have := z2.length_eq; simp at this; omega⟩
  · refine map_ext ((SI.sm hS).set _ _) (SI.sm z3) (fun k' => ?_)
    have hp' : (asM Z).Perm (asM (M ++ [⟨l, 1, 0, l.At⟩])) := z2.map _
    have hnd : ((asM Z).map Prod.fst).Nodup := (SI.sm z3).nodup
    rw [mget_mset, mget_perm hp' hnd]
    have happ : ∀ D : List Note, mget? (asM (D ++ [⟨l, 1, 0, l.At⟩])) k' = (mget? (asM D) k').or (if l.Id = k' then some ⟨l, 1, 0, l.At⟩ else none) := by
      intro D
      induction D with
      | nil => simp [asM, mget?, nid]
      | cons x D ih =>
        show mget? ((nid x, x) :: asM (D ++ [_])) k' = (mget? ((nid x, x) :: asM D) k').or _
        rw [mget_cons, mget_cons, ih]
        split <;> rfl
    rw [happ]
    by_cases c : l.Id = k'
    · rw [if_pos c, if_pos c, asM_none.2 (fun n hn => by rw [← c]; exact hid n hn)]; rfl
    · rw [if_neg c, if_neg c]; cases mget? (asM M) k' <;> rfl
  · rcases hmem n hn with h | rfl
    · exact hN n h
    · have hpt := hp.tries
      refine ⟨hl, by show (1 : Int) ≤ 1 ∧ (1 : Int) ≤ 7; omega, by show (0 : Int) ≤ 0 ∧ (0 : Int) ≤ p.Tries; omega, fun _ => by show (0 : Int) < p.Tries; omega, fun e => by have : (1 : Int) = 2 := e; omega, by show 0 ≤ l.At ∧ l.At ≤ l.At; omega, fun _ => ?_⟩
      unfold dueN
      rw [if_neg (by simp)]
      simp only; omega
  · have new : ∀ x ∈ M, frB x = true → l.Slot ≠ [] → x.Letter.Slot = l.Slot → False := fun x hx fx h1 h2 => by
      have := hns x hx
      rw [slotB_iff.2 ⟨h1, h2, fx⟩] at this; cases this
    rcases hmem a ha with h | rfl
    · rcases hmem b hb with h' | rfl
      · exact hu a h b h' fa fb s1 s2
      · exact (new a h fa (by rw [← s2]; exact s1) s2).elim
    · rcases hmem b hb with h' | rfl
      · exact (new b h' fb s1 s2.symm).elim
      · rfl
theorem Put_both {p : Post} {k : Nat} {o : Command_Office} {d : Fleetref2_Desk} (hp : PostR p) (hk : k ≤ 900) (h : Rel p k o d) (l : Letter) :
    ∃ e o' d', command_Office_Put o l = some (e, o') ∧ Q_Desk_Put d l = some (e, d') ∧ Rel p (k + 1) o' d' := by
  unfold command_Office_Put Q_Desk_Put
  rw [CheckLetter_eq, LetterFault_eq]
  simp only [Option.bind_some]
  rw [First_eq _ (by simp)]
  simp only [Option.bind_some, orL2]
  by_cases hl : letE l ≠ 0
  · rw [if_pos hl, if_pos hl, if_pos hl]
    exact ⟨_, o, d, rfl, rfl, h.more (by omega)⟩
  · have hl0 : letE l = 0 := by simpa using hl
    rw [if_neg hl, if_neg hl]
    rcases turn_both hp (by omega) h l.At with ⟨e, h1, h2, h3⟩ | ⟨h1, h2, h3, R, r1, r2, r3⟩
    · rw [h2, if_pos h1, h3]
      simp only [Option.bind_some, casesO_none]
      rw [if_pos h1]
      exact ⟨e, o, d, rfl, rfl, h.more (by omega)⟩
    · rw [h1, if_neg (by simp), r2, r3]
      simp only [Option.bind_some, casesO_some, mget2]
      rw [if_neg (show ¬ ((0 : Int) ≠ 0) by simp)]
      have hlR := r1.l
      have hpr := hp.room
      have w1 : w64 (p.Room + 1) = p.Room + 1 := w64_in (by omega) (by omega)
      have hI : slices_IndexFunc_Note_Note R (fun y0 => some (Q_Desk_Put_1x y0 l)) = some (findI (slotB l) R 0) := gIndexFunc_eq R _ (slotB l) (fun n _ => by unfold Q_Desk_Put_1x Q_Desk_Put_1x_j1 slotB; rfl) (by omega)
      rw [hI]
      simp only [Option.bind_some]
      have hidm : (asM R).map (·.2) = R := by unfold asM; rw [List.map_map]; exact List.map_id R
      -- what is found in the slot
      rcases at_cases (d := ⟨p, R, l.At⟩) r1.s (by simp only; omega) l.Id with ⟨a1, a2⟩ | ⟨i, n, a1, a2, a3, a4⟩
      · simp only at a2
        have hfree : ∀ n ∈ R, nid n ≠ l.Id := asM_none.1 a2
        rw [a2]
        simp only [Option.isSome_none, Bool.false_eq_true, if_false]
        have hmany := many_eq (d := ⟨p, R, l.At⟩) (by simp only; omega) (fun n hn => (r1.n n hn).st.1)
        simp only at hmany
        rcases findI_spec (slotB l) R 0 (by omega) with ⟨s1, s2⟩ | ⟨i, m, s1, s2, s3⟩
        · -- none
          have hoff : command_Office_Put_l1 o l (asM R) [] = command_Office_Put_j1 o l (asM R) [] p.Room := by
            cases hr : command_Office_Put_j1 o l (asM R) [] p.Room with
            | none =>
              exfalso
              unfold command_Office_Put_j1 at hr
              rw [pending_eq r1 (by omega)] at hr
              simp only [Option.bind_some] at hr
              split at hr
              · cases hr
              · rw [if_neg (by simp)] at hr; cases hr
            | some z =>
              unfold command_Office_Put_l1
              refine overP_inv _ _ _ _ _ (fun done q => q = []) rfl ?_ ?_
              · intro done e rest q hperm hi
                left
                have hm : e.2 ∈ R := by
                  have := (hperm.map (·.2)).mem_iff (a := e.2)
                  rw [hidm] at this; exact this.1 (by simp)
                have hb : slotB l e.2 = false := s2 e.2 hm
                refine ⟨[], ?_, rfl⟩
                show command_Office_Put_b1 l e q = _
                unfold command_Office_Put_b1 command_Office_Put_j3 command_Office_Put_j4
                unfold slotB at hb
                rw [hb, hi]; rfl
              · intro q s hperm hi
                show command_Office_Put_f1 o l (asM R) s = _
                unfold command_Office_Put_f1
                rw [hi, if_neg (by simp), h3]; exact hr
          rw [hoff, s1, if_neg (by omega)]
          unfold command_Office_Put_j1 Q_Desk_Put_j1
          rw [pending_eq r1 (by omega), a1]
          simp only [Option.bind_some]
          rw [if_neg (show ¬ ((0 : Int) ≤ -1) by omega), hmany]
          simp only [Option.bind_some]
          by_cases hc : p.Room ≤ cntO R
          · rw [if_pos hc, if_pos hc]
            exact ⟨12, o, d, rfl, rfl, h.more (by omega)⟩
          · rw [if_neg hc, if_neg hc, if_neg (by simp), if_neg (show ¬ ((0 : Int) ≤ -1) by omega)]
            obtain ⟨Z, z1, z2, z3, z4, z5, z6⟩ := put_new (R := R) hp (by omega) hl0 r1.s r1.n r1.u r1.l hfree s2
            obtain ⟨Q, q1, q2⟩ := mk_rel hp h2 (k := k + 1) (by omega) z3 z4 z5 z6
            unfold command_Office_Put_j2 Q_Desk_Put_j2 command_Office_keep
            rw [z2, app_le (by simp; omega)]
            simp only [Option.bind_some, z1, q1, h3]
            exact ⟨0, _, _, rfl, rfl, q2⟩
        · -- one
          have hmR := List.mem_of_getElem? s2
          have hmN := r1.n m hmR
          obtain ⟨b1, b2, b3⟩ := slotB_iff.1 s3
          have huniq : ∀ x ∈ R, slotB l x = true → x = m := fun x hx hxs => by
            obtain ⟨c1, c2, c3⟩ := slotB_iff.1 hxs
            exact r1.u x hx m hmR c3 b3 (by rw [c2]; exact c1) (by rw [c2, b2])
          have hne : nid m ≠ [] := key_ne hmN.le
          have hil := (List.getElem?_eq_some_iff.1 s2).1
          have hget : mget? (asM R) (nid m) = some m := asM_get r1.s hmR
          have ix : ∀ x : Note, idx (R.set i x) (i : Int) = some x := fun x => idx_nat (by rw [List.getElem?_set_self hil])
          obtain ⟨g1, g2, g3, g4⟩ := setid_good (id := nid m) (f := repF l.At) r1 (fun _ => rfl) (fun x hx hxid => by
            have hX := r1.n x hx
            refine ⟨⟨hX.le, by show (1 : Int) ≤ 6 ∧ (6 : Int) ≤ 7; omega, hX.tr, fun e => by have : (6 : Int) = 1 := e; omega, fun e => by have : (6 : Int) = 2 := e; omega, by show 0 ≤ l.At ∧ l.At ≤ l.At; omega, fun e => ?_⟩, ?_⟩
            · unfold endB repF at e; simp at e
            · unfold frB repF; simp)
          have hfree' : ∀ n ∈ setid R (nid m) (repF l.At), nid n ≠ l.Id := fun n hn => by
            rcases mem_setid hn with ⟨x1, _⟩ | ⟨x, x1, x2, rfl⟩
            · exact hfree n x1
            · exact hfree x x1
          have hns' : ∀ n ∈ setid R (nid m) (repF l.At), slotB l n = false := fun n hn => by
            rcases mem_setid hn with ⟨x1, x2⟩ | ⟨x, x1, x2, rfl⟩
            · cases hq : slotB l n with
              | false => rfl
              | true => exact (x2 (by rw [huniq n x1 hq])).elim
            · unfold slotB repF; simp
          obtain ⟨Z, z1, z2, z3, z4, z5, z6⟩ := put_new (R := R) hp (by omega) hl0 g1 g2 g3 g4 hfree' hns'
          obtain ⟨Q, q1, q2⟩ := mk_rel hp h2 (k := k + 1) (by omega) z3 z4 z5 z6
          have hoff : command_Office_Put_l1 o l (asM R) [] = command_Office_Put_j1 o l (asM R) (nid m) (p.Room + 1) := by
            cases hr : command_Office_Put_j1 o l (asM R) (nid m) (p.Room + 1) with
            | none =>
              exfalso
              unfold command_Office_Put_j1 at hr
              rw [pending_eq r1 (by omega)] at hr
              simp only [Option.bind_some] at hr
              split at hr
              · cases hr
              · simp [mgetO, command_Office_Put_j2] at hr
            | some z =>
              unfold command_Office_Put_l1
              refine overP_inv _ _ _ _ _ (fun done q => (q = [] ∧ ∀ e ∈ done, slotB l e.2 = false) ∨ (q = nid m)) (.inl ⟨rfl, by simp⟩) ?_ ?_
              · intro done e rest q hperm hi
                left
                have hperm' : (done ++ e :: rest).Perm (asM R) := hperm
                have hein : e ∈ asM R := hperm'.mem_iff.1 (by simp)
                obtain ⟨x, hx, rfl⟩ := List.mem_map.1 hein
                have hbb : command_Office_Put_b1 l (nid x, x) q = some (.inl (if slotB l x = true then nid x else q)) := by
                  unfold command_Office_Put_b1 command_Office_Put_j3 command_Office_Put_j4 slotB
                  simp only
                  split <;> rfl
                refine ⟨_, hbb, ?_⟩
                by_cases hq : slotB l x = true
                · rw [if_pos hq, huniq x hx hq]; exact .inr rfl
                · rw [if_neg hq]
                  rcases hi with ⟨i1, i2⟩ | i1
                  · left; refine ⟨i1, fun e he => ?_⟩
                    rcases List.mem_append.1 he with h | h
                    · exact i2 e h
                    · rw [List.mem_singleton.1 h]; simpa using hq
                  · exact .inr i1
              · intro q s hperm hi
                have hperm' : q.Perm (asM R) := hperm
                have hq : s = nid m := by
                  rcases hi with ⟨i1, i2⟩ | i1
                  · have : (nid m, m) ∈ q := hperm'.mem_iff.2 (List.mem_map.2 ⟨m, hmR, rfl⟩)
                    have := i2 _ this
                    simp only at this
                    rw [s3] at this; cases this
                  · exact i1
                show command_Office_Put_f1 o l (asM R) s = _
                unfold command_Office_Put_f1
                rw [hq, if_pos hne, h3, w1]; exact hr
          rw [hoff, s1]
          simp only [Int.zero_add]
          rw [if_pos (show (0 : Int) ≤ (i : Int) by omega), w1]
          unfold command_Office_Put_j1 Q_Desk_Put_j1
          rw [pending_eq r1 (by omega), a1]
          simp only [Option.bind_some]
          rw [if_neg (show ¬ ((0 : Int) ≤ -1) by omega), hmany]
          simp only [Option.bind_some]
          by_cases hc : p.Room + 1 ≤ cntO R
          · rw [if_pos hc, if_pos hc]
            exact ⟨12, o, d, rfl, rfl, h.more (by omega)⟩
          · rw [if_neg hc, if_neg hc, if_pos hne, if_pos (show (0 : Int) ≤ (i : Int) by omega)]
            simp only [mgetO, hget, Option.getD_some, Option.bind_some, idx_nat s2, Int.toNat_natCast, ix, List.set_set]
            rw [show (⟨m.Letter, 6, m.Tries, l.At⟩ : Note) = repF l.At m from rfl, setid_mset r1.s hget (f := repF l.At) (fun _ => rfl), setid_set r1.s s2 (repF l.At)]
            unfold command_Office_Put_j2 Q_Desk_Put_j2 command_Office_keep
            rw [z2, app_le (by simp; omega)]
            simp only [Option.bind_some, z1, q1, h3]
            exact ⟨0, _, _, rfl, rfl, q2⟩
      · -- the name is there already
        simp only at a2 a4
        rw [a4]
        simp only [Option.isSome_some, if_true]
        refine ⟨6, o, d, rfl, ?_, h.more (by omega)⟩
        unfold Q_Desk_Put_j1
        rw [a1]
        simp only [Option.bind_some]
        rw [if_pos (show (0 : Int) ≤ (i : Int) by omega)]
        split <;> rfl
/-! one step -/
theorem step_both {p : Post} {k : Nat} {o : Command_Office} {d : Fleetref2_Desk} {s : Stm} {K t : Int} {id : Str} (hp : PostR p) (hk : k ≤ 900) (h : Rel p k o d) (hs : SOk s K) (hK : 13 ≤ K) (ht : -1 ≤ t ∧ t ≤ 345686400000) :
    Ok (L_officeStep s o d t id) (fun r => r.1 = true ∧ SOk r.2.1 (K - 13) ∧ Rel p (k + 1) r.2.2.1 r.2.2.2) := by
  unfold L_officeStep
  refine Ok.gen (Next_k hs (by omega) (by omega) (by omega)) (fun v s1 h1 q1 => ?_)
  have j5 : ∀ c, Ok (L_officeStep_j5 o d t id (v, s1) c) (fun r => r.1 = true ∧ SOk r.2.1 (K - 13) ∧ Rel p (k + 1) r.2.2.1 r.2.2.2) := by
    intro c
    unfold L_officeStep_j5
    split
    · refine Ok.gen (Flip_k q1 (by omega) (by omega) (by omega)) (fun b s2 h2 q2 => ?_)
      obtain ⟨e, o', d', e1, e2, e3⟩ := Answer_both hp (by omega) h id t b
      dsimp only
      rw [e1, e2]
      simp only [Option.bind_some]
      exact Ok.ret ⟨by simp, q2.less (by omega), e3.more (by omega)⟩
    · split
      · obtain ⟨e, o', d', e1, e2, e3⟩ := Withdraw_both hp (by omega) h id t
        rw [e1, e2]
        simp only [Option.bind_some]
        exact Ok.ret ⟨by simp, q1.less (by omega), e3.more (by omega)⟩
      · obtain ⟨n, e, o', d', e1, e2, e3⟩ := Note_both hp (by omega) h id t
        rw [e1, e2]
        simp only [Option.bind_some]
        obtain ⟨n2, f, o2, d2, f1, f2, f3⟩ := Waiting_both hp (by omega) e3 t
        rw [f1, f2]
        simp only [Option.bind_some]
        obtain ⟨n3, g, o3, d3, g1, g2, g3⟩ := Wake_both hp (by omega) f3 t
        rw [g1, g2]
        simp only [Option.bind_some]
        unfold L_officeStep_j6
        exact Ok.ret ⟨by simp, q1.less (by omega), g3.more (by omega)⟩
  have j3 : ∀ c, Ok (L_officeStep_j3 o d t id (v, s1) c) (fun r => r.1 = true ∧ SOk r.2.1 (K - 13) ∧ Rel p (k + 1) r.2.2.1 r.2.2.2) := by
    intro c
    unfold L_officeStep_j3
    split
    · refine Ok.gen (Pick_k q1 (by omega) (by simp) (by simp)) (fun m s2 h2 q2 => ?_)
      obtain ⟨x, e, o', d', e1, e2, e3, e4⟩ := Fetch_both hp (by omega) h t m
      dsimp only
      rw [e1, e2]
      simp only [Option.bind_some, if_true]
      have hE : slices_Equal_Letter_Letter x x = some (decide (x = x)) := gEqual_eq x x (by omega)
      rw [hE]
      unfold L_officeStep_j4
      exact Ok.ret ⟨by simp, q2.less (by omega), e3.more (by omega)⟩
    · split
      · exact j5 _
      · exact j5 _
  have j1 : ∀ c, Ok (L_officeStep_j1 o d t id (v, s1) c) (fun r => r.1 = true ∧ SOk r.2.1 (K - 13) ∧ Rel p (k + 1) r.2.2.1 r.2.2.2) := by
    intro c
    unfold L_officeStep_j1
    split
    · refine Ok.gen (Letter_k q1 (by omega) (t := t) ⟨by omega, by omega⟩) (fun x s2 h2 q2 => ?_)
      obtain ⟨e, o', d', e1, e2, e3⟩ := Put_both hp hk h x
      dsimp only
      rw [e1, e2]
      simp only [Option.bind_some]
      exact Ok.ret ⟨by simp, q2.less (by omega), e3⟩
    · split
      · exact j3 _
      · exact j3 _
  unfold L_officeStep_j2
  split
  · exact j1 _
  · split
    · exact j1 _
    · exact j1 _
theorem PostF_eq (p : Post) : Q_PostFault p = 0 → PostR p := by
  intro h
  unfold Q_PostFault Q_PostFault_j1 at h
  rw [Qin_eq, Qin_eq, Qin_eq, Qin_eq] at h
  split at h
  · cases h
  · rename_i hc
    simp at hc
    exact ⟨by omega, by omega, by omega, by omega⟩
theorem New_cases (p : Post) : (Q_PostFault p = 0 ∧ command_New p = (some ⟨p, [], 0⟩, 0)) ∨ (Q_PostFault p ≠ 0 ∧ command_New p = (none, Q_PostFault p)) := by
  unfold command_New
  rw [Post_chk]
  by_cases h : Q_PostFault p = 0
  · left; rw [if_neg (by simpa using h)]; exact ⟨h, rfl⟩
  · right; rw [if_pos h]; exact ⟨h, rfl⟩
theorem Off_loop (v : Int × Stm) (hv : 1 ≤ v.1 ∧ v.1 ≤ 18) {l : List Int} {n : Int} {p : Post} (hp : PostR p) (hs : SOk ⟨l, n⟩ 1000) : Ok (L_OfficesKeep_l1 v l n p.Room p.Timeout p.Tries p.Kept [] 0 p.Room p.Timeout p.Tries p.Kept [] 0 0 0) (fun r => r = true) := by
  unfold L_OfficesKeep_l1
  refine Ok.iter (fun x : (List Int) × Int × Int × Int × Int × Int × (List (Str × Note)) × Int × Int × Int × Int × Int × (List Note) × Int × Int × Int => (18 - x.2.2.2.2.2.2.2.2.2.2.2.2.2.2.2).toNat)
    (fun x => match x with | (l, n, a1, a2, a3, a4, ms, mt, b1, b2, b3, b4, ls, lt, at_, i) => (0 ≤ i ∧ i ≤ v.1) ∧ SOk ⟨l, n⟩ (1000 - 20 * i) ∧ Rel p i.toNat ⟨⟨a1, a2, a3, a4⟩, ms, mt⟩ ⟨⟨b1, b2, b3, b4⟩, ls, lt⟩ ∧ 0 ≤ at_ ∧ at_ ≤ 10 * i) ?_ _ ?_
  · rintro ⟨l, n, a1, a2, a3, a4, ms, mt, b1, b2, b3, b4, ls, lt, at_, i⟩ ⟨⟨h0, h1⟩, h2, h3, h4, h5⟩
    dsimp only
    unfold L_OfficesKeep_b1
    have w1 : w64 (i + 1) = i + 1 := w64_in (by omega) (by omega)
    split
    · rename_i hi
      refine Ok.gen (Pick_k h2 (by omega) (by simp) (by simp)) (fun a s1 p1 q1 => ?_)
      have e1 := pick_le (lo := 0) (hi := 10) p1 (by decide)
      have w2 : w64 (at_ + a) = at_ + a := w64_in (by omega) (by omega)
      have w3 : w64 (at_ + a - 1) = at_ + a - 1 := w64_in (by omega) (by omega)
      refine Ok.gen (Some_k q1 (by omega) (by simp) (by simp)) (fun id s2 p2 q2 => ?_)
      refine Ok.gen (Flip_k q2 (by omega) (by omega) (by omega)) (fun b s3 p3 q3 => ?_)
      dsimp only
      rw [w2, w3]
      refine (fun (H : ∀ Q, (∀ (l2 : List Int) (n2 t : Int), SOk ⟨l2, n2⟩ (1000 - 20 * i - 4) → (-1 ≤ t ∧ t ≤ 345686400000) → Ok (L_OfficesKeep_j5 a1 a2 a3 a4 ms mt b1 b2 b3 b4 ls lt at_ i (a, s1) (id, s2) l2 n2 t) Q) → Ok (if b = true then (Stream_Pick s3 [(-1 : Int), (345686400000 : Int), at_ + a - 1]).bind fun v56 => L_OfficesKeep_j5 a1 a2 a3 a4 ms mt b1 b2 b3 b4 ls lt at_ i (a, s1) (id, s2) v56.2.L v56.2.at_ v56.1 else L_OfficesKeep_j5 a1 a2 a3 a4 ms mt b1 b2 b3 b4 ls lt at_ i (a, s1) (id, s2) s3.L s3.at_ (at_ + a)) Q) => H _ ?_) ?_
      · intro l2 n2 t hq ht
        unfold L_OfficesKeep_j5
        refine Ok.bind (step_both hp (by omega) h3 hq (by omega) ht) (fun r hr => ?_)
        obtain ⟨r1, s4, o', d'⟩ := r
        obtain ⟨g1, g2, g3⟩ := hr
        simp only at g1 g2 g3 ⊢
        rw [g1]
        simp only [Bool.not_true, Bool.false_eq_true, if_false]
        obtain ⟨ns, e, o2, d2, f1, f2, f3, f4⟩ := Notes_both hp (by omega) g3 t
        rw [f1, f2]
        simp only [Option.bind_some, ne_eq, not_true_eq_false, if_false]
        have hE : slices_Equal_Note_Note ns ns = some (decide (ns = ns)) := gEqual_eq ns ns (by omega)
        rw [hE]
        simp only [Option.bind_some, decide_true, Bool.not_true]
        unfold L_OfficesKeep_j6
        rw [if_neg (by simp)]
        refine Ok.ret ⟨⟨⟨by simp only; rw [w1]; omega, by simp only; rw [w1]; omega⟩, g2.less (by simp only; rw [w1]; omega), ?_, by simp only; rw [w2]; omega, by simp only; rw [w1, w2]; omega⟩, by simp only; rw [w1]; omega⟩
        simp only
        rw [w1]
        exact f3.more (by omega)
      · intro Q J
        split
        · refine Ok.gen (Pick_k q3 (by omega) (by simp) (by simp)) (fun c s4 p4 q4 => ?_)
          refine J _ _ _ (q4.less (by omega)) ?_
          simp only [List.mem_cons, List.not_mem_nil, or_false] at p4
          simp only; omega
        · exact J _ _ _ (q3.less (by omega)) ⟨by omega, by omega⟩
    · refine Ok.inr ?_
      unfold L_OfficesKeep_k7
      rw [posted_eq]
      exact Ok.ret rfl
  · refine ⟨⟨by show (0 : Int) ≤ 0; omega, by show (0 : Int) ≤ v.1; omega⟩, by simpa using hs, ?_, by show (0 : Int) ≤ 0; omega, by show (0 : Int) ≤ 10 * 0; omega⟩
    refine ⟨0, [], ⟨by omega, by omega⟩, { ho := rfl, dP := rfl, dt := rfl, s := List.Pairwise.nil, n := (fun n hn => by cases hn), u := (fun a ha => by cases ha), f := Forg.done ?_, l := Nat.le_refl _ }⟩
    have := hp.kept.1
    simpa [cntE] using this
theorem OfficesKeep_plain (l : List Int) : L_OfficesKeep l = some true := by
  suffices Ok (L_OfficesKeep l) (fun r => r = true) by obtain ⟨r, h, rfl⟩ := this; exact h
  unfold L_OfficesKeep
  have hs : SOk (⟨l, 0⟩ : Stm) 1100 := ⟨by simp, by simp⟩
  refine Ok.gen (Post_k hs (by omega)) (fun p s1 h1 q1 => ?_)
  dsimp only
  rcases New_cases p with ⟨a, b⟩ | ⟨a, b⟩
  · rw [b, a]
    simp only [casesO_some]
    unfold L_OfficesKeep_j3
    rw [if_neg (by simp)]
    refine Ok.gen (Range_k q1 (by omega) (by omega) (by omega) (by omega)) (fun v s2 h2 q2 => ?_)
    exact Off_loop (v, s2) h2 (PostF_eq p a) (q2.less (by omega))
  · rw [b]
    simp only [casesO_none]
    unfold L_OfficesKeep_j1 L_OfficesKeep_j2
    rw [if_pos (by simpa using a), b, if_pos rfl, posted_eq]
    exact Ok.ret rfl
end Go.Beacon
