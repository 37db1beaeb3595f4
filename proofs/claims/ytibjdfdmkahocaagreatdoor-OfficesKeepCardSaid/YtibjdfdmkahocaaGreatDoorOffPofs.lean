/- The law OfficesKeep as a plain statement: what turns an office. No program in sight. -/
import Derived.Test.YtibjdfdmkahocaaGreatDoorOffPofr
set_option linter.unusedVariables false
set_option linter.unusedSimpArgs false
namespace Go.Beacon
open Go Go.Eng

/-- New notes, of which some may be forgotten. -/
theorem mk_rel {p : Post} {t : Int} {M : List Note} {k : Nat} (hp : PostR p) (ht : 0 ≤ t ∧ t ≤ 345686399999) (hk : k ≤ 100000) (hs : SI M) (hn : ∀ n ∈ M, NI p t n) (hu : UQ M) (hl : M.length ≤ k) : ∃ Q, Q_Desk_forget ⟨p, M, t⟩ = some ⟨p, Q, t⟩ ∧ Rel p k ⟨p, asM M, t⟩ ⟨p, Q, t⟩ := by
  obtain ⟨Q, q1, q2⟩ := forget_eq M.length p t M M rfl hp.kept.1 hs (by omega) (fun n h => (hn n h).st.1)
  exact ⟨Q, q1, t, M, ht, ⟨rfl, rfl, rfl, hs, hn, hu, q2, hl⟩⟩
theorem mem_setid {R : List Note} {k : Str} {f : Note → Note} {m : Note} (h : m ∈ setid R k f) : (m ∈ R ∧ nid m ≠ k) ∨ ∃ n ∈ R, nid n = k ∧ m = f n := by
  unfold setid at h
  obtain ⟨n, hn, rfl⟩ := List.mem_map.1 h
  by_cases c : nid n = k
  · right; exact ⟨n, hn, c, by rw [if_pos c]⟩
  · left; rw [if_neg c]; exact ⟨hn, c⟩
theorem setid_keep {R : List Note} {k : Str} {f : Note → Note} {m : Note} (h : m ∈ R) (hk : nid m ≠ k) : m ∈ setid R k f :=
  List.mem_map.2 ⟨m, h, by rw [if_neg hk]⟩
/-- A note in another form. -/
theorem setid_good {p : Post} {t : Int} {R : List Note} {k : Nat} {id : Str} {f : Note → Note} (h : Cm p t R k) (hf : ∀ n, nid (f n) = nid n) (hn : ∀ n ∈ R, nid n = id → NI p t (f n) ∧ frB (f n) = false) : SI (setid R id f) ∧ (∀ n ∈ setid R id f, NI p t n) ∧ UQ (setid R id f) ∧ (setid R id f).length ≤ k := by
  refine ⟨setid_id hf h.s, fun m hm => ?_, fun a ha b hb fa fb h1 h2 => ?_, by unfold setid; simpa using h.l⟩
  · rcases mem_setid hm with ⟨h1, _⟩ | ⟨n, h1, h2, rfl⟩
    · exact h.n m h1
    · exact (hn n h1 h2).1
  · rcases mem_setid ha with ⟨a1, _⟩ | ⟨n, a1, a2, rfl⟩
    · rcases mem_setid hb with ⟨b1, _⟩ | ⟨n, b1, b2, rfl⟩
      · exact h.u a a1 b b1 fa fb h1 h2
      · rw [(hn n b1 b2).2] at fb; cases fb
    · rw [(hn n a1 a2).2] at fa; cases fa
/-! answers -/
def ansF (t s : Int) (n : Note) : Note := ⟨n.Letter, s, n.Tries, t⟩
theorem Answer_both {p : Post} {k : Nat} {o : Command_Office} {d : Fleetref2_Desk} (hp : PostR p) (hk : k ≤ 1000) (h : Rel p k o d) (id : Str) (t : Int) (dn : Bool) :
    ∃ e o' d', command_Office_Answer o id t dn = some (e, o') ∧ Q_Desk_Answer d id t dn = some (e, d') ∧ Rel p k o' d' := by
  unfold command_Office_Answer Q_Desk_Answer
  rcases turn_both hp hk h t with ⟨e, h1, h2, h3⟩ | ⟨h1, h2, h3, R, r1, r2, r3⟩
  · rw [h2, if_pos h1, h3]
    simp only [Option.bind_some, casesO_none]
    rw [if_pos h1]
    exact ⟨e, o, d, rfl, rfl, h⟩
  · rw [h1, if_neg (by simp), r2, r3]
    simp only [Option.bind_some, casesO_some, mget2]
    rw [if_neg (show ¬ ((0 : Int) ≠ 0) by simp)]
    have hl := r1.l
    rcases at_cases (d := ⟨p, R, t⟩) r1.s (by simp only; omega) id with ⟨a1, a2⟩ | ⟨i, n, a1, a2, a3, a4⟩
    · simp only at a2
      rw [a1, a2]
      simp only [Option.bind_some, Option.isSome_none, Bool.not_false, if_true]
      rw [if_pos (by omega)]
      exact ⟨_, o, d, rfl, rfl, h⟩
    · simp only at a2 a4
      have hnm := List.mem_of_getElem? a2
      have hN := r1.n n hnm
      have hil := (List.getElem?_eq_some_iff.1 a2).1
      rw [a1, a4]
      simp only [Option.bind_some, Option.isSome_some, Bool.not_true, Bool.false_eq_true, if_false, Option.getD_some]
      rw [if_neg (by omega), idx_nat a2]
      simp only [Option.bind_some]
      rw [open_eq hN.st.1, Bool.not_not, show command_ended n.State = endB n from rfl]
      unfold command_Office_Answer_j1 Q_Desk_Answer_j1
      by_cases hc : n.Tries = 0 ∨ endB n = true
      · rw [if_pos (by simpa using hc)]
        refine ⟨11, o, d, rfl, ?_, h⟩
        by_cases he : endB n = true
        · rw [if_pos he, if_pos rfl]
        · rw [if_neg he, if_pos (by simpa using hc.resolve_right he)]
      · have h0 : n.Tries ≠ 0 := fun e => hc (.inl e)
        have he : ¬ endB n = true := fun e => hc (.inr e)
        rw [if_neg (by simpa using hc), if_neg he, if_neg (show ¬ (decide (n.Tries = 0) = true) by simpa using h0)]
        have key : ∀ s : Int, (s = 3 ∨ s = 4) → ∃ Q, Q_Desk_forget ⟨p, R.set i (ansF t s n), t⟩ = some ⟨p, Q, t⟩ ∧ Rel p k ⟨p, mset (asM R) id (ansF t s n), t⟩ ⟨p, Q, t⟩ := by
          intro s hs
          rw [setid_set r1.s a2 (ansF t s), setid_mset r1.s a4 (f := ansF t s) (fun _ => rfl), a3]
          obtain ⟨g1, g2, g3, g4⟩ := setid_good (id := id) (f := ansF t s) r1 (fun _ => rfl) (fun m hm hmid => by
            have hM := r1.n m hm
            refine ⟨⟨hM.le, by show 1 ≤ s ∧ s ≤ 7; omega, hM.tr, fun e => by have : s = 1 := e; omega, fun e => by have : s = 2 := e; omega, by show 0 ≤ t ∧ t ≤ t; omega, fun e => ?_⟩, ?_⟩
            · unfold endB ansF at e; simp at e; omega
            · unfold frB ansF; simp; omega)
          exact mk_rel hp h2 (by omega) g1 g2 g3 g4
        have ix : ∀ x : Note, idx (R.set i x) (i : Int) = some x := fun x => idx_nat (by rw [List.getElem?_set_self hil])
        have ss : ∀ a b : Note, (R.set i a).set ((i : Int)).toNat b = R.set i b := fun a b => by rw [Int.toNat_natCast, List.set_set]
        unfold command_Office_Answer_j2 Q_Desk_Answer_j2 command_Office_keep
        rw [h3]
        simp only [Int.toNat_natCast, ss, ix, idx_nat a2, Option.bind_some, List.set_set]
        cases dn with
        | true =>
          simp only [if_true]
          obtain ⟨Q, q1, q2⟩ := key 3 (.inl rfl)
          unfold ansF at q1 q2
          rw [q1]
          exact ⟨0, _, _, rfl, rfl, q2⟩
        | false =>
          simp only [Bool.false_eq_true, if_false]
          obtain ⟨Q, q1, q2⟩ := key 4 (.inr rfl)
          unfold ansF at q1 q2
          rw [q1]
          exact ⟨0, _, _, rfl, rfl, q2⟩
/-! letters that are taken back -/
theorem Withdraw_both {p : Post} {k : Nat} {o : Command_Office} {d : Fleetref2_Desk} (hp : PostR p) (hk : k ≤ 1000) (h : Rel p k o d) (id : Str) (t : Int) :
    ∃ e o' d', command_Office_Withdraw o id t = some (e, o') ∧ Q_Desk_Withdraw d id t = some (e, d') ∧ Rel p k o' d' := by
  unfold command_Office_Withdraw Q_Desk_Withdraw
  rcases turn_both hp hk h t with ⟨e, h1, h2, h3⟩ | ⟨h1, h2, h3, R, r1, r2, r3⟩
  · rw [h2, if_pos h1, h3]
    simp only [Option.bind_some, casesO_none]
    rw [if_pos h1]
    exact ⟨e, o, d, rfl, rfl, h⟩
  · rw [h1, if_neg (by simp), r2, r3]
    simp only [Option.bind_some, casesO_some, mget2]
    rw [if_neg (show ¬ ((0 : Int) ≠ 0) by simp)]
    have hl := r1.l
    rcases at_cases (d := ⟨p, R, t⟩) r1.s (by simp only; omega) id with ⟨a1, a2⟩ | ⟨i, n, a1, a2, a3, a4⟩
    · simp only at a2
      rw [a1, a2]
      simp only [Option.bind_some, Option.isSome_none, Bool.not_false, if_true]
      rw [if_pos (by omega)]
      exact ⟨_, o, d, rfl, rfl, h⟩
    · simp only at a2 a4
      have hnm := List.mem_of_getElem? a2
      have hN := r1.n n hnm
      have hil := (List.getElem?_eq_some_iff.1 a2).1
      rw [a1, a4]
      simp only [Option.bind_some, Option.isSome_some, Bool.not_true, Bool.false_eq_true, if_false, Option.getD_some]
      rw [if_neg (by omega), idx_nat a2]
      simp only [Option.bind_some]
      rw [open_eq hN.st.1, Bool.not_not, show command_ended n.State = endB n from rfl]
      unfold command_Office_Withdraw_j1 Q_Desk_Withdraw_j1
      by_cases hc : 0 < n.Tries ∨ endB n = true
      · rw [if_pos (by simpa using hc)]
        refine ⟨11, o, d, rfl, ?_, h⟩
        by_cases he : endB n = true
        · rw [if_pos he, if_pos rfl]
        · rw [if_neg he, if_pos (by simpa using hc.resolve_right he)]
      · have h0 : ¬ 0 < n.Tries := fun e => hc (.inl e)
        have he : ¬ endB n = true := fun e => hc (.inr e)
        rw [if_neg (by simpa using hc), if_neg he, if_neg (show ¬ (decide (0 < n.Tries) = true) by simpa using h0)]
        have e : slices_Delete_Note_Note R (i : Int) (w64 ((i : Int) + 1)) = some (R.take i ++ R.drop (i + 1)) := by
          unfold slices_Delete_Note_Note delO
          rw [w64_in (by omega) (by omega), if_pos ⟨by omega, by omega, by omega⟩]
          simp only [Int.toNat_natCast]
          rw [show ((i : Int) + 1).toNat = i + 1 by omega]
        have hL : R = R.take i ++ n :: R.drop (i + 1) := by
          have : R.drop i = n :: R.drop (i + 1) := by rw [List.drop_eq_getElem_cons hil, (List.getElem?_eq_some_iff.1 a2).2]
          rw [← this, List.take_append_drop]
        have hsub : (R.take i ++ R.drop (i + 1)).Sublist R := by
          conv => rhs; rw [hL]
          exact List.Sublist.append (List.Sublist.refl _) (List.sublist_cons_self _ _)
        have hd := SI.ne r1.s
        have hdel : mdel (asM R) id = asM (R.take i ++ R.drop (i + 1)) := by
          rw [hL, List.pairwise_append, List.pairwise_cons] at hd
          have hA : ∀ m ∈ R.take i, nid m ≠ id := fun m hm => by rw [← a3]; exact hd.2.2 m hm n (by simp)
          have hB : ∀ m ∈ R.drop (i + 1), nid m ≠ id := fun m hm => by rw [← a3]; exact fun e => hd.2.1.1 m hm e.symm
          conv => lhs; rw [hL]
          unfold mdel asM
          rw [List.map_append, List.map_cons, List.filter_append, List.filter_cons, if_neg (by simp [a3]), List.map_append, List.filter_eq_self.2 (fun e he => ?_), List.filter_eq_self.2 (fun e he => ?_)]
          · obtain ⟨m, hm, rfl⟩ := List.mem_map.1 he; simpa using hB m hm
          · obtain ⟨m, hm, rfl⟩ := List.mem_map.1 he; simpa using hA m hm
        have hcnt : cntE endB (R.take i ++ R.drop (i + 1)) ≤ p.Kept := by
          have h1 := (hsub.filter endB).length_le
          have h2 := r1.f
          unfold cntE at h2 ⊢; omega
        rw [e, hdel]
        simp only [Option.bind_some]
        unfold command_Office_keep
        rw [h3]
        exact ⟨0, _, _, rfl, rfl, t, R.take i ++ R.drop (i + 1), h2, ⟨rfl, rfl, rfl, r1.s.sub hsub, fun n hn => r1.n n (hsub.subset hn), r1.u.sub (fun n hn => hsub.subset hn), .done hcnt, by have := hsub.length_le; omega⟩⟩
/-! letters that are handed out -/
def fetF (t : Int) (n : Note) : Note := ⟨n.Letter, 2, n.Tries + 1, t⟩
theorem fet_good {p : Post} {t : Int} {R : List Note} {k : Nat} {id : Str} (hp : PostR p) (h : Cm p t R k) (hw : ∀ n ∈ R, nid n = id → n.State = 1) : Cm p t (setid R id (fetF t)) k := by
  obtain ⟨g1, g2, g3, g4⟩ := setid_good (id := id) (f := fetF t) h (fun _ => rfl) (fun m hm hmid => by
    have hM := h.n m hm
    have hs := hw m hm hmid
    have hw' := hM.wt hs
    have ho := hM.op ((endB_st hM.st.1).2 (.inl hs))
    have hT := hp.timeout
    refine ⟨⟨hM.le, by show (1 : Int) ≤ 2 ∧ (2 : Int) ≤ 7; omega, by show 0 ≤ m.Tries + 1 ∧ m.Tries + 1 ≤ p.Tries; have := hM.tr; omega, fun e => by have : (2 : Int) = 1 := e; omega, fun e => by show 1 ≤ m.Tries + 1; have := hM.tr; omega, by show 0 ≤ t ∧ t ≤ t; have := hM.si; omega, fun e => ?_⟩, ?_⟩
    · unfold dueN at ho ⊢
      rw [if_neg (by omega)] at ho
      unfold fetF
      simp only [if_true]
      omega
    · unfold frB fetF; simp)
  refine ⟨g1, g2, g3, ?_, g4⟩
  have : cntE endB (setid R id (fetF t)) ≤ cntE endB R := by
    unfold cntE setid
    rw [List.filter_map, List.length_map]
    have : (R.filter (endB ∘ fun n => if nid n = id then fetF t n else n)).length ≤ (R.filter endB).length := by
      rw [← List.countP_eq_length_filter, ← List.countP_eq_length_filter]
      refine List.countP_mono_left (fun n _ hn => ?_)
      simp only [Function.comp_apply] at hn
      split at hn
      · unfold endB fetF at hn; simp at hn
      · exact hn
    omega
  have := h.f
  omega
theorem fetch_loops {p : Post} {t : Int} {k : Nat} {o : Command_Office} {d0 : Fleetref2_Desk} {out : List Letter} (hp : PostR p) (ho : o.post_ = p) (hP : d0.P = p) (hT : d0.time_ = t) (hk : k ≤ 1000) (hol : out.length ≤ 1000) : ∀ (rest pre : List Letter) (R : List Note), out = pre ++ rest → Cm p t R k → rest.Pairwise (fun a b => a.Id ≠ b.Id) → (∀ l ∈ rest, ∃ n ∈ R, nid n = l.Id ∧ n.State = 1) →
    ∃ R', command_Office_Fetch_l2 o t out (asM R) (pre.length : Int) = some (out, 0, ⟨p, asM R', t⟩) ∧ Q_Desk_Fetch_l2 t d0 out R (pre.length : Int) = some (out, 0, ⟨p, R', t⟩) ∧ Cm p t R' k
  | [], pre, R, ho', hR, hd, hw => by
    have hl : out.length = pre.length := by rw [ho']; simp
    refine ⟨R, ?_, ?_, hR⟩
    · unfold command_Office_Fetch_l2
      rw [iter_eq, command_Office_Fetch_b2, if_neg (by simp only; omega), map_inr_after]
      unfold command_Office_keep; rw [ho]
    · unfold Q_Desk_Fetch_l2
      rw [iter_eq, Q_Desk_Fetch_b2, if_neg (by simp only; omega), map_inr_after, hP, hT]
  | x :: rest, pre, R, ho', hR, hd, hw => by
    have hl : out.length = pre.length + rest.length + 1 := by rw [ho']; simp; omega
    have hx : idx out (pre.length : Int) = some x := idx_nat (by rw [ho', List.getElem?_append_right (by omega), Nat.sub_self]; rfl)
    obtain ⟨n, n1, n2, n3⟩ := hw x (by simp)
    have hd' := List.pairwise_cons.1 hd
    have hall : ∀ m ∈ R, nid m = x.Id → m.State = 1 := fun m hm hmid => by
      have e1 := asM_get hR.s hm
      have e2 := asM_get hR.s n1
      rw [hmid, ← n2, e2] at e1
      rw [← Option.some.inj e1]; exact n3
    have hR' := fet_good (id := x.Id) hp hR hall
    have hget : mget? (asM R) x.Id = some n := by rw [← n2]; exact asM_get hR.s n1
    have hlR := hR.l
    have hN := hR.n n n1
    have htr := hN.tr
    have hpt := hp.tries
    have w2 : w64 (n.Tries + 1) = n.Tries + 1 := w64_in (by omega) (by omega)
    have w1 : w64 ((pre.length : Int) + 1) = (((pre ++ [x]).length : Nat) : Int) := by rw [w64_in (by omega) (by omega)]; simp
    obtain ⟨R'', f1, f2, f3⟩ := fetch_loops hp ho hP hT hk hol rest (pre ++ [x]) (setid R x.Id (fetF t)) (by rw [ho']; simp) hR' hd'.2 (fun l hl => by
      obtain ⟨m, m1, m2, m3⟩ := hw l (by simp [hl])
      exact ⟨m, setid_keep m1 (by rw [m2]; exact fun e => hd'.1 l hl e.symm), m2, m3⟩)
    refine ⟨R'', ?_, ?_, f3⟩
    · rw [← f1]
      unfold command_Office_Fetch_l2
      rw [iter_eq, command_Office_Fetch_b2, if_pos (by simp only; omega)]
      simp only [hx, Option.bind_some, mgetO, hget, Option.getD_some, after_inl, w1, w2]
      rw [show (⟨n.Letter, 2, n.Tries + 1, t⟩ : Note) = fetF t n from rfl, setid_mset hR.s hget (f := fetF t) (fun _ => rfl)]
    · rw [← f2]
      rcases at_cases (d := ⟨p, R, t⟩) hR.s (by simp only; omega) x.Id with ⟨a1, a2⟩ | ⟨i, m, a1, a2, a3, a4⟩
      · simp only at a2; rw [hget] at a2; cases a2
      · simp only at a2 a4
        rw [hget] at a4; obtain rfl := Option.some.inj a4
        have hil := (List.getElem?_eq_some_iff.1 a2).1
        unfold Q_Desk_Fetch_l2
        rw [iter_eq, Q_Desk_Fetch_b2, if_pos (by simp only; omega)]
        simp only [hx, Option.bind_some]
        rw [hP, hT, a1]
        simp only [Option.bind_some]
        rw [idx_nat a2]
        simp only [Option.bind_some, after_inl, w1, w2, Int.toNat_natCast, List.set_set]
        rw [show (⟨n.Letter, 2, n.Tries + 1, t⟩ : Note) = fetF t n from rfl, setid_set hR.s a2 (fetF t), a3]
theorem let_b {l : Letter} (h : letE l = 0) : LetB l := by
  obtain ⟨h1, h2, h3, h4⟩ := letE_b h
  exact ⟨⟨by omega, by omega⟩, by omega, by omega⟩
/-- The letters that wait. -/
def waitL (R : List Note) : List Letter := (R.filter (fun n => decide (n.State = 1))).map (·.Letter)
theorem wait_ids {R : List Note} (h : SI R) : (waitL R).Pairwise (fun a b => a.Id ≠ b.Id) := by
  unfold waitL
  rw [List.pairwise_map]
  exact List.Pairwise.sublist List.filter_sublist (SI.ne h)
/-- Both orders of letters give the same row. -/
theorem both_sorted {p : Post} {t : Int} {R : List Note} {k : Nat} (h : Cm p t R k) (hk : k ≤ 1000) {X : List Letter} (hX : X.Perm (waitL R)) :
    ∃ Z, lenOk X.length (fun r : List Letter => r.length) (slices_SortFunc_Letter_Letter X (fun y0 y1 => command_byOrder y0 y1)) = some Z ∧ lenOk (waitL R).length (fun r : List Letter => r.length) (slices_SortFunc_Letter_Letter (waitL R) (fun y0 y1 => some (Q_LetterOrder y0 y1))) = some Z ∧ Z.Perm (waitL R) := by
  have hB : ∀ l ∈ waitL R, letE l = 0 := by
    intro l hl
    unfold waitL at hl
    obtain ⟨n, hn, rfl⟩ := List.mem_map.1 hl
    exact (h.n n (List.mem_filter.1 hn).1).le
  have hlen : (waitL R).length ≤ 500 ∨ True := .inr trivial
  have hl : (waitL R).length ≤ k := by
    unfold waitL
    have := List.length_filter_le (fun n : Note => decide (n.State = 1)) R
    have := h.l
    simp; omega
  obtain ⟨Z, a1, a2, a3⟩ := sortO_eq (fun y0 y1 : Letter => command_byOrder y0 y1) ordL X (by rw [hX.length_eq]; omega) (fun a _ b _ => byOrder_eq a b) (ordL_3.ord _)
  obtain ⟨Y, b1, b2, b3⟩ := sortO_eq (fun y0 y1 : Letter => some (Q_LetterOrder y0 y1)) ordL (waitL R) (by omega) (fun a ha b hb => by rw [LetterOrder_eq (let_b (hB a ha)) (let_b (hB b hb))]) (ordL_3.ord _)
  have hd := wait_ids h.s
  have e : Z = Y := by
    refine srt_unique ((a2.trans hX).trans b2.symm) a3 b3 (fun a ha b hb n1 n2 => ?_)
    have n3 := ordL_3.neg a b
    have hZ := a2.trans hX
    exact dist_eq hd a (hZ.mem_iff.1 ha) b (hZ.mem_iff.1 hb) (ordL_id (by omega))
  subst e
  have a1' : slices_SortFunc_Letter_Letter X (fun y0 y1 => command_byOrder y0 y1) = some Z := a1
  have b1' : slices_SortFunc_Letter_Letter (waitL R) (fun y0 y1 => some (Q_LetterOrder y0 y1)) = some Z := b1
  exact ⟨Z, len_ok a1' a2.length_eq, len_ok b1' b2.length_eq, b2⟩
theorem desk_out {p : Post} {t many : Int} {R : List Note} {k : Nat} (h : Cm p t R k) (hk : k ≤ 1000) : Q_Desk_Fetch_l1 t many ⟨p, R, t⟩ [] 0 = Q_Desk_Fetch_k2 t many ⟨p, R, t⟩ (waitL R) := by
  have hl := h.l
  have key : ∀ (m : Nat) (i : Int), 0 ≤ i → i + m = R.length → Q_Desk_Fetch_l1 t many ⟨p, R, t⟩ (waitL (R.take i.toNat)) i = Q_Desk_Fetch_k2 t many ⟨p, R, t⟩ (waitL R) := by
    intro m
    induction m with
    | zero =>
      intro i h0 hm
      unfold Q_Desk_Fetch_l1
      rw [iter_eq, Q_Desk_Fetch_b1, if_neg (by simp only; omega), map_inr_after, List.take_of_length_le (by omega)]
    | succ m ih =>
      intro i h0 hm
      obtain ⟨n, hn, hnm, _⟩ := idx_lt R h0 (by omega)
      have htk : R.take (i + 1).toNat = R.take i.toNat ++ [n] := by
        rw [show (i + 1).toNat = i.toNat + 1 by omega, List.take_add_one, (idx_some hn).2.2]; rfl
      have hll : (waitL (R.take i.toNat)).length ≤ 1000 := by
        unfold waitL
        have := List.length_filter_le (fun n : Note => decide (n.State = 1)) (R.take i.toNat)
        simp at this ⊢; omega
      have w1 : w64 (i + 1) = i + 1 := w64_in (by omega) (by omega)
      have ih' := ih (i + 1) (by omega) (by omega)
      rw [htk] at ih'
      unfold Q_Desk_Fetch_l1 at ih' ⊢
      rw [iter_eq, Q_Desk_Fetch_b1, if_pos (by simp only; omega)]
      simp only [hn, Option.bind_some]
      unfold Q_Desk_Fetch_j1
      by_cases hs : n.State = 1
      · have e : waitL (R.take i.toNat ++ [n]) = waitL (R.take i.toNat) ++ [n.Letter] := by unfold waitL; simp [List.filter_append, hs]
        rw [if_pos hs, app_le (by simp; omega)]
        simp only [Option.bind_some, after_inl, w1]
        rw [← ih', e]
      · have e : waitL (R.take i.toNat ++ [n]) = waitL (R.take i.toNat) := by unfold waitL; simp [List.filter_append, hs]
        rw [if_neg hs]
        simp only [Option.bind_some, after_inl, w1]
        rw [← ih', e]
  have := key R.length 0 (by omega) (by omega)
  simpa [waitL] using this
theorem Fetch_both {p : Post} {k : Nat} {o : Command_Office} {d : Fleetref2_Desk} (hp : PostR p) (hk : k ≤ 1000) (h : Rel p k o d) (t many : Int) :
    ∃ l e o' d', command_Office_Fetch o t many = some (l, e, o') ∧ Q_Desk_Fetch d t many = some (l, e, d') ∧ Rel p k o' d' ∧ l.length ≤ 1000 := by
  unfold command_Office_Fetch Q_Desk_Fetch
  have hB : base_Out many 0 500 = !Q_in many 0 500 := by
    rw [Out_eq, Qin_eq, Bool.eq_iff_iff]; simp <;> omega
  rcases turn_both hp hk h t with ⟨e, h1, h2, h3⟩ | ⟨h1, h2, h3, R, r1, r2, r3⟩
  · rw [h2, if_pos h1, h3]
    simp only [Option.bind_some, casesO_none]
    rw [if_pos h1]
    exact ⟨_, e, o, d, rfl, rfl, h, by simp⟩
  · rw [h1, if_neg (by simp), r2, r3]
    simp only [Option.bind_some, casesO_some]
    rw [if_neg (show ¬ ((0 : Int) ≠ 0) by simp), hB]
    by_cases hm : (!Q_in many 0 500) = true
    · rw [if_pos hm, if_pos hm]
      exact ⟨_, _, o, d, rfl, rfl, h, by simp⟩
    · rw [if_neg hm, if_neg hm, desk_out r1 hk]
      have hm' : 0 ≤ many ∧ many ≤ 500 := by rw [Qin_eq] at hm; simpa using hm
      obtain ⟨Z0, _, c1, c2⟩ := both_sorted r1 hk (List.Perm.refl (waitL R))
      have hlw : (waitL R).length ≤ k := by
        unfold waitL
        have := List.length_filter_le (fun n : Note => decide (n.State = 1)) R
        have := r1.l
        simp; omega
      have hlz := c2.length_eq
      have hout : ∃ out, out = Z0.take (min many (Z0.length : Int)).toNat := ⟨_, rfl⟩
      obtain ⟨out, hout⟩ := hout
      have hsl : slc Z0 0 (min many (Z0.length : Int)) = some out := by
        rw [slc_in (by omega) (by omega) (by omega), hout]
        simp only [Int.toNat_zero, List.drop_zero, Nat.sub_zero]
      have hol : out.length ≤ 1000 := by rw [hout]; simp; omega
      have hsubm : ∀ l ∈ out, l ∈ waitL R := fun l hl => c2.mem_iff.1 (by rw [hout] at hl; exact List.mem_of_mem_take hl)
      have hdo : out.Pairwise (fun a b => a.Id ≠ b.Id) := by
        rw [hout]
        exact List.Pairwise.sublist (List.take_sublist _ _) (c2.symm.pairwise (wait_ids r1.s) (fun {a b} h => Ne.symm h))
      obtain ⟨R', f1, f2, f3⟩ := fetch_loops (o := o) (d0 := ⟨p, R, t⟩) (out := out) hp h3 rfl rfl hk hol out [] R rfl r1 hdo (fun l hl => by
        have := hsubm l hl
        unfold waitL at this
        obtain ⟨n, hn, rfl⟩ := List.mem_map.1 this
        obtain ⟨n1, n2⟩ := List.mem_filter.1 hn
        exact ⟨n, n1, rfl, by simpa using n2⟩)
      refine ⟨out, 0, _, _, ?_, ?_, f3.rel h2, hol⟩
      · unfold command_Office_Fetch_l1
        have hid : (asM R).map (·.2) = R := by unfold asM; rw [List.map_map]; exact List.map_id R
        refine overP_inv _ _ _ _ _ (fun done l => l = waitL (done.map (·.2))) rfl ?_ ?_
        · intro done e rest l hperm hi
          left
          have hlen := hperm.length_eq
          have hlR := r1.l
          simp [asM] at hlen
          have hll : l.length ≤ 1000 := by
            rw [hi]; unfold waitL
            have := List.length_filter_le (fun n : Note => decide (n.State = 1)) (done.map (·.2))
            simp at this ⊢; omega
          show ∃ s', command_Office_Fetch_b1 e l = _ ∧ _
          unfold command_Office_Fetch_b1 command_Office_Fetch_j1
          by_cases hs : e.2.State = 1
          · rw [if_pos hs, app_le (by simp; omega)]
            refine ⟨_, rfl, ?_⟩
            rw [hi, List.map_append]; unfold waitL; simp [List.filter_append, hs]
          · rw [if_neg hs]
            refine ⟨_, rfl, ?_⟩
            rw [hi, List.map_append]; unfold waitL; simp [List.filter_append, hs]
        · intro q l hperm hi
          show command_Office_Fetch_f1 o t many (asM R) l = _
          have hq : (waitL (q.map (·.2))).Perm (waitL R) := by
            have := hperm.map (·.2)
            rw [hid] at this
            unfold waitL
            exact (this.filter _).map _
          obtain ⟨Z, z1, z2, z3⟩ := both_sorted r1 hk hq
          rw [c1] at z2; obtain rfl := Option.some.inj z2
          unfold command_Office_Fetch_f1
          rw [hi, z1]
          simp only [Option.bind_some]
          rw [hsl]
          simp only [Option.bind_some]
          have hcl : slices_Clone_Letter_Letter out = some out := by unfold slices_Clone_Letter_Letter; rw [app_le (by simp; omega)]; rfl
          rw [hcl]
          simp only [Option.bind_some]
          exact f1
      · unfold Q_Desk_Fetch_k2
        rw [c1]
        simp only [Option.bind_some]
        rw [hsl]
        simp only [Option.bind_some]
        exact f2
end Go.Beacon
