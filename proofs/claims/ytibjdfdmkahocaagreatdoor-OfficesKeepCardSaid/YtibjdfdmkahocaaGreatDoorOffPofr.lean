/- An office and the reference's: they go side by side. No program in sight. -/
import Derived.Test.YtibjdfdmkahocaaGreatDoorOffPdsk
import Derived.Test.YtibjdfdmkahocaaGreatDoorOffPlet
set_option linter.unusedVariables false
set_option linter.unusedSimpArgs false
namespace Go.Beacon
open Go Go.Eng

/-- A letter that waits and was never fetched, in a slot. -/
def frB (n : Note) : Bool := decide (n.State = 1) && decide (n.Tries = 0)
def UQ (L : List Note) : Prop := ∀ a ∈ L, ∀ b ∈ L, frB a = true → frB b = true → a.Letter.Slot ≠ [] → a.Letter.Slot = b.Letter.Slot → a = b
/-- The notes behind ageing. -/
structure Cm (p : Post) (t : Int) (R : List Note) (k : Nat) : Prop where
  s : SI R
  n : ∀ n ∈ R, NI p t n
  u : UQ R
  f : cntE endB R ≤ p.Kept
  l : R.length ≤ k
/-- An office and a desk that go side by side. -/
structure RelM (p : Post) (t : Int) (o : Command_Office) (d : Fleetref2_Desk) (k : Nat) (M : List Note) : Prop where
  ho : o = ⟨p, asM M, t⟩
  dP : d.P = p
  dt : d.time_ = t
  s : SI M
  n : ∀ n ∈ M, NI p t n
  u : UQ M
  f : Forg endB sinC p.Kept M d.L
  l : M.length ≤ k
def Rel (p : Post) (k : Nat) (o : Command_Office) (d : Fleetref2_Desk) : Prop := ∃ t M, (0 ≤ t ∧ t ≤ 345686399999) ∧ RelM p t o d k M
theorem Cm.rel {p : Post} {t : Int} {R : List Note} {k : Nat} (h : Cm p t R k) (ht : 0 ≤ t ∧ t ≤ 345686399999) : Rel p k ⟨p, asM R, t⟩ ⟨p, R, t⟩ :=
  ⟨t, R, ht, ⟨rfl, rfl, rfl, h.s, h.n, h.u, .done h.f, h.l⟩⟩
theorem UQ.sub {L L' : List Note} (h : UQ L) (hs : ∀ n ∈ L', n ∈ L) : UQ L' := fun a ha b hb => h a (hs a ha) b (hs b hb)
theorem UQ.grw {p : Post} {t t' : Int} {L : List Note} (hp : PostR p) (hn : ∀ n ∈ L, NI p t n) (ht : t ≤ t') (h : UQ L) : UQ (L.map (grw p t')) := by
  intro a ha b hb fa fb hs he
  obtain ⟨x, hx, rfl⟩ := List.mem_map.1 ha
  obtain ⟨y, hy, rfl⟩ := List.mem_map.1 hb
  have key : ∀ z ∈ L, frB (Go.Beacon.grw p t' z) = true → frB z = true := by
    intro z hz fz
    unfold frB at fz ⊢
    simp only [Bool.and_eq_true, decide_eq_true_eq, (grw_let p t' z).2] at fz ⊢
    obtain ⟨_, _, _, g⟩ := (hn z hz).grw hp ht
    rcases g fz.1 with e | e
    · exact ⟨e, fz.2⟩
    · omega
  rw [(grw_let p t' x).1] at hs he
  rw [(grw_let p t' y).1] at he
  rw [h x hx y hy (key x hx fa) (key y hy fb) hs he]
theorem aged_both {p : Post} {t t' : Int} {o : Command_Office} {d : Fleetref2_Desk} {k : Nat} {M : List Note} (hp : PostR p) (h : RelM p t o d k M) (h0 : 0 ≤ t) (ht : t ≤ t') (hE : t' ≤ 345686399999) (hk : k ≤ 1000) :
    ∃ R, Cm p t' R k ∧ command_Office_aged o t' = some (asM R) ∧ Q_Desk_age ⟨p, d.L, t'⟩ t' = some ⟨p, R, t'⟩ := by
  have hl := h.l
  have hB : ∀ n ∈ M, NoteB n := fun n hn => (h.n n hn).b (by omega)
  obtain ⟨R, r1, r2⟩ := aged_eq (t0 := t) (t := t') hp h.s hB (by omega)
  have hsub := h.f.sub
  have hdL : ∀ n ∈ d.L, n ∈ M := fun n hn => hsub.subset hn
  have hdl := hsub.length_le
  have ha := age_eq (p := p) (L := d.L) (t0 := t') (t := t') hp (fun n hn => ⟨hB n (hdL n hn), (h.n n (hdL n hn)).st, (h.n n (hdL n hn)).tr.2⟩) (by omega)
  have hSg : SI (d.L.map (grw p t')) := (h.s.sub hsub).map (grw_id p t')
  obtain ⟨R', q1, q2⟩ := forget_eq (d.L.map (grw p t')).length p t' (d.L.map (grw p t')) (d.L.map (grw p t')) rfl hp.kept.1 hSg (by simp; omega) (fun n hn => by
    obtain ⟨m, hm, rfl⟩ := List.mem_map.1 hn
    exact ((h.n m (hdL m hm)).grw hp ht).1.st.1)
  have hgrow : Forg endB sinC p.Kept (M.map (grw p t')) R' := by
    refine Forg.grow (g := grw p t') (fun n hn => ?_) (fun m hm n hn he hf hg => ?_) h.f q2
    · by_cases hc : endB n = false ∧ dueN p n ≤ t'
      · rw [hc.1] at hn; cases hn
      · unfold grw; rw [grw1_off hc, grw1_off hc]
    · refine sinC_lt ?_
      have h1 := ((h.n n hn).grw hp ht).2.1 hf hg
      have h2 := (h.n m hm).si
      omega
  obtain rfl := Forg.det sinC_3 r2 hgrow
  refine ⟨R, ⟨(h.s.map (grw_id p t')).sub r2.sub, fun n hn => ?_, (h.u.grw hp h.n ht).sub (fun n hn => r2.sub.subset hn), r2.few, ?_⟩, by rw [h.ho]; exact r1, ?_⟩
  · obtain ⟨m, hm, rfl⟩ := List.mem_map.1 (r2.sub.subset hn)
    exact ((h.n m hm).grw hp ht).1
  · have := r2.sub.length_le; simp at this; omega
  · rw [ha]; exact q1
theorem turn_both {p : Post} {k : Nat} {o : Command_Office} {d : Fleetref2_Desk} (hp : PostR p) (hk : k ≤ 1000) (h : Rel p k o d) (t' : Int) :
    (∃ e, e ≠ 0 ∧ command_Office_timeFault o t' = e ∧ Q_Desk_turn_c0x4x d t' = some (none, e)) ∨
    (command_Office_timeFault o t' = 0 ∧ (0 ≤ t' ∧ t' ≤ 345686399999) ∧ o.post_ = p ∧ ∃ R, Cm p t' R k ∧ command_Office_aged o t' = some (asM R) ∧ Q_Desk_turn_c0x4x d t' = some (some ⟨p, R, t'⟩, 0)) := by
  obtain ⟨t, M, h0, hR⟩ := h
  unfold command_Office_timeFault Q_Desk_turn_c0x4x
  rw [show Q_Moment t' = base_Moment t' by rw [Moment_eq, QMoment_eq]]
  have ho : o.time_ = t := by rw [hR.ho]
  rw [ho, hR.dt]
  by_cases c1 : (!(base_Moment t')) = true
  · left; rw [if_pos c1, if_pos c1]; exact ⟨1, by decide, rfl, rfl⟩
  · rw [if_neg c1, if_neg c1]
    by_cases c2 : t' < t
    · left; rw [if_pos c2, if_pos c2]; exact ⟨7, by decide, rfl, rfl⟩
    · right
      rw [if_neg c2, if_neg c2]
      have hm : 0 ≤ t' ∧ t' ≤ 345686399999 := by rw [Moment_eq] at c1; simpa using c1
      obtain ⟨R, r1, r2, r3⟩ := aged_both hp hR h0.1 (by omega) hm.2 hk
      refine ⟨rfl, hm, by rw [hR.ho], R, r1, r2, ?_⟩
      have hl := hR.l
      have hdl := hR.f.sub.length_le
      have hc : slices_Clone_Note_Note d.L = some d.L := by unfold slices_Clone_Note_Note; rw [app_le (by simp; omega)]; rfl
      rw [hc, hR.dP]
      simp only [Option.bind_some, r3]
theorem Rel.more {p : Post} {k k' : Nat} {o : Command_Office} {d : Fleetref2_Desk} (h : Rel p k o d) (hk : k ≤ k') : Rel p k' o d := by
  obtain ⟨t, M, h0, hR⟩ := h
  exact ⟨t, M, h0, ⟨hR.ho, hR.dP, hR.dt, hR.s, hR.n, hR.u, hR.f, by have := hR.l; omega⟩⟩
/-! one note -/
theorem Note_both {p : Post} {k : Nat} {o : Command_Office} {d : Fleetref2_Desk} (hp : PostR p) (hk : k ≤ 1000) (h : Rel p k o d) (id : Str) (t : Int) :
    ∃ n e o' d', command_Office_Note o id t = some (n, e, o') ∧ Q_Desk_Note d id t = some (n, e, d') ∧ Rel p k o' d' := by
  unfold command_Office_Note Q_Desk_Note
  rcases turn_both hp hk h t with ⟨e, h1, h2, h3⟩ | ⟨h1, h2, h3, R, r1, r2, r3⟩
  · rw [h2, if_pos h1, h3]
    simp only [Option.bind_some, casesO_none]
    rw [if_pos h1]
    exact ⟨_, e, o, d, rfl, rfl, h⟩
  · rw [h1, if_neg (by simp), r2, r3]
    simp only [Option.bind_some, casesO_some, mget2]
    rw [if_neg (show ¬ ((0 : Int) ≠ 0) by simp)]
    have hl := r1.l
    rcases at_cases (d := ⟨p, R, t⟩) r1.s (by simp only; omega) id with ⟨a1, a2⟩ | ⟨i, n, a1, a2, a3, a4⟩
    · simp only at a2
      rw [a1, a2]
      simp only [Option.bind_some, Option.isSome_none, Bool.not_false, if_true]
      rw [if_pos (by omega)]
      exact ⟨_, _, o, d, rfl, rfl, h⟩
    · simp only at a2 a4
      rw [a1, a4]
      simp only [Option.bind_some, Option.isSome_some, Bool.not_true, Bool.false_eq_true, if_false, Option.getD_some]
      rw [if_neg (by omega), idx_nat a2]
      refine ⟨n, 0, _, _, rfl, rfl, ?_⟩
      unfold command_Office_keep
      rw [h3]; exact r1.rel h2
/-! how many wait -/
theorem filter_cnt (R : List Note) : ((R.filter (fun n => !endB n)).length : Int) = cntO R := rfl
theorem pending_eq {p : Post} {t : Int} {R : List Note} {k : Nat} (h : Cm p t R k) (hk : k ≤ 1000) : command_pending (asM R) = some (cntO R) := by
  unfold command_pending command_pending_l1
  refine overP_inv _ _ _ _ _ (fun done c => c = (((done.map (·.2)).filter (fun n => !endB n)).length : Int)) rfl ?_ ?_
  · intro done e rest c hperm hi
    left
    have hlen := hperm.length_eq
    have hl := h.l
    simp [asM] at hlen
    have hle := List.length_filter_le (fun n => !endB n) (done.map (·.2))
    simp only [List.length_map] at hle
    show ∃ s', command_pending_b1 e c = _ ∧ _
    unfold command_pending_b1 command_pending_j1
    rw [show command_ended e.2.State = endB e.2 from rfl]
    refine ⟨c + (if endB e.2 = true then 0 else 1), ?_, ?_⟩
    · cases endB e.2 with
      | true => simp
      | false => simp; exact w64_in (by omega) (by omega)
    · rw [hi, List.map_append, List.filter_append]
      cases he : endB e.2 with
      | true => simp [he]
      | false => simp [he]
  · intro q c hperm hi
    show command_pending_f1 c = _
    unfold command_pending_f1 cntO
    rw [hi]
    have : (asM R).map (·.2) = R := by unfold asM; rw [List.map_map]; exact List.map_id R
    have hp2 := ((hperm.map (·.2)).filter (fun n => !endB n)).length_eq
    rw [this] at hp2
    rw [hp2]
theorem Waiting_both {p : Post} {k : Nat} {o : Command_Office} {d : Fleetref2_Desk} (hp : PostR p) (hk : k ≤ 1000) (h : Rel p k o d) (t : Int) :
    ∃ n e o' d', command_Office_Waiting o t = some (n, e, o') ∧ Q_Desk_Waiting d t = some (n, e, d') ∧ Rel p k o' d' := by
  unfold command_Office_Waiting Q_Desk_Waiting
  rcases turn_both hp hk h t with ⟨e, h1, h2, h3⟩ | ⟨h1, h2, h3, R, r1, r2, r3⟩
  · rw [h2, if_pos h1, h3]
    simp only [Option.bind_some, casesO_none]
    rw [if_pos h1]
    exact ⟨_, e, o, d, rfl, rfl, h⟩
  · rw [h1, if_neg (by simp), r2, r3]
    have hl := r1.l
    simp only [Option.bind_some, casesO_some]
    rw [if_neg (by simp), many_eq (d := ⟨p, R, t⟩) (by simp only; omega) (fun n hn => (r1.n n hn).st.1)]
    unfold command_Office_keep
    simp only
    rw [pending_eq r1 hk, h3]
    exact ⟨_, _, _, _, rfl, rfl, r1.rel h2⟩
/-! when something comes about -/
/-- The least moment at which something comes about for an open note; -1: for none. -/
def WakeS (p : Post) (L : List Note) (x : Int) : Prop := (x = -1 ∧ ∀ n ∈ L, endB n = true) ∨ (∃ n ∈ L, endB n = false ∧ x = dueN p n) ∧ ∀ n ∈ L, endB n = false → x ≤ dueN p n
theorem WakeS.one {p : Post} {L L' : List Note} {x y : Int} (h0 : ∀ n ∈ L, endB n = false → 0 ≤ dueN p n) (hp : ∀ n, n ∈ L ↔ n ∈ L') (h1 : WakeS p L x) (h2 : WakeS p L' y) : x = y := by
  rcases h1 with ⟨a, b⟩ | ⟨⟨n, n1, n2, n3⟩, b⟩
  · rcases h2 with ⟨c, d⟩ | ⟨⟨m, m1, m2, m3⟩, d⟩
    · omega
    · have := b m ((hp m).2 m1); rw [this] at m2; cases m2
  · rcases h2 with ⟨c, d⟩ | ⟨⟨m, m1, m2, m3⟩, d⟩
    · have := d n ((hp n).1 n1); rw [this] at n2; cases n2
    · have := b m ((hp m).2 m1) m2
      have := d n ((hp n).1 n1) n2
      omega
theorem WakeS.step {p : Post} {L : List Note} {x : Int} {n : Note} (h0 : ∀ m ∈ L, endB m = false → 0 ≤ dueN p m) (hn : endB n = false → 0 ≤ dueN p n) (h : WakeS p L x) : WakeS p (L ++ [n]) (if (!endB n && (decide (x < 0) || decide (dueN p n < x))) = true then dueN p n else x) := by
  cases he : endB n with
  | true =>
    simp only [Bool.not_true, Bool.false_and, Bool.false_eq_true, if_false]
    rcases h with ⟨a, b⟩ | ⟨⟨m, m1, m2, m3⟩, b⟩
    · left; refine ⟨a, fun z hz => ?_⟩
      rcases List.mem_append.1 hz with h | h
      · exact b z h
      · rw [List.mem_singleton.1 h]; exact he
    · right; refine ⟨⟨m, List.mem_append_left _ m1, m2, m3⟩, fun z hz hze => ?_⟩
      rcases List.mem_append.1 hz with h | h
      · exact b z h hze
      · rw [List.mem_singleton.1 h, he] at hze; cases hze
  | false =>
    simp only [Bool.not_false, Bool.true_and, Bool.or_eq_true, decide_eq_true_eq]
    have hn' := hn he
    rcases h with ⟨a, b⟩ | ⟨⟨m, m1, m2, m3⟩, b⟩
    · rw [if_pos (by omega)]
      right; refine ⟨⟨n, by simp, he, rfl⟩, fun z hz hze => ?_⟩
      rcases List.mem_append.1 hz with h | h
      · rw [b z h] at hze; cases hze
      · rw [List.mem_singleton.1 h]; exact Int.le_refl _
    · have := h0 m m1 m2
      by_cases hlt : dueN p n < x
      · rw [if_pos (.inr hlt)]
        right; refine ⟨⟨n, by simp, he, rfl⟩, fun z hz hze => ?_⟩
        rcases List.mem_append.1 hz with h | h
        · have := b z h hze; omega
        · rw [List.mem_singleton.1 h]; exact Int.le_refl _
      · rw [if_neg (by omega)]
        right; refine ⟨⟨m, List.mem_append_left _ m1, m2, m3⟩, fun z hz hze => ?_⟩
        rcases List.mem_append.1 hz with h | h
        · exact b z h hze
        · rw [List.mem_singleton.1 h]; omega
theorem wake_desk {p : Post} {t : Int} {R : List Note} {k : Nat} (hp : PostR p) (h : Cm p t R k) (ht : 0 ≤ t ∧ t ≤ 345686399999) (hk : k ≤ 1000) : ∃ x, Q_Desk_Wake_l1 ⟨p, R, t⟩ (-1) 0 = some (x, 0, ⟨p, R, t⟩) ∧ WakeS p R x := by
  have hl := h.l
  have hdue : ∀ n ∈ R, endB n = false → 0 ≤ dueN p n := fun n hn he => by have := (h.n n hn).op he; omega
  have key : ∀ (m : Nat) (i : Int) (x : Int), 0 ≤ i → i + m = R.length → WakeS p (R.take i.toNat) x → ∃ x', Q_Desk_Wake_l1 ⟨p, R, t⟩ x i = some (x', 0, ⟨p, R, t⟩) ∧ WakeS p R x' := by
    intro m
    induction m with
    | zero =>
      intro i x h0 hm hw
      unfold Q_Desk_Wake_l1
      rw [iter_eq, Q_Desk_Wake_b1, if_neg (by simp only; omega), map_inr_after]
      rw [List.take_of_length_le (by omega)] at hw
      exact ⟨x, rfl, hw⟩
    | succ m ih =>
      intro i x h0 hm hw
      obtain ⟨n, hn, hnm, _⟩ := idx_lt R h0 (by omega)
      have hni := h.n n hnm
      have htk : R.take (i + 1).toNat = R.take i.toNat ++ [n] := by
        rw [show (i + 1).toNat = i.toNat + 1 by omega, List.take_add_one, (idx_some hn).2.2]; rfl
      have hs := WakeS.step (fun m hm => hdue m (List.mem_of_mem_take hm)) (hdue n hnm) hw
      rw [← htk] at hs
      obtain ⟨x', e1, e2⟩ := ih (i + 1) _ (by omega) (by omega) hs
      refine ⟨x', ?_, e2⟩
      rw [← e1]
      have w1 : w64 (i + 1) = i + 1 := w64_in (by omega) (by omega)
      unfold Q_Desk_Wake_l1
      rw [iter_eq, Q_Desk_Wake_b1, if_pos (by simp only; omega)]
      simp only [hn, Option.bind_some]
      unfold Q_Desk_Wake_j1 Q_Desk_Wake_j2
      rw [w1]
      cases he : endB n with
      | true =>
        have hd : Q_Desk_due ⟨p, R, t⟩ n = -1 := by
          unfold Q_Desk_due
          have : ¬ (n.State = 1 ∨ n.State = 2) := fun hc => by rw [(endB_st hni.st.1).2 hc] at he; cases he
          rw [if_neg (fun h => this (.inl h)), if_neg (fun h => this (.inr h))]
        rw [hd, if_neg (by simp)]
        simp
      | false =>
        have hb := hni.b (by omega)
        rw [Qdue_eq (d := ⟨p, R, t⟩) hp hb.since he hni.st.1]
        have h0' := hdue n hnm he
        simp only
        rw [decide_eq_true h0']
        simp only [Bool.true_and, Bool.not_false]
        split
        · rfl
        · rfl
  exact key R.length 0 (-1) (by omega) (by omega) (.inl ⟨rfl, by simp⟩)
theorem wake_office {p : Post} {t : Int} {o : Command_Office} {R : List Note} {k : Nat} {x : Int} (hp : PostR p) (h : Cm p t R k) (ho : o.post_ = p) (ht : 0 ≤ t ∧ t ≤ 345686399999) (hx : WakeS p R x) : command_Office_Wake_l1 o t (asM R) (-1) = some (x, 0, ⟨p, asM R, t⟩) := by
  have hdue : ∀ n ∈ R, endB n = false → 0 ≤ dueN p n := fun n hn he => by have := (h.n n hn).op he; omega
  have hmem : ∀ q : List (Str × Note), q.Perm (asM R) → ∀ n, n ∈ q.map (·.2) ↔ n ∈ R := by
    intro q hq n
    have : (asM R).map (·.2) = R := by unfold asM; rw [List.map_map]; exact List.map_id R
    have h2 := (hq.map (·.2)).mem_iff (a := n)
    rwa [this] at h2
  unfold command_Office_Wake_l1
  refine overP_inv _ _ _ _ _ (fun done y => WakeS p (done.map (·.2)) y) (.inl ⟨rfl, by simp⟩) ?_ ?_
  · intro done e rest y hperm hi
    left
    have hm := hmem _ hperm
    have hin : ∀ n ∈ done.map (·.2), n ∈ R := fun n hn => (hm n).1 (by simp at hn ⊢; obtain ⟨a, ha⟩ := hn; exact .inl ⟨a, ha⟩)
    have he : e.2 ∈ R := (hm e.2).1 (by simp)
    have hs := WakeS.step (fun m hm => hdue m (hin m hm)) (hdue e.2 he) hi
    refine ⟨_, ?_, by rw [List.map_append]; exact hs⟩
    show command_Office_Wake_b1 o t (asM R) e y = _
    unfold command_Office_Wake_b1 command_Office_Wake_j1 command_Office_Wake_j2
    rw [show command_ended e.2.State = endB e.2 from rfl, turn_eq (o := command_Office_keep o (asM R) t) (by unfold command_Office_keep; simp only; rw [ho]; exact hp) ((h.n e.2 he).b (by omega)).since]
    have : (command_Office_keep o (asM R) t).post_ = p := ho
    rw [this]
    split
    · rfl
    · rfl
  · intro q y hperm hi
    show command_Office_Wake_f1 o t (asM R) y = _
    have := WakeS.one (fun n hn => hdue n ((hmem q hperm n).1 hn)) (hmem q hperm) hi hx
    subst this
    unfold command_Office_Wake_f1 command_Office_keep
    rw [ho]
theorem Wake_both {p : Post} {k : Nat} {o : Command_Office} {d : Fleetref2_Desk} (hp : PostR p) (hk : k ≤ 1000) (h : Rel p k o d) (t : Int) :
    ∃ n e o' d', command_Office_Wake o t = some (n, e, o') ∧ Q_Desk_Wake d t = some (n, e, d') ∧ Rel p k o' d' := by
  unfold command_Office_Wake Q_Desk_Wake
  rcases turn_both hp hk h t with ⟨e, h1, h2, h3⟩ | ⟨h1, h2, h3, R, r1, r2, r3⟩
  · rw [h2, if_pos h1, h3]
    simp only [Option.bind_some, casesO_none]
    rw [if_pos h1]
    exact ⟨_, e, o, d, rfl, rfl, h⟩
  · rw [h1, if_neg (by simp), r2, r3]
    simp only [Option.bind_some, casesO_some]
    rw [if_neg (by simp)]
    obtain ⟨x, x1, x2⟩ := wake_desk hp r1 h2 hk
    rw [x1, wake_office hp r1 h3 h2 x2]
    exact ⟨_, _, _, _, rfl, rfl, r1.rel h2⟩
/-! all notes -/
theorem srt_SI {Z : List Note} (h : Srt (fun a b : Note => Lib.compareBytes (nid a) (nid b)) Z) (hd : Z.Pairwise (fun a b => nid a ≠ nid b)) : SI Z := by
  refine List.Pairwise.imp (fun {a b} hh => ?_) (List.Pairwise.and h hd)
  have h1 : ¬ Lib.compareBytes (nid b) (nid a) < 0 := hh.1
  have h2 : Lib.compareBytes (nid a) (nid b) ≠ 0 := fun e => hh.2 (cmpB_zero e)
  have h3 := cmpB_3.neg (nid a) (nid b)
  omega
theorem SI_unique {A B : List Note} (ha : SI A) (hb : SI B) (hp : A.Perm B) : A = B :=
  List.Perm.eq_of_pairwise (fun a b _ _ h1 h2 => by have := cmpB_3.neg (nid a) (nid b); omega) ha hb hp
/-- Sorted by their names. -/
theorem nsort_eq (f : Note → Note → Int) (hf : ∀ a b, f a b = Lib.compareBytes (nid a) (nid b)) (X R : List Note) (hX : X.Perm R) (hR : R.Pairwise (fun a b => nid a ≠ nid b)) (hl : R.length ≤ 100000) : ∃ Z, lenOk X.length (fun r : List Note => r.length) (slices_SortFunc_Note_Note X (fun y0 y1 => some (f y0 y1))) = some Z ∧ Z.Perm R ∧ SI Z := by
  obtain ⟨Z, g1, g2, g3⟩ := sortO_eq (fun y0 y1 : Note => some (f y0 y1)) (fun a b => Lib.compareBytes (nid a) (nid b)) X (by rw [hX.length_eq]; exact hl) (fun a _ b _ => by rw [hf]) ((cmpB_3.on nid).ord _)
  have g1' : slices_SortFunc_Note_Note X (fun y0 y1 => some (f y0 y1)) = some Z := g1
  have hZ : Z.Perm R := g2.trans hX
  exact ⟨Z, len_ok g1' g2.length_eq, hZ, srt_SI g3 (hZ.symm.pairwise hR (fun {a b} h => Ne.symm h))⟩
theorem Notes_both {p : Post} {k : Nat} {o : Command_Office} {d : Fleetref2_Desk} (hp : PostR p) (hk : k ≤ 1000) (h : Rel p k o d) (t : Int) :
    ∃ n e o' d', command_Office_Notes o t = some (n, e, o') ∧ Q_Desk_Notes d t = some (n, e, d') ∧ Rel p k o' d' ∧ n.length ≤ k := by
  unfold command_Office_Notes Q_Desk_Notes
  rcases turn_both hp hk h t with ⟨e, h1, h2, h3⟩ | ⟨h1, h2, h3, R, r1, r2, r3⟩
  · rw [h2, if_pos h1, h3]
    simp only [Option.bind_some, casesO_none]
    rw [if_pos h1]
    exact ⟨_, e, o, d, rfl, rfl, h, by simp⟩
  · rw [h1, if_neg (by simp), r2, r3]
    simp only [Option.bind_some, casesO_some]
    have hl := r1.l
    have hc : slices_Clone_Note_Note R = some R := by unfold slices_Clone_Note_Note; rw [app_le (by simp; omega)]; rfl
    rw [if_neg (by simp), hc]
    refine ⟨R, 0, ⟨p, asM R, t⟩, ⟨p, R, t⟩, ?_, rfl, r1.rel h2, hl⟩
    unfold command_Office_Notes_l1
    refine overP_inv _ _ _ _ _ (fun done l => l = done.map (·.2)) rfl ?_ ?_
    · intro done e rest l hperm hi
      left
      have hlen := hperm.length_eq
      unfold command_Office_keep at hlen
      simp [asM] at hlen
      refine ⟨_, ?_, rfl⟩
      show command_Office_Notes_b1 e l = _
      unfold command_Office_Notes_b1
      rw [app_le (by rw [hi]; simp; omega), hi, List.map_append]; rfl
    · intro q l hperm hi
      have hperm' : q.Perm (asM R) := hperm
      have : (asM R).map (·.2) = R := by unfold asM; rw [List.map_map]; exact List.map_id R
      have hq : (q.map (·.2)).Perm R := by have := hperm'.map (·.2); rwa [‹(asM R).map (·.2) = R›] at this
      show command_Office_Notes_f1 o t (asM R) l = _
      unfold command_Office_Notes_f1
      obtain ⟨Z, z1, z2, z3⟩ := nsort_eq (fun y0 y1 => command_Office_Notes_1x y0 y1) (fun a b => rfl) l R (by rw [hi]; exact hq) (SI.ne r1.s) (by omega)
      rw [z1]
      simp only [Option.bind_some]
      rw [SI_unique z3 r1.s z2]
      unfold command_Office_keep
      rw [h3]
end Go.Beacon
