/- An office: what comes about for its notes, and what it forgets. No program in sight. -/
import Derived.Test.YtibjdfdmkahocaaGreatDoorOffPpos
import Derived.Test.YtibjdfdmkahocaaGreatDoorPfgt
set_option linter.unusedVariables false
set_option linter.unusedSimpArgs false
namespace Go.Beacon
open Go Go.Eng

def nid (n : Note) : Str := n.Letter.Id
def asM (L : List Note) : List (Str × Note) := L.map (fun n => (nid n, n))
def SI (L : List Note) : Prop := L.Pairwise (fun a b => Lib.compareBytes (nid a) (nid b) < 0)
theorem ltK {a b : Str} : KLt.lt a b = true ↔ Lib.compareBytes a b < 0 := by
  show Op.bytesLess a b = true ↔ _
  rw [less_iff, decide_eq_true_eq]
theorem SI.sm {L : List Note} (h : SI L) : SM (asM L) := by
  unfold SM asM
  rw [List.pairwise_map]
  exact List.Pairwise.imp (fun {a b} h => ltK.2 h) h
theorem SI.ne {L : List Note} (h : SI L) : L.Pairwise (fun a b => nid a ≠ nid b) :=
  List.Pairwise.imp (fun {a b} h e => by rw [e, cmpB_self] at h; omega) h
theorem SI.sub {L L' : List Note} (h : SI L) (hs : L'.Sublist L) : SI L' := List.Pairwise.sublist hs h
theorem SI.map {L : List Note} {g : Note → Note} (hg : ∀ n, nid (g n) = nid n) (h : SI L) : SI (L.map g) := by
  unfold SI
  rw [List.pairwise_map]
  exact List.Pairwise.imp (fun {a b} h => by rw [hg, hg]; exact h) h
theorem asM_map {L : List Note} {g : Note → Note} (hg : ∀ n, nid (g n) = nid n) (k : Str) : mget? (asM (L.map g)) k = (mget? (asM L) k).map g := by
  induction L with
  | nil => rfl
  | cons x r ih =>
    show mget? ((nid (g x), g x) :: asM (r.map g)) k = (mget? ((nid x, x) :: asM r) k).map g
    rw [mget_cons, mget_cons, ih, hg]
    split <;> rfl
theorem asM_get {L : List Note} (h : SI L) {n : Note} (hn : n ∈ L) : mget? (asM L) (nid n) = some n :=
  (SI.sm h).get_iff.2 (List.mem_map.2 ⟨n, hn, rfl⟩)
theorem asM_some {L : List Note} {k : Str} {n : Note} (h : mget? (asM L) k = some n) : n ∈ L ∧ nid n = k := by
  obtain ⟨m, h1, h2⟩ := List.mem_map.1 (mget_mem h)
  obtain ⟨rfl, rfl⟩ := Prod.mk.inj h2
  exact ⟨h1, rfl⟩
theorem asM_none {L : List Note} {k : Str} : mget? (asM L) k = none ↔ ∀ n ∈ L, nid n ≠ k := by
  rw [mget_none]
  unfold asM
  simp
theorem asM_len (L : List Note) : (asM L).length = L.length := by simp [asM]

/-! what comes about -/
def endB (n : Note) : Bool := decide (3 ≤ n.State)
theorem ended_eq (n : Note) : command_ended n.State = endB n := rfl
def sinC (a b : Note) : Int := if cmpI a.Since b.Since ≠ 0 then cmpI a.Since b.Since else Lib.compareBytes (nid a) (nid b)
theorem sinC_3 : Cmp3 sinC := Cmp3.lex (cmpI_3.on Note.Since) (cmpB_3.on nid)
theorem sinC_ne {a b : Note} (h : nid a ≠ nid b) : sinC a b ≠ 0 := by
  unfold sinC
  split
  · assumption
  · exact fun e => h (cmpB_zero e)
theorem sinC_lt {a b : Note} (h : a.Since < b.Since) : sinC a b < 0 := by
  have : cmpI a.Since b.Since = -1 := by unfold cmpI; rw [if_pos h]
  unfold sinC
  rw [this, if_pos (by decide)]; decide
def dueN (p : Post) (n : Note) : Int := if n.State = 2 then min n.Letter.Until (n.Since + p.Timeout) else n.Letter.Until
def grw1 (p : Post) (t : Int) (n : Note) : Note :=
  if endB n = false ∧ dueN p n ≤ t then ⟨n.Letter, if dueN p n = n.Letter.Until then 5 else if n.Tries = p.Tries then 7 else 1, n.Tries, dueN p n⟩ else n
def grw (p : Post) (t : Int) (n : Note) : Note := grw1 p t (grw1 p t n)
theorem grw1_let (p : Post) (t : Int) (n : Note) : (grw1 p t n).Letter = n.Letter ∧ (grw1 p t n).Tries = n.Tries := by
  unfold grw1; split <;> exact ⟨rfl, rfl⟩
theorem grw_let (p : Post) (t : Int) (n : Note) : (grw p t n).Letter = n.Letter ∧ (grw p t n).Tries = n.Tries := by
  unfold grw
  obtain ⟨a, b⟩ := grw1_let p t (grw1 p t n)
  obtain ⟨c, d⟩ := grw1_let p t n
  exact ⟨a.trans c, b.trans d⟩
theorem grw_id (p : Post) (t : Int) (n : Note) : nid (grw p t n) = nid n := by unfold nid; rw [(grw_let p t n).1]
theorem grw1_mk (p : Post) (t : Int) (n : Note) : (⟨n.Letter, (grw1 p t n).State, n.Tries, (grw1 p t n).Since⟩ : Note) = grw1 p t n := by
  obtain ⟨h1, h2⟩ := grw1_let p t n
  rw [← h1, ← h2]
theorem grw1_off {p : Post} {t : Int} {n : Note} (h : ¬ (endB n = false ∧ dueN p n ≤ t)) : grw1 p t n = n := by unfold grw1; rw [if_neg h]
/-- The second step is the last one. -/
theorem grw1_two {p : Post} {t : Int} {n : Note} (h : endB n = false ∧ dueN p n ≤ t) (h2 : endB (grw1 p t n) = false ∧ dueN p (grw1 p t n) ≤ t) : ¬ (endB (grw1 p t (grw1 p t n)) = false ∧ dueN p (grw1 p t (grw1 p t n)) ≤ t) := by
  have h1 : (grw1 p t n).State = 1 := by
    have e := h2.1
    unfold grw1 at e ⊢
    rw [if_pos h] at e ⊢
    unfold endB at e
    simp only at e ⊢
    split
    · rename_i q; rw [if_pos q] at e; simp at e
    · rename_i q
      rw [if_neg q] at e
      split
      · rename_i q2; rw [if_pos q2] at e; simp at e
      · rfl
  generalize hm : grw1 p t n = m at h1 h2 ⊢
  have hd : dueN p m = m.Letter.Until := by unfold dueN; rw [h1, if_neg (by decide)]
  have : (grw1 p t m).State = 5 := by
    unfold grw1; rw [if_pos h2, if_pos hd]
  intro h3
  have := h3.1
  unfold endB at this
  rw [‹(grw1 p t m).State = 5›] at this
  simp at this
structure PostR (p : Post) : Prop where
  room : 1 ≤ p.Room ∧ p.Room ≤ 500
  timeout : 1 ≤ p.Timeout ∧ p.Timeout ≤ 86400000
  tries : 1 ≤ p.Tries ∧ p.Tries ≤ 20
  kept : 0 ≤ p.Kept ∧ p.Kept ≤ 1000
theorem turn_eq {o : Command_Office} {n : Note} (hp : PostR o.post_) (hs : 0 ≤ n.Since ∧ n.Since ≤ 345686400000) : command_Office_turn o n = dueN o.post_ n := by
  have h := hp.timeout
  unfold command_Office_turn dueN
  rw [w64_in (by omega) (by omega)]
theorem grown_b1 {o : Command_Office} {n : Note} {t s u : Int} (hp : PostR o.post_) (hs : 0 ≤ u ∧ u ≤ 345686400000) : command_Office_grown_b1 o n t s u = if endB (⟨n.Letter, s, n.Tries, u⟩ : Note) = false ∧ dueN o.post_ (⟨n.Letter, s, n.Tries, u⟩ : Note) ≤ t then some (.inl ((grw1 o.post_ t (⟨n.Letter, s, n.Tries, u⟩ : Note)).State, (grw1 o.post_ t (⟨n.Letter, s, n.Tries, u⟩ : Note)).Since)) else some (.inr (⟨n.Letter, s, n.Tries, u⟩ : Note)) := by
  unfold command_Office_grown_b1
  rw [turn_eq (n := ⟨n.Letter, s, n.Tries, u⟩) hp hs, show command_ended s = endB (⟨n.Letter, s, n.Tries, u⟩ : Note) from rfl]
  cases he : endB (⟨n.Letter, s, n.Tries, u⟩ : Note) with
  | true => simp; rfl
  | false =>
    simp only [Bool.not_false, if_true, true_and]
    by_cases hd : t < dueN o.post_ (⟨n.Letter, s, n.Tries, u⟩ : Note)
    · rw [if_pos hd, if_neg (by omega)]; rfl
    · have hle : dueN o.post_ (⟨n.Letter, s, n.Tries, u⟩ : Note) ≤ t := by omega
      rw [if_neg hd, if_pos hle]
      have hg : grw1 o.post_ t (⟨n.Letter, s, n.Tries, u⟩ : Note) = ⟨n.Letter, if dueN o.post_ (⟨n.Letter, s, n.Tries, u⟩ : Note) = n.Letter.Until then 5 else if n.Tries = o.post_.Tries then 7 else 1, n.Tries, dueN o.post_ (⟨n.Letter, s, n.Tries, u⟩ : Note)⟩ := by
        unfold grw1; rw [if_pos ⟨he, hle⟩]
      rw [hg]
      unfold command_Office_grown_j3
      unfold command_Office_grown_j2
      simp only
      by_cases h1 : dueN o.post_ (⟨n.Letter, s, n.Tries, u⟩ : Note) = n.Letter.Until
      · rw [if_pos h1, if_pos h1, turn_eq (n := ⟨n.Letter, s, n.Tries, u⟩) hp hs]
      · rw [if_neg h1, if_neg h1]
        by_cases h2 : n.Tries = o.post_.Tries
        · rw [if_pos h2, if_pos h2, turn_eq (n := ⟨n.Letter, s, n.Tries, u⟩) hp hs]
        · rw [if_neg h2, if_neg h2, turn_eq (n := ⟨n.Letter, s, n.Tries, u⟩) hp hs]
structure NoteB (n : Note) : Prop where
  since : 0 ≤ n.Since ∧ n.Since ≤ 345686400000
  until_ : 0 ≤ n.Letter.Until ∧ n.Letter.Until ≤ 345686400000
theorem NoteB.grw1 {p : Post} {t : Int} {n : Note} (hp : PostR p) (h : NoteB n) : NoteB (grw1 p t n) := by
  have h1 := h.since; have h2 := h.until_; have h3 := hp.timeout
  refine ⟨?_, by rw [(grw1_let p t n).1]; exact h2⟩
  unfold Go.Beacon.grw1
  split
  · show 0 ≤ dueN p n ∧ dueN p n ≤ 345686400000
    unfold dueN
    split <;> omega
  · exact h1
theorem grown_eq {o : Command_Office} {n : Note} {t : Int} (hp : PostR o.post_) (hb : NoteB n) : command_Office_grown o n t = some (grw o.post_ t n) := by
  have step : ∀ m : Note, NoteB m → m.Letter = n.Letter → m.Tries = n.Tries → iter (fun x : Int × Int => command_Office_grown_b1 o n t x.1 x.2) (m.State, m.Since) = if endB m = false ∧ dueN o.post_ m ≤ t then iter (fun x : Int × Int => command_Office_grown_b1 o n t x.1 x.2) ((grw1 o.post_ t m).State, (grw1 o.post_ t m).Since) else some m := by
    intro m hm h1 h2
    have e : (⟨n.Letter, m.State, n.Tries, m.Since⟩ : Note) = m := by rw [← h1, ← h2]
    rw [iter_eq, grown_b1 hp hm.since, e]
    split
    · simp only [Option.bind_some, after_inl]
    · rfl
  have s0 := step n hb rfl rfl
  obtain ⟨l1, l2⟩ := grw1_let o.post_ t n
  have s1 := step (grw1 o.post_ t n) (hb.grw1 hp) l1 l2
  obtain ⟨l3, l4⟩ := grw1_let o.post_ t (grw1 o.post_ t n)
  have s2 := step (grw1 o.post_ t (grw1 o.post_ t n)) ((hb.grw1 hp).grw1 hp) (l3.trans l1) (l4.trans l2)
  unfold command_Office_grown command_Office_grown_l1 grw
  rw [s0]
  split
  · rename_i h1
    rw [s1]
    split
    · rename_i h2
      rw [s2, if_neg (grw1_two h1 h2)]
    · rename_i h2
      rw [grw1_off h2]
  · rename_i h1
    rw [grw1_off h1, grw1_off h1]
/-! ageing -/
theorem or_sin (a b : Note) : command_Office_aged_1x a b = some (sinC a b) := by
  unfold command_Office_aged_1x
  rw [show cmp_Or_int [cmp_Compare_int a.Since b.Since, Lib.compareBytes a.Letter.Id b.Letter.Id] = some (orL [cmp_Compare_int a.Since b.Since, Lib.compareBytes a.Letter.Id b.Letter.Id]) from gOr_eq _ (by simp), CompareI_eq, orL2]
  rfl
theorem strict_of {L Z : List Note} (hp : Z.Perm L) (hd : L.Pairwise (fun a b => nid a ≠ nid b)) (hs : Srt sinC Z) : Z.Pairwise (fun a b => sinC a b < 0) := by
  have hd' : Z.Pairwise (fun a b => nid a ≠ nid b) := hp.symm.pairwise hd (fun {a b} h => Ne.symm h)
  refine List.Pairwise.imp (fun {a b} h => ?_) (List.Pairwise.and hs hd')
  have h1 := sinC_ne h.2
  have h2 := sinC_3.neg a b
  have := h.1
  omega
theorem aged_l2 (V : List Note) : ∀ (m i : Nat) (k : Nat) (M : List (Str × Note)), k ≤ V.length → V.length ≤ 100000 → i + m = k → command_Office_aged_l2 V (V.take k) M (i : Int) = some (M.filter (fun e => decide (∀ n ∈ (V.take k).drop i, e.1 ≠ nid n))) := by
  intro m
  induction m with
  | zero =>
    intro i k M hk hl hi
    unfold command_Office_aged_l2
    rw [iter_eq, command_Office_aged_b2, if_neg (by simp; omega), map_inr_after, List.drop_of_length_le (by simp; omega)]
    simp
    exact (List.filter_eq_self.2 (fun _ _ => rfl)).symm
  | succ m ih =>
    intro i k M hk hl hi
    have hlt : (i : Int) < (((V.take k).length : Nat) : Int) := by simp; omega
    obtain ⟨x, hx, hxm, hd⟩ := idx_lt (V.take k) (i := (i : Int)) (by omega) hlt
    rw [show ((i : Int)).toNat = i by omega, show ((i : Int) + 1).toNat = i + 1 by omega] at hd
    have hxS : idxS V (0 : Int) (V.take k).length (i : Int) = some x := by
      unfold idxS
      rw [if_pos ⟨by omega, by omega, hlt⟩, Int.zero_add]
      have h1 : idx V (i : Int) = idx (V.take k) (i : Int) := by
        unfold idx
        rw [if_pos (by omega), if_pos (by omega), List.getElem?_take, if_pos (by omega)]
      rw [h1]; exact hx
    have w1 : w64 ((i : Int) + 1) = ((i + 1 : Nat) : Int) := by rw [w64_in] <;> omega
    have ih' := ih (i + 1) k (mdel M x.Letter.Id) hk hl (by omega)
    unfold command_Office_aged_l2 at ih' ⊢
    rw [iter_eq, command_Office_aged_b2, if_pos hlt]
    simp only [hxS, Option.bind_some, after_inl, w1]
    rw [ih']
    unfold mdel
    rw [List.filter_filter, hd]
    congr 1
    apply List.filter_congr
    intro e he
    rw [Bool.eq_iff_iff]
    simp only [List.mem_cons, forall_eq_or_imp, decide_eq_true_eq, Bool.and_eq_true, ne_eq]
    constructor
    · rintro ⟨a, b⟩; exact ⟨b, a⟩
    · rintro ⟨a, b⟩; exact ⟨b, a⟩
theorem aged_eq {p : Post} {L : List Note} {t0 t : Int} (hp : PostR p) (hL : SI L) (hb : ∀ n ∈ L, NoteB n) (hl : L.length ≤ 100000) : ∃ R, command_Office_aged (⟨p, asM L, t0⟩ : Command_Office) t = some (asM R) ∧ Forg endB sinC p.Kept (L.map (grw p t)) R := by
  have hk := hp.kept
  have hG : SI (L.map (grw p t)) := hL.map (grw_id p t)
  obtain ⟨Z, hz1, hz2, hz3⟩ := sortO_eq (fun a b : Note => some (sinC a b)) sinC ((L.map (grw p t)).filter endB) (by have := List.length_filter_le endB (L.map (grw p t)); simp at this; omega) (fun _ _ _ _ => rfl) (sinC_3.ord _)
  have hflt := hG.sub (List.filter_sublist (p := endB))
  have hZs := strict_of hz2 (SI.ne hflt) hz3
  have hzl : Z.length ≤ 100000 := by have := hz2.length_eq; have h2 := List.length_filter_le endB (L.map (grw p t)); simp at h2; omega
  refine ⟨(L.map (grw p t)).filter (fun n => decide (n ∉ Z.take (max 0 ((Z.length : Int) - p.Kept)).toNat)), ?_, ?_⟩
  · unfold command_Office_aged command_Office_aged_l1
    refine overP_inv _ _ _ _ _ (fun done x => SM x.1 ∧ (∀ k, mget? x.1 k = (mget? done k).map (grw p t)) ∧ x.2 = (done.map (fun e => grw p t e.2)).filter endB) ⟨SM.nil, fun k => rfl, rfl⟩ ?_ ?_
    · intro done e rest s hperm hi
      left
      obtain ⟨l6, l8⟩ := s
      obtain ⟨i1, i2, i3⟩ := hi
      simp only at i1 i2 i3
      have heM : e ∈ asM L := hperm.mem_iff.1 (by simp)
      obtain ⟨n, hn, rfl⟩ := List.mem_map.1 heM
      have hdone : mget? done (nid n) = none := by
        rw [mget_none]
        intro z hz hzn
        have hnd := (hperm.pairwise_iff (fun {a b} (h : a.1 ≠ b.1) => Ne.symm h)).2 (SM.ne hL.sm)
        rw [List.pairwise_append] at hnd
        exact hnd.2.2 z hz (nid n, n) (by simp) hzn
      have hlen : done.length ≤ 100000 := by have := hperm.length_eq; simp [asM] at this; omega
      have hnew : ∀ k, mget? (mset l6 (nid n) (grw p t n)) k = (mget? (done ++ [(nid n, n)]) k).map (grw p t) := by
        intro k
        rw [mget_mset, i2]
        have happ : ∀ D : List (Str × Note), mget? (D ++ [(nid n, n)]) k = (mget? D k).or (if nid n = k then some n else none) := by
          intro D
          induction D with
          | nil => simp [mget?]
          | cons d D ih => rw [List.cons_append, mget_cons, mget_cons, ih]; split <;> rfl
        rw [happ]
        by_cases h : nid n = k
        · subst h; rw [if_pos rfl, if_pos rfl, hdone]; rfl
        · rw [if_neg h, if_neg h]; cases mget? done k <;> rfl
      have hfil : ((done ++ [(nid n, n)]).map (fun e => grw p t e.2)).filter endB = if endB (grw p t n) = true then l8 ++ [grw p t n] else l8 := by
        rw [i3, List.map_append, List.filter_append]
        simp only [List.map_cons, List.map_nil, List.filter_cons, List.filter_nil]
        split <;> simp
      refine ⟨(mset l6 (nid n) (grw p t n), if endB (grw p t n) = true then l8 ++ [grw p t n] else l8), ?_, i1.set _ _, hnew, hfil.symm⟩
      show command_Office_aged_b1 _ _ _ _ _ = _
      unfold command_Office_aged_b1
      rw [grown_eq hp (hb n hn)]
      simp only [Option.bind_some]
      rw [ended_eq]
      have hl8 : l8.length ≤ 100000 := by rw [i3]; have := List.length_filter_le endB (done.map (fun e => grw p t e.2)); simp at this; omega
      by_cases he : endB (grw p t n) = true
      · rw [if_pos he, if_pos he, app_le (by simp; omega)]
        rfl
      · rw [if_neg he, if_neg he]; rfl
    · intro q s hperm hi
      obtain ⟨l6, l8⟩ := s
      obtain ⟨i1, i2, i3⟩ := hi
      have hqn : (q.map Prod.fst).Nodup := (hperm.map _).nodup_iff.2 hL.sm.nodup
      have h6 : l6 = asM (L.map (grw p t)) := map_ext i1 hG.sm (fun k => by rw [i2, asM_map (grw_id p t), mget_perm hperm hqn])
      have h8 : l8.Perm ((L.map (grw p t)).filter endB) := by
        have i3' : l8 = (q.map (fun e => grw p t e.2)).filter endB := i3
        rw [i3']
        have : (L.map (grw p t)) = (asM L).map (fun e => grw p t e.2) := by unfold asM; rw [List.map_map]; rfl
        rw [this]
        exact (hperm.map _).filter _
      show command_Office_aged_f1 _ _ _ = _
      unfold command_Office_aged_f1
      obtain ⟨Z', g1, g2, g3⟩ := sortO_eq (fun y0 y1 => command_Office_aged_1x y0 y1) sinC l8 (by rw [h8.length_eq, ← hz2.length_eq]; exact hzl) (fun a _ b _ => or_sin a b) (sinC_3.ord _)
      have hZZ : Z' = Z := by
        refine srt_unique ((g2.trans h8).trans hz2.symm) g3 hz3 (fun a ha b hb h1 h2 => ?_)
        have ha' := h8.mem_iff.1 (g2.mem_iff.1 ha)
        have hb' := h8.mem_iff.1 (g2.mem_iff.1 hb)
        refine Classical.byContradiction fun hne => ?_
        have hid : nid a = nid b := Classical.byContradiction fun hid => by
          have := sinC_ne hid
          have := sinC_3.neg a b
          omega
        obtain ⟨A, B, hAB⟩ := List.append_of_mem ha'
        have hdd := SI.ne hflt
        rw [hAB] at hdd hb'
        rw [List.pairwise_append, List.pairwise_cons] at hdd
        rcases List.mem_append.1 hb' with h | h
        · exact hdd.2.2 b h a (by simp) hid.symm
        · rcases List.mem_cons.1 h with h | h
          · exact hne h.symm
          · exact hdd.2.1.1 b h hid
      subst hZZ
      have g1' : slices_SortFunc_Note_Note l8 (fun y0 y1 => command_Office_aged_1x y0 y1) = some Z' := g1
      rw [len_ok (Z := Z') g1' g2.length_eq]
      simp only [Option.bind_some]
      rw [w64_in (by omega) (by omega), slc_in (by omega) (by omega) (by omega)]
      simp only [Option.bind_some, Int.toNat_zero, List.drop_zero, Nat.sub_zero]
      have hkk : (max 0 ((Z'.length : Int) - p.Kept)).toNat ≤ Z'.length := by omega
      have hl2 := aged_l2 Z' (max 0 ((Z'.length : Int) - p.Kept)).toNat 0 (max 0 ((Z'.length : Int) - p.Kept)).toNat l6 hkk hzl (by omega)
      rw [show ((0 : Nat) : Int) = 0 from rfl] at hl2
      rw [hl2, h6, List.drop_zero]
      congr 1
      unfold asM
      rw [List.filter_map]
      congr 1
      apply List.filter_congr
      intro n hn
      simp only [Function.comp_apply, decide_eq_decide]
      constructor
      · intro h hm; exact h n hm rfl
      · intro h z hz hid
        refine h ?_
        have hzM : z ∈ L.map (grw p t) := (List.mem_filter.1 (h8.mem_iff.1 (g2.mem_iff.1 (List.mem_of_mem_take hz)))).1
        have e1 := asM_get hG hzM
        have e2 := asM_get hG hn
        rw [← hid, e2] at e1
        rw [Option.some.inj e1]; exact hz
  · refine Forg.sorted sinC_3 _ _ Z hz2 hZs ?_ hk.1 (List.Pairwise.imp (fun {a b} h => sinC_ne h) (SI.ne hG))
    unfold cntE
    have := hz2.length_eq
    omega
end Go.Beacon
