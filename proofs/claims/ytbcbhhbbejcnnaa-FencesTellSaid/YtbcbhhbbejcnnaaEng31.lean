/- The engine, part 31: a call that turns memory of ours while it looks at other memory of ours. No program in sight. -/
import Derived.Test.YtbcbhhbbejcnnaaEng30
set_option linter.unusedVariables false
set_option linter.unusedSimpArgs false
namespace Go.Eng
open Go

/-- A value that tells nothing of frozen memory. -/
def AV.noS1 : AV → Bool
  | .sl _ _ _ _ => true
  | .ptr _ _ => true
  | .agg cs => noLL cs
  | v => v.noL1
def noSL : List AV → Bool
  | [] => true
  | c :: r => c.noS1 && noSL r
def AV.noS : AV → Bool
  | .tup cs => noSL cs
  | v => v.noS1
theorem noS1_at {w : World} {S S' : Nat → Prop} {av : AV} {v : Value} (h : At w S av v) (hn : av.noS1 = true) : At w S' av v := by
  cases h with
  | agg cs vs hl h => exact .agg cs vs hl fun i c u hc hu => noL1x_at (h i c u hc hu) (noLL_mem hn c (List.mem_of_getElem? hc))
  | sl sz b off len n cap hb h1 h2 => exact .sl sz b off len n cap hb h1 h2
  | slph sz b hb => exact .slph sz b hb
  | sl0 sz b off n ad hb => exact .sl0 sz b off n ad hb
  | ptr b o n hb => exact .ptr b o n hb
  | int k n => exact .int k n
  | bool b => exact .bool b
  | str s => exact .str s
  | nil => exact .nil
  | raw v => exact .raw v
  | _ => simp [AV.noS1, AV.noL1] at hn
theorem noSL_mem : ∀ {cs : List AV}, noSL cs = true → ∀ c ∈ cs, c.noS1 = true
  | [], _, c, hc => by simp at hc
  | x :: r, h, c, hc => by
    simp only [noSL, Bool.and_eq_true] at h
    rcases List.mem_cons.1 hc with rfl | hc
    · exact h.1
    · exact noSL_mem h.2 c hc
theorem noS_at {w : World} {S S' : Nat → Prop} {av : AV} {v : Value} (h : At w S av v) (hn : av.noS = true) : At w S' av v := by
  cases av with
  | tup cs =>
    cases h with
    | tup _ vs hl h => exact .tup cs vs hl fun i c u hc hu => noS1_at (h i c u hc hu) (noSL_mem hn c (List.mem_of_getElem? hc))
  | _ => exact noS1_at h hn
/-- An object whose values tell nothing of frozen memory. -/
def Ob.NoS : Ob → Prop
  | .cells cs => noSL cs = true
  | .arr _ xs => ∀ x ∈ xs, noLL x.cells = true
  | _ => False
inductive NoSH : Heap → Prop
  | nil : NoSH []
  | cons {b : Bk} {o : Ob} {h : Heap} (c : o.NoS) (k : NoSH h) : NoSH ((b, o) :: h)
theorem NoSH.mem {h : Heap} (k : NoSH h) : ∀ e ∈ h, e.2.NoS := by
  induction k with
  | nil => intro e he; simp at he
  | cons c k ih =>
    intro e he
    rcases List.mem_cons.1 he with rfl | he
    · exact c
    · exact ih e he
theorem NoS.arrT {α : Type} {g : α → AV} {sz : Nat} {Xs : List α} (h : ∀ x, noLL (g x).cells = true) : (Ob.arr sz (Xs.map g)).NoS := fun x hx => by
  obtain ⟨y, _, rfl⟩ := List.mem_map.1 hx
  exact h y
theorem Holds.noS {w : World} {S S' : Nat → Prop} {b : Bk} {o : Ob} (h : Holds w S b o) (hn : o.NoS) : Holds w S' b o := by
  cases o with
  | cells cs =>
    obtain ⟨h0, n, vs, E, h1, h2, h3, h4⟩ := h
    exact ⟨h0, n, vs, E, h1, h2, h3, fun i c v hc hv => noS1_at (h4 i c v hc hv) (noSL_mem hn c (List.mem_of_getElem? hc))⟩
  | arr sz xs =>
    obtain ⟨h0, h1, h2⟩ := h
    refine ⟨h0, h1, h2.imp id ?_⟩
    rintro ⟨n, vs, E, g1, g2, g3, g4⟩
    refine ⟨n, vs, E, g1, g2, g3, fun i c v hc hv => noL1x_at (g4 i c v hc hv) ?_⟩
    have hm := List.mem_of_getElem? hc
    unfold flat at hm
    rw [List.mem_flatMap] at hm
    obtain ⟨x, hx, hcx⟩ := hm
    exact noLL_mem (hn x hx) c hcx
  | fro _ _ => exact hn.elim
  | mp _ => exact hn.elim

theorem Co.partT {hp : Heap} {α : Type} {g : α → AV} {Xs V : List α} {L H : Int} {sz : Nat} {b : Bk} (hv : slc Xs L H = some V) (f : Fnd hp b (.fro sz (Xs.map g))) : Co hp (.sl sz b L.toNat V.length) (.list sz (V.map g)) := by
  obtain ⟨⟨h0, h1, h2⟩, h3⟩ := slc_some hv
  have hl := (slc_len hv).1
  have h := Co.part sz b L.toNat V.length (Xs.map g) f (by simp; omega)
  have e : V.map g = ((Xs.map g).drop L.toNat).take V.length := by
    have := (slc_len hv).2.2
    rw [← List.map_drop, ← List.map_take, ← this]
  rw [e]
  exact h
theorem CoB.partT {hp : Heap} {α : Type} {g : α → AV} {Xs V : List α} {L H : Int} {sz : Nat} {b : Bk} (hv : slc Xs L H = some V) (f : Fnd hp b (.arr sz (Xs.map g))) : CoB hp (.sl sz b L.toNat V.length) (.list sz (V.map g)) := by
  obtain ⟨⟨h0, h1, h2⟩, h3⟩ := slc_some hv
  have hl := (slc_len hv).1
  have h := CoB.part sz b L.toNat V.length (Xs.map g) f (by simp; omega)
  have e : V.map g = ((Xs.map g).drop L.toNat).take V.length := by
    have := (slc_len hv).2.2
    rw [← List.map_drop, ← List.map_take, ← this]
  rw [e]
  exact h
section rules
variable {P : Program} {all : Array Oper} {rest : List Oper} {n : Nat} {tm : List (Nat × AV)} {hp : Heap} {Q : St → Prop} {d : Nat} {ty : TypeId} {pos : String} {af : Array Edge}
theorem r_callL {f : FuncId} {args : List Operand} {ts : Array TypeId} {l l' : List AV} {h0 hr : Heap} {Qc : AV → Heap → Prop} [IsFn P f] (hl : evL tm args = some l) (c : ACall P f l' h0 Qc) (co : CoBL hr l l') (hs : hp.Perm (h0 ++ hr)) (hn : Nat.blt d n = true)
    (kk : ∀ r h', Qc r h' → r.noS = true ∧ NoSH h' ∧ ARun P all rest ⟨n, (d, r) :: tm, h' ++ hr⟩ Q) : ARun P all (⟨some d, .call { callee := .value (.func f), args := args.toArray, argTypes := ts }, ty, pos, af, none⟩ :: rest) ⟨n, tm, hp⟩ Q := by
  refine ARun.callx rfl fun w S a r => ⟨f, _, run_exec_call a w, ?_⟩
  obtain ⟨g1, g2⟩ := evL_vals (σ := ⟨n, tm, hp⟩) r hl
  have rp := r.hp.perm hs
  have rr0 : HRel w S hr := rp.sub (List.sublist_append_right _ _)
  have rh0 : HRel w S h0 := rp.sub (List.sublist_append_left _ _)
  obtain ⟨g3, g4⟩ := CoBL.at rr0 co g1 g2
  have disj : ∀ m, Has h0 m → ¬ Has hr m := by
    rintro m ⟨x, hx, hxm⟩ ⟨y, hy, hym⟩
    have := rp.nodup
    rw [List.filterMap_append, List.nodup_append] at this
    exact this.2.2 m (List.mem_filterMap.2 ⟨x, hx, hxm⟩) m (List.mem_filterMap.2 ⟨y, hy, hym⟩) rfl
  have rh : HRel w (SB S hr) h0 := by
    refine ⟨rh0.nodup, fun e he => (rh0.holds e he).mono (fun m hm => ⟨.inl hm, rfl⟩) (fun m _ => rfl), fun e he m hm => ?_, fun m hm => ?_⟩
    · constructor
      · rintro (h | h)
        · exact (rh0.sep e he m hm).1 h
        · exact (disj m ⟨e, he, hm⟩ h).elim
      · exact fun h => .inl ((rh0.sep e he m hm).2 h)
    · rcases hm with h | h
      · exact rh0.slt m h
      · exact rr0.lt h
  refine (c w (SB S hr) _ rh (by simpa using g3) g4).mono ?_
  rintro e w' ⟨v, res, h', S', rfl, hq, h3, h4, h5⟩
  obtain ⟨k1, k2, k3⟩ := kk res h' hq
  have hup : ∀ m, S m → (S' m ∧ (Has hr m → S m)) ∧ w'.heap[m]? = w.heap[m]? := fun m hm => ⟨⟨(h5.keep m (.inl hm)).1, fun _ => hm⟩, (h5.keep m (.inl hm)).2⟩
  have hrel : HRel w' (fun m => S' m ∧ (Has hr m → S m)) (h' ++ hr) := by
    refine ⟨?_, ?_, ?_, fun m hm => h4.slt m hm.1⟩
    · rw [List.filterMap_append, List.nodup_append]
      refine ⟨h4.nodup, rr0.nodup, fun x hx y hy hxy => ?_⟩
      subst hxy
      obtain ⟨e1, he1, hb1⟩ := List.mem_filterMap.1 hx
      obtain ⟨e2, he2, hb2⟩ := List.mem_filterMap.1 hy
      rcases h5.new x ⟨e1, he1, hb1⟩ with h | h
      · exact disj x h ⟨e2, he2, hb2⟩
      · have := rr0.lt ⟨e2, he2, hb2⟩; omega
    · intro e he
      rcases List.mem_append.1 he with he | he
      · exact (h4.holds e he).noS (k2.mem e he)
      · exact (rr0.holds e he).mono hup (fun m hm => (h5.keep m (.inr ⟨e, he, hm⟩)).2)
    · intro e he m hm
      rcases List.mem_append.1 he with he | he
      · rw [← h4.sep e he m hm]
        refine ⟨fun h => h.1, fun h => ⟨h, fun hh => ?_⟩⟩
        rcases h5.new m ⟨e, he, hm⟩ with h6 | h6
        · exact (disj m h6 hh).elim
        · have := rr0.lt hh; omega
      · rw [← rr0.sep e he m hm]
        exact ⟨fun h => h.2 ⟨e, he, hm⟩, fun h => ⟨(h5.keep m (.inl h)).1, fun _ => h⟩⟩
  have hasP : ∀ m, Has hp m ↔ Has h0 m ∨ Has hr m := by
    intro m
    constructor
    · rintro ⟨x, hx, hb⟩
      rcases List.mem_append.1 (hs.mem_iff.1 hx) with h | h
      · exact .inl ⟨x, h, hb⟩
      · exact .inr ⟨x, h, hb⟩
    · rintro (⟨x, hx, hb⟩ | ⟨x, hx, hb⟩)
      · exact ⟨x, hs.mem_iff.2 (List.mem_append_left _ hx), hb⟩
      · exact ⟨x, hs.mem_iff.2 (List.mem_append_right _ hx), hb⟩
  refine ⟨v, fun m => S' m ∧ (Has hr m → S m), ⟨n, (d, res) :: tm, h' ++ hr⟩, rfl, (r.heap hup hrel).put hn (noS_at h3 k1), ?_, k3⟩
  refine ⟨h5.os, h5.tape, h5.output, h5.size, hup, fun m hm hh => ?_, fun m hm => ?_, h5.drawn⟩
  · have n0 : ¬ Has h0 m := fun h => hh ((hasP m).2 (.inl h))
    have nr : ¬ Has hr m := fun h => hh ((hasP m).2 (.inr h))
    obtain ⟨q1, q2⟩ := h5.other m hm n0
    refine ⟨q1, fun h => ?_⟩
    rcases q2 h.1 with h | h
    · exact h
    · exact (nr h).elim
  · obtain ⟨x, hx, hb⟩ := hm
    rcases List.mem_append.1 hx with hx | hx
    · rcases h5.new m ⟨x, hx, hb⟩ with h | h
      · exact .inl ((hasP m).2 (.inl h))
      · exact .inr h
    · exact .inl ((hasP m).2 (.inr ⟨x, hx, hb⟩))
theorem t_index_slN {α : Type} {Xs : List α} {el : α} {t e : TypeId} {i : TypeInfo} {x y : Operand} {k : IntKind} {j : Int} {sz m : Nat} {b : Bk} [TUnder P t (.slice e)] [TInfo P e i] (hx : evA tm x = some (.sl sz b 0 m)) (hm : m = Xs.length) (hsz : Nat.beq i.size sz = true) (hy : evA tm y = some (.int k j))
    (hv : idx Xs j = some el) : QV P ⟨some d, .indexAddr t x y, ty, pos, af, none⟩ ⟨n, tm, hp⟩ (.aptr sz b j.toNat 0) := by
  subst hm
  exact t_index_sl hx hsz hy hv
theorem t_callL0 {f : FuncId} {args : List Operand} {ts : Array TypeId} {l l' : List AV} {h0 hr H H' : Heap} {V : AV} [IsFn P f] (hl : evL tm args = some l) (c : ACall P f l' h0 (T0 H V)) (hs : Sel hp h0 hr) (co : CoBL hr l l') (ha : appO H hr = some H') (hV : V.noS = true) (hH : NoSH H) (hn : Nat.blt d n = true)
    (kk : ARun P all rest ⟨n, (d, V) :: tm, H'⟩ Q) : ARun P all (⟨some d, .call { callee := .value (.func f), args := args.toArray, argTypes := ts }, ty, pos, af, none⟩ :: rest) ⟨n, tm, hp⟩ Q :=
  r_callL hl c co hs.perm hn (fun r h' ⟨e1, e2⟩ => by subst e1; subst e2; rw [appO_eq ha]; exact ⟨hV, hH, kk⟩)
theorem t_callL1 {f : FuncId} {args : List Operand} {ts : Array TypeId} {l l' : List AV} {h0 hr : Heap} {H H' : Bk → Heap} {V : Bk → AV} [IsFn P f] (hl : evL tm args = some l) (c : ACall P f l' h0 (T1 H V)) (hs : Sel hp h0 hr) (co : CoBL hr l l') (ha : ∀ b, appO (H b) hr = some (H' b)) (hV : ∀ b, (V b).noS = true) (hH : ∀ b, NoSH (H b)) (hn : Nat.blt d n = true)
    (kk : ∀ b, ARun P all rest ⟨n, (d, V b) :: tm, H' b⟩ Q) : ARun P all (⟨some d, .call { callee := .value (.func f), args := args.toArray, argTypes := ts }, ty, pos, af, none⟩ :: rest) ⟨n, tm, hp⟩ Q :=
  r_callL hl c co hs.perm hn (fun r h' ⟨b, e1, e2⟩ => by subst e1; subst e2; rw [appO_eq (ha b)]; exact ⟨hV b, hH b, kk b⟩)
end rules
end Go.Eng
