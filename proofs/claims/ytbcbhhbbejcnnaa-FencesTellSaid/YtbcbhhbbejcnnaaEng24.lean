/- The engine, part 24: small forms; lists inside boxes, read otherwise. No program in sight. -/
import Derived.Test.YtbcbhhbbejcnnaaEng23
set_option linter.unusedVariables false
namespace Go.Eng
open Go
def appL {α : Type} : List α → List α → Option (List α)
  | [], r => some r
  | x :: l, r => match appL l r with
    | some m => some (x :: m)
    | none => none
theorem appL_eq {α : Type} : ∀ {l r m : List α}, appL l r = some m → l ++ r = m
  | [], r, m, h => by simpa [appL] using h
  | x :: l, r, m, h => by
    simp only [appL] at h
    split at h
    · rename_i m' hm
      obtain rfl := Option.some.inj h
      rw [List.cons_append, appL_eq hm]
    · cases h
theorem AT.nilN {P : Program} {all : Array Oper} {n : Nat} {B : Heap} {tk : List Tok} {dy : List Nat} {i : Nat} {tm : List (Nat × AV)} {acc F : (Nat → Bk) → List (Nat × AV)} {Q : (Nat → Bk) → List (Nat × AV) → Prop} (hF : ∀ β, appL (acc β) tm = some (F β)) (h : ∀ β, Q β (F β)) : AT P all n B tk dy i [] tm acc Q :=
  AT.nil (fun β => (appL_eq (hF β)).symm) h
theorem idx_nil {α : Type} {i : Int} {x : α} (h : idx ([] : List α) i = some x) : False := by
  unfold idx at h
  split at h <;> simp at h

/-- The cells of a box, told otherwise. -/
theorem upd_cells {w : World} {S : Nat → Prop} {hp hp' : Heap} {b : Bk} {cs cs' : List AV} (r : HRel w S hp) (u : Upd hp b (.cells cs) b (.cells cs') hp') (hl : cs'.length = cs.length) (h1 : ∀ c ∈ cs', c.one = true) (hat : ∀ (i : Nat) c c' v, cs[i]? = some c → cs'[i]? = some c' → At w S c v → At w S c' v) : HRel w S hp' ∧ Evo w S hp w S hp' := by
  obtain ⟨pre, post, e1, e2⟩ := u.split
  subst e1; subst e2
  have hblk : ∀ n, Has (pre ++ (b, Ob.cells cs') :: post) n ↔ Has (pre ++ (b, Ob.cells cs) :: post) n := by
    intro n
    constructor <;> rintro ⟨x, hx, hb⟩ <;> rcases mem_mid.1 hx with rfl | hx
    · exact ⟨(b, .cells cs), mem_mid.2 (.inl rfl), hb⟩
    · exact ⟨x, mem_mid.2 (.inr hx), hb⟩
    · exact ⟨(b, .cells cs'), mem_mid.2 (.inl rfl), hb⟩
    · exact ⟨x, mem_mid.2 (.inr hx), hb⟩
  refine ⟨⟨?_, ?_, ?_, r.slt⟩, ⟨rfl, rfl, rfl, Nat.le_refl _, fun n hn => ⟨hn, rfl⟩, fun n _ _ => ⟨rfl, id⟩, fun n hn => .inl ((hblk n).1 hn), Nat.le_refl _⟩⟩
  · have := r.nodup
    simpa [List.filterMap_append, List.filterMap_cons] using this
  · intro x hx
    rcases mem_mid.1 hx with rfl | hx
    · obtain ⟨h0, n, vs, E, g1, g2, g3, g4⟩ := r.holds (b, .cells cs) (mem_mid.2 (.inl rfl))
      refine ⟨h1, n, vs, E, g1, g2, by rw [hl]; exact g3, fun i c v hc hv => ?_⟩
      have hi : i < cs.length := by rw [← hl]; exact (List.getElem?_eq_some_iff.1 hc).1
      have hci : cs[i]? = some cs[i] := by simp [hi]
      exact hat i cs[i] c v hci hc (g4 i _ v hci hv)
    · exact r.holds x (mem_mid.2 (.inr hx))
  · intro x hx n hn
    rcases mem_mid.1 hx with rfl | hx
    · have := r.sep (b, .cells cs) (mem_mid.2 (.inl rfl)) n hn
      exact ⟨fun h => (this.1 h).elim, fun h => h.elim⟩
    · exact r.sep x (mem_mid.2 (.inr hx)) n hn

theorem ImpX.coBox {n j : Nat} {tm : List (Nat × AV)} {hp hp' : Heap} {T : St → Prop} {b : Bk} {cs cs' : List AV} {av av' : AV} (u : Upd hp b (.cells cs) b (.cells cs') hp') (hj : cs[j]? = some av) (c : Co hp av av') (hc : normL (cs.set j av') = some cs') (h1 : allOne cs' = true) (k : ImpX ⟨n, tm, hp'⟩ T) : ImpX ⟨n, tm, hp⟩ T := by
  refine ImpX.step (σ1 := ⟨n, tm, hp'⟩) (fun w S a r => ?_) k
  have e := normL_eq hc
  obtain ⟨g1, g2⟩ := upd_cells r.hp u (by rw [← e]; simp) (allOne_spec h1) (fun i c1 c2 v hc1 hc2 hat => by
    rw [← e] at hc2
    by_cases hij : j = i
    · subst hij
      rw [List.getElem?_set_self (List.getElem?_eq_some_iff.1 hj).1] at hc2
      obtain rfl := Option.some.inj hc2
      rw [hj] at hc1
      obtain rfl := Option.some.inj hc1
      exact c.at r.hp hat
    · rw [List.getElem?_set_ne hij, hc1] at hc2
      obtain rfl := Option.some.inj hc2
      exact hat)
  exact ⟨_, S, rfl, ⟨r.size, r.defers, r.tm, g1⟩, g2⟩
theorem ImpX.nilBox {n j : Nat} {tm : List (Nat × AV)} {hp hp' : Heap} {T : St → Prop} {b : Bk} {cs cs' : List AV} (sz : Nat) (u : Upd hp b (.cells cs) b (.cells cs') hp') (hj : cs[j]? = some .nil) (hc : normL (cs.set j (.list sz [])) = some cs') (h1 : allOne cs' = true) (k : ImpX ⟨n, tm, hp'⟩ T) : ImpX ⟨n, tm, hp⟩ T :=
  ImpX.coBox u hj (.nil sz) hc h1 k
/-- nil in a box, as an array of its own. -/
theorem ImpX.arrBox {n j : Nat} {tm : List (Nat × AV)} {hp : Heap} {hp' : Bk → Heap} {T : St → Prop} {b : Bk} {cs : List AV} {cs' : Bk → List AV} (sz : Nat) (u : ∀ q, Upd hp b (.cells cs) b (.cells (cs' q)) (hp' q)) (hj : cs[j]? = some .nil) (hc : ∀ q, normL (cs.set j (.sl sz q 0 0)) = some (cs' q)) (h1 : ∀ q, allOne (cs' q) = true)
    (k : ∀ q, ImpX ⟨n, tm, (q, .arr sz []) :: hp' q⟩ T) : ImpX ⟨n, tm, hp⟩ T := by
  refine ImpX.step (σ1 := ⟨n, tm, (⟨none, 0⟩, .arr sz []) :: hp' ⟨none, 0⟩⟩) (fun w S a r => ?_) (k ⟨none, 0⟩)
  have e := normL_eq (hc ⟨none, 0⟩)
  obtain ⟨g1, g2⟩ := upd_cells r.hp (u ⟨none, 0⟩) (by rw [← e]; simp) (allOne_spec (h1 _)) (fun i c1 c2 v hc1 hc2 hat => by
    rw [← e] at hc2
    by_cases hij : j = i
    · subst hij
      rw [List.getElem?_set_self (List.getElem?_eq_some_iff.1 hj).1] at hc2
      obtain rfl := Option.some.inj hc2
      rw [hj] at hc1
      obtain rfl := Option.some.inj hc1
      cases hat
      exact .slph sz _ rfl
    · rw [List.getElem?_set_ne hij, hc1] at hc2
      obtain rfl := Option.some.inj hc2
      exact hat)
  obtain ⟨q1, q2, q3⟩ := add_rel (b := ⟨none, 0⟩) (o := .arr sz []) g1 (Ext.refl w) id ⟨by simp, by simp, .inl ⟨rfl, rfl⟩⟩ (.inl rfl)
  exact ⟨_, S, rfl, ⟨r.size, r.defers, r.tm, q1⟩, g2.trans q2⟩
section rules
variable {P : Program} {all : Array Oper} {rest : List Oper} {n : Nat} {tm : List (Nat × AV)} {hp : Heap} {Q : St → Prop} {d : Nat} {ty : TypeId} {pos : String} {af : Array Edge}
theorem q_load_aptr_part {t : TypeId} {D : TypeDesc} {i : TypeInfo} {x : Operand} {b : Bk} {sz q o : Nat} {xs cs' : List AV} {el : AV} [TUnder P t D] [TInfo P t i] (hD : TypeDesc.isAggB D = true) (hx : evA tm x = some (.aptr sz b q o)) (f : Fnd hp b (.arr sz xs) ∨ Fnd hp b (.fro sz xs))
    (hq : xs[q]? = some el) (ho : Nat.ble (o + i.size) el.cells.length = true) (hc' : normL ((el.cells.drop o).take i.size) = some cs') : QV P ⟨some d, .load t x, ty, pos, af, none⟩ ⟨n, tm, hp⟩ (.agg cs') :=
  (fun w S a r => by
    have hcs := normL_eq hc'
    have ho := Nat.le_of_ble_eq_true ho
    obtain ⟨m, h1, h2⟩ := (evA_at (σ := ⟨n, tm, hp⟩) r hx).aptr_inv
    obtain ⟨g0, g1, ⟨g2, _⟩ | ⟨m', vs, E, g2, g3, g4, g5⟩⟩ := arr_cells r.hp f
    · rw [g2] at h1; cases h1
    · obtain rfl : m' = m := by rw [g2] at h1; exact Option.some.inj h1
      have hel := g0 el (List.mem_of_getElem? hq)
      have hcl : el.cells.length = sz := hel.1
      have hqx : q < xs.length := (List.getElem?_eq_some_iff.1 hq).1
      have hmul : (q + 1) * sz ≤ b.cap * sz := Nat.mul_le_mul_right _ (by omega)
      rw [Nat.add_mul, Nat.one_mul] at hmul
      have hlen : ((vs.toList.drop (q * sz + o)).take i.size).length = i.size := by simp; omega
      refine ⟨.agg ((vs.toList.drop (q * sz + o)).take i.size).toArray, fun w1 ex => ?_, .agg _ _ (by rw [← hcs]; simp; omega) (fun j c v hc hv => ?_)⟩
      · have := run_loadVar_agg (P := P) (TUnder.h (P := P) (t := t)) hD (TInfo.h (P := P) (t := t)) (w := w1) (ad := ⟨m', q * sz + o, none⟩) (vs := (vs.toList.drop (q * sz + o)).take i.size) hlen (fun j v hv => by
          rw [add_at, cell_at (ex.at g3)]
          simp only [List.getElem?_take, List.getElem?_drop] at hv
          split at hv
          · simpa using hv
          · cases hv)
        simp [execOp, h2, Instr.loadAt, Instr.sureAddr, this]
      · simp only [List.getElem?_toArray, List.getElem?_take, List.getElem?_drop] at hv
        split at hv
        · rename_i hlt
          rw [← hcs, List.getElem?_take, if_pos hlt, List.getElem?_drop] at hc
          have hf := flat_get g0 hq (o + j) (by omega)
          rw [hc] at hf
          exact g5 _ c v hf (by rw [← Nat.add_assoc]; simpa using hv)
        · cases hv)
theorem t_load_aptr_part {α : Type} {g : α → AV} {Xs : List α} {el : α} {j : Int} {t : TypeId} {D : TypeDesc} {i : TypeInfo} {x : Operand} {b : Bk} {sz o : Nat} {cs' : List AV} [TUnder P t D] [TInfo P t i] (hD : TypeDesc.isAggB D = true) (hx : evA tm x = some (.aptr sz b j.toNat o)) (f : Fnd hp b (.arr sz (Xs.map g)) ∨ Fnd hp b (.fro sz (Xs.map g)))
    (hv : idx Xs j = some el) (ho : Nat.ble (o + i.size) (g el).cells.length = true) (hc' : normL (((g el).cells.drop o).take i.size) = some cs') : QV P ⟨some d, .load t x, ty, pos, af, none⟩ ⟨n, tm, hp⟩ (.agg cs') :=
  q_load_aptr_part hD hx f (idx_get hv) ho hc'
/-- A slice is compared with nil: what may come. -/
theorem r_eqnil {t e yt : TypeId} {x y : Operand} {sz : Nat} {xs : List AV} [TUnder P t (.slice e)] (hx : evA tm x = some (.list sz xs)) (hy : evA tm y = some .nil) (h0 : Nat.blt 0 sz = true) (hn : Nat.blt d n = true)
    (kk : ∀ c : Bool, (c = true → xs = []) → ARun P all rest ⟨n, (d, .bool c) :: tm, hp⟩ Q) : ARun P all (⟨some d, .binOp .eql t x y yt, ty, pos, af, none⟩ :: rest) ⟨n, tm, hp⟩ Q := by
  refine ARun.opx rfl fun w S a r => ?_
  obtain ⟨oa, cap, vs, e1, e2, e3, e4, e5, e6⟩ := (evA_at (σ := ⟨n, tm, hp⟩) r hx).list_inv
  have e7 := (evA_at (σ := ⟨n, tm, hp⟩) r hy).nil_inv
  refine ⟨.bool oa.isNone, w, S, ⟨n, (d, .bool oa.isNone) :: tm, hp⟩, ?_, r.put hn (.bool _), Evo.refl _ _ _, kk _ (fun hc => ?_)⟩
  · have h2 : (Op.equal t (.slice oa xs.length cap) (.slice none 0 0)).run P w = .ok oa.isNone w := by
      show (Op.equalIn (9999 + 1) t _ _).run P w = _
      rw [Op.equalIn]
      cases oa with
      | none => simp [run_underlying (TUnder.h (P := P) (t := t))]
      | some ad => simp [run_underlying (TUnder.h (P := P) (t := t))]
    have h3 : (binOp .eql t (.slice oa xs.length cap) (.slice none 0 0)).run P w = .ok (.bool oa.isNone) w := by
      rw [show binOp .eql t (.slice oa xs.length cap) (.slice none 0 0) = (do pure (.bool (← Op.equal t (.slice oa xs.length cap) (.slice none 0 0)))) from rfl]
      simp [h2]
    simp [execOp, e1, e7, eqGuard_at_slice, h3]
  · have hoa : oa = none := by simpa using hc
    have hvs : vs = [] := by
      cases vs with
      | nil => rfl
      | cons v vs =>
        obtain ⟨ad, h1, _⟩ := e5 0 v rfl
        rw [hoa] at h1; cases h1
    rw [hvs, flat_length e2] at e3
    have h0' : 0 < sz := by simpa using h0
    have : xs.length = 0 := by
      rcases Nat.eq_zero_or_pos xs.length with h | h
      · exact h
      · have := Nat.mul_pos h h0'; simp at e3; omega
    exact List.length_eq_zero_iff.1 this
end rules
theorem app_nil_some {α : Type} {p r : List α} (h : app [] p = some r) (hp : p = []) : r = [] := by
  subst hp
  obtain ⟨_, e⟩ := app_some h
  simpa using e
end Go.Eng
