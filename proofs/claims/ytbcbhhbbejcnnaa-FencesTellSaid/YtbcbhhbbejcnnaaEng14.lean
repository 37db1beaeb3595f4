/- The engine, part 14: the rules for regions that draw their order. No program in sight. -/
import Derived.Test.YtbcbhhbbejcnnaaEng13
set_option linter.unusedVariables false
namespace Go.Eng
open Go

theorem lk_cons (d : Nat) (av : AV) (tm : List (Nat × AV)) : lk ((d, av) :: tm) = eput (lk tm) (some d) av := by
  funext s
  simp only [lk, eput]
  by_cases h : d = s
  · subst h; simp
  · rw [nbeq_f' h, if_neg h]

/-- The slots that are looked at. -/
def rst : List Nat → List (Nat × AV) → List (Nat × AV)
  | [], _ => []
  | s :: r, tm => match lk tm s with
    | some av => (s, av) :: rst r tm
    | none => rst r tm

theorem lk_rst : ∀ {ls : List Nat} {tm : List (Nat × AV)} {s : Nat} {av : AV}, lk (rst ls tm) s = some av → s ∈ ls ∧ lk tm s = some av
  | [], tm, s, av, h => by simp [rst, lk] at h
  | k :: ls, tm, s, av, h => by
    simp only [rst] at h
    split at h
    · rename_i av' hk
      simp only [lk] at h
      split at h
      · rename_i hb
        obtain rfl : k = s := by simpa using hb
        obtain rfl := Option.some.inj h
        exact ⟨by simp, hk⟩
      · obtain ⟨h1, h2⟩ := lk_rst h
        exact ⟨by simp [h1], h2⟩
    · obtain ⟨h1, h2⟩ := lk_rst h
      exact ⟨by simp [h1], h2⟩

theorem strel_rst {w : World} {S : Nat → Prop} {a : Act} {n : Nat} {hp : Heap} {ls : List Nat} {tm : List (Nat × AV)} (h1 : a.tmps.size = n) (h2 : a.defers = []) (h3 : HRel w S hp) (h4 : RelE w S ls (lk tm) a) : StRel w S ⟨n, rst ls tm, hp⟩ a :=
  ⟨h1, h2, fun s av h => h4 s (lk_rst h).1 av (lk_rst h).2, h3⟩

def AM (P : Program) (all : Array Oper) (n : Nat) (hp : Heap) (l : List Oper) (tm : List (Nat × AV)) (Q : List (Nat × AV) → Prop) : Prop := ∃ tm', AMf P all n hp l (lk tm) (lk tm') ∧ Q tm'

section rules
variable {P : Program} {all : Array Oper} {rest : List Oper} {n : Nat} {tm : List (Nat × AV)} {hp : Heap} {Q : List (Nat × AV) → Prop} {d : Nat} {ty : TypeId} {pos : String} {af : Array Edge} {op : Op}

theorem AM.nil (h : Q tm) : AM P all n hp [] tm Q := ⟨tm, .nil _, h⟩

theorem AM.mv {av : AV} (h : MV P all n ⟨some d, op, ty, pos, af, none⟩ (lk tm) hp av) (hn : Nat.blt d n = true) (k : AM P all n hp rest ((d, av) :: tm) Q) : AM P all n hp (⟨some d, op, ty, pos, af, none⟩ :: rest) tm Q := by
  obtain ⟨tm', k1, k2⟩ := k
  refine ⟨tm', .run rfl h (fun d' hd => ?_) (by rw [lk_cons] at k1; exact k1), k2⟩
  obtain rfl := Option.some.inj hd
  simpa using hn

theorem AM.qv {av : AV} (q : QV P ⟨some d, op, ty, pos, af, none⟩ ⟨n, rst (looks all ⟨some d, op, ty, pos, af, none⟩) tm, hp⟩ av) (hn : Nat.blt d n = true) (k : AM P all n hp rest ((d, av) :: tm) Q) : AM P all n hp (⟨some d, op, ty, pos, af, none⟩ :: rest) tm Q := by
  refine AM.mv (fun w S a h1 h2 h3 h4 K Q' hK => ?_) hn k
  obtain ⟨v, g1, g2⟩ := q w S a (strel_rst h1 h2 h3 h4)
  show Oper.upon P _ a K Q' _
  rw [g1 w (Ext.refl w)]
  exact hK v w S (Grow.refl h3.slt) g2

theorem AM.guard_yes {j : Nat} {want b : Bool} {s : Nat} (hj : (all[j]?).bind (·.dst) = some s) (hs : lk tm s = some (.bool b)) (hb : b = want)
    (k : AM P all n hp (⟨some d, op, ty, pos, af, none⟩ :: rest) tm Q) : AM P all n hp (⟨some d, op, ty, pos, af, some (j, want)⟩ :: rest) tm Q := by
  obtain ⟨tm', k1, k2⟩ := k
  refine ⟨tm', ?_, k2⟩
  cases k1 with
  | run hg h hd k =>
    refine .run ⟨s, hj, .inl ⟨b, hs, by simp [hb]⟩⟩ ?_ hd k
    intro w S a h1 h2 h3 h4 K Q' hK
    exact h w S a h1 h2 h3 (fun t ht => h4 t (by simp only [looks, List.append_nil] at ht ⊢; exact List.mem_append_left _ ht)) K Q' hK
  | pass hg hd k => simp [Wanted] at hg
theorem AM.guard_no {j : Nat} {want b : Bool} {s : Nat} (hj : (all[j]?).bind (·.dst) = some s) (hs : lk tm s = some (.bool b)) (hb : b = !want) (hn : Nat.blt d n = true)
    (k : AM P all n hp rest ((d, .raw undef) :: tm) Q) : AM P all n hp (⟨some d, op, ty, pos, af, some (j, want)⟩ :: rest) tm Q := by
  obtain ⟨tm', k1, k2⟩ := k
  refine ⟨tm', .pass ⟨s, hj, .inl ⟨b, hs, ?_⟩⟩ (fun d' hd => ?_) (by rw [lk_cons] at k1; exact k1), k2⟩
  · rw [hb]; cases want <;> rfl
  · obtain rfl := Option.some.inj hd
    simpa using hn
/-- The operation that a guard asks about was itself passed over. -/
theorem AM.guard_und {j : Nat} {want : Bool} {s : Nat} (hj : (all[j]?).bind (·.dst) = some s) (hs : lk tm s = some (.raw undef)) (hn : Nat.blt d n = true)
    (k : AM P all n hp rest ((d, .raw undef) :: tm) Q) : AM P all n hp (⟨some d, op, ty, pos, af, some (j, want)⟩ :: rest) tm Q := by
  obtain ⟨tm', k1, k2⟩ := k
  refine ⟨tm', .pass ⟨s, hj, .inr ⟨hs, rfl⟩⟩ (fun d' hd => ?_) (by rw [lk_cons] at k1; exact k1), k2⟩
  obtain rfl := Option.some.inj hd
  simpa using hn
theorem AM.lit {l : List Oper} {s : Nat} {b c : Bool} (hs : lk tm s = some (.bool b)) (hb : b = c) (k : AM P all n hp l ((s, .bool c) :: tm) Q) : AM P all n hp l tm Q := by
  subst hb
  obtain ⟨tm', k1, k2⟩ := k
  have : lk ((s, .bool b) :: tm) = lk tm := by
    rw [lk_cons]
    funext t
    simp only [eput]
    split
    · rename_i h; subst h; exact hs.symm
    · rfl
  rw [this] at k1
  exact ⟨tm', k1, k2⟩
theorem AM.guard {j s : Nat} {want b : Bool} (hj : (all[j]?).bind (·.dst) = some s) (hs : lk tm s = some (.bool b)) (hn : Nat.blt d n = true) (h1 : b = want → AM P all n hp (⟨some d, op, ty, pos, af, none⟩ :: rest) ((s, .bool want) :: tm) Q)
    (h2 : b = !want → AM P all n hp rest ((d, .raw undef) :: (s, .bool (!want)) :: tm) Q) : AM P all n hp (⟨some d, op, ty, pos, af, some (j, want)⟩ :: rest) tm Q := by
  by_cases hb : b = want
  · exact AM.lit hs hb (AM.guard_yes hj (by simp [lk]) rfl (h1 hb))
  · have hb' : b = !want := by cases b <;> cases want <;> simp_all
    exact AM.lit hs hb' (AM.guard_no hj (b := !want) (by simp [lk]) rfl hn (h2 hb'))
theorem AM.guard_dt {j s : Nat} {p : Prop} [Decidable p] (hj : (all[j]?).bind (·.dst) = some s) (hs : lk tm s = some (.bool (decide p))) (hn : Nat.blt d n = true) (h1 : p → AM P all n hp (⟨some d, op, ty, pos, af, none⟩ :: rest) ((s, .bool true) :: tm) Q)
    (h2 : ¬ p → AM P all n hp rest ((d, .raw undef) :: (s, .bool false) :: tm) Q) : AM P all n hp (⟨some d, op, ty, pos, af, some (j, true)⟩ :: rest) tm Q :=
  AM.guard hj hs hn (fun h => h1 (of_decide_eq_true h)) (fun h => h2 (of_decide_eq_false h))
theorem AM.guard_df {j s : Nat} {p : Prop} [Decidable p] (hj : (all[j]?).bind (·.dst) = some s) (hs : lk tm s = some (.bool (decide p))) (hn : Nat.blt d n = true) (h1 : ¬ p → AM P all n hp (⟨some d, op, ty, pos, af, none⟩ :: rest) ((s, .bool false) :: tm) Q)
    (h2 : p → AM P all n hp rest ((d, .raw undef) :: (s, .bool true) :: tm) Q) : AM P all n hp (⟨some d, op, ty, pos, af, some (j, false)⟩ :: rest) tm Q :=
  AM.guard hj hs hn (fun h => h1 (of_decide_eq_false h)) (fun h => h2 (of_decide_eq_true h))

/-- A call whose result is told. -/
theorem AM.callp {f : FuncId} {args : List Operand} {ts : Array TypeId} {l l' : List AV} {R : AV} [IsFn P f] (hl : evL (rst (looks all ⟨some d, .call { callee := .value (.func f), args := args.toArray, argTypes := ts }, ty, pos, af, none⟩) tm) args = some l) (c : Pu P f l' R) (co : CoL hp l l') (hn : Nat.blt d n = true)
    (k : AM P all n hp rest ((d, R) :: tm) Q) : AM P all n hp (⟨some d, .call { callee := .value (.func f), args := args.toArray, argTypes := ts }, ty, pos, af, none⟩ :: rest) tm Q := by
  refine AM.mv (fun w S a h1 h2 h3 h4 K Q' hK => ?_) hn k
  have r := strel_rst h1 h2 h3 h4
  show Oper.upon P _ a K Q' _
  rw [run_exec_call]
  obtain ⟨g1, g2⟩ := evL_vals r hl
  obtain ⟨g3, g4⟩ := CoL.at r.hp co g1 g2
  refine (c w S _ (hrel_nil h3.slt) (by simpa using g3) g4).mono ?_
  rintro e w' ⟨v, rr, h', S', rfl, rfl, k3, k4, k5⟩
  exact hK v w' S' ⟨k5.toExt, fun m hm => (k5.keep m hm).1, fun m hm hs => (k5.other m hm (fun ⟨x, hx, _⟩ => by simp at hx)).2 hs, k4.slt⟩ k3

theorem AM.callpB {f : FuncId} {args : List Operand} {ts : Array TypeId} {l l' : List AV} {R : AV} [IsFn P f] (hl : evL (rst (looks all ⟨some d, .call { callee := .value (.func f), args := args.toArray, argTypes := ts }, ty, pos, af, none⟩) tm) args = some l) (c : Pu P f l' R) (co : CoBL hp l l') (hn : Nat.blt d n = true) (hR : R.noL = true)
    (k : AM P all n hp rest ((d, R) :: tm) Q) : AM P all n hp (⟨some d, .call { callee := .value (.func f), args := args.toArray, argTypes := ts }, ty, pos, af, none⟩ :: rest) tm Q := by
  refine AM.mv (fun w S a h1 h2 h3 h4 K Q' hK => ?_) hn k
  have r := strel_rst h1 h2 h3 h4
  show Oper.upon P _ a K Q' _
  rw [run_exec_call]
  obtain ⟨g1, g2⟩ := evL_vals r hl
  obtain ⟨g3, g4⟩ := CoBL.at r.hp co g1 g2
  refine (c w (SB S hp) _ (hrel_nil fun m hm => hm.elim (h3.slt m) fun h => h3.lt h) (by simpa using g3) g4).mono ?_
  rintro e w' ⟨v, rr, h', S', rfl, rfl, k3, k4, k5⟩
  have ex := k5.toExt
  exact hK v w' S ⟨ex, fun m hm => hm, fun m _ hs => hs, fun m hm => Nat.lt_of_lt_of_le (h3.slt m hm) ex.size⟩ (noL_at k3 hR)

/-- A slice literal, as data. -/
theorem AM.buildSliceL {t e : TypeId} {i : TypeInfo} {z : Value} {len sz : Nat} {parts : List (Nat × Operand)} {xs : List AV} [TUnder P t (.slice e)] [TInfo P e i] [TSz P e sz] (hz : i.zero = some z)
    (hl : evS (rst (looks all ⟨some d, .buildSlice t len parts.toArray, ty, pos, af, none⟩) tm) parts 0 = some xs) (hlen : Nat.beq parts.length len = true) (hel : allEl i.size xs = true) (h24 : Nat.ble (len * i.size) 16777216 = true) (hn : Nat.blt d n = true)
    (k : AM P all n hp rest ((d, .list sz xs) :: tm) Q) : AM P all n hp (⟨some d, .buildSlice t len parts.toArray, ty, pos, af, none⟩ :: rest) tm Q := by
  obtain ⟨i', hi1, hi2⟩ := TSz.h (P := P) (t := e)
  obtain rfl : i' = i := by rw [TInfo.h (P := P) (t := e)] at hi1; exact (Option.some.inj hi1).symm
  subst hi2
  refine AM.mv (fun w S a h1 h2 h3 h4 K Q' hK => ?_) hn k
  have r := strel_rst h1 h2 h3 h4
  obtain rfl : parts.length = len := Nat.eq_of_beq_eq_true hlen
  have h24 := Nat.le_of_ble_eq_true h24
  obtain ⟨zz, hzz⟩ : ∃ zz : Array Value, zz = if parts.length * i'.size = 0 then #[] else z.cells := ⟨_, rfl⟩
  obtain ⟨vs, g1, g2, g3, g4⟩ := fill_seq r i'.size parts 0 xs ((Array.range (parts.length * i'.size)).map (zz[· % zz.size]!)) hl (allEl_spec hel) (by simp)
  simp only [Nat.zero_mul, List.take_zero, List.nil_append] at g1
  have e0 := Ext.alloc w (.cells vs.toArray e)
  have hrun : (execOp a.eval ⟨some d, .buildSlice t parts.length parts.toArray, ty, pos, af, none⟩).run P w = .ok (.value (.slice (some ⟨w.heap.size, 0, none⟩) parts.length parts.length)) (w.alloc (.cells vs.toArray e)) := by
    have hm : ((parts.toArray.map fun p => (p.1, a.eval p.2))).toList = parts.map fun p => (p.1, a.eval p.2) := by simp
    simp only [execOp, Instr.buildSlice, Sem.run_bind, run_underlying (TUnder.h (P := P) (t := t)), Result.andThen_ok, sizeOf, typeInfo, run_program, TInfo.h (P := P) (t := e), Sem.run_pure]
    rw [if_neg (by omega)]
    by_cases h0 : parts.length * i'.size = 0
    · rw [if_pos h0] at hzz ⊢
      subst hzz
      simp only [Sem.run_bind, Result.andThen_ok, Sem.run_pure, hm, g1, run_newRow]
    · rw [if_neg h0] at hzz ⊢
      subst hzz
      simp only [Sem.run_bind, Result.andThen_ok, Sem.run_pure, zeroValue, typeInfo, run_program, TInfo.h (P := P) (t := e), hz, hm, g1, run_newRow]
  show Oper.upon P _ a K Q' _
  rw [hrun]
  have hnew : (w.alloc (.cells vs.toArray e)).heap[w.heap.size]? = some (.cells vs.toArray e (0, 0)) := by
    show (w.heap.push _)[w.heap.size]? = _
    simp
  refine hK _ _ (fun m => S m ∨ m = w.heap.size) ⟨e0, fun m hm => .inl hm, fun m hm hs => hs.elim id (fun h => by omega), fun m hm => ?_⟩ ?_
  · rcases hm with hm | hm
    · exact Nat.lt_of_lt_of_le (h3.slt m hm) e0.size
    · subst hm; simp
  · have := At.list (w := w.alloc (.cells vs.toArray e)) (S := fun m => S m ∨ m = w.heap.size) i'.size xs (some ⟨w.heap.size, 0, none⟩) parts.length vs (allEl_spec hel) (by rw [flat_length (allEl_spec hel), g2]) (fun j c u hc hu => ?_) (fun j u hu => ?_) (by omega)
    · rw [g3] at this; exact this
    · exact (g4 j c u hc (by simpa using hu)).mono fun m hm => ⟨.inl hm, e0.same m (h3.slt m hm)⟩
    · refine ⟨_, rfl, rfl, .inr rfl, ?_⟩
      rw [cell_at hnew]
      simpa using hu
end rules

def splO : Nat → List Oper → Option (List Oper × List Oper)
  | 0, l => some ([], l)
  | m + 1, o :: l => match splO m l with
    | some (a, b) => some (o :: a, b)
    | none => none
  | _ + 1, [] => none
theorem splO_spec : ∀ {m : Nat} {l a b : List Oper}, splO m l = some (a, b) → l = a ++ b ∧ a.length = m
  | 0, l, a, b, h => by simp [splO] at h; obtain ⟨rfl, rfl⟩ := h; exact ⟨rfl, rfl⟩
  | m + 1, [], a, b, h => by simp [splO] at h
  | m + 1, o :: l, a, b, h => by
    simp only [splO] at h
    split at h
    · rename_i a' b' h'
      simp only [Option.some.injEq, Prod.mk.injEq] at h
      obtain ⟨rfl, rfl⟩ := h
      obtain ⟨h1, h2⟩ := splO_spec h'
      exact ⟨by rw [h1]; rfl, by simp [h2]⟩
    · cases h

theorem ATodo.regionM {P : Program} {R : St → Prop} {k : List It} {id n : Nat} {tm : List (Nat × AV)} {hp : Heap} {l hd tl : List Oper} (m : Nat) (hm : P.follows .mixedOrders = true) (hs : splO m l = some (hd, tl)) {A : List Nat} (hA : ancs l.toArray = A) (hB0 : monoB l.toArray m A = true)
    (h : AM P l.toArray n hp hd tm (fun tm' => ARun P l.toArray tl ⟨n, tm', hp⟩ (ATodo P R k))) : ATodo P R (.code (.region id l.toArray true) :: k) ⟨n, tm, hp⟩ := by
  have hB : MonoB l.toArray m := ⟨A, hA, hB0⟩
  intro w S a r
  obtain ⟨hl, hml⟩ := splO_spec hs
  obtain ⟨tm', hA, hrun⟩ := h
  obtain ⟨avs, en, e0, e1, e2⟩ := hA.unroll
  have hsz : m ≤ l.toArray.size := by simp [hl, hml]
  refine wp_region_any hm ?_
  have hdraw : Ext w { w with drawn := w.drawn + 1 } := Ext.draws w _ (Nat.le_succ _)
  have g0 : Grow w S { w with drawn := w.drawn + 1 } S := ⟨hdraw, fun _ h => h, fun _ _ h => h, fun n hn => r.hp.slt n hn⟩
  have hc0 : ∀ k, cur l.toArray avs (lk tm) (Array.replicate l.toArray.size false) k = lk tm := by
    intro k
    induction k with
    | zero => rfl
    | succ k ih =>
      simp only [cur, ih]
      rw [if_neg]
      rcases Nat.lt_or_ge k l.toArray.size with h | h
      · simp at h; simp [h]
      · simp at h; simp [Nat.not_lt.2 h]
  have hf : ∀ k, (Array.replicate l.toArray.size false).getD k false = false := by
    intro k
    rcases Nat.lt_or_ge k l.toArray.size with h | h
    · simp at h; simp [h]
    · simp at h; simp [Nat.not_lt.2 h]
  refine any_head (P := P) (all := l.toArray) (n := n) (m := m) (hp := hp) (avs := avs) (en := en) (e := lk tm) hB hsz e0 (fun i o hi ho => e2 i o ?_) (w0 := w) (S0 := S) (fun a' w' S' h1 h2 h3 h4 h5 => ?_) l.toArray.size (Array.replicate l.toArray.size false) a _ S
    ⟨by simp, (fun k hk => by rw [hf k] at hk; cases hk), (fun k i o hk => by rw [hf k] at hk; cases hk)⟩ (by simp [List.count_replicate]) r.size r.defers (r.hp.ext hdraw) g0 (by rw [hc0]; exact (r.ext hdraw).tm)
  · have : l[i]? = some o := by simpa using ho
    rw [hl, List.getElem?_append_left (by omega)] at this
    exact this
  · have htl : l.toArray.toList.drop m = tl := by
      simp only [hl, ← hml]
      exact List.drop_left
    rw [htl]
    have hmm : en m = lk tm' := by rw [← hml]; exact e1
    rw [hmm] at h5
    refine wpList_mono ?_ _ _ _ (hrun.go (h := hp) (w := w) (S := S) ⟨h1, h2, h5, h3⟩ (h4.evo r.hp.slt hp))
    rintro ex a2 w2 ⟨rfl, σ2, S2, q1, q2, q3⟩
    exact ⟨σ2, S2, q1, q2, q3⟩

end Go.Eng
