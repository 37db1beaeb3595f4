/- The engine: abstract values, the symbolic heap, one rule for each operation. No program in sight. -/
import Derived.Test.YtjelgjkccklfaaaGreatDoorEngD
import Derived.Laws.Runes
import Derived.Laws.Concat
import Derived.Lib.LaidU8
import Derived.Lib.LaidTab
import Derived.HandedShaped
import Derived.Lib.ConvBytes
import Derived.Shelf.Strings.BuilderF
/- The engine, part 36: delete in a map; pointers that may be nil; calls with several new arrays. No program in sight. -/
set_option linter.unusedVariables false
set_option linter.unusedSimpArgs false
set_option linter.unusedSectionVars false
namespace Go.Eng
open Go
variable [GTab]

@[reducible] def TM {X : Type} (o : Option X) (A : AV → Heap → Prop) (B : X → AV → Heap → Prop) : AV → Heap → Prop := match o with
  | none => A
  | some x => B x
section rules
variable {P : Program} {all : Array Oper} {rest : List Oper} {n : Nat} {tm : List (Nat × AV)} {hp : Heap} {Q : St → Prop} {d : Nat} {ty : TypeId} {pos : String} {af : Array Edge}
end rules

/-! ### new memory is handed on inside of a region that draws its order -/
def rmT (d : Nat) : List (Nat × AV) → List (Nat × AV)
  | [] => []
  | (k, v) :: r => match Nat.beq k d with
    | true => rmT d r
    | false => (k, v) :: rmT d r
theorem lk_rmT (d : Nat) : ∀ tm : List (Nat × AV), lk (rmT d tm) = eputO (lk tm) (some d) none
  | [] => by
    funext s
    show lk [] s = eputO (lk []) (some d) none s
    simp [lk, eputO]
  | (k, v) :: r => by
    funext s
    have ih := congrFun (lk_rmT d r) s
    simp only [rmT]
    cases hk : Nat.beq k d with
    | true =>
      obtain rfl := Nat.eq_of_beq_eq_true hk
      simp only [ih, eputO, lk]
      by_cases hs : k = s
      · rw [if_pos hs, if_pos hs]
      · have : Nat.beq k s = false := by
          cases hb : Nat.beq k s with
          | true => exact absurd (Nat.eq_of_beq_eq_true hb) hs
          | false => rfl
        rw [if_neg hs, if_neg hs, this]
    | false =>
      simp only [lk, eputO] at ih ⊢
      rw [ih]
      by_cases hs : d = s
      · subst hs
        rw [if_pos rfl, if_pos rfl, hk]
      · rw [if_neg hs, if_neg hs]
section rules
variable {P : Program} {all : Array Oper} {n : Nat} {B : Heap} {tk : List Tok} {dy : List Nat} {i : Nat} {rest : List Oper} {tm tm' : List (Nat × AV)} {acc : (Nat → Bk) → List (Nat × AV)} {Q : (Nat → Bk) → List (Nat × AV) → Prop} {d : Nat} {ty : TypeId} {pos : String} {af : Array Edge} {op : Op}
theorem AT.dynR {o : Oper} {d : Nat} {V : Bk → AV} (hd : o.dst = some d) (hr : rmT d tm = tm') (hdy : dy.contains i = true) (h : ∀ β, TStep P all n (readT tk i β ++ B) o (orE (lk tm) (lk (acc β))) (tinT tk i β) V (fun b => toutT tk i (updB β i b))) (k : AT P all n B tk dy (i + 1) rest tm' (fun β => (d, V (β i)) :: acc β) Q) : AT P all n B tk dy i (o :: rest) tm acc Q := by
  obtain ⟨D, tm1, k1, k2⟩ := k
  refine ⟨(none, V) :: D, tm1, .cons h (fun av' e b => by cases e) (fun _ => hdy) ?_, fun β => ?_⟩
  · rw [hd, ← lk_rmT, hr]
    have e2 : dynC none (fun β => lk (acc β)) (some d) V i = fun β => lk ((d, V (β i)) :: acc β) := by
      funext β
      simp only [dynC]
      rw [lk_cons]; rfl
    rw [e2]; exact k1
  · have := k2 β
    simp only [dynS, hd]
    exact this
/-- One operation that takes memory that was made in the same region and hands it on under a new name. -/
theorem AT.runE {V : Bk → AV} {Ti H1 : (Nat → Bk) → Heap} {Pi H2 : Bk → Heap} (hrd : ∀ β, readT tk i β = []) (hti : ∀ β, tinT tk i β = Ti β) (hto : ∀ β b, toutT tk i (updB β i b) = Pi b) (h1 : ∀ β, appO (Ti β) B = some (H1 β)) (h2 : ∀ b, appO (Pi b) B = some (H2 b)) (hn : Nat.blt d n = true) (hr : rmT d tm = tm') (hdy : dy.contains i = true)
    (hrun : ∀ β, ARun P all [⟨some d, op, ty, pos, af, none⟩] ⟨n, rst (looks all ⟨some d, op, ty, pos, af, none⟩) (tm ++ acc β), H1 β⟩ (fun σ' => ∃ b tm1, σ' = ⟨n, tm1, H2 b⟩ ∧ lk tm1 d = some (V b)))
    (k : AT P all n B tk dy (i + 1) rest tm' (fun β => (d, V (β i)) :: acc β) Q) : AT P all n B tk dy i (⟨some d, op, ty, pos, af, none⟩ :: rest) tm acc Q := by
  refine AT.dynR rfl hr hdy (fun β => ?_) k
  rw [hrd β, List.nil_append, hti β, show (fun b => toutT tk i (updB β i b)) = Pi from funext (hto β), ← lk_append]
  refine tstep_run rfl (fun d' hd' => by obtain rfl := Option.some.inj hd'; simpa using hn) (h1 β) h2 ?_ (fun e => by cases e)
  refine fun w S a r => wpList_mono ?_ _ _ _ (hrun β w S a r)
  rintro e a' w' ⟨he, σ', S', ⟨b, tm1, q1, q2⟩, hh⟩
  exact ⟨he, σ', S', ⟨b, tm1, q1, fun d' hd' => by obtain rfl := Option.some.inj hd'; exact q2⟩, hh⟩
end rules
end Go.Eng

/- The engine, part 37: pools: memory that a map's entries own. No program in sight. -/
set_option linter.unusedVariables false
set_option linter.unusedSimpArgs false
set_option linter.unusedSectionVars false
namespace Go.Eng
open Go
variable [GTab]

end Go.Eng

/- The engine, part 38: maps whose entries own memory: slices and pointers. No program in sight. -/
set_option linter.unusedVariables false
set_option linter.unusedSimpArgs false
set_option linter.unusedSectionVars false
namespace Go.Eng
open Go
variable [GTab]

/-- How the values of a map are kept: what stands in the map, what lies in memory. -/
structure Kept (V : Type) where
  val : Bk → V → AV
  po : V → PO
section plain
variable {K V : Type}
variable [DecidableEq K]
variable [KLt K]
end plain
section rules
variable {P : Program} {all : Array Oper} {rest : List Oper} {n : Nat} {tm : List (Nat × AV)} {hp : Heap} {Q : St → Prop} {d : Nat} {ty : TypeId} {pos : String} {af : Array Edge}
end rules
section rules
variable {P : Program} {all : Array Oper} {rest : List Oper} {n : Nat} {tm : List (Nat × AV)} {hp : Heap} {Q : St → Prop} {d : Nat} {ty : TypeId} {pos : String} {af : Array Edge}
end rules
section rules
variable {P : Program} {all : Array Oper} {rest : List Oper} {n : Nat} {tm : List (Nat × AV)} {hp : Heap} {Q : St → Prop} {d : Nat} {ty : TypeId} {pos : String} {af : Array Edge}
end rules
end Go.Eng

/- The engine, part 39: lists of strings that functions of the library make; tables that are read by name. No program in sight. -/
set_option linter.unusedVariables false
set_option linter.unusedSimpArgs false
set_option linter.unusedSectionVars false
namespace Go.Eng
open Go
variable [GTab]

/-- The cells of a row of a table. -/
def rowOf (o : Option Obj) : Option (Array Value) := match o with
  | some (.cells vs _ _) => some vs
  | _ => none
theorem var_row {P : Program} {w : World} {name : String} {g : Nat} (hg : P.globalNamed name = some g) : w.var? P name = rowOf (w.heap[g]?) := by
  unfold World.var?
  rw [hg]
  rfl
theorem flat_strs (xs : List (List UInt8)) : flat (xs.map AV.str) = xs.map AV.str := flat_ones (fun _ => rfl) xs
theorem fresh_strs {w : World} {S : Nat → Prop} (r : HRel w S []) (xs : List (List UInt8)) (E : TypeId) {vs : Array Value} (hv : vs = (xs.map fun s => Value.string ⟨s.toArray⟩).toArray) :
    At (w.alloc (.cells vs E)) S (.sl 1 ⟨some w.heap.size, xs.length⟩ 0 xs.length) (.slice (some ⟨w.heap.size, 0, none⟩) xs.length xs.length) ∧
      HRel (w.alloc (.cells vs E)) S [(⟨some w.heap.size, xs.length⟩, .arr 1 (xs.map AV.str))] ∧ Evo w S [] (w.alloc (.cells vs E)) S [(⟨some w.heap.size, xs.length⟩, .arr 1 (xs.map AV.str))] := by
  subst hv
  have e0 := Ext.alloc w (.cells (xs.map fun s => Value.string ⟨s.toArray⟩).toArray E)
  have hh : Holds (w.alloc (.cells (xs.map fun s => Value.string ⟨s.toArray⟩).toArray E)) S ⟨some w.heap.size, xs.length⟩ (.arr 1 (xs.map AV.str)) := by
    refine ⟨fun x hx => ?_, by simp, .inr ⟨w.heap.size, (xs.map fun s => Value.string ⟨s.toArray⟩).toArray, E, rfl, ?_, by simp, ?_⟩⟩
    · obtain ⟨s, _, rfl⟩ := List.mem_map.1 hx
      exact ⟨rfl, fun c hc => by rw [List.mem_singleton.1 hc]; rfl⟩
    · show (w.heap.push _)[w.heap.size]? = _
      simp
    · rw [flat_strs]
      intro i c v hc hv
      simp only [List.getElem?_map, List.getElem?_toArray, Option.map_eq_some_iff] at hc hv
      obtain ⟨s, h1, rfl⟩ := hc
      obtain ⟨s', h2, rfl⟩ := hv
      rw [h1] at h2
      obtain rfl := Option.some.inj h2
      exact .str s
  obtain ⟨k1, k2, k3⟩ := add_rel r e0 id hh (.inr ⟨_, rfl, Nat.le_refl _⟩)
  refine ⟨?_, k1, k2⟩
  have := At.sl (w := w.alloc (.cells (xs.map fun s => Value.string ⟨s.toArray⟩).toArray E)) (S := S) 1 ⟨some w.heap.size, xs.length⟩ 0 xs.length w.heap.size xs.length rfl (Nat.le_refl _) (by simp)
  simpa using this
/-! ### tables -/
/-- A row of numbers. -/
def tNum (k : IntKind) (zs : List Int) (o : Option Obj) : Prop := rowOf o = some (zs.map fun z => Value.int k z).toArray
/-- A cell with a number. -/
def tInt (k : IntKind) (o : Option Obj) : Prop := ∃ vs m, rowOf o = some vs ∧ vs[0]? = some (.int k m)
/-- A cell with an interface's value. -/
def tIfc (o : Option Obj) : Prop := ∃ vs ev, rowOf o = some vs ∧ vs[0]? = some ev ∧ (ev = .nilIface ∨ ∃ te pe, ev = .iface te pe)
theorem row_cell (w : World) (g i : Nat) {vs : Array Value} (h : rowOf (w.heap[g]?) = some vs) : w.cell? ⟨g, i, none⟩ = vs[i]? := by
  unfold World.cell?
  unfold rowOf at h
  split at h
  · rename_i vs' e f ho
    obtain rfl := Option.some.inj h
    simp [ho]
  · cases h
def tabOf : List (Nat × (Option Obj → Prop)) → Nat → Option (Option Obj → Prop)
  | [], _ => none
  | (k, o) :: r, g => if g = k then some o else tabOf r g
theorem tabOf_mem : ∀ {l : List (Nat × (Option Obj → Prop))} {g : Nat} {o : Option Obj → Prop}, tabOf l g = some o → (g, o) ∈ l
  | [], _, _, h => by cases h
  | (k, o') :: r, g, o, h => by
    unfold tabOf at h
    split at h
    · rename_i hg
      rw [hg, Option.some.inj h]; simp
    · exact List.mem_cons_of_mem _ (tabOf_mem h)
theorem row_lt {w : World} {g : Nat} {vs : Array Value} (h : rowOf (w.heap[g]?) = some vs) : g < w.heap.size := by
  rcases Nat.lt_or_ge g w.heap.size with h' | h'
  · exact h'
  · rw [Array.getElem?_eq_none h'] at h; cases h
end Go.Eng
namespace Go.Eng
open Go
section errs
variable [GTab] {P : Program} {all : Array Oper} {rest : List Oper} {n : Nat} {tm : List (Nat × AV)} {hp : Heap} {Q : St → Prop} {d : Nat} {ty : TypeId} {pos : String} {af : Array Edge}
/-- An error's value, and whether it is none. -/
def errV (e : Value) (ok : Bool) : Prop := (e = .nilIface ∧ ok = true) ∨ ((∃ te pe, e = .iface te pe) ∧ ok = false)
/-- A function that makes nothing that is spoken of, and returns a number and an error. -/
def PuE (P : Program) (f : FuncId) (args : List AV) (m : Int) (ok : Bool) : Prop := ACall P f args [] (fun r h => ∃ e, r = .tup [I m, .raw e] ∧ errV e ok)
theorem t_callE {f : FuncId} {args : List Operand} {ts : Array TypeId} {l l' : List AV} {m : Int} {ok : Bool} [IsFn P f] (hl : evL tm args = some l) (c : PuE P f l' m ok) (co : CoL hp l l') (hn : Nat.blt d n = true)
    (kk : ∀ e, errV e ok → ARun P all rest ⟨n, (d, .tup [I m, .raw e]) :: tm, hp⟩ Q) : ARun P all (⟨some d, .call { callee := .value (.func f), args := args.toArray, argTypes := ts }, ty, pos, af, none⟩ :: rest) ⟨n, tm, hp⟩ Q := by
  refine r_call0 hl c co hn (fun r h' hr => ?_)
  obtain ⟨e, rfl, he⟩ := hr
  exact ARun.weaken (σ' := ⟨n, (d, .tup [I m, .raw e]) :: tm, hp⟩) ⟨rfl, fun _ _ h => h, List.sublist_append_right _ _⟩ (kk e he)
theorem eq_in {t : TypeId} {ms : Array (String × TypeId)} [TUnder P t (.interface ms)] (te : TypeId) (pe : Value) (w : World) : (Op.equal t (.iface te pe) .nilIface).run P w = .ok false w := by
  show (Op.equalIn (9999 + 1) t _ _).run P w = _
  rw [Op.equalIn]
  simp [run_underlying (TUnder.h (P := P) (t := t))]
theorem eq_ii {t : TypeId} {ms : Array (String × TypeId)} [TUnder P t (.interface ms)] (w : World) : (Op.equal t .nilIface .nilIface).run P w = .ok true w := by
  show (Op.equalIn (9999 + 1) t _ _).run P w = _
  rw [Op.equalIn]
  simp [run_underlying (TUnder.h (P := P) (t := t))]
theorem q_eqE {xt yt : TypeId} {ms : Array (String × TypeId)} {x : Operand} {e : Value} {ok : Bool} [TUnder P xt (.interface ms)] (he : errV e ok) (hx : evA tm x = some (.raw e)) : QV P ⟨some d, .binOp .eql xt x (.const .nilIface) yt, ty, pos, af, none⟩ ⟨n, tm, hp⟩ (.bool ok) := by
  refine fun w S a r => ⟨.bool ok, fun w1 _ => ?_, .bool _⟩
  have hr := (evA_at (σ := ⟨n, tm, hp⟩) r hx).raw_inv
  have hc : a.eval (.const .nilIface) = .nilIface := rfl
  rcases he with ⟨rfl, rfl⟩ | ⟨⟨te, pe, rfl⟩, rfl⟩
  · have h1 := eq_ii (P := P) (t := xt) w1
    simp [execOp, hr, hc, eqGuard, binOp, h1]
  · have h1 := eq_in (P := P) (t := xt) te pe w1
    simp [execOp, hr, hc, eqGuard, binOp, h1]
end errs
end Go.Eng

/- The engine, part 40: arrays of a fixed length whose elements are one cell each. No program in sight. -/
set_option linter.unusedVariables false
set_option linter.unusedSimpArgs false
set_option linter.unusedSectionVars false
namespace Go.Eng
open Go
variable [GTab]
section rules
variable {P : Program} {all : Array Oper} {rest : List Oper} {n : Nat} {tm : List (Nat × AV)} {hp : Heap} {Q : St → Prop} {d : Nat} {ty : TypeId} {pos : String} {af : Array Edge}
end rules
end Go.Eng

/- The engine, part 41: from what a row lays to the tables that the engine speaks of. No program in sight. -/
set_option linter.unusedVariables false
set_option linter.unusedSimpArgs false
namespace Go.Eng
open Go Go.Lib
variable [GTab]
set_option linter.unusedSectionVars false
theorem row_of_cell {w : World} {g : Nat} {v : Value} (h : w.cell? ⟨g, 0, none⟩ = some v) : ∃ vs, rowOf (w.heap[g]?) = some vs ∧ vs[0]? = some v := by
  unfold World.cell? at h
  cases ho : w.heap[g]? with
  | none => simp [ho] at h
  | some o =>
    cases o with
    | cells vs e f => exact ⟨vs, rfl, by simpa [ho] using h⟩
    | _ => simp [ho] at h
theorem int_row {w : World} {g : Nat} {k : IntKind} {m : Int} (h : w.cell? ⟨g, 0, none⟩ = some (.int k m)) : g < w.heap.size ∧ tInt k (w.heap[g]?) := by
  obtain ⟨vs, h1, h2⟩ := row_of_cell h
  exact ⟨row_lt h1, vs, m, h1, h2⟩
theorem num_row {P : Program} {W : World} {name : String} {k : IntKind} {zs : List Int} {g : Nat} {t e : TypeId} {n : Nat}
    (hg : P.globalNamed name = some g) (hty : (P.globals[g]?).map (·.type) = some t) (ht : P.underlying t = some (.array n e)) (he : P.underlying e = some (.int k)) (hce : P.cellsOf e = 1) (hct : P.cellsOf t = n)
    (h : VarReads P W name (tabData k zs)) : g < W.heap.size ∧ tNum k zs (W.heap[g]?) := by
  obtain ⟨g', t', cs, fuel, p, hg', ht', hvar, hd⟩ := h
  obtain rfl := Option.some.inj (hg.symm.trans hg')
  obtain rfl := Option.some.inj (hty.symm.trans ht')
  rw [var_row hg] at hvar
  refine ⟨row_lt hvar, ?_⟩
  unfold tNum
  rw [hvar, ← cells_of_tab ht he hce hct hd]
theorem ifc_row {P : Program} {W : World} {name : String} {d : DataW Unit} {g : Nat} {t : TypeId} {ms : Array (String × TypeId)}
    (hg : P.globalNamed name = some g) (hty : (P.globals[g]?).map (·.type) = some t) (ht : P.underlying t = some (.interface ms)) (h : VarReads P W name d) : g < W.heap.size ∧ tIfc (W.heap[g]?) := by
  obtain ⟨g', t', cs, fuel, p, hg', ht', hvar, hd⟩ := h
  obtain rfl := Option.some.inj (hg.symm.trans hg')
  obtain rfl := Option.some.inj (hty.symm.trans ht')
  rw [var_row hg] at hvar
  refine ⟨row_lt hvar, ?_⟩
  have key : ∀ l : List Value, DataW.trod (fun _ => ()) P W 0 (fun _ => true) false fuel t l = some (d, p) → ∃ ev, l[0]? = some ev ∧ (ev = .nilIface ∨ ∃ te pe, ev = .iface te pe) := by
    intro l hl
    cases fuel with
    | zero => simp [DataW.trod] at hl
    | succ fuel =>
      unfold DataW.trod at hl
      simp only [ht] at hl
      split at hl <;> first | (exact ⟨_, rfl, .inl rfl⟩) | (exact ⟨_, rfl, .inr ⟨_, _, rfl⟩⟩) | (simp_all)
  obtain ⟨ev, h1, h2⟩ := key cs.toList hd
  exact ⟨cs, ev, hvar, by simpa using h1, h2⟩
end Go.Eng

/- The engine, part 42: a row that lays variables, at a world that is shaped: what the kit's two forms (laid; shaped) give apart, given together. No program in sight. -/
set_option linter.unusedVariables false
namespace Go.Eng
open Go
variable {H : Type} {enc : TypeId × Value → H}
theorem handed_both {a : Assume} {C : Checked} {os : Os} {f : FuncId} {fn : Func} {s : ChangeSpec} {conds : List PathCond} {apart fresh handsOn again : Bool} {X : World → Array Value → Prop}
    (hX : ∀ (w w' : World) (args : Array Value), w.heap = w'.heap → X w args → X w' args)
    (own : ownKnob C.prog.godebug = none) (started : os.Started) (noInit : C.prog.inits.idxOf? f = none) (hfn : C.prog.funcs[f]? = some fn)
    (witness : ∃ (w : World) (tape : Tape) (i : Input), w.os = os ∧ (w.forCall tape i).Shaped C.prog ∧ i.vars = [] ∧ Input.okWide C.prog (w.forCall tape i) .any w.heap.size f i ∧
      ((s.pre enc C.prog fn conds apart (w.forCall tape i).memory i.args ∧ X (w.forCall tape i).memory i.args) ∧ sizedMet enc C.prog fn (OpenSpec.ofChange s) apart (w.forCall tape i).memory i.args) ∧ a.holds C.prog (lone (Frame.enter C.prog f i.args .normal) [] (w.forCall tape i)))
    (walk : ∀ (W : World) (base : Nat) (args : Array Value) (ds gs : List (DataW H)) (before : List MemPlace),
      (∀ (j : Nat) t v, fn.params[j]? = some t → args[j]? = some v → Value.okWide C.prog W .any base t v) →
      DataW.Whole enc C.prog fn.params.toList s.vars apart W args.toList ds gs before →
      conds.all (PathCond.test C.prog ⟨fn.params.toList, ds, s.plain.varTypes C.prog, gs⟩) = true →
      (DataW.weightsEach C.prog (fn.params.toList ++ s.plain.varTypes C.prog) (ds ++ gs)).all (· ≤ reachBytes) = true → X W args ∧ W.ShapedOpen C.prog →
      a.holds C.prog (lone (Frame.enter C.prog f args .normal) [] W) →
      Calls C.prog f args W fun e W' => ∃ v, e = .returned v ∧ s.post enc C.prog fn apart fresh handsOn again W args v W') :
    ReturnsInHanded a C os f .any (fun w args => (s.pre enc C.prog fn conds apart w args ∧ X w args) ∧ sizedMet enc C.prog fn (OpenSpec.ofChange s) apart w args) (s.post enc C.prog fn apart fresh handsOn again) := by
  refine returnsInHanded_of_calls own started noInit witness ?_
  intro w tape i _ shaped _ ok pre held
  obtain ⟨_, _, _, fn', there, _, _, _, _, vals⟩ := ok
  cases Option.some.inj (there.symm.trans hfn)
  obtain ⟨⟨⟨ds, gs, before, whole, tests⟩, x⟩, sized⟩ := pre
  have K := walk (w.forCall tape i) w.heap.size i.args ds gs before vals (DataW.Whole.of_heap (w' := w.forCall tape i) (by rfl) whole) tests (sized.weights whole) ⟨hX _ _ _ (by rfl) x, shaped⟩ held
  exact K.mono fun e W' ⟨v, he, hp⟩ => by
    subst he
    exact ChangeSpec.post_blind hp
end Go.Eng

/- The engine, part 43: a slice whose room is known; what slices.Delete does with it. No program in sight. -/
set_option linter.unusedVariables false
set_option linter.unusedSimpArgs false
set_option linter.unusedSectionVars false
namespace Go.Eng
open Go
variable [GTab]

section rules
variable {P : Program} {all : Array Oper} {rest : List Oper} {n : Nat} {tm : List (Nat × AV)} {hp : Heap} {Q : St → Prop} {d : Nat} {ty : TypeId} {pos : String} {af : Array Edge}
end rules
end Go.Eng

/- The engine, part 44: a string's bytes as a list. No program in sight. -/
set_option linter.unusedVariables false
set_option linter.unusedSimpArgs false
set_option linter.unusedSectionVars false
namespace Go.Eng
open Go
variable [GTab]

/-- One block more that is only read. -/
theorem HRel.one {w w' : World} {S : Nat → Prop} {h : Heap} (r : HRel w S h) (e : Ext w w') (hs : w.heap.size < w'.heap.size) : HRel w' (fun n => S n ∨ n = w.heap.size) h ∧ Evo w S h w' (fun n => S n ∨ n = w.heap.size) h := by
  have hlt : ∀ x ∈ h, ∀ n, n ∈ eb x → n < w.heap.size := fun x hx n hn => r.lt ⟨x, hx, hn⟩
  have hk : ∀ n, S n → (S n ∨ n = w.heap.size) ∧ w'.heap[n]? = w.heap[n]? := fun n hn => ⟨.inl hn, e.same n (r.slt n hn)⟩
  refine ⟨⟨r.nodup, fun x hx => (r.holds x hx).mono hk (fun n hn => e.same n (hlt x hx n hn)), fun x hx n hn => ⟨fun hn' => ?_, fun hf => .inl ((r.sep x hx n hn).2 hf)⟩, fun n hn => ?_, fun g o ho => ⟨.inl (r.glob g o ho).1, gkeep (e.same g (r.slt g (r.glob g o ho).1)) (r.glob g o ho).2⟩⟩,
    ⟨e.os, e.tape, e.output, e.size, hk, fun n hn _ => ⟨e.same n hn, fun hn' => ?_⟩, fun n hn => .inl hn, e.drawn⟩⟩
  · rcases hn' with h' | h'
    · exact (r.sep x hx n hn).1 h'
    · have := hlt x hx n hn; omega
  · rcases hn with h' | h'
    · exact Nat.lt_of_lt_of_le (r.slt n h') e.size
    · omega
  · rcases hn' with h' | h'
    · exact h'
    · omega
section rules
variable {P : Program} {all : Array Oper} {rest : List Oper} {n : Nat} {tm : List (Nat × AV)} {hp : Heap} {Q : St → Prop} {d : Nat} {ty : TypeId} {pos : String} {af : Array Edge}
end rules
end Go.Eng

/- The engine, part 45: string builders: a box and the row behind it. No program in sight. -/
set_option linter.unusedVariables false
set_option linter.unusedSectionVars false
namespace Go.Eng
open Go
variable [GTab]

section
variable {P : Program} {all : Array Oper} {rest : List Oper} {n : Nat} {tm : List (Nat × AV)} {hp : Heap} {Q : St → Prop} {d : Nat} {ty : TypeId} {pos : String} {af : Array Edge}
end
end Go.Eng

/- The engine, part 46: what a builder's methods do, told exactly. No program in sight. -/
set_option linter.unusedVariables false
set_option linter.unusedSectionVars false
namespace Go.Eng
open Go Go.Proofs Go.Shelf Go.RowKit Go.Lib

section
variable {P : Program} (w : World)
end
variable {P : Program} {ρ : Ren}
/-- What stays when only blocks b and row turn. -/
structure KeepB (w w' : World) (b : Nat) (row : Option Nat) : Prop where
  os : w'.os = w.os
  tape : w'.tape = w.tape
  output : w'.output = w.output
  size : w.heap.size ≤ w'.heap.size
  keep : ∀ n, n < w.heap.size → n ≠ b → row ≠ some n → w'.heap[n]? = w.heap[n]?
theorem KeepB.refl (w : World) (b : Nat) (row : Option Nat) : KeepB w w b row := ⟨rfl, rfl, rfl, Nat.le_refl _, fun _ _ _ _ => rfl⟩
theorem KeepB.trans {w w1 w2 : World} {b : Nat} {row : Option Nat} (h : KeepB w w1 b row) (k : KeepB w1 w2 b row) : KeepB w w2 b row :=
  ⟨k.os.trans h.os, k.tape.trans h.tape, k.output.trans h.output, Nat.le_trans h.size k.size, fun n h1 h2 h3 => (k.keep n (Nat.lt_of_lt_of_le h1 h.size) h2 h3).trans (h.keep n h1 h2 h3)⟩
theorem KeepB.set (w : World) (b : Nat) (row : Option Nat) (j : Nat) (x : Value) : KeepB w (w.setCell ⟨b, j, none⟩ x) b row :=
  ⟨rfl, rfl, rfl, by simp [World.setCell], fun n _ h _ => Below.heap_setCell _ _ _ _ (fun e => h (by simp [e]))⟩
theorem KeepB.grown {w w' : World} {b : Nat} {row : Option Nat} (h : w.grownBy w' row) : KeepB w w' b row :=
  ⟨h.os, h.tape, h.output, h.size, fun n h1 _ h3 => h.block n h1 (fun e => h3 e.symm)⟩
theorem KeepB.freeze (w : World) (b g n : Nat) : KeepB w (w.freeze ⟨g, 0, none⟩ n) b (some g) := by
  unfold World.freeze
  split
  · exact KeepB.refl w b _
  · exact ⟨rfl, rfl, rfl, by simp, fun k _ _ hk => by
      simp only [Array.getElem?_modify]
      rw [if_neg (fun e => hk (by rw [← e]))]⟩
theorem KeepB.drew {w w' : World} {b : Nat} {row : Option Nat} (h : KeepB w w' b row) : KeepB w w'.drew b row := ⟨h.os, h.tape, h.output, h.size, h.keep⟩
theorem KeepB.alloc {w w' : World} {b : Nat} {row : Option Nat} (h : KeepB w w' b row) (o : Obj) : KeepB w (w'.alloc o) b row :=
  ⟨h.os, h.tape, h.output, Nat.le_trans h.size (by simp), fun n h1 h2 h3 => (heap_alloc_old w' o (Nat.lt_of_lt_of_le h1 h.size)).trans (h.keep n h1 h2 h3)⟩
end Go.Eng

/- The engine, part 47: builders' methods as contracts. No program in sight. -/
set_option linter.unusedVariables false
set_option linter.unusedSectionVars false
namespace Go.Eng
open Go Go.Proofs Go.Shelf Go.Lib
variable {P : Program} {ρ : Ren} [GTab]
end Go.Eng

/- The engine, part 48: an operation in a region with tokens that looks at a value told of new memory, and whose result is told without it. No program in sight. -/
set_option linter.unusedVariables false
set_option linter.unusedSectionVars false
namespace Go.Eng
open Go
variable [GTab]
section rules
variable {P : Program} {all : Array Oper} {n : Nat} {B : Heap} {tk : List Tok} {dy : List Nat} {i : Nat} {rest : List Oper} {tm : List (Nat × AV)} {acc : (Nat → Bk) → List (Nat × AV)} {Q : (Nat → Bk) → List (Nat × AV) → Prop} {d : Nat} {ty : TypeId} {pos : String} {af : Array Edge} {op : Op}
theorem AT.stE {av : AV} (hr : ∀ β, readT tk i β = []) (hti : ∀ β, tinT tk i β = []) (hto : ∀ β, toutT tk i β = [])
    (q : ∀ β, QV P ⟨some d, op, ty, pos, af, none⟩ ⟨n, rst (looks all ⟨some d, op, ty, pos, af, none⟩) (tm ++ acc β), B⟩ av) (hn : Nat.blt d n = true)
    (k : AT P all n B tk dy (i + 1) rest ((d, av) :: tm) acc Q) : AT P all n B tk dy i (⟨some d, op, ty, pos, af, none⟩ :: rest) tm acc Q := by
  refine AT.sta rfl (fun β => ?_) k
  rw [hr β, List.nil_append, hti β, show (fun b => toutT tk i (updB β i b)) = fun _ => [] from funext fun b => hto _, ← lk_append]
  refine mv_tstep (fun d' hd' => by obtain rfl := Option.some.inj hd'; simpa using hn) rfl (fun w S a s1 s2 s3 s4 K Q' hK => ?_)
  obtain ⟨v, g1, g2⟩ := q β w S a (strel_rst s1 s2 s3 s4)
  show Oper.upon P _ a K Q' _
  rw [g1 w (Ext.refl w)]
  exact hK v w S (Grow.refl s3.slt) g2
end rules
end Go.Eng

/- The engine, part 49: room for a new builder. No program in sight. -/
set_option linter.unusedVariables false
set_option linter.unusedSectionVars false
namespace Go.Eng
open Go Go.Proofs Go.Shelf Go.Lib
variable {P : Program} [GTab]
end Go.Eng

/- The engine, part 50: 'a and b', 'a or b' of plain truths, in a region with tokens: without two ways. No program in sight. -/
set_option linter.unusedVariables false
set_option linter.unusedSectionVars false
namespace Go.Eng
open Go
variable [GTab]
section rules
variable {P : Program} {all : Array Oper} {rest : List Oper} {n : Nat} {tm : List (Nat × AV)} {hp : Heap} {Q : List (Nat × AV) → Prop} {d1 d2 j s x : Nat} {t1 t2 : TypeId} {p1 p2 : String} {a1 a2 : Array Edge} {a b : Bool}
end rules
end Go.Eng

/- The engine, part 51: make of slices whose elements are slices. No program in sight. -/
set_option linter.unusedVariables false
set_option linter.unusedSectionVars false
namespace Go.Eng
open Go
variable [GTab]
/-- No slice yet: the empty list. -/
def zlB (z : Value) (a : AV) : Bool := match z, a with
  | .slice none 0 0, .list _ [] => true
  | _, _ => false
theorem zlB_at (w : World) (S : Nat → Prop) {z : Value} {a : AV} (h : zlB z a = true) : a.cells.length = z.cells.size ∧ ∀ (j : Nat) c v, a.cells[j]? = some c → z.cells[j]? = some v → At w S c v := by
  unfold zlB at h
  split at h
  · rename_i sz
    refine ⟨rfl, fun j c v h1 h2 => ?_⟩
    have e1 : (AV.list sz []).cells = [AV.list sz []] := rfl
    have e2 : (Value.slice none 0 0).cells = #[Value.slice none 0 0] := rfl
    rw [e1] at h1
    rw [e2] at h2
    cases j with
    | zero =>
      simp at h1 h2
      subst h1 h2
      exact At.list sz [] none 0 [] (fun x hx => by cases hx) rfl (fun i c v h => by simp [flat] at h) (fun i v h => by simp at h) (Nat.le_refl _)
    | succ j => simp at h1
  · cases h
section rules
variable {P : Program} {all : Array Oper} {rest : List Oper} {n : Nat} {tm : List (Nat × AV)} {hp : Heap} {Q : St → Prop} {d : Nat} {ty : TypeId} {pos : String} {af : Array Edge}
theorem t_makeSliceN {α : Type} {g : α → AV} {Z : α} {Xs : List α} {t e : TypeId} {i : TypeInfo} {z : Value} {x y : Operand} {k k' : IntKind} {l c : Int} {sz : Nat} [TUnder P t (.slice e)] [TInfo P e i] (hx : evA tm x = some (.int k l)) (hy : evA tm y = some (.int k' c)) (hz : i.zero = some z) (hg : zlB z (g Z) = true) (hs : i.size = sz) (hel : elB sz (g Z) = true) (hpos : Nat.blt 0 sz = true) (hb : Nat.ble i.bytes 65536 = true)
    (hn : Nat.blt d n = true) (hm : mkS Z l c = some Xs) (kk : ∀ b : Bk, ARun P all rest ⟨n, (d, .sl sz b 0 Xs.length) :: tm, (b, .arr sz (Xs.map g)) :: hp⟩ Q) : ARun P all (⟨some d, .makeSlice t x y, ty, pos, af, none⟩ :: rest) ⟨n, tm, hp⟩ Q := by
  subst hs
  have hpos : 0 < i.size := Nat.lt_of_lt_of_le (Nat.lt_of_succ_le (Nat.le_of_ble_eq_true hpos)) (Nat.le_refl _)
  have hb := Nat.le_of_ble_eq_true hb
  unfold mkS at hm
  split at hm
  · rename_i hc
    obtain rfl := Option.some.inj hm
    obtain ⟨c0, c1, c2⟩ := hc
    refine ARun.opx rfl fun w S a r => ?_
    have e1 := (evA_at (σ := ⟨n, tm, hp⟩) r hx).int_inv
    have e2 := (evA_at (σ := ⟨n, tm, hp⟩) r hy).int_inv
    have hE := elB_spec hel
    obtain ⟨hl, hat⟩ := zlB_at w S hg
    have hzs : z.cells.size = i.size := by rw [← hl]; exact hE.1
    obtain ⟨vs, hvs⟩ : ∃ vs : Array Value, vs = (Array.range (c.toNat * i.size)).map (z.cells[· % z.cells.size]!) := ⟨_, rfl⟩
    have hsz : vs.size = c.toNat * i.size := by rw [hvs]; simp
    have hget : ∀ (j : Nat) (v : Value), vs[j]? = some v → z.cells[j % i.size]? = some v := by
      intro j v hv
      rw [hvs] at hv
      simp only [Array.getElem?_map, Option.map_eq_some_iff] at hv
      obtain ⟨q, hq, rfl⟩ := hv
      have : q = j := by
        rw [Array.getElem?_eq_some_iff] at hq
        obtain ⟨h1, h2⟩ := hq
        simpa using h2.symm
      subst this
      rw [hzs]
      have hlt : q % i.size < z.cells.size := by rw [hzs]; exact Nat.mod_lt _ hpos
      simp [hlt]
    have e0 := Ext.alloc w (.cells vs e)
    have hmap : (List.replicate l.toNat Z).map g = List.replicate l.toNat (g Z) := by simp
    have hh : Holds (w.alloc (.cells vs e)) S ⟨some w.heap.size, c.toNat⟩ (.arr i.size ((List.replicate l.toNat Z).map g)) := by
      rw [hmap]
      refine ⟨fun x hx => by rw [List.eq_of_mem_replicate hx]; exact hE, by simp; omega, .inr ⟨w.heap.size, vs, e, rfl, ?_, hsz, fun j cc v hcc hv => ?_⟩⟩
      · show (w.heap.push _)[w.heap.size]? = _
        simp
      · have hjl : j < (flat (List.replicate l.toNat (g Z))).length := (List.getElem?_eq_some_iff.1 hcc).1
        rw [flat_length (fun x hx => by rw [List.eq_of_mem_replicate hx]; exact hE)] at hjl
        rw [flat_rep hE.1 _ _ (by simpa using hjl)] at hcc
        exact (hat _ _ _ hcc (hget j v hv)).mono fun m hm => ⟨hm, e0.same m (r.hp.slt m hm)⟩
    obtain ⟨k1, k2, k3⟩ := add_rel r.hp e0 id hh (.inr ⟨_, rfl, Nat.le_refl _⟩)
    refine ⟨.slice (some ⟨w.heap.size, 0, none⟩) l.toNat c.toNat, w.alloc (.cells vs e), S, _, ?_, (r.heap k3 k1).put hn ?_, k2, kk ⟨some w.heap.size, c.toNat⟩⟩
    · have w1 : IntKind.i64.wrap l = l := wrap_fits ⟨by omega, by omega⟩
      have w2 : IntKind.i64.wrap c = c := wrap_fits ⟨by omega, by omega⟩
      have hbc : (i.bytes : Int) * c ≤ 65536 * 1000000000 := Int.mul_le_mul (by omega) (by omega) (by omega) (by omega)
      have f1 : decide (c < 0) = false := decide_eq_false (by omega)
      have f2 : decide (((i.bytes : Int) * c) > 2 ^ 48) = false := decide_eq_false (by omega)
      have f3 : decide (l < 0) = false := decide_eq_false (by omega)
      have f4 : decide (l > c) = false := decide_eq_false (by omega)
      have hroom : ¬ c.toNat * i.bytes > roomBytes := by
        have : c.toNat * i.bytes ≤ 1000000000 * 65536 := Nat.mul_le_mul (by omega) hb
        unfold roomBytes; omega
      have a1 : ∀ (k : IntKind) (x : Int) (w : World), (asInt (.int k x)).run P w = .ok x w := fun k x w => by simp [asInt, asIntOf]
      simp only [execOp, Instr.makeSlice, Sem.run_bind, run_underlying (TUnder.h (P := P) (t := t)), Result.andThen_ok, e1, e2, a1, typeInfo, sizeOf, run_program, TInfo.h (P := P) (t := e), Sem.run_pure, w1, w2, f1, f2, f3, f4, Bool.or_self, Bool.false_eq_true, if_false, askRoom, if_neg hroom]
      by_cases h0 : c.toNat * i.size = 0
      · rw [if_pos h0]
        have hv0 : vs = #[] := by apply Array.eq_empty_of_size_eq_zero; omega
        simp only [Sem.run_bind, Sem.run_pure, Result.andThen_ok, h0, run_newRow, hv0]
        rw [show Array.range 0 = #[] from rfl]
        simp
      · rw [if_neg h0]
        simp only [Sem.run_bind, Result.andThen_ok, Sem.run_pure, zeroValue, typeInfo, run_program, TInfo.h (P := P) (t := e), hz, run_newRow, ← hvs]
    · have := At.sl (w := w.alloc (.cells vs e)) (S := S) i.size ⟨some w.heap.size, c.toNat⟩ 0 l.toNat w.heap.size c.toNat rfl (by omega) (by simp)
      simpa using this
  · cases hm
end rules
end Go.Eng

/- The engine, part 52: memory that is given up. No program in sight. -/
set_option linter.unusedVariables false
set_option linter.unusedSectionVars false
namespace Go.Eng
open Go
variable [GTab]
theorem ImpX.drop {n : Nat} {tm : List (Nat × AV)} {hp hp1 : Heap} {T : St → Prop} {b : Bk} {o : Ob} (dl : Del hp b o hp1) (k : ImpX ⟨n, tm, hp1⟩ T) : ImpX ⟨n, tm, hp⟩ T := by
  have hs : hp1.Sublist hp := by
    obtain ⟨p, q, rfl, rfl⟩ := dl.split
    exact List.Sublist.append (List.Sublist.refl _) (List.sublist_cons_self _ _)
  exact ImpX.step (σ1 := ⟨n, tm, hp1⟩) (fun w S a r => ⟨_, S, rfl, r.less ⟨rfl, fun _ _ h => h, hs⟩, Evo.less (Evo.refl w S hp) fun _ hn => hn.sub hs⟩) k
end Go.Eng

/- The engine, part 53: clear of slices whose elements hold slices. No program in sight. -/
set_option linter.unusedVariables false
set_option linter.unusedSectionVars false
namespace Go.Eng
open Go
variable [GTab]
/-- A zero, cell by cell; no slice yet is the empty list. -/
def zl1 : Value → AV → Bool
  | .slice none 0 0, .list _ [] => true
  | .int k n, .int k' n' => decide (k = k' ∧ n = n')
  | .bool b, .bool c => b == c
  | .string s, .str [] => Nat.beq s.data.size 0
  | _, _ => false
def zlL : List Value → List AV → Bool
  | [], [] => true
  | v :: vs, a :: cs => zl1 v a && zlL vs cs
  | _, _ => false
def zlC (z : Value) (a : AV) : Bool := zlL z.cells.toList a.cells
theorem zl1_at (w : World) (S : Nat → Prop) {z : Value} {a : AV} (h : zl1 z a = true) : At w S a z := by
  unfold zl1 at h
  split at h
  · rename_i sz
    exact At.list sz [] none 0 [] (fun x hx => by cases hx) rfl (fun i c v h => by simp [flat] at h) (fun i v h => by simp at h) (Nat.le_refl _)
  · obtain ⟨rfl, rfl⟩ := of_decide_eq_true h
    exact .int _ _
  · have := eq_of_beq h
    subst this
    exact .bool _
  · rename_i s
    have hs := Nat.eq_of_beq_eq_true h
    obtain ⟨d⟩ := s
    have hd : d = #[] := Array.eq_empty_of_size_eq_zero hs
    subst hd
    exact .str []
  · cases h
theorem zlL_at (w : World) (S : Nat → Prop) : ∀ {vs : List Value} {cs : List AV}, zlL vs cs = true → cs.length = vs.length ∧ ∀ (j : Nat) c v, cs[j]? = some c → vs[j]? = some v → At w S c v
  | [], [], _ => ⟨rfl, fun j c v h => by simp at h⟩
  | v :: vs, a :: cs, h => by
    simp only [zlL, Bool.and_eq_true] at h
    obtain ⟨h1, h2⟩ := zlL_at w S h.2
    refine ⟨by simp [h1], fun j c u k1 k2 => ?_⟩
    cases j with
    | zero => simp at k1 k2; subst k1 k2; exact zl1_at w S h.1
    | succ j => exact h2 j c u (by simpa using k1) (by simpa using k2)
  | [], _ :: _, h => by cases h
  | _ :: _, [], h => by cases h
theorem zlC_at (w : World) (S : Nat → Prop) {z : Value} {a : AV} (h : zlC z a = true) : a.cells.length = z.cells.size ∧ AtA w S a.cells z.cells := by
  obtain ⟨h1, h2⟩ := zlL_at w S h
  refine ⟨by simpa using h1, fun j c v k1 k2 => h2 j c v k1 (by simpa using k2)⟩
section rules
variable {P : Program} {all : Array Oper} {rest : List Oper} {n : Nat} {tm : List (Nat × AV)} {hp : Heap} {Q : St → Prop} {d : Nat} {ty : TypeId} {pos : String} {af : Array Edge}
theorem r_clearN {t e : TypeId} {i : TypeInfo} {z : Value} {x : Operand} {b : Bk} {L N sz : Nat} {xs : List AV} {zx : AV} {hp' : Heap} [TUnder P t (.slice e)] [TInfo P e i] (hx : evA tm x = some (.sl sz b L N)) (hz : i.zero = some z) (hzx : zlC z zx = true) (hsz : Nat.beq i.size sz = true) (hel : elB sz zx = true) (hpos : Nat.blt 0 sz = true) (hL : L + N ≤ xs.length)
    (u : Upd hp b (.arr sz xs) b (.arr sz (xs.take L ++ List.replicate N zx ++ xs.drop (L + N))) hp') (kk : ARun P all rest ⟨n, tm, hp'⟩ Q) :
    ARun P all (⟨none, .call { callee := .builtin .clear, args := #[x], argTypes := #[t] }, ty, pos, af, none⟩ :: rest) ⟨n, tm, hp⟩ Q := by
  have hsz := Nat.eq_of_beq_eq_true hsz
  have hpos : 0 < sz := Nat.lt_of_lt_of_le (Nat.lt_of_succ_le (Nat.le_of_ble_eq_true hpos)) (Nat.le_refl _)
  have hE := elB_spec hel
  refine ARun.opx rfl fun w S a r => ?_
  obtain ⟨oa, cap, e1, e2⟩ := (evA_at (σ := ⟨n, tm, hp⟩) r hx).sl_inv
  rcases Nat.eq_zero_or_pos N with h0 | h0
  · subst h0
    have hsame : xs.take L ++ List.replicate 0 zx ++ xs.drop (L + 0) = xs := by simp
    rw [hsame] at u
    obtain ⟨p, q, hq1, hq2⟩ := u.split
    obtain rfl : hp' = hp := by rw [hq1, hq2]
    refine ⟨.tuple #[], w, S, ⟨n, tm, hp'⟩, ?_, r, Evo.refl _ _ _, kk⟩
    cases oa <;> simp [execOp, e1, resolve, invoke, builtin, Builtin.clear_, run_underlying (TUnder.h (P := P) (t := t))]
  · rcases e2 with ⟨_, _, hl, _, _⟩ | ⟨m, hb, rfl, h1, h2⟩ | ⟨_, _, _, _, hl, _⟩
    · omega
    · obtain ⟨g0, g1, ⟨g2, _⟩ | ⟨m', vs, E, g2, g3, g4, g5⟩⟩ := arr_cells r.hp (.inl u.fnd)
      · rw [g2] at hb; cases hb
      obtain rfl : m' = m := by rw [g2] at hb; exact Option.some.inj hb
      obtain ⟨zl, zat⟩ := zlC_at w S hzx
      have hzs : z.cells.size = sz := by rw [← zl]; exact hE.1
      have hEr : ∀ y ∈ List.replicate N zx, El sz y := fun y hy => by rw [List.eq_of_mem_replicate hy]; exact hE
      have hzc : (Builtin.zeroCells z.cells N).size = N * sz := by rw [size_zeroCells, hzs]
      have hnl : (flat (List.replicate N zx)).length = (Builtin.zeroCells z.cells N).size := by rw [flat_length hEr, hzc]; simp
      have hnat : AtA w S (flat (List.replicate N zx)) (Builtin.zeroCells z.cells N) := by
        intro j c v hc hv
        have hj : j < N * sz := by
          have := (List.getElem?_eq_some_iff.1 hc).1
          rw [flat_length hEr] at this; simpa using this
        rw [flat_rep hE.1 N j hj] at hc
        refine zat (j % sz) c v hc ?_
        unfold Builtin.zeroCells at hv
        simp only [Array.getElem?_map, Option.map_eq_some_iff] at hv
        obtain ⟨q, hq, rfl⟩ := hv
        have : q = j := by
          rw [Array.getElem?_eq_some_iff] at hq
          obtain ⟨k1, k2⟩ := hq
          simpa using k2.symm
        subst this
        rw [hzs]
        have hlt : q % sz < z.cells.size := by rw [hzs]; exact Nat.mod_lt _ hpos
        simp [hlt]
      have hone := one_vals hnl hnat (fun c hc => by
        unfold flat at hc
        rw [List.mem_flatMap] at hc
        obtain ⟨y, hy, hcy⟩ := hc
        exact (hEr y hy).2 c hcy)
      have hfl := flat_length g0
      have hmul : (L + N) * sz ≤ xs.length * sz := Nat.mul_le_mul_right _ hL
      have hmul2 : xs.length * sz ≤ b.cap * sz := Nat.mul_le_mul_right _ g1
      rw [Nat.add_mul] at hmul
      have hst := run_storeCells_at (P := P) m' (L * sz) E (Builtin.zeroCells z.cells N).toList 0 vs w g3 (by simp [hzc]; omega) hone
      simp only [Nat.add_zero] at hst
      have hflat : flat (xs.take L ++ List.replicate N zx ++ xs.drop (L + N)) = (flat xs).take (L * sz) ++ flat (List.replicate N zx) ++ (flat xs).drop (L * sz + (flat (List.replicate N zx)).length) := by
        rw [flat_append, flat_append, flat_take xs L g0, flat_drop xs (L + N) g0, hnl, hzc, Nat.add_mul]
      have hmid := fun (w' : World) (ha : AtA w' S (flat xs) vs) (hb : AtA w' S (flat (List.replicate N zx)) (Builtin.zeroCells z.cells N)) => AtA_mid (L * sz) (by rw [hfl, g4]; exact hmul2) ha hnl hb (by rw [hnl, hzc, hfl]; omega)
      have hsz2 : (vs.toList.take (L * sz) ++ (Builtin.zeroCells z.cells N).toList ++ vs.toList.drop (L * sz + (Builtin.zeroCells z.cells N).toList.length)).toArray.size = b.cap * sz := by
        simp [hzc]; omega
      generalize (vs.toList.take (L * sz) ++ (Builtin.zeroCells z.cells N).toList ++ vs.toList.drop (L * sz + (Builtin.zeroCells z.cells N).toList.length)).toArray = vs' at hst hmid hsz2
      have c : GB w (w.setRow m' vs') b.blk := ⟨⟨rfl, rfl, rfl, by simp, fun k hk hne => setRow_other w m' k _ (fun e => hne (by rw [g2, e]))⟩, fun _ => Nat.le_refl _⟩
      have k1 : ∀ n, S n → S n ∧ (w.setRow m' vs').heap[n]? = w.heap[n]? := by
        intro k hk
        refine ⟨hk, setRow_other w m' k _ (fun e => ?_)⟩
        subst e
        exact (r.hp.sep _ u.fnd.mem k (eb_of g2)).1 hk
      have hh := upd_rel r.hp u c id id ⟨fun y hy => ?_, by simp; omega, .inr ⟨m', vs', E, g2, setRow_heap w m' vs _ E _ g3, hsz2, by rw [hflat]; exact hmid _ (g5.mono k1) (hnat.mono k1)⟩⟩ (.inl rfl)
      · refine ⟨.tuple #[], w.setRow m' vs', S, ⟨n, tm, hp'⟩, ?_, r.heap hh.2.2 hh.1, hh.2.1, kk⟩
        obtain ⟨N', rfl⟩ : ∃ k, N = k + 1 := ⟨N - 1, by omega⟩
        simp [execOp, e1, resolve, invoke, builtin, Builtin.clear_, run_underlying (TUnder.h (P := P) (t := t)), zeroValue, typeInfo, TInfo.h (P := P) (t := e), hz, hst]
      · rcases List.mem_append.1 hy with h | h
        · rcases List.mem_append.1 h with h | h
          · exact g0 y (List.mem_of_mem_take h)
          · exact hEr y h
        · exact g0 y (List.mem_of_mem_drop h)
    · omega
theorem t_clearN {α : Type} {g : α → AV} {Z : α} {Xs V : List α} {H : Int} {t e : TypeId} {i : TypeInfo} {z : Value} {x : Operand} {b : Bk} {L : Int} {sz : Nat} {hp' : Heap} [TUnder P t (.slice e)] [TInfo P e i] (hx : evA tm x = some (.sl sz b L.toNat V.length)) (hz : i.zero = some z) (hzx : zlC z (g Z) = true) (hsz : Nat.beq i.size sz = true) (hel : elB sz (g Z) = true) (hpos : Nat.blt 0 sz = true) (hv : slc Xs L H = some V)
    (u : Upd hp b (.arr sz (Xs.map g)) b (.arr sz ((clr Xs L V.length Z).map g)) hp') (kk : ARun P all rest ⟨n, tm, hp'⟩ Q) :
    ARun P all (⟨none, .call { callee := .builtin .clear, args := #[x], argTypes := #[t] }, ty, pos, af, none⟩ :: rest) ⟨n, tm, hp⟩ Q := by
  obtain ⟨⟨h0, h1, h2⟩, _⟩ := slc_some hv
  have hlen := (slc_len hv).1
  refine r_clearN (xs := Xs.map g) hx hz hzx hsz hel hpos (by simp; omega) ?_ kk
  have : (clr Xs L V.length Z).map g = (Xs.map g).take L.toNat ++ List.replicate V.length (g Z) ++ (Xs.map g).drop (L.toNat + V.length) := by
    unfold clr
    simp
  rw [← this]
  exact u
end rules
end Go.Eng

/- The engine, part 54: a captured box that is never written again. No program in sight. -/
set_option linter.unusedVariables false
set_option linter.unusedSectionVars false
namespace Go.Eng
open Go
variable [GTab]
theorem ImpX.frzCap {n s : Nat} {j : Nat} {tm : List (Nat × AV)} {hp hp1 : Heap} {T : St → Prop} {fn : Fn} {caps caps' : List AV} {b : Bk} {cs : List AV} (hs : lk tm s = some (.func fn caps)) (hj : caps[j]? = some (.ptr b 0)) (hset : caps.set j (.rptr cs) = caps') (dl : Del hp b (.cells cs) hp1) (k : ImpX ⟨n, (s, .func fn caps') :: tm, hp1⟩ T) : ImpX ⟨n, tm, hp⟩ T := by
  subst hset
  refine ImpX.step (σ1 := ⟨n, (s, .func fn (caps.set j (.rptr cs))) :: tm, hp1⟩) (fun w S a r => ?_) k
  obtain ⟨p, q, rfl, rfl⟩ := dl.split
  have hmem : (b, Ob.cells cs) ∈ p ++ (b, .cells cs) :: q := mem_mid.2 (.inl rfl)
  obtain ⟨h1, m0, vs, E, hb0, hh, hsz, ha⟩ := r.hp.holds _ hmem
  have hin : ∀ m, b.blk = some m → m < w.heap.size := fun m hm => r.hp.lt ⟨_, hmem, eb_of hm⟩
  let S' : Nat → Prop := fun m => S m ∨ b.blk = some m
  have mono : ∀ m, S m → S' m ∧ w.heap[m]? = w.heap[m]? := fun m hm => ⟨.inl hm, rfl⟩
  have hnd := r.hp.nodup
  have hsub : (p ++ q).Sublist (p ++ (b, Ob.cells cs) :: q) := List.Sublist.append (List.Sublist.refl _) (List.sublist_cons_self _ _)
  have hrel : HRel w S' (p ++ q) := by
    refine ⟨hnd.sublist (sub_flatMap hsub), fun e he => (r.hp.holds e (hsub.subset he)).mono mono (fun _ _ => rfl), fun e he m hm => ?_, fun m hm => ?_, fun g o ho => ⟨.inl (r.hp.glob g o ho).1, (r.hp.glob g o ho).2⟩⟩
    · rw [← r.hp.sep e (hsub.subset he) m hm]
      refine ⟨fun hs => hs.elim id fun hb => ?_, .inl⟩
      exfalso
      rw [List.flatMap_append, List.flatMap_cons, List.nodup_append, List.nodup_append] at hnd
      rcases List.mem_append.1 he with h | h
      · exact hnd.2.2 m (List.mem_flatMap.2 ⟨e, h, hm⟩) m (List.mem_append_left _ (eb_of hb)) rfl
      · exact hnd.2.1.2.2 m (eb_of hb) m (List.mem_flatMap.2 ⟨e, h, hm⟩) rfl
    · rcases hm with h | h
      · exact r.hp.slt m h
      · exact hin m h
  have hr := r.heap mono hrel
  refine ⟨_, S', rfl, ⟨hr.size, hr.defers, fun t av h => ?_, hr.hp⟩, rfl, rfl, rfl, Nat.le_refl _, mono, fun m hm hh => ⟨rfl, fun hs => hs.elim id fun hb => (hh ⟨_, hmem, eb_of hb⟩).elim⟩, fun m hm => .inl ?_, fun _ => Nat.le_refl _⟩
  · simp only [lk] at h
    split at h
    · rename_i hbq
      obtain rfl : s = t := by simpa using hbq
      obtain rfl := Option.some.inj h
      obtain ⟨v, e1, e2⟩ := hr.tm s _ hs
      obtain ⟨us, rfl, ul, ua⟩ := e2.func_inv
      refine ⟨_, e1, .func fn _ us (by simp [ul]) (fun i c v hc hv => ?_)⟩
      rw [List.getElem?_set] at hc
      split at hc
      · rename_i hij
        subst hij
        split at hc
        · obtain rfl := Option.some.inj hc
          have hp := ua j _ v hj hv
          cases hp with
          | ptr _ _ m hb =>
            obtain rfl := Option.some.inj (hb.symm.trans hb0)
            refine .rptr cs ⟨m, 0, none⟩ vs.toList (by simp [hsz]) (fun i c v hc hv => (ha i c v hc (by simpa using hv)).mono mono) rfl (.inr hb) (fun i v hv => ?_)
            rw [cell_at hh]; simpa using hv
        · cases hc
      · exact ua i c v hc hv
    · exact hr.tm t av h
  · obtain ⟨e, he, hb⟩ := hm
    exact ⟨e, hsub.subset he, hb⟩
end Go.Eng

/- The engine, part 55: look-ups in maps whose values hold slices. No program in sight. -/
set_option linter.unusedVariables false
set_option linter.unusedSectionVars false
namespace Go.Eng
open Go
variable [GTab]
/-- A zero value; no slice yet is the empty list. -/
def zlV : Value → AV → Bool
  | .agg vs, .agg cs => zlL vs.toList cs
  | z, a => zl1 z a
theorem zlV_at (w : World) (S : Nat → Prop) {z : Value} {a : AV} (h : zlV z a = true) : At w S a z := by
  unfold zlV at h
  split at h
  · obtain ⟨h1, h2⟩ := zlL_at w S h
    exact .agg _ _ (by simpa using h1) (fun i c v k1 k2 => h2 i c v k1 (by simpa using k2))
  · exact zl1_at w S h
section rules
variable {P : Program} {all : Array Oper} {rest : List Oper} {n : Nat} {tm : List (Nat × AV)} {hp : Heap} {Q : St → Prop} {d : Nat} {ty : TypeId} {pos : String} {af : Array Edge}
theorem t_lookup2N {K V : Type} [DecidableEq K] {gk : K → AV} {gv : V → AV} {M : List (K × V)} {key : K} {Z : V} {v : V × Bool} {t kt vt : TypeId} {i : TypeInfo} {z : Value} {x y : Operand} {b : Bk} {av : AV} [TUnder P t (.map kt vt)] [TInfo P vt i] [MKey P kt gk] (hx : evA tm x = some (.mref b)) (hy : evA tm y = some (gk key)) (f : Fnd hp b (.mp (M.map fun e => (gk e.1, gv e.2)))) (hz : i.zero = some z) (hzx : zlV z (gv Z) = true) (h : mget2 M key Z = some v) (hav : gv v.1 = av) :
    QV P ⟨some d, .lookup t x y true, ty, pos, af, none⟩ ⟨n, tm, hp⟩ (.tup [av, .bool v.2]) := by
  intro w S a r
  have kx := evA_at (σ := ⟨n, tm, hp⟩) r hx
  have ky := evA_at (σ := ⟨n, tm, hp⟩) r hy
  obtain ⟨nb, hb, ex⟩ := kx.mref_inv
  obtain ⟨L, c, M', nb', ents, p1, p2, p3, p4, p5, p6, p7, p8⟩ := mp_open (MKey.inj P kt) r.hp f
  obtain rfl : nb' = nb := by rw [p4] at hb; exact Option.some.inj hb
  unfold mget2 at h
  have hv := Option.some.inj h
  rw [← mget_perm p1 p8] at hv
  have hfind := MKey.find (P := P) (t := kt) (g := gk) ky ents.toList (M'.map Prod.fst) (by simpa using p6.symm) (fun j k' e h1 h2 => by
    rw [List.getElem?_map] at h1
    cases hm : M'[j]? with
    | none => rw [hm] at h1; cases h1
    | some q => rw [hm] at h1; rw [← Option.some.inj h1]; exact (p7 j q e hm h2).1)
  rcases findP_M (gv := gv) (w := w) (S := S) (k := key) M' ents.toList 0 p6.symm (fun j e m h1 h2 => (p7 j e m h1 h2).2) with ⟨q1, q2⟩ | ⟨v', j, val, q1, q2, q3, _⟩
  · refine ⟨.tuple #[z, .bool false], fun w1 e1 => ?_, ?_⟩
    · simp [execOp, Instr.lookup, ex, run_underlying (TUnder.h (P := P) (t := t)), run_getMap (e1.heap p5), MKey.check (P := P) (t := kt) ky, hfind, q2, zeroValue, typeInfo, TInfo.h (P := P) (t := vt), hz]
    · rw [← hav, ← hv, q1]
      refine .tup _ _ rfl (AtA_two ?_ (.bool _))
      rw [Option.getD_none]; exact zlV_at w S hzx
  · refine ⟨.tuple #[val, .bool true], fun w1 e1 => ?_, ?_⟩
    · simp [execOp, Instr.lookup, ex, run_underlying (TUnder.h (P := P) (t := t)), run_getMap (e1.heap p5), MKey.check (P := P) (t := kt) ky, hfind, q2]
    · rw [← hav, ← hv, q1]
      exact .tup _ _ rfl (AtA_two q3 (.bool _))
end rules
end Go.Eng

/- The engine, part 56: structs of plain cells as keys of maps. No program in sight. -/
set_option linter.unusedVariables false
set_option linter.unusedSectionVars false
namespace Go.Eng
open Go
variable [GTab]
def scB : AV → Bool
  | .int _ _ => true
  | .bool _ => true
  | .str _ => true
  | _ => false
theorem sc_det {w : World} {S : Nat → Prop} {a : AV} {v u : Value} (h : scB a = true) (hv : At w S a v) (hu : At w S a u) : v = u ∧ ∀ n, Instr.sameBits n v v = true := by
  cases a <;> simp only [scB, Bool.false_eq_true] at h
  · rw [hv.int_inv, hu.int_inv]; exact ⟨rfl, fun n => by cases n <;> simp [Instr.sameBits]⟩
  · rw [hv.bool_inv, hu.bool_inv]; exact ⟨rfl, fun n => by cases n <;> simp [Instr.sameBits]⟩
  · rw [hv.str_inv, hu.str_inv]
    refine ⟨rfl, fun n => ?_⟩
    cases n <;> (simp only [Instr.sameBits]; exact (ba_beq _ _).2 rfl)
theorem zip_self_all {α : Type} (p : α × α → Bool) : ∀ (l : List α), (∀ x ∈ l, p (x, x) = true) → (l.zip l).all p = true
  | [], _ => rfl
  | x :: r, h => by
    rw [List.zip_cons_cons, List.all_cons, h x List.mem_cons_self, zip_self_all p r (fun y hy => h y (List.mem_cons_of_mem _ hy))]; rfl
theorem sc_aggs {w : World} {S : Nat → Prop} {cs : List AV} {v u : Value} (h : ∀ c ∈ cs, scB c = true) (hv : At w S (.agg cs) v) (hu : At w S (.agg cs) u) : Instr.sameBits 10000 v u = true := by
  obtain ⟨vs, rfl, hl, ha⟩ := hv.agg_inv
  obtain ⟨us, rfl, hl', ha'⟩ := hu.agg_inv
  have key : ∀ (i : Nat) (h1 : i < vs.size) (h2 : i < us.size), vs[i] = us[i] ∧ ∀ n, Instr.sameBits n vs[i] vs[i] = true := fun i h1 h2 => by
    have hc : cs[i]? = some (cs[i]'(by omega)) := by simp [show i < cs.length by omega]
    exact sc_det (h _ (List.getElem_mem _)) (ha i _ _ hc (by simp [h1])) (ha' i _ _ hc (by simp [h2]))
  have heq : vs = us := Array.ext (by omega) (fun i h1 h2 => (key i h1 h2).1)
  subst heq
  have g : ∀ n : Nat, Instr.sameBits (n + 1) (.agg vs) (.agg vs) = true := fun n => by
    simp only [Instr.sameBits, beq_self_eq_true, Bool.true_and]
    refine zip_self_all _ _ (fun x hx => ?_)
    obtain ⟨i, hi, rfl⟩ := List.getElem_of_mem hx
    simpa using (key i (by simpa using hi) (by simpa using hi)).2 n
  exact g 9999
def scT (D : TypeDesc) : Bool := match D with
  | .int _ => true
  | .bool => true
  | .string => true
  | _ => false
theorem ck_sc {P : Program} {t : TypeId} {D : TypeDesc} (hu : P.underlying t = some D) (hD : scT D = true) (b : Bool) (n : Nat) (v : Value) (w : World) : (Instr.checkKey b (n + 1) t v).run P w = .ok () w := by
  cases D <;> simp only [scT, Bool.false_eq_true] at hD <;> simp [Instr.checkKey, run_underlying hu]
theorem part_sc {P : Program} {t : TypeId} {D : TypeDesc} (hu : P.underlying t = some D) (hD : scT D = true) {cs : Array Value} {off : Nat} {v : Value} (h : cs[off]? = some v) (w : World) : (part t cs off).run P w = .ok v w := by
  unfold part isAgg
  simp only [Sem.run_bind, run_underlying hu, Result.andThen_ok]
  cases D <;> simp_all [scT]
theorem ck_fields {P : Program} (b : Bool) (n : Nat) (vs : Array Value) (w : World) : ∀ (fs : List Field), (∀ f ∈ fs, ∃ D, P.underlying f.type = some D ∧ scT D = true ∧ f.offset < vs.size) → (forIn fs PUnit.unit (fun f (_ : PUnit) => (if f.name ≠ "_" then do
      let x ← part f.type vs f.offset
      Instr.checkKey b (n + 1) f.type x
      pure (ForInStep.yield PUnit.unit)
      else pure (ForInStep.yield PUnit.unit) : Sem (ForInStep PUnit)))).run P w = .ok PUnit.unit w
  | [], _ => by simp
  | f :: fs, h => by
    obtain ⟨D, h1, h2, h3⟩ := h f List.mem_cons_self
    have hp : ∀ w1, (part f.type vs f.offset).run P w1 = .ok vs[f.offset] w1 := part_sc h1 h2 (by simp [h3])
    have ih := ck_fields b n vs w fs (fun g hg => h g (List.mem_cons_of_mem _ hg))
    simp only [List.forIn_cons, Sem.run_bind]
    by_cases hn : f.name = "_"
    · simp only [hn, ne_eq, not_true_eq_false, if_false, Sem.run_pure, Result.andThen_ok]
      exact ih
    · simp only [hn, ne_eq, not_false_eq_true, if_true, Sem.run_bind, hp, Result.andThen_ok, ck_sc h1 h2, Sem.run_pure]
      exact ih
theorem ask_P {P : Program} {t : TypeId} {v : Value} {K : Type} [DecidableEq K] {k : K} {q : K → Value → Prop} (hq : ∀ k' u, q k' u → ∀ w, (Op.equal t v u).run P w = .ok (decide (k' = k)) w) : ∀ (es : List MapEntry) (ks : List K) (i : Nat) (w : World), ks.length = es.length → (∀ (i : Nat) k' e, ks[i]? = some k' → es[i]? = some e → q k' e.key) → (Instr.findAsking t v es i).run P w = .ok (findP k ks es i) w
  | [], [], i, w, _, _ => by simp [Instr.findAsking, findP]
  | [], k' :: ks, i, w, hl, _ => by simp at hl
  | e :: es, [], i, w, hl, _ => by simp at hl
  | e :: es, k' :: ks, i, w, hl, h => by
    unfold Instr.findAsking findP
    rw [Sem.run_bind, hq k' e.key (h 0 k' e rfl rfl)]
    by_cases hk : k' = k
    · simp [hk]
    · simp only [hk, decide_false, Result.andThen_ok, Bool.false_eq_true, if_false]
      exact ask_P hq es ks (i + 1) w (by simpa using hl) (fun i k' e h1 h2 => h (i + 1) k' e (by simpa using h1) (by simpa using h2))
theorem MKey.struct {P : Program} {t : TypeId} {K : Type} [DecidableEq K] {g : K → AV} {dd : Nat} {fs : List Field} {n : Nat} [EqTy P t dd g] (hk : Nat.ble dd 10000 = true) (hu : P.underlying t = some (.struct fs.toArray))
    (hf : ∀ f ∈ fs, ∃ D, P.underlying f.type = some D ∧ scT D = true ∧ f.offset < n) (hg : ∀ x, ∃ cs, g x = .agg cs ∧ cs.length = n ∧ ∀ c ∈ cs, scB c = true) (inj : ∀ a b, g a = g b → a = b) : MKey P t g where
  inj := inj
  check := fun {w S k v} hv b w1 => by
    obtain ⟨cs, e, hl, hs⟩ := hg k
    rw [e] at hv
    obtain ⟨vs, rfl, hl', ha⟩ := hv.agg_inv
    have key : ∀ m : Nat, (Instr.checkKey b (m + 1 + 1) t (.agg vs)).run P w1 = .ok () w1 := fun m => by
      have h1 := ck_fields (P := P) b m vs w1 fs (fun f hm => by obtain ⟨D, h1, h2, h3⟩ := hf f hm; exact ⟨D, h1, h2, by omega⟩)
      rw [Instr.checkKey]
      simp only [Sem.run_bind, run_underlying hu, Result.andThen_ok]
      rw [← Array.forIn_toList]
      simp only [h1, Result.andThen_ok, Sem.run_pure]
    exact key 9998
  find := fun {w S k v} hv es ks hl hk' w1 => by
    obtain ⟨cs, e, hn, hs⟩ := hg k
    have hv' := hv
    rw [e] at hv'
    obtain ⟨vs, rfl, hl', ha⟩ := hv'.agg_inv
    have hq := ask_P (P := P) (t := t) (v := .agg vs) (k := k) (q := fun k' u => At w S (g k') u) (fun k' u hu w2 => by
      have := EqTy.h (P := P) (t := t) (g := g) k k' w S _ _ hv hu (10000 - dd) w2
      rw [Nat.sub_add_cancel (Nat.le_of_ble_eq_true hk)] at this
      rw [show decide (k' = k) = decide (k = k') by rw [Bool.eq_iff_iff]; simp; exact eq_comm]
      exact this) es ks 0 w1 hl (fun i k' e h1 h2 => hk' i k' e h1 h2)
    unfold Instr.findKey
    rw [Sem.run_bind, run_underlying hu]
    simp only [Result.andThen_ok]
    cases es with
    | nil =>
      cases ks with
      | nil => simp [Instr.findNow, findP]
      | cons _ _ => simp at hl
    | cons m es =>
      have : Instr.findNow (.struct fs.toArray) (.agg vs) (m :: es) 0 = none := by
        unfold Instr.findNow; simp [Instr.sameNow]
      rw [this]; exact hq
  bits := fun {w S k v u} h1 h2 => by
    obtain ⟨cs, e, hn, hs⟩ := hg k
    rw [e] at h1 h2
    exact sc_aggs hs h1 h2
end Go.Eng

