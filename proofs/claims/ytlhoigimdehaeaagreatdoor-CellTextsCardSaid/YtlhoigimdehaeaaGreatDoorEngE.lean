/- The engine: abstract values, the symbolic heap, one rule for each operation. No program in sight. -/
import Derived.Test.YtlhoigimdehaeaaGreatDoorEngD
import Derived.Laws.Runes
import Derived.Laws.Concat
import Derived.Lib.LaidU8
import Derived.Lib.LaidTab
import Derived.HandedShaped
import Derived.Lib.ConvBytes
import Derived.Shelf.Strings.BuilderF
/- The engine, part 36: delete in a map; pointers that may be nil; calls with several new arrays. No program in sight. -/
set_option linter.unusedVariables false
set_option linter.unusedSimpArgs false
set_option linter.unusedSectionVars false
namespace Go.Eng
open Go
variable [GTab]

@[reducible] def TM {X : Type} (o : Option X) (A : AV → Heap → Prop) (B : X → AV → Heap → Prop) : AV → Heap → Prop := match o with
  | none => A
  | some x => B x
section rules
variable {P : Program} {all : Array Oper} {rest : List Oper} {n : Nat} {tm : List (Nat × AV)} {hp : Heap} {Q : St → Prop} {d : Nat} {ty : TypeId} {pos : String} {af : Array Edge}
end rules

section rules
variable {P : Program} {all : Array Oper} {n : Nat} {B : Heap} {tk : List Tok} {dy : List Nat} {i : Nat} {rest : List Oper} {tm tm' : List (Nat × AV)} {acc : (Nat → Bk) → List (Nat × AV)} {Q : (Nat → Bk) → List (Nat × AV) → Prop} {d : Nat} {ty : TypeId} {pos : String} {af : Array Edge} {op : Op}
end rules
end Go.Eng

/- The engine, part 37: pools: memory that a map's entries own. No program in sight. -/
set_option linter.unusedVariables false
set_option linter.unusedSimpArgs false
set_option linter.unusedSectionVars false
namespace Go.Eng
open Go
variable [GTab]

end Go.Eng

/- The engine, part 38: maps whose entries own memory: slices and pointers. No program in sight. -/
set_option linter.unusedVariables false
set_option linter.unusedSimpArgs false
set_option linter.unusedSectionVars false
namespace Go.Eng
open Go
variable [GTab]

/-- How the values of a map are kept: what stands in the map, what lies in memory. -/
structure Kept (V : Type) where
  val : Bk → V → AV
  po : V → PO
section plain
variable {K V : Type}
variable [DecidableEq K]
variable [KLt K]
end plain
section rules
variable {P : Program} {all : Array Oper} {rest : List Oper} {n : Nat} {tm : List (Nat × AV)} {hp : Heap} {Q : St → Prop} {d : Nat} {ty : TypeId} {pos : String} {af : Array Edge}
end rules
section rules
variable {P : Program} {all : Array Oper} {rest : List Oper} {n : Nat} {tm : List (Nat × AV)} {hp : Heap} {Q : St → Prop} {d : Nat} {ty : TypeId} {pos : String} {af : Array Edge}
end rules
section rules
variable {P : Program} {all : Array Oper} {rest : List Oper} {n : Nat} {tm : List (Nat × AV)} {hp : Heap} {Q : St → Prop} {d : Nat} {ty : TypeId} {pos : String} {af : Array Edge}
end rules
end Go.Eng

/- The engine, part 39: lists of strings that functions of the library make; tables that are read by name. No program in sight. -/
set_option linter.unusedVariables false
set_option linter.unusedSimpArgs false
set_option linter.unusedSectionVars false
namespace Go.Eng
open Go
variable [GTab]

/-- The cells of a row of a table. -/
def rowOf (o : Option Obj) : Option (Array Value) := match o with
  | some (.cells vs _ _) => some vs
  | _ => none
theorem var_row {P : Program} {w : World} {name : String} {g : Nat} (hg : P.globalNamed name = some g) : w.var? P name = rowOf (w.heap[g]?) := by
  unfold World.var?
  rw [hg]
  rfl
theorem flat_strs (xs : List (List UInt8)) : flat (xs.map AV.str) = xs.map AV.str := flat_ones (fun _ => rfl) xs
theorem fresh_strs {w : World} {S : Nat → Prop} (r : HRel w S []) (xs : List (List UInt8)) (E : TypeId) {vs : Array Value} (hv : vs = (xs.map fun s => Value.string ⟨s.toArray⟩).toArray) :
    At (w.alloc (.cells vs E)) S (.sl 1 ⟨some w.heap.size, xs.length⟩ 0 xs.length) (.slice (some ⟨w.heap.size, 0, none⟩) xs.length xs.length) ∧
      HRel (w.alloc (.cells vs E)) S [(⟨some w.heap.size, xs.length⟩, .arr 1 (xs.map AV.str))] ∧ Evo w S [] (w.alloc (.cells vs E)) S [(⟨some w.heap.size, xs.length⟩, .arr 1 (xs.map AV.str))] := by
  subst hv
  have e0 := Ext.alloc w (.cells (xs.map fun s => Value.string ⟨s.toArray⟩).toArray E)
  have hh : Holds (w.alloc (.cells (xs.map fun s => Value.string ⟨s.toArray⟩).toArray E)) S ⟨some w.heap.size, xs.length⟩ (.arr 1 (xs.map AV.str)) := by
    refine ⟨fun x hx => ?_, by simp, .inr ⟨w.heap.size, (xs.map fun s => Value.string ⟨s.toArray⟩).toArray, E, rfl, ?_, by simp, ?_⟩⟩
    · obtain ⟨s, _, rfl⟩ := List.mem_map.1 hx
      exact ⟨rfl, fun c hc => by rw [List.mem_singleton.1 hc]; rfl⟩
    · show (w.heap.push _)[w.heap.size]? = _
      simp
    · rw [flat_strs]
      intro i c v hc hv
      simp only [List.getElem?_map, List.getElem?_toArray, Option.map_eq_some_iff] at hc hv
      obtain ⟨s, h1, rfl⟩ := hc
      obtain ⟨s', h2, rfl⟩ := hv
      rw [h1] at h2
      obtain rfl := Option.some.inj h2
      exact .str s
  obtain ⟨k1, k2, k3⟩ := add_rel r e0 id hh (.inr ⟨_, rfl, Nat.le_refl _⟩)
  refine ⟨?_, k1, k2⟩
  have := At.sl (w := w.alloc (.cells (xs.map fun s => Value.string ⟨s.toArray⟩).toArray E)) (S := S) 1 ⟨some w.heap.size, xs.length⟩ 0 xs.length w.heap.size xs.length rfl (Nat.le_refl _) (by simp)
  simpa using this
/-! ### tables -/
/-- A row of numbers. -/
def tNum (k : IntKind) (zs : List Int) (o : Option Obj) : Prop := rowOf o = some (zs.map fun z => Value.int k z).toArray
/-- A cell with a number. -/
def tInt (k : IntKind) (o : Option Obj) : Prop := ∃ vs m, rowOf o = some vs ∧ vs[0]? = some (.int k m)
/-- A cell with an interface's value. -/
def tIfc (o : Option Obj) : Prop := ∃ vs ev, rowOf o = some vs ∧ vs[0]? = some ev ∧ (ev = .nilIface ∨ ∃ te pe, ev = .iface te pe)
theorem row_cell (w : World) (g i : Nat) {vs : Array Value} (h : rowOf (w.heap[g]?) = some vs) : w.cell? ⟨g, i, none⟩ = vs[i]? := by
  unfold World.cell?
  unfold rowOf at h
  split at h
  · rename_i vs' e f ho
    obtain rfl := Option.some.inj h
    simp [ho]
  · cases h
def tabOf : List (Nat × (Option Obj → Prop)) → Nat → Option (Option Obj → Prop)
  | [], _ => none
  | (k, o) :: r, g => if g = k then some o else tabOf r g
theorem tabOf_mem : ∀ {l : List (Nat × (Option Obj → Prop))} {g : Nat} {o : Option Obj → Prop}, tabOf l g = some o → (g, o) ∈ l
  | [], _, _, h => by cases h
  | (k, o') :: r, g, o, h => by
    unfold tabOf at h
    split at h
    · rename_i hg
      rw [hg, Option.some.inj h]; simp
    · exact List.mem_cons_of_mem _ (tabOf_mem h)
theorem row_lt {w : World} {g : Nat} {vs : Array Value} (h : rowOf (w.heap[g]?) = some vs) : g < w.heap.size := by
  rcases Nat.lt_or_ge g w.heap.size with h' | h'
  · exact h'
  · rw [Array.getElem?_eq_none h'] at h; cases h
end Go.Eng
namespace Go.Eng
open Go
section errs
variable [GTab] {P : Program} {all : Array Oper} {rest : List Oper} {n : Nat} {tm : List (Nat × AV)} {hp : Heap} {Q : St → Prop} {d : Nat} {ty : TypeId} {pos : String} {af : Array Edge}
/-- An error's value, and whether it is none. -/
def errV (e : Value) (ok : Bool) : Prop := (e = .nilIface ∧ ok = true) ∨ ((∃ te pe, e = .iface te pe) ∧ ok = false)
/-- A function that makes nothing that is spoken of, and returns a number and an error. -/
def PuE (P : Program) (f : FuncId) (args : List AV) (m : Int) (ok : Bool) : Prop := ACall P f args [] (fun r h => ∃ e, r = .tup [I m, .raw e] ∧ errV e ok)
theorem t_callE {f : FuncId} {args : List Operand} {ts : Array TypeId} {l l' : List AV} {m : Int} {ok : Bool} [IsFn P f] (hl : evL tm args = some l) (c : PuE P f l' m ok) (co : CoL hp l l') (hn : Nat.blt d n = true)
    (kk : ∀ e, errV e ok → ARun P all rest ⟨n, (d, .tup [I m, .raw e]) :: tm, hp⟩ Q) : ARun P all (⟨some d, .call { callee := .value (.func f), args := args.toArray, argTypes := ts }, ty, pos, af, none⟩ :: rest) ⟨n, tm, hp⟩ Q := by
  refine r_call0 hl c co hn (fun r h' hr => ?_)
  obtain ⟨e, rfl, he⟩ := hr
  exact ARun.weaken (σ' := ⟨n, (d, .tup [I m, .raw e]) :: tm, hp⟩) ⟨rfl, fun _ _ h => h, List.sublist_append_right _ _⟩ (kk e he)
theorem eq_in {t : TypeId} {ms : Array (String × TypeId)} [TUnder P t (.interface ms)] (te : TypeId) (pe : Value) (w : World) : (Op.equal t (.iface te pe) .nilIface).run P w = .ok false w := by
  show (Op.equalIn (9999 + 1) t _ _).run P w = _
  rw [Op.equalIn]
  simp [run_underlying (TUnder.h (P := P) (t := t))]
theorem eq_ii {t : TypeId} {ms : Array (String × TypeId)} [TUnder P t (.interface ms)] (w : World) : (Op.equal t .nilIface .nilIface).run P w = .ok true w := by
  show (Op.equalIn (9999 + 1) t _ _).run P w = _
  rw [Op.equalIn]
  simp [run_underlying (TUnder.h (P := P) (t := t))]
theorem q_eqE {xt yt : TypeId} {ms : Array (String × TypeId)} {x : Operand} {e : Value} {ok : Bool} [TUnder P xt (.interface ms)] (he : errV e ok) (hx : evA tm x = some (.raw e)) : QV P ⟨some d, .binOp .eql xt x (.const .nilIface) yt, ty, pos, af, none⟩ ⟨n, tm, hp⟩ (.bool ok) := by
  refine fun w S a r => ⟨.bool ok, fun w1 _ => ?_, .bool _⟩
  have hr := (evA_at (σ := ⟨n, tm, hp⟩) r hx).raw_inv
  have hc : a.eval (.const .nilIface) = .nilIface := rfl
  rcases he with ⟨rfl, rfl⟩ | ⟨⟨te, pe, rfl⟩, rfl⟩
  · have h1 := eq_ii (P := P) (t := xt) w1
    simp [execOp, hr, hc, eqGuard, binOp, h1]
  · have h1 := eq_in (P := P) (t := xt) te pe w1
    simp [execOp, hr, hc, eqGuard, binOp, h1]
/-- string(r) for a number r. -/
def strR (n : Int) : List UInt8 := (Utf8.encode n).data.toList
theorem q_conv_is {src dst : TypeId} {D : TypeDesc} {x : Operand} {k : IntKind} {i : Int} [TUnder P src D] [TUnder P dst .string] (hx : evA tm x = some (.int k i)) : QV P ⟨some d, .convert src dst x, ty, pos, af, none⟩ ⟨n, tm, hp⟩ (.str (strR i)) := by
  intro w S a r
  refine ⟨.string (Utf8.encode i), fun w1 _ => ?_, .str (strR i)⟩
  have h := run_convert_int_string w1 src dst k i (P := P) (by rw [TUnder.h (P := P) (t := src)]; rfl) (TUnder.h (P := P) (t := dst))
  simp only [execOp, (evA_at (σ := ⟨n, tm, hp⟩) r hx).int_inv, Sem.run_bind, h, Result.andThen_ok]
  rfl
/-- Two strings, one behind the other. -/
def catO (a b : List UInt8) : Option (List UInt8) := if a.length + b.length ≤ 9223372036854775807 then some (a ++ b) else none
theorem q_sadd {xt yt : TypeId} {x y : Operand} {s t r : List UInt8} (h : catO s t = some r) (hx : evA tm x = some (.str s)) (hy : evA tm y = some (.str t)) : QV P ⟨some d, .binOp .add xt x y yt, ty, pos, af, none⟩ ⟨n, tm, hp⟩ (.str r) := by
  unfold catO at h
  split at h
  · rename_i hs
    obtain rfl := Option.some.inj h
    refine fun w S a r => ⟨.string (⟨s.toArray⟩ ++ ⟨t.toArray⟩), fun w1 _ => ?_, ?_⟩
    · have h1 := run_string_add_sum (P := P) (w := w1) (⟨s.toArray⟩ : ByteArray) (⟨t.toArray⟩ : ByteArray) (by simpa [ByteArray.size] using hs)
      simp [execOp, (evA_at (σ := ⟨n, tm, hp⟩) r hx).str_inv, (evA_at (σ := ⟨n, tm, hp⟩) r hy).str_inv, eqGuard, binOp, h1]
    · have : ((⟨s.toArray⟩ : ByteArray) ++ ⟨t.toArray⟩) = ⟨(s ++ t).toArray⟩ := by apply ByteArray.ext; simp
      rw [this]
      exact .str _
  · cases h
end errs
end Go.Eng

/- The engine, part 40: arrays of a fixed length whose elements are one cell each. No program in sight. -/
set_option linter.unusedVariables false
set_option linter.unusedSimpArgs false
set_option linter.unusedSectionVars false
namespace Go.Eng
open Go
variable [GTab]
section rules
variable {P : Program} {all : Array Oper} {rest : List Oper} {n : Nat} {tm : List (Nat × AV)} {hp : Heap} {Q : St → Prop} {d : Nat} {ty : TypeId} {pos : String} {af : Array Edge}
end rules
end Go.Eng

/- The engine, part 41: from what a row lays to the tables that the engine speaks of. No program in sight. -/
set_option linter.unusedVariables false
set_option linter.unusedSimpArgs false
namespace Go.Eng
open Go Go.Lib
variable [GTab]
set_option linter.unusedSectionVars false
theorem row_of_cell {w : World} {g : Nat} {v : Value} (h : w.cell? ⟨g, 0, none⟩ = some v) : ∃ vs, rowOf (w.heap[g]?) = some vs ∧ vs[0]? = some v := by
  unfold World.cell? at h
  cases ho : w.heap[g]? with
  | none => simp [ho] at h
  | some o =>
    cases o with
    | cells vs e f => exact ⟨vs, rfl, by simpa [ho] using h⟩
    | _ => simp [ho] at h
theorem int_row {w : World} {g : Nat} {k : IntKind} {m : Int} (h : w.cell? ⟨g, 0, none⟩ = some (.int k m)) : g < w.heap.size ∧ tInt k (w.heap[g]?) := by
  obtain ⟨vs, h1, h2⟩ := row_of_cell h
  exact ⟨row_lt h1, vs, m, h1, h2⟩
theorem num_row {P : Program} {W : World} {name : String} {k : IntKind} {zs : List Int} {g : Nat} {t e : TypeId} {n : Nat}
    (hg : P.globalNamed name = some g) (hty : (P.globals[g]?).map (·.type) = some t) (ht : P.underlying t = some (.array n e)) (he : P.underlying e = some (.int k)) (hce : P.cellsOf e = 1) (hct : P.cellsOf t = n)
    (h : VarReads P W name (tabData k zs)) : g < W.heap.size ∧ tNum k zs (W.heap[g]?) := by
  obtain ⟨g', t', cs, fuel, p, hg', ht', hvar, hd⟩ := h
  obtain rfl := Option.some.inj (hg.symm.trans hg')
  obtain rfl := Option.some.inj (hty.symm.trans ht')
  rw [var_row hg] at hvar
  refine ⟨row_lt hvar, ?_⟩
  unfold tNum
  rw [hvar, ← cells_of_tab ht he hce hct hd]
theorem ifc_row {P : Program} {W : World} {name : String} {d : DataW Unit} {g : Nat} {t : TypeId} {ms : Array (String × TypeId)}
    (hg : P.globalNamed name = some g) (hty : (P.globals[g]?).map (·.type) = some t) (ht : P.underlying t = some (.interface ms)) (h : VarReads P W name d) : g < W.heap.size ∧ tIfc (W.heap[g]?) := by
  obtain ⟨g', t', cs, fuel, p, hg', ht', hvar, hd⟩ := h
  obtain rfl := Option.some.inj (hg.symm.trans hg')
  obtain rfl := Option.some.inj (hty.symm.trans ht')
  rw [var_row hg] at hvar
  refine ⟨row_lt hvar, ?_⟩
  have key : ∀ l : List Value, DataW.trod (fun _ => ()) P W 0 (fun _ => true) false fuel t l = some (d, p) → ∃ ev, l[0]? = some ev ∧ (ev = .nilIface ∨ ∃ te pe, ev = .iface te pe) := by
    intro l hl
    cases fuel with
    | zero => simp [DataW.trod] at hl
    | succ fuel =>
      unfold DataW.trod at hl
      simp only [ht] at hl
      split at hl <;> first | (exact ⟨_, rfl, .inl rfl⟩) | (exact ⟨_, rfl, .inr ⟨_, _, rfl⟩⟩) | (simp_all)
  obtain ⟨ev, h1, h2⟩ := key cs.toList hd
  exact ⟨cs, ev, hvar, by simpa using h1, h2⟩
end Go.Eng

/- The engine, part 42: a row that lays variables, at a world that is shaped: what the kit's two forms (laid; shaped) give apart, given together. No program in sight. -/
set_option linter.unusedVariables false
namespace Go.Eng
open Go
variable {H : Type} {enc : TypeId × Value → H}
theorem handed_both {a : Assume} {C : Checked} {os : Os} {f : FuncId} {fn : Func} {s : ChangeSpec} {conds : List PathCond} {apart fresh handsOn again : Bool} {X : World → Array Value → Prop}
    (hX : ∀ (w w' : World) (args : Array Value), w.heap = w'.heap → X w args → X w' args)
    (own : ownKnob C.prog.godebug = none) (started : os.Started) (noInit : C.prog.inits.idxOf? f = none) (hfn : C.prog.funcs[f]? = some fn)
    (witness : ∃ (w : World) (tape : Tape) (i : Input), w.os = os ∧ (w.forCall tape i).Shaped C.prog ∧ i.vars = [] ∧ Input.okWide C.prog (w.forCall tape i) .any w.heap.size f i ∧
      ((s.pre enc C.prog fn conds apart (w.forCall tape i).memory i.args ∧ X (w.forCall tape i).memory i.args) ∧ sizedMet enc C.prog fn (OpenSpec.ofChange s) apart (w.forCall tape i).memory i.args) ∧ a.holds C.prog (lone (Frame.enter C.prog f i.args .normal) [] (w.forCall tape i)))
    (walk : ∀ (W : World) (base : Nat) (args : Array Value) (ds gs : List (DataW H)) (before : List MemPlace),
      (∀ (j : Nat) t v, fn.params[j]? = some t → args[j]? = some v → Value.okWide C.prog W .any base t v) →
      DataW.Whole enc C.prog fn.params.toList s.vars apart W args.toList ds gs before →
      conds.all (PathCond.test C.prog ⟨fn.params.toList, ds, s.plain.varTypes C.prog, gs⟩) = true →
      (DataW.weightsEach C.prog (fn.params.toList ++ s.plain.varTypes C.prog) (ds ++ gs)).all (· ≤ reachBytes) = true → X W args ∧ W.ShapedOpen C.prog →
      a.holds C.prog (lone (Frame.enter C.prog f args .normal) [] W) →
      Calls C.prog f args W fun e W' => ∃ v, e = .returned v ∧ s.post enc C.prog fn apart fresh handsOn again W args v W') :
    ReturnsInHanded a C os f .any (fun w args => (s.pre enc C.prog fn conds apart w args ∧ X w args) ∧ sizedMet enc C.prog fn (OpenSpec.ofChange s) apart w args) (s.post enc C.prog fn apart fresh handsOn again) := by
  refine returnsInHanded_of_calls own started noInit witness ?_
  intro w tape i _ shaped _ ok pre held
  obtain ⟨_, _, _, fn', there, _, _, _, _, vals⟩ := ok
  cases Option.some.inj (there.symm.trans hfn)
  obtain ⟨⟨⟨ds, gs, before, whole, tests⟩, x⟩, sized⟩ := pre
  have K := walk (w.forCall tape i) w.heap.size i.args ds gs before vals (DataW.Whole.of_heap (w' := w.forCall tape i) (by rfl) whole) tests (sized.weights whole) ⟨hX _ _ _ (by rfl) x, shaped⟩ held
  exact K.mono fun e W' ⟨v, he, hp⟩ => by
    subst he
    exact ChangeSpec.post_blind hp
end Go.Eng

/- The engine, part 43: a slice whose room is known; what slices.Delete does with it. No program in sight. -/
set_option linter.unusedVariables false
set_option linter.unusedSimpArgs false
set_option linter.unusedSectionVars false
namespace Go.Eng
open Go
variable [GTab]

section rules
variable {P : Program} {all : Array Oper} {rest : List Oper} {n : Nat} {tm : List (Nat × AV)} {hp : Heap} {Q : St → Prop} {d : Nat} {ty : TypeId} {pos : String} {af : Array Edge}
end rules
end Go.Eng

/- The engine, part 44: a string's bytes as a list. No program in sight. -/
set_option linter.unusedVariables false
set_option linter.unusedSimpArgs false
set_option linter.unusedSectionVars false
namespace Go.Eng
open Go
variable [GTab]

/-- One block more that is only read. -/
theorem HRel.one {w w' : World} {S : Nat → Prop} {h : Heap} (r : HRel w S h) (e : Ext w w') (hs : w.heap.size < w'.heap.size) : HRel w' (fun n => S n ∨ n = w.heap.size) h ∧ Evo w S h w' (fun n => S n ∨ n = w.heap.size) h := by
  have hlt : ∀ x ∈ h, ∀ n, n ∈ eb x → n < w.heap.size := fun x hx n hn => r.lt ⟨x, hx, hn⟩
  have hk : ∀ n, S n → (S n ∨ n = w.heap.size) ∧ w'.heap[n]? = w.heap[n]? := fun n hn => ⟨.inl hn, e.same n (r.slt n hn)⟩
  refine ⟨⟨r.nodup, fun x hx => (r.holds x hx).mono hk (fun n hn => e.same n (hlt x hx n hn)), fun x hx n hn => ⟨fun hn' => ?_, fun hf => .inl ((r.sep x hx n hn).2 hf)⟩, fun n hn => ?_, fun g o ho => ⟨.inl (r.glob g o ho).1, gkeep (e.same g (r.slt g (r.glob g o ho).1)) (r.glob g o ho).2⟩⟩,
    ⟨e.os, e.tape, e.output, e.size, hk, fun n hn _ => ⟨e.same n hn, fun hn' => ?_⟩, fun n hn => .inl hn, e.drawn⟩⟩
  · rcases hn' with h' | h'
    · exact (r.sep x hx n hn).1 h'
    · have := hlt x hx n hn; omega
  · rcases hn with h' | h'
    · exact Nat.lt_of_lt_of_le (r.slt n h') e.size
    · omega
  · rcases hn' with h' | h'
    · exact h'
    · omega
section rules
variable {P : Program} {all : Array Oper} {rest : List Oper} {n : Nat} {tm : List (Nat × AV)} {hp : Heap} {Q : St → Prop} {d : Nat} {ty : TypeId} {pos : String} {af : Array Edge}
end rules
end Go.Eng

/- The engine, part 45: string builders: a box and the row behind it. No program in sight. -/
set_option linter.unusedVariables false
set_option linter.unusedSectionVars false
namespace Go.Eng
open Go
variable [GTab]

/-- A builder's memory turns; its row stays or goes over to new memory; all else stands. -/
theorem bld_rel {w w' : World} {S : Nat → Prop} {hp hp' : Heap} {b : Bk} {T E : TypeId} {q q' : Option Nat} {bs bs' : List UInt8} (r : HRel w S hp) (u : Upd hp b (.bld T E q bs) b (.bld T E q' bs') hp')
    (hos : w'.os = w.os) (htp : w'.tape = w.tape) (hou : w'.output = w.output) (hsz : w.heap.size ≤ w'.heap.size) (hd : GTab.dr → w.drawn ≤ w'.drawn)
    (hk : ∀ n, n < w.heap.size → b.blk ≠ some n → q ≠ some n → w'.heap[n]? = w.heap[n]?)
    (hh : Holds w' S b (.bld T E q' bs')) (hq : q' = q ∨ ∃ m, q' = some m ∧ w.heap.size ≤ m) :
    HRel w' S hp' ∧ Evo w S hp w' S hp' := by
  obtain ⟨p, t, rfl, rfl⟩ := u.split
  have hin : (b, .bld T E q bs) ∈ p ++ (b, .bld T E q bs) :: t := by simp
  have heb : ∀ n, n ∈ eb (b, .bld T E q bs) ↔ b.blk = some n ∨ q = some n := fun n => by simp [eb, Ob.more]
  have heb' : ∀ n, n ∈ eb (b, .bld T E q' bs') ↔ b.blk = some n ∨ q' = some n := fun n => by simp [eb, Ob.more]
  have nS : ∀ n, n ∈ eb (b, .bld T E q bs) → ¬ S n := fun n hn hs => ((r.sep _ hin n hn).1 hs).elim
  have keep : ∀ n, S n → S n ∧ w'.heap[n]? = w.heap[n]? := fun n hs => ⟨hs, hk n (r.slt n hs) (fun e => nS n ((heb n).2 (.inl e)) hs) (fun e => nS n ((heb n).2 (.inr e)) hs)⟩
  have hnd := r.nodup
  rw [List.flatMap_append, List.flatMap_cons, List.nodup_append, List.nodup_append] at hnd
  have others : ∀ e ∈ p ++ t, ∀ n, n ∈ eb e → n < w.heap.size ∧ b.blk ≠ some n ∧ q ≠ some n := by
    intro e he n hn
    have hno : ¬ n ∈ eb (b, .bld T E q bs) := fun hb => by
      rcases List.mem_append.1 he with h | h
      · exact hnd.2.2 n (List.mem_flatMap.2 ⟨e, h, hn⟩) n (List.mem_append_left _ hb) rfl
      · exact hnd.2.1.2.2 n hb n (List.mem_flatMap.2 ⟨e, h, hn⟩) rfl
    exact ⟨r.lt ⟨e, mem_mid.2 (.inr he), hn⟩, fun e => hno ((heb n).2 (.inl e)), fun e => hno ((heb n).2 (.inr e))⟩
  have fresh' : ∀ n, n ∈ eb (b, .bld T E q' bs') → n ∈ eb (b, .bld T E q bs) ∨ w.heap.size ≤ n := by
    intro n hn
    rcases (heb' n).1 hn with h | h
    · exact .inl ((heb n).2 (.inl h))
    · rcases hq with e | ⟨m, e, hm⟩
      · exact .inl ((heb n).2 (.inr (e ▸ h)))
      · rw [e] at h; have := Option.some.inj h; exact .inr (by omega)
  have hno' : ∀ e ∈ p ++ t, ∀ n, n ∈ eb e → ¬ n ∈ eb (b, .bld T E q' bs') := by
    intro e he n hn hb
    obtain ⟨h1, h2, h3⟩ := others e he n hn
    rcases fresh' n hb with h | h
    · rcases (heb n).1 h with h | h
      · exact h2 h
      · exact h3 h
    · omega
  have hbq : (eb (b, .bld T E q' bs')).Nodup := by
    have h0 : (eb (b, Ob.bld T E q bs)).Nodup := hnd.2.1.1
    show (b.blk.toList ++ q'.toList).Nodup
    replace h0 : (b.blk.toList ++ q.toList).Nodup := h0
    rcases hq with e | ⟨m, e, hm⟩
    · rw [e]; exact h0
    · subst e
      obtain ⟨n, pp, vv, g1, g2, _⟩ := r.holds _ hin
      have hlt := hp_lt g2
      rw [g1]
      simp
      omega
  refine ⟨⟨?_, ?_, ?_, fun n hs => Nat.lt_of_lt_of_le (r.slt n hs) hsz, fun g o ho => ⟨(r.glob g o ho).1, gkeep (keep g (r.glob g o ho).1).2 (r.glob g o ho).2⟩⟩, ⟨hos, htp, hou, hsz, keep, ?_, ?_, hd⟩⟩
  · rw [List.flatMap_append, List.flatMap_cons, List.nodup_append, List.nodup_append]
    refine ⟨hnd.1, ⟨hbq, hnd.2.1.2.1, fun x hx y hy hxy => ?_⟩, fun x hx y hy hxy => ?_⟩
    · subst hxy
      obtain ⟨e, he, hen⟩ := List.mem_flatMap.1 hy
      exact hno' e (List.mem_append_right _ he) x hen hx
    · subst hxy
      rcases List.mem_append.1 hy with hy | hy
      · obtain ⟨e, he, hen⟩ := List.mem_flatMap.1 hx
        exact hno' e (List.mem_append_left _ he) x hen hy
      · exact hnd.2.2 x hx x (List.mem_append_right _ hy) rfl
  · intro e he
    rcases mem_mid.1 he with rfl | he
    · exact hh
    · exact (r.holds e (mem_mid.2 (.inr he))).mono keep (fun n hn => hk n (others e he n hn).1 (others e he n hn).2.1 (others e he n hn).2.2)
  · intro e he n hn
    rcases mem_mid.1 he with rfl | he
    · refine ⟨fun hs => ?_, fun h => h.elim⟩
      rcases fresh' n hn with h | h
      · exact (nS n h hs).elim
      · have := r.slt n hs; omega
    · exact r.sep e (mem_mid.2 (.inr he)) n hn
  · intro n hn hhas
    exact ⟨hk n hn (fun h => hhas ⟨_, hin, (heb n).2 (.inl h)⟩) (fun h => hhas ⟨_, hin, (heb n).2 (.inr h)⟩), id⟩
  · rintro n ⟨e, he, hen⟩
    rcases mem_mid.1 he with rfl | he
    · rcases fresh' n hen with h | h
      · exact .inl ⟨_, hin, h⟩
      · exact .inr h
    · exact .inl ⟨e, mem_mid.2 (.inr he), hen⟩
section
variable {P : Program} {all : Array Oper} {rest : List Oper} {n : Nat} {tm : List (Nat × AV)} {hp : Heap} {Q : St → Prop} {d : Nat} {ty : TypeId} {pos : String} {af : Array Edge}
/-- A new builder. -/
theorem n_allocB {E : TypeId} {i : TypeInfo} (B : TypeId) [TInfo P E i] (hz : i.zero = some (.agg #[.pointer none, .slice none 0 0])) (hn : Nat.blt d n = true)
    (kk : ∀ b : Bk, ARun P all rest ⟨n, (d, .ptr b 0) :: tm, (b, .bld E B none []) :: hp⟩ Q) : ARun P all (⟨some d, .alloc E, ty, pos, af, none⟩ :: rest) ⟨n, tm, hp⟩ Q := by
  refine ARun.opx rfl fun w S a r => ?_
  have hE := Ext.alloc w (.cells #[.pointer none, .slice none 0 0] E)
  have hb : (w.alloc (.cells #[.pointer none, .slice none 0 0] E)).heap[w.heap.size]? = some (.cells #[.pointer none, .slice none 0 0] E (0, 0)) := heap_alloc_new w _
  obtain ⟨g1, g2, g3⟩ := add_rel (b := ⟨some w.heap.size, 0⟩) (o := .bld E B none []) r.hp hE (fun h => h) ⟨w.heap.size, .pointer none, .slice none 0 0, rfl, hb, .inl rfl, World.ownsRowF_nil _ _ _ _, rfl⟩ (.inr ⟨_, rfl, Nat.le_refl _⟩)
  refine ⟨.pointer (some ⟨w.heap.size, 0, none⟩), _, S, _, ?_, (r.heap g3 g1).put hn (.ptr ⟨some w.heap.size, 0⟩ 0 _ rfl), g2, kk ⟨some w.heap.size, 0⟩⟩
  have hi := TInfo.h (P := P) (t := E)
  simp [execOp, Instr.alloc, newVar, newRow, zeroValue, typeInfo, hi, hz, Value.cells]
end
/-- What a builder's write makes of it. -/
def bldW (x s : List UInt8) : Option (List UInt8) := if x.length + s.length ≤ 1000000000000 then some (x ++ s) else none
theorem bldW_some {x s y : List UInt8} (h : bldW x s = some y) : y = x ++ s ∧ x.length + s.length ≤ 1000000000000 := by
  unfold bldW at h
  split at h
  · rename_i hl; exact ⟨(Option.some.inj h).symm, hl⟩
  · cases h
end Go.Eng

/- The engine, part 46: what a builder's methods do, told exactly. No program in sight. -/
set_option linter.unusedVariables false
set_option linter.unusedSectionVars false
namespace Go.Eng
open Go Go.Proofs Go.Shelf Go.RowKit Go.Lib

theorem bl_lt {w : World} {n : Nat} {o : Obj} (h : w.heap[n]? = some o) : n < w.heap.size := by
  rcases Nat.lt_or_ge n w.heap.size with h' | h'
  · exact h'
  · simp [Array.getElem?_eq_none h'] at h
theorem row_keep {w w' : World} {base : Nat} {e : TypeId} {size : Nat} {v : Value} {n : Nat} {xs : List Value} (h : w.ownsRowF base e size v n xs) (hk : ∀ k, v.ownBlock = some k → w'.heap[k]? = w.heap[k]?) : w'.ownsRowF base e size v n xs := by
  refine ⟨h.1, ?_⟩
  rcases h.2 with hn | ⟨g, cap, cur, fz, rfl, hb, hgg, rest⟩
  · exact .inl hn
  · exact .inr ⟨g, cap, cur, fz, rfl, hb, by rw [hk g rfl]; exact hgg, rest⟩
section
variable {P : Program} (w : World)
/-- append of a string to a row that is owned: where the new row lies. -/
theorem run_appS (t u ty e : TypeId) (i : TypeInfo) (ht : P.underlying t = some (.slice e)) (hu : P.underlying u = some .string) (hi : P.info? e = some i) (hz : i.zero = some (.int .u8 0))
    (hsize : i.size = 1) (hby : i.bytes = 1) (v : Value) (n : Nat) (xs : List Value) (hown : w.ownsRowF 0 e 1 v n xs) (s : ByteArray) (h63 : n + s.size ≤ maxLen) (hbytes : n + s.size ≤ 140737488355328) :
    ∃ v' w', (Builtin.append_ #[t, u] ty #[v, .string s]).run P w = .ok v' w' ∧ w'.ownsRowF 0 e 1 v' (n + s.size) (xs ++ strCells s) ∧ w.grownBy w' v.ownBlock ∧
      (v'.ownBlock = v.ownBlock ∨ ∃ m, v'.ownBlock = some m ∧ w.heap.size ≤ m) := by
  obtain ⟨v', w', h1, h2, h3, _⟩ := Lib.run_append_own_stringF (P := P) w 0 t u ty e i ht hu hi hz hsize hby v n xs hown s h63 hbytes (Nat.zero_le _)
  refine ⟨v', w', h1, h2, h3, ?_⟩
  rcases hown.2 with ⟨rfl, rfl⟩ | ⟨g, cap, cur, fz, rfl, hbg, hg, hfz, hnc, hcm, hcs, htake⟩
  · obtain ⟨v2, w2, k1, k2, k3, _⟩ := Lib.run_append_own_string (P := P) w w.heap.size t u ty e i ht hu hi hz hsize hby (.slice none 0 0) 0 xs ⟨hown.1, .inl ⟨rfl, rfl⟩⟩ s h63 hbytes (Nat.le_refl _)
    rw [h1] at k1
    injection k1 with e1 e2
    subst e1
    cases hb : v'.ownBlock with
    | none => exact .inl rfl
    | some m => exact .inr ⟨m, rfl, (k2.lt m hb).1⟩
  · have hsmall : n + s.size ≤ 9223372036854775807 := by simp only [maxLen] at h63; omega
    have hxl : xs.length = n := by simpa using hown.1
    by_cases hroom : n + s.size ≤ cap
    · have hr := Lib.run_append_room_stringF (P := P) w t u ty e i ht hu hi hsize g n cap cur fz hg (by simpa using hfz) s hroom (by omega)
      rw [h1] at hr
      injection hr with e1 e2
      subst e1
      exact .inl rfl
    · have holds : ∀ j u, xs[j]? = some u → w.cell? ((⟨g, 0, none⟩ : Addr).add j) = some u := hown.cells (g := g) rfl
      have hr := Lib.run_append_grow_string (P := P) w t u ty e i (.int .u8 0) ht hu hi hz ⟨g, 0, none⟩ n cap xs (by rw [hsize]; simpa using hxl) holds s (by omega) (by omega) (by rw [hby]; exact growslice_fits (by omega) (by omega))
      rw [h1] at hr
      injection hr with e1 e2
      subst e1
      exact .inr ⟨_, rfl, Nat.le_refl _⟩
theorem wpList_appS {ops : Array Oper} {rest : List Oper} {o : Oper} {a : Act} {Q : Exit → Act → World → Prop} (hgd : o.guard = none) (sl x : Operand) (t u : TypeId)
    (ho : o.op = .call { callee := .builtin .append, args := #[sl, x], argTypes := #[t, u] })
    (e : TypeId) (i : TypeInfo) (ht : P.underlying t = some (.slice e)) (hu : P.underlying u = some .string) (hi : P.info? e = some i) (hz : i.zero = some (.int .u8 0))
    (hsize : i.size = 1) (hby : i.bytes = 1)
    (v : Value) (n : Nat) (xs : List Value) (hs : a.eval sl = v) (hown : w.ownsRowF 0 e 1 v n xs) (s : ByteArray) (hx : a.eval x = .string s)
    (h63 : n + s.size ≤ maxLen) (hbytes : n + s.size ≤ 140737488355328)
    (h : ∀ v' w', w'.ownsRowF 0 e 1 v' (n + s.size) (xs ++ strCells s) → w.grownBy w' v.ownBlock → (v'.ownBlock = v.ownBlock ∨ ∃ m, v'.ownBlock = some m ∧ w.heap.size ≤ m) → wpList P ops Q rest (a.put o.dst v') w') : wpList P ops Q (o :: rest) a w := by
  refine wpList_plain hgd fun K hK => ?_
  obtain ⟨v', w', hr, h2, h3, h4⟩ := run_appS (P := P) w t u o.type e i ht hu hi hz hsize hby v n xs hown s h63 hbytes
  unfold Oper.wp execOp
  simp only [ho, resolve, invoke, builtin, Sem.run_bind, Sem.run_pure, Result.andThen_ok, List.map_toArray, List.map_cons, List.map_nil, hs, hx, hr]
  exact hK _ _ (h v' w' h2 h3 h4)
end
variable {P : Program} {ρ : Ren}
/-- What stays when only blocks b and row turn. -/
structure KeepB (w w' : World) (b : Nat) (row : Option Nat) : Prop where
  os : w'.os = w.os
  tape : w'.tape = w.tape
  output : w'.output = w.output
  size : w.heap.size ≤ w'.heap.size
  keep : ∀ n, n < w.heap.size → n ≠ b → row ≠ some n → w'.heap[n]? = w.heap[n]?
theorem KeepB.refl (w : World) (b : Nat) (row : Option Nat) : KeepB w w b row := ⟨rfl, rfl, rfl, Nat.le_refl _, fun _ _ _ _ => rfl⟩
theorem KeepB.trans {w w1 w2 : World} {b : Nat} {row : Option Nat} (h : KeepB w w1 b row) (k : KeepB w1 w2 b row) : KeepB w w2 b row :=
  ⟨k.os.trans h.os, k.tape.trans h.tape, k.output.trans h.output, Nat.le_trans h.size k.size, fun n h1 h2 h3 => (k.keep n (Nat.lt_of_lt_of_le h1 h.size) h2 h3).trans (h.keep n h1 h2 h3)⟩
theorem KeepB.set (w : World) (b : Nat) (row : Option Nat) (j : Nat) (x : Value) : KeepB w (w.setCell ⟨b, j, none⟩ x) b row :=
  ⟨rfl, rfl, rfl, by simp [World.setCell], fun n _ h _ => Below.heap_setCell _ _ _ _ (fun e => h (by simp [e]))⟩
theorem KeepB.grown {w w' : World} {b : Nat} {row : Option Nat} (h : w.grownBy w' row) : KeepB w w' b row :=
  ⟨h.os, h.tape, h.output, h.size, fun n h1 _ h3 => h.block n h1 (fun e => h3 e.symm)⟩
theorem setC0 {w : World} {b : Nat} {p v x : Value} {T : TypeId} (hb : w.heap[b]? = some (.cells #[p, v] T (0, 0))) : (w.setCell ⟨b, 0, none⟩ x).heap[b]? = some (.cells #[x, v] T (0, 0)) := by
  simp [World.setCell, Array.getElem?_modify, hb]
theorem setC1 {w : World} {b : Nat} {p v x : Value} {T : TypeId} (hb : w.heap[b]? = some (.cells #[p, v] T (0, 0))) : (w.setCell ⟨b, 1, none⟩ x).heap[b]? = some (.cells #[p, x] T (0, 0)) := by
  simp [World.setCell, Array.getElem?_modify, hb]
/-- What WriteString does. -/
def WriteSpec (P : Program) (f : FuncId) (T E : TypeId) : Prop := ∀ (b : Nat) (p v : Value) (bs : List Value) (s : ByteArray) (w : World), w.heap[b]? = some (.cells #[p, v] T (0, 0)) → (p = .pointer none ∨ p = .pointer (some ⟨b, 0, none⟩)) →
    w.ownsRowF 0 E 1 v bs.length bs → v.ownBlock ≠ some b → bs.length + s.size ≤ 140737488355328 →
    Calls P f #[.pointer (some ⟨b, 0, none⟩), .string s] w fun e w' => e = .returned (.tuple #[.int .i64 s.size, .nilIface]) ∧
      ∃ v', w'.heap[b]? = some (.cells #[.pointer (some ⟨b, 0, none⟩), v'] T (0, 0)) ∧ w'.ownsRowF 0 E 1 v' (bs.length + s.size) (bs ++ strCells s) ∧
        (v'.ownBlock = v.ownBlock ∨ ∃ m, v'.ownBlock = some m ∧ w.heap.size ≤ m) ∧ KeepB w w' b v.ownBlock
theorem KeepB.freeze (w : World) (b g n : Nat) : KeepB w (w.freeze ⟨g, 0, none⟩ n) b (some g) := by
  unfold World.freeze
  split
  · exact KeepB.refl w b _
  · exact ⟨rfl, rfl, rfl, by simp, fun k _ _ hk => by
      simp only [Array.getElem?_modify]
      rw [if_neg (fun e => hk (by rw [← e]))]⟩
theorem KeepB.drew {w w' : World} {b : Nat} {row : Option Nat} (h : KeepB w w' b row) : KeepB w w'.drew b row := ⟨h.os, h.tape, h.output, h.size, h.keep⟩
theorem KeepB.alloc {w w' : World} {b : Nat} {row : Option Nat} (h : KeepB w w' b row) (o : Obj) : KeepB w (w'.alloc o) b row :=
  ⟨h.os, h.tape, h.output, Nat.le_trans h.size (by simp), fun n h1 h2 h3 => (heap_alloc_old w' o (Nat.lt_of_lt_of_le h1 h.size)).trans (h.keep n h1 h2 h3)⟩
set_option maxHeartbeats 2000000 in
set_option maxRecDepth 100000 in
theorem stringX (L : Lays.n169 P ρ) (X : Builder.Extra P ρ) (b : Nat) (p v : Value) (l : List UInt8) (w : World) (hb : w.heap[b]? = some (.cells #[p, v] (ρ.t 72) (0, 0))) (hp : p = .pointer none ∨ p = .pointer (some ⟨b, 0, none⟩))
    (ho : w.ownsRowF 0 (ρ.t 5) 1 v l.length (Lib.byteCells l)) (hne : v.ownBlock ≠ some b) :
    Calls P (ρ.f 169) #[.pointer (some ⟨b, 0, none⟩)] w fun e w' => e = .returned (.string ⟨l.toArray⟩) ∧ KeepB w w' b v.ownBlock := by
  have hlt := bl_lt hb
  have mixed := L.mixed
  have t72 := L.t72; have a72 := L.a72; have z72 := L.z72; have v72 := L.v72; have u72 := run_underlying L.t72
  have t70 := L.t70; have a70 := L.a70; have z70 := L.z70; have v70 := L.v70; have u70 := run_underlying L.t70
  have t37 := L.t37; have a37 := L.a37; have z37 := L.z37; have v37 := L.v37; have u37 := run_underlying L.t37
  have t127 := L.t127; have a127 := L.a127; have z127 := L.z127; have v127 := L.v127; have u127 := run_underlying L.t127
  have t3 := L.t3; have a3 := L.a3; have z3 := L.z3; have v3 := L.v3; have u3 := run_underlying L.t3
  have t9 := L.t9; have a9 := L.a9; have z9 := L.z9; have v9 := L.v9; have u9 := run_underlying L.t9
  have t5 := X.t5; have a5 := X.a5; have z5 := X.z5; have v5 := X.v5; have u5 := run_underlying X.t5
  have hUN := Any.unsafeString_none L X
  have c1 : w.drew.cell? ⟨b, 1, none⟩ = some v := by
    have : w.drew.heap[b]? = some (.cells #[p, v] (ρ.t 72) (0, 0)) := hb
    rw [Lib.cell_of_heap this]; rfl
  rcases ho.2 with ⟨rfl, hl⟩ | ⟨g, cap, cur, fz, rfl, hbg, hg, hfz, hnc, hcm, hcs, htake⟩
  · obtain rfl : l = [] := List.length_eq_zero_iff.1 hl
    have hSD : (Builtin.unsafeSliceData_ #[(ρ.t 37)] (ρ.t 127) #[.slice none 0 0]).run P w.drew = .ok (.pointer none) w.drew := rfl
    go_enter L.f169, Body.n169_ntmps ρ
    go_wp2
    go_region_o
    all_goals (go_wp2; go_ret; exact ⟨rfl, (KeepB.refl w b _).drew⟩)
  · by_cases h0 : l = []
    · subst h0
      by_cases hc0 : cap = 0
      · subst hc0
        have hSD : (Builtin.unsafeSliceData_ #[(ρ.t 37)] (ρ.t 127) #[.slice (some ⟨g, 0, none⟩) 0 0]).run P w.drew = .ok (.pointer (some ⟨w.drew.heap.size, 0, none⟩)) (w.drew.alloc (.view ⟨g, 0, none⟩ (ρ.t 5))) :=
          Lib.run_unsafeSliceData_zero w.drew _ _ (ρ.t 5) L.t127 ⟨g, 0, none⟩ 0 ((ρ.t 5), cur.size) (by have hg' : w.drew.heap[g]? = some (.cells cur (ρ.t 5) fz) := hg; simp [World.shape?, hg'])
        have c2 : (w.drew.alloc (.view ⟨g, 0, none⟩ (ρ.t 5))).cell? ⟨b, 1, none⟩ = some (.slice (some ⟨g, 0, none⟩) 0 0) := by
          have : (w.drew.alloc (.view ⟨g, 0, none⟩ (ρ.t 5))).heap[b]? = _ := (heap_alloc_old w.drew _ hlt).trans hb
          rw [Lib.cell_of_heap this]; rfl
        have c3 : (w.alloc (.view ⟨g, 0, none⟩ (ρ.t 5))).drew.cell? ⟨b, 1, none⟩ = some (.slice (some ⟨g, 0, none⟩) 0 0) := c2
        have c0 : w.cell? ⟨b, 1, none⟩ = some (.slice (some ⟨g, 0, none⟩) 0 0) := c1
        go_enter L.f169, Body.n169_ntmps ρ
        go_wp2
        go_region_o
        all_goals (go_wp2; go_ret; exact ⟨rfl, ((KeepB.refl w b _).drew).alloc _⟩)
      · have hSD : (Builtin.unsafeSliceData_ #[(ρ.t 37)] (ρ.t 127) #[.slice (some ⟨g, 0, none⟩) 0 cap]).run P w.drew = .ok (.pointer (some ⟨g, 0, none⟩)) w.drew :=
          Lib.run_unsafeSliceData_row _ _ _ _ _ _ hc0
        clear hc0
        go_enter L.f169, Body.n169_ntmps ρ
        go_wp2
        go_region_o
        all_goals (go_wp2; go_ret; exact ⟨rfl, (KeepB.refl w b _).drew⟩)
    · have hl0 : l.length ≠ 0 := by simpa using h0
      have hSD : (Builtin.unsafeSliceData_ #[(ρ.t 37)] (ρ.t 127) #[.slice (some ⟨g, 0, none⟩) l.length cap]).run P w.drew = .ok (.pointer (some ⟨g, 0, none⟩)) w.drew :=
        Lib.run_unsafeSliceData_row _ _ _ _ _ _ (by omega)
      have hUS : (Builtin.unsafeString_ #[(ρ.t 127), (ρ.t 3)] (ρ.t 9) #[.pointer (some ⟨g, 0, none⟩), .int .i64 l.length]).run P w.drew = .ok (.string ⟨l.toArray⟩) (w.drew.freeze ⟨g, 0, none⟩ l.length) := by
        refine Lib.run_unsafeString_row w.drew (ρ.t 127) (ρ.t 3) (ρ.t 9) (ρ.t 5) L.t127 X.cellsByte g cur.size (by have hg' : w.drew.heap[g]? = some (.cells cur (ρ.t 5) fz) := hg; simp [World.shape?, hg']) l h0 (by omega) (by unfold maxLen at hcm; omega) ?_
        intro j x hx
        exact ho.cells (g := g) rfl j (.int .u8 x.toNat) (by simp [Lib.byteCells, hx])
      clear hUN
      go_enter L.f169, Body.n169_ntmps ρ
      go_wp2
      go_region_o
      all_goals (go_wp2; go_ret; exact ⟨rfl, (KeepB.refl w b _).drew.trans (KeepB.freeze _ b g _)⟩)
end Go.Eng

/- The engine, part 47: builders' methods as contracts. No program in sight. -/
set_option linter.unusedVariables false
set_option linter.unusedSectionVars false
namespace Go.Eng
open Go Go.Proofs Go.Shelf Go.Lib
variable {P : Program} {ρ : Ren} [GTab]
theorem bld_ne {w : World} {S : Nat → Prop} {b : Bk} {T E : TypeId} {q : Option Nat} {x : List UInt8} (r : HRel w S [(b, .bld T E q x)]) {n : Nat} (hn : b.blk = some n) : q ≠ some n := by
  have h := r.nodup
  intro e
  subst e
  simp [eb, Ob.more, hn] at h
theorem bytesC (x : List UInt8) : strCells ⟨x.toArray⟩ = Lib.byteCells x := rfl
theorem bld_write {f : FuncId} {T E : TypeId} (hd : ¬ GTab.dr) (hW : WriteSpec P f T E) {b : Bk} {q : Option Nat} {x s y : List UInt8} (h : bldW x s = some y) :
    ACall P f [.ptr b 0, .str s] [(b, .bld T E q x)] (T1 (fun q' => [(b, .bld T E q'.blk y)]) (fun _ => .tup [I s.length, .raw .nilIface])) := by
  obtain ⟨rfl, hl⟩ := bldW_some h
  intro w S vs r hlen ha
  match vs, hlen with
  | ⟨[u0, u1]⟩, _ =>
    have hs := (ha 1 _ _ rfl rfl).str_inv
    obtain ⟨m, hm, hu⟩ := (ha 0 _ _ rfl rfl).ptr_inv
    subst hs hu
    obtain ⟨n, p, v, g1, g2, g3, g4, g5⟩ := r.holds _ (List.mem_singleton.2 rfl)
    obtain rfl : n = m := by rw [g1] at hm; exact Option.some.inj hm
    have hq := bld_ne r hm
    have hx : (Lib.byteCells x).length = x.length := Lib.byteCells_length x
    have hsz : (⟨s.toArray⟩ : ByteArray).size = s.length := by simp [ByteArray.size]
    refine (hW n p v (Lib.byteCells x) ⟨s.toArray⟩ w g2 g3 (by rw [hx]; exact g4) (by rw [g5]; exact hq) (by rw [hx, hsz]; omega)).mono ?_
    rintro e w' ⟨rfl, v', k1, k2, k3, k4⟩
    rw [g5] at k3 k4
    have hh : Holds w' S b (.bld T E v'.ownBlock (x ++ s)) := ⟨n, _, v', g1, k1, .inr rfl, by
      rw [hx, hsz, bytesC, ← Lib.byteCells_append] at k2
      rw [List.length_append]; exact k2, rfl⟩
    obtain ⟨r1, r2⟩ := bld_rel r .here k4.os k4.tape k4.output k4.size (fun hh => absurd hh hd) (fun i h1 h2 h3 => k4.keep i h1 (fun e => h2 (by rw [e]; exact g1)) h3) hh k3
    refine ⟨_, _, _, S, rfl, ⟨⟨v'.ownBlock, 0⟩, rfl, rfl⟩, ?_, r1, r2⟩
    rw [hsz]
    refine .tup _ _ rfl (fun i c u hc hu => ?_)
    match i with
    | 0 => simp at hc hu; subst hc hu; exact .int _ _
    | 1 => simp at hc hu; subst hc hu; exact .raw _
    | i + 2 => simp at hc
theorem bld_len (L : Lays.n170 P ρ) {b : Bk} {q : Option Nat} {x : List UInt8} :
    ACall P (ρ.f 170) [.ptr b 0] [(b, .bld (ρ.t 72) (ρ.t 5) q x)] (T0 [(b, .bld (ρ.t 72) (ρ.t 5) q x)] (I x.length)) := by
  intro w S vs r hlen ha
  match vs, hlen with
  | ⟨[u0]⟩, _ =>
    obtain ⟨m, hm, hu⟩ := (ha 0 _ _ rfl rfl).ptr_inv
    subst hu
    obtain ⟨n, p, v, g1, g2, g3, g4, g5⟩ := r.holds _ (List.mem_singleton.2 rfl)
    obtain rfl : n = m := by rw [g1] at hm; exact Option.some.inj hm
    have hq := bld_ne r hm
    have hA : Lib.BuilderAtF (ρ.t 72) (ρ.t 5) 0 n p (Lib.byteCells x) w := ⟨Nat.zero_le _, v, g2, by rw [Lib.byteCells_length]; exact g4, by rw [g5]; exact hq⟩
    have hI : Lib.IsBuilderF (ρ.t 72) (ρ.t 5) 0 n (Lib.byteCells x) w := by
      rcases g3 with rfl | rfl
      · exact .inl hA
      · exact .inr hA
    refine (Any.Builder_Len_f L 0 n (Lib.byteCells x) w hI).mono ?_
    rintro e w' ⟨rfl, rfl⟩
    refine ⟨_, _, _, S, rfl, ⟨rfl, rfl⟩, ?_, r, Evo.refl _ _ _⟩
    rw [Lib.byteCells_length]
    exact .int _ _
theorem bld_string (hd : ¬ GTab.dr) (L : Lays.n169 P ρ) (X : Builder.Extra P ρ) {b : Bk} {q : Option Nat} {x : List UInt8} :
    ACall P (ρ.f 169) [.ptr b 0] [(b, .bld (ρ.t 72) (ρ.t 5) q x)] (T0 [] (.str x)) := by
  intro w S vs r hlen ha
  match vs, hlen with
  | ⟨[u0]⟩, _ =>
    obtain ⟨m, hm, hu⟩ := (ha 0 _ _ rfl rfl).ptr_inv
    subst hu
    obtain ⟨n, p, v, g1, g2, g3, g4, g5⟩ := r.holds _ (List.mem_singleton.2 rfl)
    obtain rfl : n = m := by rw [g1] at hm; exact Option.some.inj hm
    have hq := bld_ne r hm
    refine (stringX L X n p v x w g2 g3 g4 (by rw [g5]; exact hq)).mono ?_
    rintro e w' ⟨rfl, k⟩
    rw [g5] at k
    have hin : ∀ i, b.blk = some i ∨ q = some i → i ∈ eb (b, Ob.bld (ρ.t 72) (ρ.t 5) q x) := fun i hi => by simp [eb, Ob.more]; exact hi
    have nS : ∀ i, S i → i ≠ n ∧ q ≠ some i := fun i hi => ⟨fun e => ((r.sep _ (List.mem_singleton.2 rfl) i (hin i (.inl (by rw [e]; exact g1)))).1 hi).elim, fun e => ((r.sep _ (List.mem_singleton.2 rfl) i (hin i (.inr e))).1 hi).elim⟩
    have keep : ∀ i, S i → S i ∧ w'.heap[i]? = w.heap[i]? := fun i hi => ⟨hi, k.keep i (r.slt i hi) (nS i hi).1 (nS i hi).2⟩
    refine ⟨_, _, [], S, rfl, ⟨rfl, rfl⟩, .str _, ⟨by simp, fun e he => absurd he (by simp), fun e he => absurd he (by simp), fun i hi => Nat.lt_of_lt_of_le (r.slt i hi) k.size, fun g o ho => ⟨(r.glob g o ho).1, gkeep (keep g (r.glob g o ho).1).2 (r.glob g o ho).2⟩⟩, ⟨k.os, k.tape, k.output, k.size, keep, ?_, ?_, fun hh => absurd hh hd⟩⟩
    · intro i hi hh
      refine ⟨k.keep i hi (fun e => hh ⟨_, List.mem_singleton.2 rfl, hin i (.inl (by rw [e]; exact g1))⟩) (fun e => hh ⟨_, List.mem_singleton.2 rfl, hin i (.inr e)⟩), id⟩
    · rintro i ⟨e, he, _⟩
      exact absurd he (by simp)
end Go.Eng

/- The engine, part 48: an operation in a region with tokens that looks at a value told of new memory, and whose result is told without it. No program in sight. -/
set_option linter.unusedVariables false
set_option linter.unusedSectionVars false
namespace Go.Eng
open Go
variable [GTab]
section rules
variable {P : Program} {all : Array Oper} {n : Nat} {B : Heap} {tk : List Tok} {dy : List Nat} {i : Nat} {rest : List Oper} {tm : List (Nat × AV)} {acc : (Nat → Bk) → List (Nat × AV)} {Q : (Nat → Bk) → List (Nat × AV) → Prop} {d : Nat} {ty : TypeId} {pos : String} {af : Array Edge} {op : Op}
end rules
end Go.Eng

/- The engine, part 49: room for a new builder. No program in sight. -/
set_option linter.unusedVariables false
set_option linter.unusedSectionVars false
namespace Go.Eng
open Go Go.Proofs Go.Shelf Go.Lib
variable {P : Program} [GTab]
/-- What Grow does for a builder that holds nothing. -/
def GrowSpec (P : Program) (f : FuncId) (T E : TypeId) : Prop := ∀ (b n : Nat) (p : Value) (w : World), w.heap[b]? = some (.cells #[p, .slice none 0 0] T (0, 0)) → (p = .pointer none ∨ p = .pointer (some ⟨b, 0, none⟩)) → n ≤ 281474976710656 →
    Calls P f #[.pointer (some ⟨b, 0, none⟩), .int .i64 n] w fun e w' => e = .returned (.tuple #[]) ∧
      ∃ v', w'.heap[b]? = some (.cells #[.pointer (some ⟨b, 0, none⟩), v'] T (0, 0)) ∧ w'.ownsRowF 0 E 1 v' 0 [] ∧ (v'.ownBlock = none ∨ ∃ m, v'.ownBlock = some m ∧ w.heap.size ≤ m) ∧ KeepB w w' b none
def bldG (n : Int) : Option Unit := if 0 ≤ n ∧ n ≤ 281474976710656 then some () else none
theorem bld_grow {f : FuncId} {T E : TypeId} (hd : ¬ GTab.dr) (hG : GrowSpec P f T E) {b : Bk} {n : Int} {u : Unit} (h : bldG n = some u) :
    ACall P f [.ptr b 0, I n] [(b, .bld T E none [])] (T1 (fun q' => [(b, .bld T E q'.blk [])]) (fun _ => .tup [])) := by
  obtain ⟨h0, h1⟩ : 0 ≤ n ∧ n ≤ 281474976710656 := by
    unfold bldG at h
    split at h
    · assumption
    · cases h
  intro w S vs r hlen ha
  match vs, hlen with
  | ⟨[u0, u1]⟩, _ =>
    have hs := (ha 1 _ _ rfl rfl).int_inv
    obtain ⟨m, hm, hu⟩ := (ha 0 _ _ rfl rfl).ptr_inv
    subst hs hu
    obtain ⟨k, p, v, g1, g2, g3, g4, g5⟩ := r.holds _ (List.mem_singleton.2 rfl)
    obtain rfl : k = m := by rw [g1] at hm; exact Option.some.inj hm
    obtain rfl : v = .slice none 0 0 := by
      rcases g4.2 with ⟨hv, _⟩ | ⟨g, cap, cur, fz, hv, _⟩
      · exact hv
      · rw [hv] at g5; simp [Value.ownBlock] at g5
    have hn : ((n.toNat : Nat) : Int) = n := Int.toNat_of_nonneg h0
    have hc := hG k n.toNat p w g2 g3 (by omega)
    rw [hn] at hc
    refine hc.mono ?_
    rintro e w' ⟨rfl, v', k1, k2, k3, k4⟩
    have hh : Holds w' S b (.bld T E v'.ownBlock []) := ⟨k, _, v', g1, k1, .inr rfl, k2, rfl⟩
    obtain ⟨r1, r2⟩ := bld_rel r .here k4.os k4.tape k4.output k4.size (fun hh => absurd hh hd) (fun i h1 h2 h3 => k4.keep i h1 (fun e => h2 (by rw [e]; exact g1)) (by simp)) hh k3
    exact ⟨_, _, _, S, rfl, ⟨⟨v'.ownBlock, 0⟩, rfl, rfl⟩, .tup _ _ rfl (fun i c u hc hu => by simp at hc), r1, r2⟩
end Go.Eng

/- The engine, part 50: 'a and b', 'a or b' of plain truths, in a region with tokens: without two ways. No program in sight. -/
set_option linter.unusedVariables false
set_option linter.unusedSectionVars false
namespace Go.Eng
open Go
variable [GTab]
theorem lk_rst_mem : ∀ {ls : List Nat} {tm : List (Nat × AV)} {s : Nat} {av : AV}, s ∈ ls → lk tm s = some av → lk (rst ls tm) s = some av
  | [], tm, s, av, h, _ => by cases h
  | k :: ls, tm, s, av, h, hs => by
    by_cases e : k = s
    · subst e
      simp only [rst, hs, lk]; simp
    · have hm : s ∈ ls := by rcases List.mem_cons.1 h with h | h; exact absurd h.symm e; exact h
      have ih := lk_rst_mem hm hs
      simp only [rst]
      split
      · simp only [lk]; rw [nbeq_f' e]; exact ih
      · exact ih
section rules
variable {P : Program} {all : Array Oper} {rest : List Oper} {n : Nat} {tm : List (Nat × AV)} {hp : Heap} {Q : List (Nat × AV) → Prop} {d1 d2 j s x : Nat} {t1 t2 : TypeId} {p1 p2 : String} {a1 a2 : Array Edge} {a b : Bool}
theorem AM.andG (hj : (all[j]?).bind (·.dst) = some s) (hs : lk tm s = some (.bool a)) (hx : lk tm x = some (.bool b)) (hn1 : Nat.blt d1 n = true) (hn2 : Nat.blt d2 n = true) (hne : Nat.beq d1 s = false)
    (k : AM P all n hp rest ((d2, .bool (a && b)) :: (d1, if a = true then .bool b else .raw undef) :: tm) Q) :
    AM P all n hp (⟨some d1, .move (.tmp x), t1, p1, a1, some (j, true)⟩ :: ⟨some d2, .pick (.tmp s) (.tmp d1) (.const (.bool false)), t2, p2, a2, none⟩ :: rest) tm Q := by
  have hls : ∀ av, lk ((d1, av) :: tm) s = lk tm s := fun av => by simp only [lk]; rw [hne]
  have hld : ∀ av, lk ((d1, av) :: tm) d1 = some av := fun av => by simp [lk]
  cases a with
  | true =>
    refine AM.guard_yes hj hs rfl (AM.qv (q_move (lk_rst_mem (by simp [looks, Op.operands]) hx)) hn1 ?_)
    exact AM.qv (q_pick_t (lk_rst_mem (by simp [looks, Op.operands]) ((hls _).trans hs)) (lk_rst_mem (by simp [looks, Op.operands]) (hld _))) hn2 (by simpa using k)
  | false =>
    refine AM.guard_no hj hs rfl hn1 ?_
    exact AM.qv (q_pick_f (lk_rst_mem (by simp [looks, Op.operands]) ((hls _).trans hs)) rfl) hn2 (by simpa using k)
end rules
end Go.Eng

