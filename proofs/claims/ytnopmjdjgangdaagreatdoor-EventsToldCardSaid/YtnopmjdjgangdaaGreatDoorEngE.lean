/- The engine: abstract values, the symbolic heap, one rule for each operation. No program in sight. -/
import Derived.Test.YtnopmjdjgangdaaGreatDoorEngD
import Derived.Laws.Runes
import Derived.Laws.Concat
import Derived.Lib.LaidU8
import Derived.Lib.LaidTab
import Derived.HandedShaped
import Derived.Lib.ConvBytes
import Derived.Shelf.Strings.BuilderF
/- The engine, part 36: delete in a map; pointers that may be nil; calls with several new arrays. No program in sight. -/
set_option linter.unusedVariables false
set_option linter.unusedSimpArgs false
set_option linter.unusedSectionVars false
namespace Go.Eng
open Go
variable [GTab]

@[reducible] def TM {X : Type} (o : Option X) (A : AV → Heap → Prop) (B : X → AV → Heap → Prop) : AV → Heap → Prop := match o with
  | none => A
  | some x => B x
def T3 {α0 α1 α2 : Type} (H : α0 → α1 → α2 → Heap) (V : α0 → α1 → α2 → AV) : AV → Heap → Prop := fun v h => ∃ b0 b1 b2, h = H b0 b1 b2 ∧ v = V b0 b1 b2
section rules
variable {P : Program} {all : Array Oper} {rest : List Oper} {n : Nat} {tm : List (Nat × AV)} {hp : Heap} {Q : St → Prop} {d : Nat} {ty : TypeId} {pos : String} {af : Array Edge}
theorem t_call3 {α0 α1 α2 : Type} {f : FuncId} {args : List Operand} {ts : Array TypeId} {l l' : List AV} {h0 hr : Heap} {H H' : α0 → α1 → α2 → Heap} {V : α0 → α1 → α2 → AV} [IsFn P f] (hl : evL tm args = some l) (c : ACall P f l' h0 (T3 H V)) (co : CoL hp l l') (hs : Sel hp h0 hr) (ha : ∀ b0 b1 b2, appO (H b0 b1 b2) hr = some (H' b0 b1 b2)) (hn : Nat.blt d n = true)
    (kk : ∀ b0 b1 b2, ARun P all rest ⟨n, (d, V b0 b1 b2) :: tm, H' b0 b1 b2⟩ Q) : ARun P all (⟨some d, .call { callee := .value (.func f), args := args.toArray, argTypes := ts }, ty, pos, af, none⟩ :: rest) ⟨n, tm, hp⟩ Q :=
  t_call hl c co hs hn (fun r h' ⟨b0, b1, b2, e1, e2⟩ => by subst e1; subst e2; rw [appO_eq (ha b0 b1 b2)]; exact kk b0 b1 b2)
end rules

section rules
variable {P : Program} {all : Array Oper} {n : Nat} {B : Heap} {tk : List Tok} {dy : List Nat} {i : Nat} {rest : List Oper} {tm tm' : List (Nat × AV)} {acc : (Nat → Bk) → List (Nat × AV)} {Q : (Nat → Bk) → List (Nat × AV) → Prop} {d : Nat} {ty : TypeId} {pos : String} {af : Array Edge} {op : Op}
end rules
end Go.Eng

/- The engine, part 37: pools: memory that a map's entries own. No program in sight. -/
set_option linter.unusedVariables false
set_option linter.unusedSimpArgs false
set_option linter.unusedSectionVars false
namespace Go.Eng
open Go
variable [GTab]

theorem eb_pool (b : Bk) (es : List (Bk × PO)) (n : Nat) : n ∈ eb (b, .pool es) ↔ b.blk = some n ∨ ∃ e ∈ es, e.1.blk = some n := by
  simp [eb, Ob.more, List.mem_filterMap]
theorem eb_pobk (e : Bk × PO) : eb (e.1, e.2.ob) = e.1.blk.toList := by
  obtain ⟨b, o⟩ := e
  cases o <;> simp [eb, Ob.more, PO.ob]
/-- What a heap's entries are, told with a piece of a pool outside. -/
theorem pool_take {w : World} {S : Nat → Prop} {hp hp' : Heap} {bp : Bk} {es es' : List (Bk × PO)} {x : Bk × PO} (r : HRel w S hp) (u : Upd hp bp (.pool es) bp (.pool es') hp') (hperm : es.Perm (x :: es')) :
    HRel w S ((x.1, x.2.ob) :: hp') ∧ Evo w S hp w S ((x.1, x.2.ob) :: hp') := by
  obtain ⟨p, q, rfl, rfl⟩ := u.split
  obtain ⟨hb0, hall⟩ : bp.blk = none ∧ ∀ e ∈ es, HoldsP w S e.1 e.2 := r.holds (bp, .pool es) (mem_mid.2 (.inl rfl))
  have hsub : ∀ e ∈ es', e ∈ es := fun e he => hperm.mem_iff.2 (List.mem_cons_of_mem _ he)
  have hx : x ∈ es := hperm.mem_iff.2 (by simp)
  have hfro : x.2.ob.isFro ↔ False := by cases x.2 <;> exact Iff.rfl
  have hebs : ∀ n, n ∈ eb (bp, .pool es) ↔ n ∈ eb (x.1, x.2.ob) ∨ n ∈ eb (bp, .pool es') := by
    intro n
    rw [eb_pool, eb_pool, eb_pobk, hb0]
    constructor
    · rintro (h | ⟨e, he, hn⟩)
      · cases h
      · rcases List.mem_cons.1 (hperm.mem_iff.1 he) with rfl | he
        · exact .inl (by simp [hn])
        · exact .inr (.inr ⟨e, he, hn⟩)
    · rintro (h | h | ⟨e, he, hn⟩)
      · exact .inr ⟨x, hx, by simpa using h⟩
      · cases h
      · exact .inr ⟨e, hsub e he, hn⟩
  have hasI : ∀ n, Has ((x.1, x.2.ob) :: (p ++ (bp, .pool es') :: q)) n ↔ Has (p ++ (bp, .pool es) :: q) n := by
    intro n
    constructor
    · rintro ⟨e, he, hn⟩
      rcases List.mem_cons.1 he with rfl | he
      · exact ⟨_, mem_mid.2 (.inl rfl), (hebs n).2 (.inl hn)⟩
      · rcases mem_mid.1 he with rfl | he
        · exact ⟨_, mem_mid.2 (.inl rfl), (hebs n).2 (.inr hn)⟩
        · exact ⟨e, mem_mid.2 (.inr he), hn⟩
    · rintro ⟨e, he, hn⟩
      rcases mem_mid.1 he with rfl | he
      · rcases (hebs n).1 hn with h | h
        · exact ⟨_, List.mem_cons_self, h⟩
        · exact ⟨_, List.mem_cons_of_mem _ (mem_mid.2 (.inl rfl)), h⟩
      · exact ⟨e, List.mem_cons_of_mem _ (mem_mid.2 (.inr he)), hn⟩
  have hpn : (((x.1, x.2.ob) :: (p ++ (bp, .pool es') :: q)).flatMap eb).Perm ((p ++ (bp, .pool es) :: q).flatMap eb) := by
    have e1 : (eb (bp, .pool es)).Perm (eb (x.1, x.2.ob) ++ eb (bp, .pool es')) := by
      rw [eb_pobk]
      simp only [eb, Ob.more, hb0, Option.toList_none, List.nil_append]
      refine (hperm.filterMap _).trans ?_
      rw [List.filterMap_cons]
      cases x.1.blk <;> simp
    rw [List.flatMap_cons, List.flatMap_append, List.flatMap_append, List.flatMap_cons, List.flatMap_cons]
    refine List.Perm.trans ?_ ((e1.symm.append_right _).append_left _)
    rw [← List.append_assoc, ← List.append_assoc, ← List.append_assoc, ← List.append_assoc]
    refine (List.Perm.append_right _ ?_)
    exact (List.perm_append_comm.append_right _)
  refine ⟨⟨(hpn.nodup_iff).2 r.nodup, ?_, ?_, r.slt, r.glob⟩, ⟨rfl, rfl, rfl, Nat.le_refl _, fun n hn => ⟨hn, rfl⟩, fun n _ _ => ⟨rfl, id⟩, fun n hn => .inl ((hasI n).1 hn), fun _ => Nat.le_refl _⟩⟩
  · intro e he
    rcases List.mem_cons.1 he with rfl | he
    · exact HoldsP.ob.1 (hall x hx)
    · rcases mem_mid.1 he with rfl | he
      · exact ⟨hb0, fun e he => hall e (hsub e he)⟩
      · exact r.holds e (mem_mid.2 (.inr he))
  · intro e he n hn
    rcases List.mem_cons.1 he with rfl | he
    · have := r.sep (bp, .pool es) (mem_mid.2 (.inl rfl)) n ((hebs n).2 (.inl hn))
      exact ⟨fun h => (this.1 h).elim, fun h => (hfro.1 h).elim⟩
    · rcases mem_mid.1 he with rfl | he
      · have := r.sep (bp, .pool es) (mem_mid.2 (.inl rfl)) n ((hebs n).2 (.inr hn))
        exact ⟨fun h => (this.1 h).elim, fun h => h.elim⟩
      · exact r.sep e (mem_mid.2 (.inr he)) n hn
end Go.Eng

/- The engine, part 38: maps whose entries own memory: slices and pointers. No program in sight. -/
set_option linter.unusedVariables false
set_option linter.unusedSimpArgs false
set_option linter.unusedSectionVars false
namespace Go.Eng
open Go
variable [GTab]

/-- How the values of a map are kept: what stands in the map, what lies in memory. -/
structure Kept (V : Type) where
  val : Bk → V → AV
  po : V → PO
section plain
variable {K V : Type}
variable [DecidableEq K]
variable [KLt K]
theorem mset_perm (M : List (K × V)) (k : K) (v : V) : (mset M k v).Perm ((k, v) :: mdel M k) := mins_perm k v _
end plain
section rules
variable {P : Program} {all : Array Oper} {rest : List Oper} {n : Nat} {tm : List (Nat × AV)} {hp : Heap} {Q : St → Prop} {d : Nat} {ty : TypeId} {pos : String} {af : Array Edge}
end rules
section rules
variable {P : Program} {all : Array Oper} {rest : List Oper} {n : Nat} {tm : List (Nat × AV)} {hp : Heap} {Q : St → Prop} {d : Nat} {ty : TypeId} {pos : String} {af : Array Edge}
end rules
section rules
variable {P : Program} {all : Array Oper} {rest : List Oper} {n : Nat} {tm : List (Nat × AV)} {hp : Heap} {Q : St → Prop} {d : Nat} {ty : TypeId} {pos : String} {af : Array Edge}
end rules
end Go.Eng

/- The engine, part 39: lists of strings that functions of the library make; tables that are read by name. No program in sight. -/
set_option linter.unusedVariables false
set_option linter.unusedSimpArgs false
set_option linter.unusedSectionVars false
namespace Go.Eng
open Go
variable [GTab]

/-- The cells of a row of a table. -/
def rowOf (o : Option Obj) : Option (Array Value) := match o with
  | some (.cells vs _ _) => some vs
  | _ => none
theorem var_row {P : Program} {w : World} {name : String} {g : Nat} (hg : P.globalNamed name = some g) : w.var? P name = rowOf (w.heap[g]?) := by
  unfold World.var?
  rw [hg]
  rfl
theorem flat_strs (xs : List (List UInt8)) : flat (xs.map AV.str) = xs.map AV.str := flat_ones (fun _ => rfl) xs
theorem fresh_strs {w : World} {S : Nat → Prop} (r : HRel w S []) (xs : List (List UInt8)) (E : TypeId) {vs : Array Value} (hv : vs = (xs.map fun s => Value.string ⟨s.toArray⟩).toArray) :
    At (w.alloc (.cells vs E)) S (.sl 1 ⟨some w.heap.size, xs.length⟩ 0 xs.length) (.slice (some ⟨w.heap.size, 0, none⟩) xs.length xs.length) ∧
      HRel (w.alloc (.cells vs E)) S [(⟨some w.heap.size, xs.length⟩, .arr 1 (xs.map AV.str))] ∧ Evo w S [] (w.alloc (.cells vs E)) S [(⟨some w.heap.size, xs.length⟩, .arr 1 (xs.map AV.str))] := by
  subst hv
  have e0 := Ext.alloc w (.cells (xs.map fun s => Value.string ⟨s.toArray⟩).toArray E)
  have hh : Holds (w.alloc (.cells (xs.map fun s => Value.string ⟨s.toArray⟩).toArray E)) S ⟨some w.heap.size, xs.length⟩ (.arr 1 (xs.map AV.str)) := by
    refine ⟨fun x hx => ?_, by simp, .inr ⟨w.heap.size, (xs.map fun s => Value.string ⟨s.toArray⟩).toArray, E, rfl, ?_, by simp, ?_⟩⟩
    · obtain ⟨s, _, rfl⟩ := List.mem_map.1 hx
      exact ⟨rfl, fun c hc => by rw [List.mem_singleton.1 hc]; rfl⟩
    · show (w.heap.push _)[w.heap.size]? = _
      simp
    · rw [flat_strs]
      intro i c v hc hv
      simp only [List.getElem?_map, List.getElem?_toArray, Option.map_eq_some_iff] at hc hv
      obtain ⟨s, h1, rfl⟩ := hc
      obtain ⟨s', h2, rfl⟩ := hv
      rw [h1] at h2
      obtain rfl := Option.some.inj h2
      exact .str s
  obtain ⟨k1, k2, k3⟩ := add_rel r e0 id hh (.inr ⟨_, rfl, Nat.le_refl _⟩)
  refine ⟨?_, k1, k2⟩
  have := At.sl (w := w.alloc (.cells (xs.map fun s => Value.string ⟨s.toArray⟩).toArray E)) (S := S) 1 ⟨some w.heap.size, xs.length⟩ 0 xs.length w.heap.size xs.length rfl (Nat.le_refl _) (by simp)
  simpa using this
/-! ### tables -/
/-- A row of numbers. -/
def tNum (k : IntKind) (zs : List Int) (o : Option Obj) : Prop := rowOf o = some (zs.map fun z => Value.int k z).toArray
/-- A cell with a number. -/
def tInt (k : IntKind) (o : Option Obj) : Prop := ∃ vs m, rowOf o = some vs ∧ vs[0]? = some (.int k m)
theorem row_cell (w : World) (g i : Nat) {vs : Array Value} (h : rowOf (w.heap[g]?) = some vs) : w.cell? ⟨g, i, none⟩ = vs[i]? := by
  unfold World.cell?
  unfold rowOf at h
  split at h
  · rename_i vs' e f ho
    obtain rfl := Option.some.inj h
    simp [ho]
  · cases h
def tabOf : List (Nat × (Option Obj → Prop)) → Nat → Option (Option Obj → Prop)
  | [], _ => none
  | (k, o) :: r, g => if g = k then some o else tabOf r g
theorem tabOf_mem : ∀ {l : List (Nat × (Option Obj → Prop))} {g : Nat} {o : Option Obj → Prop}, tabOf l g = some o → (g, o) ∈ l
  | [], _, _, h => by cases h
  | (k, o') :: r, g, o, h => by
    unfold tabOf at h
    split at h
    · rename_i hg
      rw [hg, Option.some.inj h]; simp
    · exact List.mem_cons_of_mem _ (tabOf_mem h)
theorem row_lt {w : World} {g : Nat} {vs : Array Value} (h : rowOf (w.heap[g]?) = some vs) : g < w.heap.size := by
  rcases Nat.lt_or_ge g w.heap.size with h' | h'
  · exact h'
  · rw [Array.getElem?_eq_none h'] at h; cases h
end Go.Eng
namespace Go.Eng
open Go
section errs
variable [GTab] {P : Program} {all : Array Oper} {rest : List Oper} {n : Nat} {tm : List (Nat × AV)} {hp : Heap} {Q : St → Prop} {d : Nat} {ty : TypeId} {pos : String} {af : Array Edge}
/-- string(r) for a number r. -/
def strR (n : Int) : List UInt8 := (Utf8.encode n).data.toList
theorem q_conv_is {src dst : TypeId} {D : TypeDesc} {x : Operand} {k : IntKind} {i : Int} [TUnder P src D] [TUnder P dst .string] (hx : evA tm x = some (.int k i)) : QV P ⟨some d, .convert src dst x, ty, pos, af, none⟩ ⟨n, tm, hp⟩ (.str (strR i)) := by
  intro w S a r
  refine ⟨.string (Utf8.encode i), fun w1 _ => ?_, .str (strR i)⟩
  have h := run_convert_int_string w1 src dst k i (P := P) (by rw [TUnder.h (P := P) (t := src)]; rfl) (TUnder.h (P := P) (t := dst))
  simp only [execOp, (evA_at (σ := ⟨n, tm, hp⟩) r hx).int_inv, Sem.run_bind, h, Result.andThen_ok]
  rfl
/-- Two strings, one behind the other. -/
def catO (a b : List UInt8) : Option (List UInt8) := if a.length + b.length ≤ 9223372036854775807 then some (a ++ b) else none
theorem q_sadd {xt yt : TypeId} {x y : Operand} {s t r : List UInt8} (h : catO s t = some r) (hx : evA tm x = some (.str s)) (hy : evA tm y = some (.str t)) : QV P ⟨some d, .binOp .add xt x y yt, ty, pos, af, none⟩ ⟨n, tm, hp⟩ (.str r) := by
  unfold catO at h
  split at h
  · rename_i hs
    obtain rfl := Option.some.inj h
    refine fun w S a r => ⟨.string (⟨s.toArray⟩ ++ ⟨t.toArray⟩), fun w1 _ => ?_, ?_⟩
    · have h1 := run_string_add_sum (P := P) (w := w1) (⟨s.toArray⟩ : ByteArray) (⟨t.toArray⟩ : ByteArray) (by simpa [ByteArray.size] using hs)
      simp [execOp, (evA_at (σ := ⟨n, tm, hp⟩) r hx).str_inv, (evA_at (σ := ⟨n, tm, hp⟩) r hy).str_inv, eqGuard, binOp, h1]
    · have : ((⟨s.toArray⟩ : ByteArray) ++ ⟨t.toArray⟩) = ⟨(s ++ t).toArray⟩ := by apply ByteArray.ext; simp
      rw [this]
      exact .str _
  · cases h
end errs
end Go.Eng

/- The engine, part 40: arrays of a fixed length whose elements are one cell each. No program in sight. -/
set_option linter.unusedVariables false
set_option linter.unusedSimpArgs false
set_option linter.unusedSectionVars false
namespace Go.Eng
open Go
variable [GTab]
section rules
variable {P : Program} {all : Array Oper} {rest : List Oper} {n : Nat} {tm : List (Nat × AV)} {hp : Heap} {Q : St → Prop} {d : Nat} {ty : TypeId} {pos : String} {af : Array Edge}
end rules
end Go.Eng

/- The engine, part 41: from what a row lays to the tables that the engine speaks of. No program in sight. -/
set_option linter.unusedVariables false
set_option linter.unusedSimpArgs false
namespace Go.Eng
open Go Go.Lib
variable [GTab]
set_option linter.unusedSectionVars false
theorem row_of_cell {w : World} {g : Nat} {v : Value} (h : w.cell? ⟨g, 0, none⟩ = some v) : ∃ vs, rowOf (w.heap[g]?) = some vs ∧ vs[0]? = some v := by
  unfold World.cell? at h
  cases ho : w.heap[g]? with
  | none => simp [ho] at h
  | some o =>
    cases o with
    | cells vs e f => exact ⟨vs, rfl, by simpa [ho] using h⟩
    | _ => simp [ho] at h
theorem int_row {w : World} {g : Nat} {k : IntKind} {m : Int} (h : w.cell? ⟨g, 0, none⟩ = some (.int k m)) : g < w.heap.size ∧ tInt k (w.heap[g]?) := by
  obtain ⟨vs, h1, h2⟩ := row_of_cell h
  exact ⟨row_lt h1, vs, m, h1, h2⟩
theorem num_row {P : Program} {W : World} {name : String} {k : IntKind} {zs : List Int} {g : Nat} {t e : TypeId} {n : Nat}
    (hg : P.globalNamed name = some g) (hty : (P.globals[g]?).map (·.type) = some t) (ht : P.underlying t = some (.array n e)) (he : P.underlying e = some (.int k)) (hce : P.cellsOf e = 1) (hct : P.cellsOf t = n)
    (h : VarReads P W name (tabData k zs)) : g < W.heap.size ∧ tNum k zs (W.heap[g]?) := by
  obtain ⟨g', t', cs, fuel, p, hg', ht', hvar, hd⟩ := h
  obtain rfl := Option.some.inj (hg.symm.trans hg')
  obtain rfl := Option.some.inj (hty.symm.trans ht')
  rw [var_row hg] at hvar
  refine ⟨row_lt hvar, ?_⟩
  unfold tNum
  rw [hvar, ← cells_of_tab ht he hce hct hd]
end Go.Eng

/- The engine, part 42: a row that lays variables, at a world that is shaped: what the kit's two forms (laid; shaped) give apart, given together. No program in sight. -/
set_option linter.unusedVariables false
namespace Go.Eng
open Go
variable {H : Type} {enc : TypeId × Value → H}
theorem handed_both {a : Assume} {C : Checked} {os : Os} {f : FuncId} {fn : Func} {s : ChangeSpec} {conds : List PathCond} {apart fresh handsOn again : Bool} {X : World → Array Value → Prop}
    (hX : ∀ (w w' : World) (args : Array Value), w.heap = w'.heap → X w args → X w' args)
    (own : ownKnob C.prog.godebug = none) (started : os.Started) (noInit : C.prog.inits.idxOf? f = none) (hfn : C.prog.funcs[f]? = some fn)
    (witness : ∃ (w : World) (tape : Tape) (i : Input), w.os = os ∧ (w.forCall tape i).Shaped C.prog ∧ i.vars = [] ∧ Input.okWide C.prog (w.forCall tape i) .any w.heap.size f i ∧
      ((s.pre enc C.prog fn conds apart (w.forCall tape i).memory i.args ∧ X (w.forCall tape i).memory i.args) ∧ sizedMet enc C.prog fn (OpenSpec.ofChange s) apart (w.forCall tape i).memory i.args) ∧ a.holds C.prog (lone (Frame.enter C.prog f i.args .normal) [] (w.forCall tape i)))
    (walk : ∀ (W : World) (base : Nat) (args : Array Value) (ds gs : List (DataW H)) (before : List MemPlace),
      (∀ (j : Nat) t v, fn.params[j]? = some t → args[j]? = some v → Value.okWide C.prog W .any base t v) →
      DataW.Whole enc C.prog fn.params.toList s.vars apart W args.toList ds gs before →
      conds.all (PathCond.test C.prog ⟨fn.params.toList, ds, s.plain.varTypes C.prog, gs⟩) = true →
      (DataW.weightsEach C.prog (fn.params.toList ++ s.plain.varTypes C.prog) (ds ++ gs)).all (· ≤ reachBytes) = true → X W args ∧ W.ShapedOpen C.prog →
      a.holds C.prog (lone (Frame.enter C.prog f args .normal) [] W) →
      Calls C.prog f args W fun e W' => ∃ v, e = .returned v ∧ s.post enc C.prog fn apart fresh handsOn again W args v W') :
    ReturnsInHanded a C os f .any (fun w args => (s.pre enc C.prog fn conds apart w args ∧ X w args) ∧ sizedMet enc C.prog fn (OpenSpec.ofChange s) apart w args) (s.post enc C.prog fn apart fresh handsOn again) := by
  refine returnsInHanded_of_calls own started noInit witness ?_
  intro w tape i _ shaped _ ok pre held
  obtain ⟨_, _, _, fn', there, _, _, _, _, vals⟩ := ok
  cases Option.some.inj (there.symm.trans hfn)
  obtain ⟨⟨⟨ds, gs, before, whole, tests⟩, x⟩, sized⟩ := pre
  have K := walk (w.forCall tape i) w.heap.size i.args ds gs before vals (DataW.Whole.of_heap (w' := w.forCall tape i) (by rfl) whole) tests (sized.weights whole) ⟨hX _ _ _ (by rfl) x, shaped⟩ held
  exact K.mono fun e W' ⟨v, he, hp⟩ => by
    subst he
    exact ChangeSpec.post_blind hp
end Go.Eng

/- The engine, part 43: a slice whose room is known; what slices.Delete does with it. No program in sight. -/
set_option linter.unusedVariables false
set_option linter.unusedSimpArgs false
set_option linter.unusedSectionVars false
namespace Go.Eng
open Go
variable [GTab]

section rules
variable {P : Program} {all : Array Oper} {rest : List Oper} {n : Nat} {tm : List (Nat × AV)} {hp : Heap} {Q : St → Prop} {d : Nat} {ty : TypeId} {pos : String} {af : Array Edge}
end rules
end Go.Eng

/- The engine, part 44: a string's bytes as a list. No program in sight. -/
set_option linter.unusedVariables false
set_option linter.unusedSimpArgs false
set_option linter.unusedSectionVars false
namespace Go.Eng
open Go
variable [GTab]

/-- A string's bytes, as numbers. -/
def bytesI (s : List UInt8) : List Int := s.map fun c => (c.toNat : Int)
theorem bytes_ext (w : World) (e : TypeId) (s : ByteArray) : Ext w (Lib.bytesWorld w e s) := by
  refine ⟨rfl, rfl, rfl, by rw [Lib.bytesWorld_size]; omega, fun n hn => Lib.bytesWorld_at_old w e s n hn, fun _ => ?_⟩
  show w.drawn ≤ w.drawn + 1
  omega
/-- One block more that is only read. -/
theorem HRel.one {w w' : World} {S : Nat → Prop} {h : Heap} (r : HRel w S h) (e : Ext w w') (hs : w.heap.size < w'.heap.size) : HRel w' (fun n => S n ∨ n = w.heap.size) h ∧ Evo w S h w' (fun n => S n ∨ n = w.heap.size) h := by
  have hlt : ∀ x ∈ h, ∀ n, n ∈ eb x → n < w.heap.size := fun x hx n hn => r.lt ⟨x, hx, hn⟩
  have hk : ∀ n, S n → (S n ∨ n = w.heap.size) ∧ w'.heap[n]? = w.heap[n]? := fun n hn => ⟨.inl hn, e.same n (r.slt n hn)⟩
  refine ⟨⟨r.nodup, fun x hx => (r.holds x hx).mono hk (fun n hn => e.same n (hlt x hx n hn)), fun x hx n hn => ⟨fun hn' => ?_, fun hf => .inl ((r.sep x hx n hn).2 hf)⟩, fun n hn => ?_, fun g o ho => ⟨.inl (r.glob g o ho).1, gkeep (e.same g (r.slt g (r.glob g o ho).1)) (r.glob g o ho).2⟩⟩,
    ⟨e.os, e.tape, e.output, e.size, hk, fun n hn _ => ⟨e.same n hn, fun hn' => ?_⟩, fun n hn => .inl hn, e.drawn⟩⟩
  · rcases hn' with h' | h'
    · exact (r.sep x hx n hn).1 h'
    · have := hlt x hx n hn; omega
  · rcases hn with h' | h'
    · exact Nat.lt_of_lt_of_le (r.slt n h') e.size
    · omega
  · rcases hn' with h' | h'
    · exact h'
    · omega
section rules
variable {P : Program} {all : Array Oper} {rest : List Oper} {n : Nat} {tm : List (Nat × AV)} {hp : Heap} {Q : St → Prop} {d : Nat} {ty : TypeId} {pos : String} {af : Array Edge}
theorem flat_intsK (k : IntKind) (xs : List Int) : flat (xs.map (AV.int k)) = xs.map (AV.int k) := flat_ones (fun _ => rfl) xs
/-- A string's bytes: a list that is only read. -/
theorem t_conv_sb {src dst e : TypeId} {D : TypeDesc} {x : Operand} {s : List UInt8} [TUnder P src D] [TUnder P dst (.slice e)] [TUnder P e (.int .u8)] (hx : evA tm x = some (.str s)) (hn : Nat.blt d n = true)
    (kk : ARun P all rest ⟨n, (d, .list 1 ((bytesI s).map (AV.int .u8))) :: tm, hp⟩ Q) : ARun P all (⟨some d, .convert src dst x, ty, pos, af, none⟩ :: rest) ⟨n, tm, hp⟩ Q := by
  refine ARun.opx rfl fun w S a r => ?_
  have e1 := (evA_at (σ := ⟨n, tm, hp⟩) r hx).str_inv
  have hrun := Lib.run_convert_string_bytes (P := P) w src dst e ⟨s.toArray⟩ (TUnder.h (P := P) (t := src)) (TUnder.h (P := P) (t := dst)) (TUnder.h (P := P) (t := e))
  have hE := bytes_ext w e ⟨s.toArray⟩
  obtain ⟨g1, g2⟩ := r.hp.one hE (by rw [Lib.bytesWorld_size]; omega)
  have hsz : (⟨s.toArray⟩ : ByteArray).size = s.length := by simp [ByteArray.size]
  have hat : At (Lib.bytesWorld w e ⟨s.toArray⟩) (fun n => S n ∨ n = w.heap.size) (.list 1 ((bytesI s).map (AV.int .u8))) (.slice (some ⟨w.heap.size, 0, none⟩) (⟨s.toArray⟩ : ByteArray).size (grownCap w (⟨s.toArray⟩ : ByteArray).size 0 e)) := by
    have hl : ((bytesI s).map (AV.int .u8)).length = (⟨s.toArray⟩ : ByteArray).size := by rw [hsz]; simp [bytesI]
    rw [← hl]
    refine .list 1 _ _ _ ((bytesI s).map fun z => Value.int .u8 z) (fun y hy => ?_) ?_ (fun i c v hc hv => ?_) (fun i v hv => ?_) ?_
    · obtain ⟨z, _, rfl⟩ := List.mem_map.1 hy
      exact ⟨rfl, fun c hc => by rw [List.mem_singleton.1 hc]; rfl⟩
    · rw [flat_intsK]; simp
    · rw [flat_intsK] at hc
      simp only [List.getElem?_map, Option.map_eq_some_iff] at hc hv
      obtain ⟨z, h1, rfl⟩ := hc
      obtain ⟨z', h2, rfl⟩ := hv
      rw [h1] at h2; obtain rfl := Option.some.inj h2
      exact .int _ _
    · have hi : i < s.length := by
        have := (List.getElem?_eq_some_iff.1 hv).1
        simpa [bytesI] using this
      refine ⟨_, rfl, rfl, .inr rfl, ?_⟩
      rw [Nat.zero_add, Lib.bytesWorld_cell w e ⟨s.toArray⟩ i (by rw [hsz]; exact hi)]
      simp only [List.getElem?_map, bytesI, Option.map_eq_some_iff] at hv
      obtain ⟨z, ⟨c, h1, rfl⟩, rfl⟩ := hv
      simp [List.getD, h1]
    · rw [hl]; exact grownCap_ge w _ 0 e
  refine ⟨_, Lib.bytesWorld w e ⟨s.toArray⟩, _, _, ?_, (r.heap g2.keep g1).put hn hat, g2, kk⟩
  simp only [execOp, e1, Sem.run_bind, hrun, Result.andThen_ok]
  rfl
end rules
end Go.Eng

/- The engine, part 45: string builders: a box and the row behind it. No program in sight. -/
set_option linter.unusedVariables false
set_option linter.unusedSectionVars false
namespace Go.Eng
open Go
variable [GTab]

section
variable {P : Program} {all : Array Oper} {rest : List Oper} {n : Nat} {tm : List (Nat × AV)} {hp : Heap} {Q : St → Prop} {d : Nat} {ty : TypeId} {pos : String} {af : Array Edge}
end
end Go.Eng

/- The engine, part 46: what a builder's methods do, told exactly. No program in sight. -/
set_option linter.unusedVariables false
set_option linter.unusedSectionVars false
namespace Go.Eng
open Go Go.Proofs Go.Shelf Go.RowKit Go.Lib

section
variable {P : Program} (w : World)
end
variable {P : Program} {ρ : Ren}
/-- What stays when only blocks b and row turn. -/
structure KeepB (w w' : World) (b : Nat) (row : Option Nat) : Prop where
  os : w'.os = w.os
  tape : w'.tape = w.tape
  output : w'.output = w.output
  size : w.heap.size ≤ w'.heap.size
  keep : ∀ n, n < w.heap.size → n ≠ b → row ≠ some n → w'.heap[n]? = w.heap[n]?
theorem KeepB.refl (w : World) (b : Nat) (row : Option Nat) : KeepB w w b row := ⟨rfl, rfl, rfl, Nat.le_refl _, fun _ _ _ _ => rfl⟩
theorem KeepB.trans {w w1 w2 : World} {b : Nat} {row : Option Nat} (h : KeepB w w1 b row) (k : KeepB w1 w2 b row) : KeepB w w2 b row :=
  ⟨k.os.trans h.os, k.tape.trans h.tape, k.output.trans h.output, Nat.le_trans h.size k.size, fun n h1 h2 h3 => (k.keep n (Nat.lt_of_lt_of_le h1 h.size) h2 h3).trans (h.keep n h1 h2 h3)⟩
theorem KeepB.set (w : World) (b : Nat) (row : Option Nat) (j : Nat) (x : Value) : KeepB w (w.setCell ⟨b, j, none⟩ x) b row :=
  ⟨rfl, rfl, rfl, by simp [World.setCell], fun n _ h _ => Below.heap_setCell _ _ _ _ (fun e => h (by simp [e]))⟩
theorem KeepB.grown {w w' : World} {b : Nat} {row : Option Nat} (h : w.grownBy w' row) : KeepB w w' b row :=
  ⟨h.os, h.tape, h.output, h.size, fun n h1 _ h3 => h.block n h1 (fun e => h3 e.symm)⟩
theorem KeepB.freeze (w : World) (b g n : Nat) : KeepB w (w.freeze ⟨g, 0, none⟩ n) b (some g) := by
  unfold World.freeze
  split
  · exact KeepB.refl w b _
  · exact ⟨rfl, rfl, rfl, by simp, fun k _ _ hk => by
      simp only [Array.getElem?_modify]
      rw [if_neg (fun e => hk (by rw [← e]))]⟩
theorem KeepB.drew {w w' : World} {b : Nat} {row : Option Nat} (h : KeepB w w' b row) : KeepB w w'.drew b row := ⟨h.os, h.tape, h.output, h.size, h.keep⟩
theorem KeepB.alloc {w w' : World} {b : Nat} {row : Option Nat} (h : KeepB w w' b row) (o : Obj) : KeepB w (w'.alloc o) b row :=
  ⟨h.os, h.tape, h.output, Nat.le_trans h.size (by simp), fun n h1 h2 h3 => (heap_alloc_old w' o (Nat.lt_of_lt_of_le h1 h.size)).trans (h.keep n h1 h2 h3)⟩
end Go.Eng

/- The engine, part 47: builders' methods as contracts. No program in sight. -/
set_option linter.unusedVariables false
set_option linter.unusedSectionVars false
namespace Go.Eng
open Go Go.Proofs Go.Shelf Go.Lib
variable {P : Program} {ρ : Ren} [GTab]
end Go.Eng

