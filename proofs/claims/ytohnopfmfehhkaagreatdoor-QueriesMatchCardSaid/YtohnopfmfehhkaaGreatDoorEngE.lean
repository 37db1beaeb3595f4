/- The engine: abstract values, the symbolic heap, one rule for each operation. No program in sight. -/
import Derived.Test.YtohnopfmfehhkaaGreatDoorEngD
import Derived.Laws.Runes
import Derived.Laws.Concat
import Derived.Lib.LaidU8
import Derived.Lib.LaidTab
import Derived.HandedShaped
import Derived.Lib.ConvBytes
import Derived.Shelf.Strings.BuilderF
/- The engine, part 36: delete in a map; pointers that may be nil; calls with several new arrays. No program in sight. -/
set_option linter.unusedVariables false
set_option linter.unusedSimpArgs false
set_option linter.unusedSectionVars false
namespace Go.Eng
open Go
variable [GTab]

@[reducible] def TM {X : Type} (o : Option X) (A : AV → Heap → Prop) (B : X → AV → Heap → Prop) : AV → Heap → Prop := match o with
  | none => A
  | some x => B x
section rules
variable {P : Program} {all : Array Oper} {rest : List Oper} {n : Nat} {tm : List (Nat × AV)} {hp : Heap} {Q : St → Prop} {d : Nat} {ty : TypeId} {pos : String} {af : Array Edge}
end rules

section rules
variable {P : Program} {all : Array Oper} {n : Nat} {B : Heap} {tk : List Tok} {dy : List Nat} {i : Nat} {rest : List Oper} {tm tm' : List (Nat × AV)} {acc : (Nat → Bk) → List (Nat × AV)} {Q : (Nat → Bk) → List (Nat × AV) → Prop} {d : Nat} {ty : TypeId} {pos : String} {af : Array Edge} {op : Op}
end rules
end Go.Eng

/- The engine, part 37: pools: memory that a map's entries own. No program in sight. -/
set_option linter.unusedVariables false
set_option linter.unusedSimpArgs false
set_option linter.unusedSectionVars false
namespace Go.Eng
open Go
variable [GTab]

end Go.Eng

/- The engine, part 38: maps whose entries own memory: slices and pointers. No program in sight. -/
set_option linter.unusedVariables false
set_option linter.unusedSimpArgs false
set_option linter.unusedSectionVars false
namespace Go.Eng
open Go
variable [GTab]

/-- How the values of a map are kept: what stands in the map, what lies in memory. -/
structure Kept (V : Type) where
  val : Bk → V → AV
  po : V → PO
section plain
variable {K V : Type}
variable [DecidableEq K]
variable [KLt K]
end plain
section rules
variable {P : Program} {all : Array Oper} {rest : List Oper} {n : Nat} {tm : List (Nat × AV)} {hp : Heap} {Q : St → Prop} {d : Nat} {ty : TypeId} {pos : String} {af : Array Edge}
end rules
section rules
variable {P : Program} {all : Array Oper} {rest : List Oper} {n : Nat} {tm : List (Nat × AV)} {hp : Heap} {Q : St → Prop} {d : Nat} {ty : TypeId} {pos : String} {af : Array Edge}
end rules
section rules
variable {P : Program} {all : Array Oper} {rest : List Oper} {n : Nat} {tm : List (Nat × AV)} {hp : Heap} {Q : St → Prop} {d : Nat} {ty : TypeId} {pos : String} {af : Array Edge}
end rules
end Go.Eng

/- The engine, part 39: lists of strings that functions of the library make; tables that are read by name. No program in sight. -/
set_option linter.unusedVariables false
set_option linter.unusedSimpArgs false
set_option linter.unusedSectionVars false
namespace Go.Eng
open Go
variable [GTab]

/-- The cells of a row of a table. -/
def rowOf (o : Option Obj) : Option (Array Value) := match o with
  | some (.cells vs _ _) => some vs
  | _ => none
theorem var_row {P : Program} {w : World} {name : String} {g : Nat} (hg : P.globalNamed name = some g) : w.var? P name = rowOf (w.heap[g]?) := by
  unfold World.var?
  rw [hg]
  rfl
theorem flat_strs (xs : List (List UInt8)) : flat (xs.map AV.str) = xs.map AV.str := flat_ones (fun _ => rfl) xs
theorem fresh_strs {w : World} {S : Nat → Prop} (r : HRel w S []) (xs : List (List UInt8)) (E : TypeId) {vs : Array Value} (hv : vs = (xs.map fun s => Value.string ⟨s.toArray⟩).toArray) :
    At (w.alloc (.cells vs E)) S (.sl 1 ⟨some w.heap.size, xs.length⟩ 0 xs.length) (.slice (some ⟨w.heap.size, 0, none⟩) xs.length xs.length) ∧
      HRel (w.alloc (.cells vs E)) S [(⟨some w.heap.size, xs.length⟩, .arr 1 (xs.map AV.str))] ∧ Evo w S [] (w.alloc (.cells vs E)) S [(⟨some w.heap.size, xs.length⟩, .arr 1 (xs.map AV.str))] := by
  subst hv
  have e0 := Ext.alloc w (.cells (xs.map fun s => Value.string ⟨s.toArray⟩).toArray E)
  have hh : Holds (w.alloc (.cells (xs.map fun s => Value.string ⟨s.toArray⟩).toArray E)) S ⟨some w.heap.size, xs.length⟩ (.arr 1 (xs.map AV.str)) := by
    refine ⟨fun x hx => ?_, by simp, .inr ⟨w.heap.size, (xs.map fun s => Value.string ⟨s.toArray⟩).toArray, E, rfl, ?_, by simp, ?_⟩⟩
    · obtain ⟨s, _, rfl⟩ := List.mem_map.1 hx
      exact ⟨rfl, fun c hc => by rw [List.mem_singleton.1 hc]; rfl⟩
    · show (w.heap.push _)[w.heap.size]? = _
      simp
    · rw [flat_strs]
      intro i c v hc hv
      simp only [List.getElem?_map, List.getElem?_toArray, Option.map_eq_some_iff] at hc hv
      obtain ⟨s, h1, rfl⟩ := hc
      obtain ⟨s', h2, rfl⟩ := hv
      rw [h1] at h2
      obtain rfl := Option.some.inj h2
      exact .str s
  obtain ⟨k1, k2, k3⟩ := add_rel r e0 id hh (.inr ⟨_, rfl, Nat.le_refl _⟩)
  refine ⟨?_, k1, k2⟩
  have := At.sl (w := w.alloc (.cells (xs.map fun s => Value.string ⟨s.toArray⟩).toArray E)) (S := S) 1 ⟨some w.heap.size, xs.length⟩ 0 xs.length w.heap.size xs.length rfl (Nat.le_refl _) (by simp)
  simpa using this
/-! ### tables -/
/-- A row of numbers. -/
def tNum (k : IntKind) (zs : List Int) (o : Option Obj) : Prop := rowOf o = some (zs.map fun z => Value.int k z).toArray
/-- A cell with a number. -/
def tInt (k : IntKind) (o : Option Obj) : Prop := ∃ vs m, rowOf o = some vs ∧ vs[0]? = some (.int k m)
theorem row_cell (w : World) (g i : Nat) {vs : Array Value} (h : rowOf (w.heap[g]?) = some vs) : w.cell? ⟨g, i, none⟩ = vs[i]? := by
  unfold World.cell?
  unfold rowOf at h
  split at h
  · rename_i vs' e f ho
    obtain rfl := Option.some.inj h
    simp [ho]
  · cases h
def tabOf : List (Nat × (Option Obj → Prop)) → Nat → Option (Option Obj → Prop)
  | [], _ => none
  | (k, o) :: r, g => if g = k then some o else tabOf r g
theorem tabOf_mem : ∀ {l : List (Nat × (Option Obj → Prop))} {g : Nat} {o : Option Obj → Prop}, tabOf l g = some o → (g, o) ∈ l
  | [], _, _, h => by cases h
  | (k, o') :: r, g, o, h => by
    unfold tabOf at h
    split at h
    · rename_i hg
      rw [hg, Option.some.inj h]; simp
    · exact List.mem_cons_of_mem _ (tabOf_mem h)
theorem row_lt {w : World} {g : Nat} {vs : Array Value} (h : rowOf (w.heap[g]?) = some vs) : g < w.heap.size := by
  rcases Nat.lt_or_ge g w.heap.size with h' | h'
  · exact h'
  · rw [Array.getElem?_eq_none h'] at h; cases h
end Go.Eng
namespace Go.Eng
open Go
section errs
variable [GTab] {P : Program} {all : Array Oper} {rest : List Oper} {n : Nat} {tm : List (Nat × AV)} {hp : Heap} {Q : St → Prop} {d : Nat} {ty : TypeId} {pos : String} {af : Array Edge}
/-- string(r) for a number r. -/
def strR (n : Int) : List UInt8 := (Utf8.encode n).data.toList
theorem q_conv_is {src dst : TypeId} {D : TypeDesc} {x : Operand} {k : IntKind} {i : Int} [TUnder P src D] [TUnder P dst .string] (hx : evA tm x = some (.int k i)) : QV P ⟨some d, .convert src dst x, ty, pos, af, none⟩ ⟨n, tm, hp⟩ (.str (strR i)) := by
  intro w S a r
  refine ⟨.string (Utf8.encode i), fun w1 _ => ?_, .str (strR i)⟩
  have h := run_convert_int_string w1 src dst k i (P := P) (by rw [TUnder.h (P := P) (t := src)]; rfl) (TUnder.h (P := P) (t := dst))
  simp only [execOp, (evA_at (σ := ⟨n, tm, hp⟩) r hx).int_inv, Sem.run_bind, h, Result.andThen_ok]
  rfl
/-- Two strings, one behind the other. -/
def catO (a b : List UInt8) : Option (List UInt8) := if a.length + b.length ≤ 9223372036854775807 then some (a ++ b) else none
theorem q_sadd {xt yt : TypeId} {x y : Operand} {s t r : List UInt8} (h : catO s t = some r) (hx : evA tm x = some (.str s)) (hy : evA tm y = some (.str t)) : QV P ⟨some d, .binOp .add xt x y yt, ty, pos, af, none⟩ ⟨n, tm, hp⟩ (.str r) := by
  unfold catO at h
  split at h
  · rename_i hs
    obtain rfl := Option.some.inj h
    refine fun w S a r => ⟨.string (⟨s.toArray⟩ ++ ⟨t.toArray⟩), fun w1 _ => ?_, ?_⟩
    · have h1 := run_string_add_sum (P := P) (w := w1) (⟨s.toArray⟩ : ByteArray) (⟨t.toArray⟩ : ByteArray) (by simpa [ByteArray.size] using hs)
      simp [execOp, (evA_at (σ := ⟨n, tm, hp⟩) r hx).str_inv, (evA_at (σ := ⟨n, tm, hp⟩) r hy).str_inv, eqGuard, binOp, h1]
    · have : ((⟨s.toArray⟩ : ByteArray) ++ ⟨t.toArray⟩) = ⟨(s ++ t).toArray⟩ := by apply ByteArray.ext; simp
      rw [this]
      exact .str _
  · cases h
end errs
end Go.Eng

/- The engine, part 40: arrays of a fixed length whose elements are one cell each. No program in sight. -/
set_option linter.unusedVariables false
set_option linter.unusedSimpArgs false
set_option linter.unusedSectionVars false
namespace Go.Eng
open Go
variable [GTab]
section rules
variable {P : Program} {all : Array Oper} {rest : List Oper} {n : Nat} {tm : List (Nat × AV)} {hp : Heap} {Q : St → Prop} {d : Nat} {ty : TypeId} {pos : String} {af : Array Edge}
end rules
end Go.Eng

/- The engine, part 41: from what a row lays to the tables that the engine speaks of. No program in sight. -/
set_option linter.unusedVariables false
set_option linter.unusedSimpArgs false
namespace Go.Eng
open Go Go.Lib
variable [GTab]
set_option linter.unusedSectionVars false
theorem row_of_cell {w : World} {g : Nat} {v : Value} (h : w.cell? ⟨g, 0, none⟩ = some v) : ∃ vs, rowOf (w.heap[g]?) = some vs ∧ vs[0]? = some v := by
  unfold World.cell? at h
  cases ho : w.heap[g]? with
  | none => simp [ho] at h
  | some o =>
    cases o with
    | cells vs e f => exact ⟨vs, rfl, by simpa [ho] using h⟩
    | _ => simp [ho] at h
theorem int_row {w : World} {g : Nat} {k : IntKind} {m : Int} (h : w.cell? ⟨g, 0, none⟩ = some (.int k m)) : g < w.heap.size ∧ tInt k (w.heap[g]?) := by
  obtain ⟨vs, h1, h2⟩ := row_of_cell h
  exact ⟨row_lt h1, vs, m, h1, h2⟩
theorem num_row {P : Program} {W : World} {name : String} {k : IntKind} {zs : List Int} {g : Nat} {t e : TypeId} {n : Nat}
    (hg : P.globalNamed name = some g) (hty : (P.globals[g]?).map (·.type) = some t) (ht : P.underlying t = some (.array n e)) (he : P.underlying e = some (.int k)) (hce : P.cellsOf e = 1) (hct : P.cellsOf t = n)
    (h : VarReads P W name (tabData k zs)) : g < W.heap.size ∧ tNum k zs (W.heap[g]?) := by
  obtain ⟨g', t', cs, fuel, p, hg', ht', hvar, hd⟩ := h
  obtain rfl := Option.some.inj (hg.symm.trans hg')
  obtain rfl := Option.some.inj (hty.symm.trans ht')
  rw [var_row hg] at hvar
  refine ⟨row_lt hvar, ?_⟩
  unfold tNum
  rw [hvar, ← cells_of_tab ht he hce hct hd]
end Go.Eng

/- The engine, part 42: a row that lays variables, at a world that is shaped: what the kit's two forms (laid; shaped) give apart, given together. No program in sight. -/
set_option linter.unusedVariables false
namespace Go.Eng
open Go
variable {H : Type} {enc : TypeId × Value → H}
theorem handed_both {a : Assume} {C : Checked} {os : Os} {f : FuncId} {fn : Func} {s : ChangeSpec} {conds : List PathCond} {apart fresh handsOn again : Bool} {X : World → Array Value → Prop}
    (hX : ∀ (w w' : World) (args : Array Value), w.heap = w'.heap → X w args → X w' args)
    (own : ownKnob C.prog.godebug = none) (started : os.Started) (noInit : C.prog.inits.idxOf? f = none) (hfn : C.prog.funcs[f]? = some fn)
    (witness : ∃ (w : World) (tape : Tape) (i : Input), w.os = os ∧ (w.forCall tape i).Shaped C.prog ∧ i.vars = [] ∧ Input.okWide C.prog (w.forCall tape i) .any w.heap.size f i ∧
      ((s.pre enc C.prog fn conds apart (w.forCall tape i).memory i.args ∧ X (w.forCall tape i).memory i.args) ∧ sizedMet enc C.prog fn (OpenSpec.ofChange s) apart (w.forCall tape i).memory i.args) ∧ a.holds C.prog (lone (Frame.enter C.prog f i.args .normal) [] (w.forCall tape i)))
    (walk : ∀ (W : World) (base : Nat) (args : Array Value) (ds gs : List (DataW H)) (before : List MemPlace),
      (∀ (j : Nat) t v, fn.params[j]? = some t → args[j]? = some v → Value.okWide C.prog W .any base t v) →
      DataW.Whole enc C.prog fn.params.toList s.vars apart W args.toList ds gs before →
      conds.all (PathCond.test C.prog ⟨fn.params.toList, ds, s.plain.varTypes C.prog, gs⟩) = true →
      (DataW.weightsEach C.prog (fn.params.toList ++ s.plain.varTypes C.prog) (ds ++ gs)).all (· ≤ reachBytes) = true → X W args ∧ W.ShapedOpen C.prog →
      a.holds C.prog (lone (Frame.enter C.prog f args .normal) [] W) →
      Calls C.prog f args W fun e W' => ∃ v, e = .returned v ∧ s.post enc C.prog fn apart fresh handsOn again W args v W') :
    ReturnsInHanded a C os f .any (fun w args => (s.pre enc C.prog fn conds apart w args ∧ X w args) ∧ sizedMet enc C.prog fn (OpenSpec.ofChange s) apart w args) (s.post enc C.prog fn apart fresh handsOn again) := by
  refine returnsInHanded_of_calls own started noInit witness ?_
  intro w tape i _ shaped _ ok pre held
  obtain ⟨_, _, _, fn', there, _, _, _, _, vals⟩ := ok
  cases Option.some.inj (there.symm.trans hfn)
  obtain ⟨⟨⟨ds, gs, before, whole, tests⟩, x⟩, sized⟩ := pre
  have K := walk (w.forCall tape i) w.heap.size i.args ds gs before vals (DataW.Whole.of_heap (w' := w.forCall tape i) (by rfl) whole) tests (sized.weights whole) ⟨hX _ _ _ (by rfl) x, shaped⟩ held
  exact K.mono fun e W' ⟨v, he, hp⟩ => by
    subst he
    exact ChangeSpec.post_blind hp
end Go.Eng

/- The engine, part 43: a slice whose room is known; what slices.Delete does with it. No program in sight. -/
set_option linter.unusedVariables false
set_option linter.unusedSimpArgs false
set_option linter.unusedSectionVars false
namespace Go.Eng
open Go
variable [GTab]

section rules
variable {P : Program} {all : Array Oper} {rest : List Oper} {n : Nat} {tm : List (Nat × AV)} {hp : Heap} {Q : St → Prop} {d : Nat} {ty : TypeId} {pos : String} {af : Array Edge}
end rules
end Go.Eng

/- The engine, part 44: a string's bytes as a list. No program in sight. -/
set_option linter.unusedVariables false
set_option linter.unusedSimpArgs false
set_option linter.unusedSectionVars false
namespace Go.Eng
open Go
variable [GTab]

/-- A string's bytes, as numbers. -/
def bytesI (s : List UInt8) : List Int := s.map fun c => (c.toNat : Int)
theorem bytes_ext (w : World) (e : TypeId) (s : ByteArray) : Ext w (Lib.bytesWorld w e s) := by
  refine ⟨rfl, rfl, rfl, by rw [Lib.bytesWorld_size]; omega, fun n hn => Lib.bytesWorld_at_old w e s n hn, fun _ => ?_⟩
  show w.drawn ≤ w.drawn + 1
  omega
/-- One block more that is only read. -/
theorem HRel.one {w w' : World} {S : Nat → Prop} {h : Heap} (r : HRel w S h) (e : Ext w w') (hs : w.heap.size < w'.heap.size) : HRel w' (fun n => S n ∨ n = w.heap.size) h ∧ Evo w S h w' (fun n => S n ∨ n = w.heap.size) h := by
  have hlt : ∀ x ∈ h, ∀ n, n ∈ eb x → n < w.heap.size := fun x hx n hn => r.lt ⟨x, hx, hn⟩
  have hk : ∀ n, S n → (S n ∨ n = w.heap.size) ∧ w'.heap[n]? = w.heap[n]? := fun n hn => ⟨.inl hn, e.same n (r.slt n hn)⟩
  refine ⟨⟨r.nodup, fun x hx => (r.holds x hx).mono hk (fun n hn => e.same n (hlt x hx n hn)), fun x hx n hn => ⟨fun hn' => ?_, fun hf => .inl ((r.sep x hx n hn).2 hf)⟩, fun n hn => ?_, fun g o ho => ⟨.inl (r.glob g o ho).1, gkeep (e.same g (r.slt g (r.glob g o ho).1)) (r.glob g o ho).2⟩⟩,
    ⟨e.os, e.tape, e.output, e.size, hk, fun n hn _ => ⟨e.same n hn, fun hn' => ?_⟩, fun n hn => .inl hn, e.drawn⟩⟩
  · rcases hn' with h' | h'
    · exact (r.sep x hx n hn).1 h'
    · have := hlt x hx n hn; omega
  · rcases hn with h' | h'
    · exact Nat.lt_of_lt_of_le (r.slt n h') e.size
    · omega
  · rcases hn' with h' | h'
    · exact h'
    · omega
section rules
variable {P : Program} {all : Array Oper} {rest : List Oper} {n : Nat} {tm : List (Nat × AV)} {hp : Heap} {Q : St → Prop} {d : Nat} {ty : TypeId} {pos : String} {af : Array Edge}
theorem flat_intsK (k : IntKind) (xs : List Int) : flat (xs.map (AV.int k)) = xs.map (AV.int k) := flat_ones (fun _ => rfl) xs
/-- A string's bytes: a list that is only read. -/
theorem t_conv_sb {src dst e : TypeId} {D : TypeDesc} {x : Operand} {s : List UInt8} [TUnder P src D] [TUnder P dst (.slice e)] [TUnder P e (.int .u8)] (hx : evA tm x = some (.str s)) (hn : Nat.blt d n = true)
    (kk : ARun P all rest ⟨n, (d, .list 1 ((bytesI s).map (AV.int .u8))) :: tm, hp⟩ Q) : ARun P all (⟨some d, .convert src dst x, ty, pos, af, none⟩ :: rest) ⟨n, tm, hp⟩ Q := by
  refine ARun.opx rfl fun w S a r => ?_
  have e1 := (evA_at (σ := ⟨n, tm, hp⟩) r hx).str_inv
  have hrun := Lib.run_convert_string_bytes (P := P) w src dst e ⟨s.toArray⟩ (TUnder.h (P := P) (t := src)) (TUnder.h (P := P) (t := dst)) (TUnder.h (P := P) (t := e))
  have hE := bytes_ext w e ⟨s.toArray⟩
  obtain ⟨g1, g2⟩ := r.hp.one hE (by rw [Lib.bytesWorld_size]; omega)
  have hsz : (⟨s.toArray⟩ : ByteArray).size = s.length := by simp [ByteArray.size]
  have hat : At (Lib.bytesWorld w e ⟨s.toArray⟩) (fun n => S n ∨ n = w.heap.size) (.list 1 ((bytesI s).map (AV.int .u8))) (.slice (some ⟨w.heap.size, 0, none⟩) (⟨s.toArray⟩ : ByteArray).size (grownCap w (⟨s.toArray⟩ : ByteArray).size 0 e)) := by
    have hl : ((bytesI s).map (AV.int .u8)).length = (⟨s.toArray⟩ : ByteArray).size := by rw [hsz]; simp [bytesI]
    rw [← hl]
    refine .list 1 _ _ _ ((bytesI s).map fun z => Value.int .u8 z) (fun y hy => ?_) ?_ (fun i c v hc hv => ?_) (fun i v hv => ?_) ?_
    · obtain ⟨z, _, rfl⟩ := List.mem_map.1 hy
      exact ⟨rfl, fun c hc => by rw [List.mem_singleton.1 hc]; rfl⟩
    · rw [flat_intsK]; simp
    · rw [flat_intsK] at hc
      simp only [List.getElem?_map, Option.map_eq_some_iff] at hc hv
      obtain ⟨z, h1, rfl⟩ := hc
      obtain ⟨z', h2, rfl⟩ := hv
      rw [h1] at h2; obtain rfl := Option.some.inj h2
      exact .int _ _
    · have hi : i < s.length := by
        have := (List.getElem?_eq_some_iff.1 hv).1
        simpa [bytesI] using this
      refine ⟨_, rfl, rfl, .inr rfl, ?_⟩
      rw [Nat.zero_add, Lib.bytesWorld_cell w e ⟨s.toArray⟩ i (by rw [hsz]; exact hi)]
      simp only [List.getElem?_map, bytesI, Option.map_eq_some_iff] at hv
      obtain ⟨z, ⟨c, h1, rfl⟩, rfl⟩ := hv
      simp [List.getD, h1]
    · rw [hl]; exact grownCap_ge w _ 0 e
  refine ⟨_, Lib.bytesWorld w e ⟨s.toArray⟩, _, _, ?_, (r.heap g2.keep g1).put hn hat, g2, kk⟩
  simp only [execOp, e1, Sem.run_bind, hrun, Result.andThen_ok]
  rfl
end rules
end Go.Eng

/- The engine, part 45: string builders: a box and the row behind it. No program in sight. -/
set_option linter.unusedVariables false
set_option linter.unusedSectionVars false
namespace Go.Eng
open Go
variable [GTab]

section
variable {P : Program} {all : Array Oper} {rest : List Oper} {n : Nat} {tm : List (Nat × AV)} {hp : Heap} {Q : St → Prop} {d : Nat} {ty : TypeId} {pos : String} {af : Array Edge}
end
end Go.Eng

/- The engine, part 46: what a builder's methods do, told exactly. No program in sight. -/
set_option linter.unusedVariables false
set_option linter.unusedSectionVars false
namespace Go.Eng
open Go Go.Proofs Go.Shelf Go.RowKit Go.Lib

section
variable {P : Program} (w : World)
end
variable {P : Program} {ρ : Ren}
/-- What stays when only blocks b and row turn. -/
structure KeepB (w w' : World) (b : Nat) (row : Option Nat) : Prop where
  os : w'.os = w.os
  tape : w'.tape = w.tape
  output : w'.output = w.output
  size : w.heap.size ≤ w'.heap.size
  keep : ∀ n, n < w.heap.size → n ≠ b → row ≠ some n → w'.heap[n]? = w.heap[n]?
theorem KeepB.refl (w : World) (b : Nat) (row : Option Nat) : KeepB w w b row := ⟨rfl, rfl, rfl, Nat.le_refl _, fun _ _ _ _ => rfl⟩
theorem KeepB.trans {w w1 w2 : World} {b : Nat} {row : Option Nat} (h : KeepB w w1 b row) (k : KeepB w1 w2 b row) : KeepB w w2 b row :=
  ⟨k.os.trans h.os, k.tape.trans h.tape, k.output.trans h.output, Nat.le_trans h.size k.size, fun n h1 h2 h3 => (k.keep n (Nat.lt_of_lt_of_le h1 h.size) h2 h3).trans (h.keep n h1 h2 h3)⟩
theorem KeepB.set (w : World) (b : Nat) (row : Option Nat) (j : Nat) (x : Value) : KeepB w (w.setCell ⟨b, j, none⟩ x) b row :=
  ⟨rfl, rfl, rfl, by simp [World.setCell], fun n _ h _ => Below.heap_setCell _ _ _ _ (fun e => h (by simp [e]))⟩
theorem KeepB.grown {w w' : World} {b : Nat} {row : Option Nat} (h : w.grownBy w' row) : KeepB w w' b row :=
  ⟨h.os, h.tape, h.output, h.size, fun n h1 _ h3 => h.block n h1 (fun e => h3 e.symm)⟩
theorem KeepB.freeze (w : World) (b g n : Nat) : KeepB w (w.freeze ⟨g, 0, none⟩ n) b (some g) := by
  unfold World.freeze
  split
  · exact KeepB.refl w b _
  · exact ⟨rfl, rfl, rfl, by simp, fun k _ _ hk => by
      simp only [Array.getElem?_modify]
      rw [if_neg (fun e => hk (by rw [← e]))]⟩
theorem KeepB.drew {w w' : World} {b : Nat} {row : Option Nat} (h : KeepB w w' b row) : KeepB w w'.drew b row := ⟨h.os, h.tape, h.output, h.size, h.keep⟩
theorem KeepB.alloc {w w' : World} {b : Nat} {row : Option Nat} (h : KeepB w w' b row) (o : Obj) : KeepB w (w'.alloc o) b row :=
  ⟨h.os, h.tape, h.output, Nat.le_trans h.size (by simp), fun n h1 h2 h3 => (heap_alloc_old w' o (Nat.lt_of_lt_of_le h1 h.size)).trans (h.keep n h1 h2 h3)⟩
end Go.Eng

/- The engine, part 47: builders' methods as contracts. No program in sight. -/
set_option linter.unusedVariables false
set_option linter.unusedSectionVars false
namespace Go.Eng
open Go Go.Proofs Go.Shelf Go.Lib
variable {P : Program} {ρ : Ren} [GTab]
end Go.Eng

/- The engine, part 48: an operation in a region with tokens that looks at a value told of new memory, and whose result is told without it. No program in sight. -/
set_option linter.unusedVariables false
set_option linter.unusedSectionVars false
namespace Go.Eng
open Go
variable [GTab]
section rules
variable {P : Program} {all : Array Oper} {n : Nat} {B : Heap} {tk : List Tok} {dy : List Nat} {i : Nat} {rest : List Oper} {tm : List (Nat × AV)} {acc : (Nat → Bk) → List (Nat × AV)} {Q : (Nat → Bk) → List (Nat × AV) → Prop} {d : Nat} {ty : TypeId} {pos : String} {af : Array Edge} {op : Op}
end rules
end Go.Eng

/- The engine, part 49: room for a new builder. No program in sight. -/
set_option linter.unusedVariables false
set_option linter.unusedSectionVars false
namespace Go.Eng
open Go Go.Proofs Go.Shelf Go.Lib
variable {P : Program} [GTab]
end Go.Eng

/- The engine, part 50: 'a and b', 'a or b' of plain truths, in a region with tokens: without two ways. No program in sight. -/
set_option linter.unusedVariables false
set_option linter.unusedSectionVars false
namespace Go.Eng
open Go
variable [GTab]
section rules
variable {P : Program} {all : Array Oper} {rest : List Oper} {n : Nat} {tm : List (Nat × AV)} {hp : Heap} {Q : List (Nat × AV) → Prop} {d1 d2 j s x : Nat} {t1 t2 : TypeId} {p1 p2 : String} {a1 a2 : Array Edge} {a b : Bool}
end rules
end Go.Eng

/- The engine, part 51: make of slices whose elements are slices. No program in sight. -/
set_option linter.unusedVariables false
set_option linter.unusedSectionVars false
namespace Go.Eng
open Go
variable [GTab]
section rules
variable {P : Program} {all : Array Oper} {rest : List Oper} {n : Nat} {tm : List (Nat × AV)} {hp : Heap} {Q : St → Prop} {d : Nat} {ty : TypeId} {pos : String} {af : Array Edge}
end rules
end Go.Eng

/- The engine, part 52: memory that is given up. No program in sight. -/
set_option linter.unusedVariables false
set_option linter.unusedSectionVars false
namespace Go.Eng
open Go
variable [GTab]
theorem ImpX.drop {n : Nat} {tm : List (Nat × AV)} {hp hp1 : Heap} {T : St → Prop} {b : Bk} {o : Ob} (dl : Del hp b o hp1) (k : ImpX ⟨n, tm, hp1⟩ T) : ImpX ⟨n, tm, hp⟩ T := by
  have hs : hp1.Sublist hp := by
    obtain ⟨p, q, rfl, rfl⟩ := dl.split
    exact List.Sublist.append (List.Sublist.refl _) (List.sublist_cons_self _ _)
  exact ImpX.step (σ1 := ⟨n, tm, hp1⟩) (fun w S a r => ⟨_, S, rfl, r.less ⟨rfl, fun _ _ h => h, hs⟩, Evo.less (Evo.refl w S hp) fun _ hn => hn.sub hs⟩) k
end Go.Eng

/- The engine, part 53: clear of slices whose elements hold slices. No program in sight. -/
set_option linter.unusedVariables false
set_option linter.unusedSectionVars false
namespace Go.Eng
open Go
variable [GTab]
section rules
variable {P : Program} {all : Array Oper} {rest : List Oper} {n : Nat} {tm : List (Nat × AV)} {hp : Heap} {Q : St → Prop} {d : Nat} {ty : TypeId} {pos : String} {af : Array Edge}
end rules
end Go.Eng

/- The engine, part 54: a captured box that is never written again. No program in sight. -/
set_option linter.unusedVariables false
set_option linter.unusedSectionVars false
namespace Go.Eng
open Go
variable [GTab]
end Go.Eng

/- The engine, part 55: look-ups in maps whose values hold slices. No program in sight. -/
set_option linter.unusedVariables false
set_option linter.unusedSectionVars false
namespace Go.Eng
open Go
variable [GTab]
section rules
variable {P : Program} {all : Array Oper} {rest : List Oper} {n : Nat} {tm : List (Nat × AV)} {hp : Heap} {Q : St → Prop} {d : Nat} {ty : TypeId} {pos : String} {af : Array Edge}
end rules
end Go.Eng

/- The engine, part 56: structs of plain cells as keys of maps. No program in sight. -/
set_option linter.unusedVariables false
set_option linter.unusedSectionVars false
namespace Go.Eng
open Go
variable [GTab]
def scB : AV → Bool
  | .int _ _ => true
  | .bool _ => true
  | .str _ => true
  | _ => false
theorem sc_det {w : World} {S : Nat → Prop} {a : AV} {v u : Value} (h : scB a = true) (hv : At w S a v) (hu : At w S a u) : v = u ∧ ∀ n, Instr.sameBits n v v = true := by
  cases a <;> simp only [scB, Bool.false_eq_true] at h
  · rw [hv.int_inv, hu.int_inv]; exact ⟨rfl, fun n => by cases n <;> simp [Instr.sameBits]⟩
  · rw [hv.bool_inv, hu.bool_inv]; exact ⟨rfl, fun n => by cases n <;> simp [Instr.sameBits]⟩
  · rw [hv.str_inv, hu.str_inv]
    refine ⟨rfl, fun n => ?_⟩
    cases n <;> (simp only [Instr.sameBits]; exact (ba_beq _ _).2 rfl)
theorem zip_self_all {α : Type} (p : α × α → Bool) : ∀ (l : List α), (∀ x ∈ l, p (x, x) = true) → (l.zip l).all p = true
  | [], _ => rfl
  | x :: r, h => by
    rw [List.zip_cons_cons, List.all_cons, h x List.mem_cons_self, zip_self_all p r (fun y hy => h y (List.mem_cons_of_mem _ hy))]; rfl
theorem sc_aggs {w : World} {S : Nat → Prop} {cs : List AV} {v u : Value} (h : ∀ c ∈ cs, scB c = true) (hv : At w S (.agg cs) v) (hu : At w S (.agg cs) u) : Instr.sameBits 10000 v u = true := by
  obtain ⟨vs, rfl, hl, ha⟩ := hv.agg_inv
  obtain ⟨us, rfl, hl', ha'⟩ := hu.agg_inv
  have key : ∀ (i : Nat) (h1 : i < vs.size) (h2 : i < us.size), vs[i] = us[i] ∧ ∀ n, Instr.sameBits n vs[i] vs[i] = true := fun i h1 h2 => by
    have hc : cs[i]? = some (cs[i]'(by omega)) := by simp [show i < cs.length by omega]
    exact sc_det (h _ (List.getElem_mem _)) (ha i _ _ hc (by simp [h1])) (ha' i _ _ hc (by simp [h2]))
  have heq : vs = us := Array.ext (by omega) (fun i h1 h2 => (key i h1 h2).1)
  subst heq
  have g : ∀ n : Nat, Instr.sameBits (n + 1) (.agg vs) (.agg vs) = true := fun n => by
    simp only [Instr.sameBits, beq_self_eq_true, Bool.true_and]
    refine zip_self_all _ _ (fun x hx => ?_)
    obtain ⟨i, hi, rfl⟩ := List.getElem_of_mem hx
    simpa using (key i (by simpa using hi) (by simpa using hi)).2 n
  exact g 9999
def scT (D : TypeDesc) : Bool := match D with
  | .int _ => true
  | .bool => true
  | .string => true
  | _ => false
theorem ck_sc {P : Program} {t : TypeId} {D : TypeDesc} (hu : P.underlying t = some D) (hD : scT D = true) (b : Bool) (n : Nat) (v : Value) (w : World) : (Instr.checkKey b (n + 1) t v).run P w = .ok () w := by
  cases D <;> simp only [scT, Bool.false_eq_true] at hD <;> simp [Instr.checkKey, run_underlying hu]
theorem part_sc {P : Program} {t : TypeId} {D : TypeDesc} (hu : P.underlying t = some D) (hD : scT D = true) {cs : Array Value} {off : Nat} {v : Value} (h : cs[off]? = some v) (w : World) : (part t cs off).run P w = .ok v w := by
  unfold part isAgg
  simp only [Sem.run_bind, run_underlying hu, Result.andThen_ok]
  cases D <;> simp_all [scT]
theorem ck_fields {P : Program} (b : Bool) (n : Nat) (vs : Array Value) (w : World) : ∀ (fs : List Field), (∀ f ∈ fs, ∃ D, P.underlying f.type = some D ∧ scT D = true ∧ f.offset < vs.size) → (forIn fs PUnit.unit (fun f (_ : PUnit) => (if f.name ≠ "_" then do
      let x ← part f.type vs f.offset
      Instr.checkKey b (n + 1) f.type x
      pure (ForInStep.yield PUnit.unit)
      else pure (ForInStep.yield PUnit.unit) : Sem (ForInStep PUnit)))).run P w = .ok PUnit.unit w
  | [], _ => by simp
  | f :: fs, h => by
    obtain ⟨D, h1, h2, h3⟩ := h f List.mem_cons_self
    have hp : ∀ w1, (part f.type vs f.offset).run P w1 = .ok vs[f.offset] w1 := part_sc h1 h2 (by simp [h3])
    have ih := ck_fields b n vs w fs (fun g hg => h g (List.mem_cons_of_mem _ hg))
    simp only [List.forIn_cons, Sem.run_bind]
    by_cases hn : f.name = "_"
    · simp only [hn, ne_eq, not_true_eq_false, if_false, Sem.run_pure, Result.andThen_ok]
      exact ih
    · simp only [hn, ne_eq, not_false_eq_true, if_true, Sem.run_bind, hp, Result.andThen_ok, ck_sc h1 h2, Sem.run_pure]
      exact ih
theorem ask_P {P : Program} {t : TypeId} {v : Value} {K : Type} [DecidableEq K] {k : K} {q : K → Value → Prop} (hq : ∀ k' u, q k' u → ∀ w, (Op.equal t v u).run P w = .ok (decide (k' = k)) w) : ∀ (es : List MapEntry) (ks : List K) (i : Nat) (w : World), ks.length = es.length → (∀ (i : Nat) k' e, ks[i]? = some k' → es[i]? = some e → q k' e.key) → (Instr.findAsking t v es i).run P w = .ok (findP k ks es i) w
  | [], [], i, w, _, _ => by simp [Instr.findAsking, findP]
  | [], k' :: ks, i, w, hl, _ => by simp at hl
  | e :: es, [], i, w, hl, _ => by simp at hl
  | e :: es, k' :: ks, i, w, hl, h => by
    unfold Instr.findAsking findP
    rw [Sem.run_bind, hq k' e.key (h 0 k' e rfl rfl)]
    by_cases hk : k' = k
    · simp [hk]
    · simp only [hk, decide_false, Result.andThen_ok, Bool.false_eq_true, if_false]
      exact ask_P hq es ks (i + 1) w (by simpa using hl) (fun i k' e h1 h2 => h (i + 1) k' e (by simpa using h1) (by simpa using h2))
theorem MKey.struct {P : Program} {t : TypeId} {K : Type} [DecidableEq K] {g : K → AV} {dd : Nat} {fs : List Field} {n : Nat} [EqTy P t dd g] (hk : Nat.ble dd 10000 = true) (hu : P.underlying t = some (.struct fs.toArray))
    (hf : ∀ f ∈ fs, ∃ D, P.underlying f.type = some D ∧ scT D = true ∧ f.offset < n) (hg : ∀ x, ∃ cs, g x = .agg cs ∧ cs.length = n ∧ ∀ c ∈ cs, scB c = true) (inj : ∀ a b, g a = g b → a = b) : MKey P t g where
  inj := inj
  check := fun {w S k v} hv b w1 => by
    obtain ⟨cs, e, hl, hs⟩ := hg k
    rw [e] at hv
    obtain ⟨vs, rfl, hl', ha⟩ := hv.agg_inv
    have key : ∀ m : Nat, (Instr.checkKey b (m + 1 + 1) t (.agg vs)).run P w1 = .ok () w1 := fun m => by
      have h1 := ck_fields (P := P) b m vs w1 fs (fun f hm => by obtain ⟨D, h1, h2, h3⟩ := hf f hm; exact ⟨D, h1, h2, by omega⟩)
      rw [Instr.checkKey]
      simp only [Sem.run_bind, run_underlying hu, Result.andThen_ok]
      rw [← Array.forIn_toList]
      simp only [h1, Result.andThen_ok, Sem.run_pure]
    exact key 9998
  find := fun {w S k v} hv es ks hl hk' w1 => by
    obtain ⟨cs, e, hn, hs⟩ := hg k
    have hv' := hv
    rw [e] at hv'
    obtain ⟨vs, rfl, hl', ha⟩ := hv'.agg_inv
    have hq := ask_P (P := P) (t := t) (v := .agg vs) (k := k) (q := fun k' u => At w S (g k') u) (fun k' u hu w2 => by
      have := EqTy.h (P := P) (t := t) (g := g) k k' w S _ _ hv hu (10000 - dd) w2
      rw [Nat.sub_add_cancel (Nat.le_of_ble_eq_true hk)] at this
      rw [show decide (k' = k) = decide (k = k') by rw [Bool.eq_iff_iff]; simp; exact eq_comm]
      exact this) es ks 0 w1 hl (fun i k' e h1 h2 => hk' i k' e h1 h2)
    unfold Instr.findKey
    rw [Sem.run_bind, run_underlying hu]
    simp only [Result.andThen_ok]
    cases es with
    | nil =>
      cases ks with
      | nil => simp [Instr.findNow, findP]
      | cons _ _ => simp at hl
    | cons m es =>
      have : Instr.findNow (.struct fs.toArray) (.agg vs) (m :: es) 0 = none := by
        unfold Instr.findNow; simp [Instr.sameNow]
      rw [this]; exact hq
  bits := fun {w S k v u} h1 h2 => by
    obtain ⟨cs, e, hn, hs⟩ := hg k
    rw [e] at h1 h2
    exact sc_aggs hs h1 h2
end Go.Eng

/- A call of a function value that was handed in, in the head of a drawn region. -/
set_option linter.unusedVariables false
set_option linter.unusedSectionVars false
namespace Go.Eng
open Go
variable [GTab]
section rules
variable {P : Program} {all : Array Oper} {rest : List Oper} {n : Nat} {tm : List (Nat × AV)} {hp : Heap} {Q : List (Nat × AV) → Prop} {d : Nat} {ty : TypeId} {pos : String} {af : Array Edge} {op : Op}
theorem AM.callvp {f : FuncId} {x : Operand} {args : List Operand} {ts : Array TypeId} {caps l l' : List AV} {R : AV} [IsFn P f] (hx : evA (rst (looks all ⟨some d, .call { callee := .value x, args := args.toArray, argTypes := ts }, ty, pos, af, none⟩) tm) x = some (.func (.func f) caps)) (hl : evL (rst (looks all ⟨some d, .call { callee := .value x, args := args.toArray, argTypes := ts }, ty, pos, af, none⟩) tm) args = some l) (c : Pu P f l' R) (co : CoL hp (l ++ caps) l') (hn : Nat.blt d n = true)
    (k : AM P all n hp rest ((d, R) :: tm) Q) : AM P all n hp (⟨some d, .call { callee := .value x, args := args.toArray, argTypes := ts }, ty, pos, af, none⟩ :: rest) tm Q := by
  refine AM.mv (fun w S a h1 h2 h3 h4 K Q' hK => ?_) hn k
  have r := strel_rst h1 h2 h3 h4
  obtain ⟨cv, e1, e2, e3⟩ := (evA_at r hx).func_inv
  show Oper.upon P _ a K Q' _
  rw [run_exec_callv a _ e1]
  obtain ⟨g1, g2⟩ := evL_vals r hl
  obtain ⟨g3, g4⟩ := CoL.at r.hp co (vs := args.map a.eval ++ cv.toList) (by simp [g1, e2]) (AtA_cons g1 g2 (by simpa using e3))
  refine (c w S _ (hrel_nil h3.slt h3.glob) (by simpa using g3) g4).mono ?_
  rintro e w' ⟨v, rr, h', S', rfl, rfl, k3, k4, k5⟩
  exact hK v w' S' ⟨k5.toExt, fun m hm => (k5.keep m hm).1, fun m hm hs => (k5.other m hm (fun ⟨x, hx, _⟩ => by simp at hx)).2 hs, k4.slt⟩ k3
theorem MV.cox {o : Oper} {e : Env} {av av' : AV} (h : MV P all n o e hp av) (c : CoX hp av av') : MV P all n o e hp av' :=
  fun w S a h1 h2 h3 h4 K Q hK => h w S a h1 h2 h3 h4 K Q (fun v w' S' g hv => hK v w' S' g (c.at (h3.grow g) hv))
theorem MV.buildSliceL {t e : TypeId} {i : TypeInfo} {z : Value} {len sz : Nat} {parts : List (Nat × Operand)} {xs : List AV} [TUnder P t (.slice e)] [TInfo P e i] [TSz P e sz] (hz : i.zero = some z)
    (hl : evS (rst (looks all ⟨some d, .buildSlice t len parts.toArray, ty, pos, af, none⟩) tm) parts 0 = some xs) (hlen : Nat.beq parts.length len = true) (hel : allEl i.size xs = true) (h24 : Nat.ble (len * i.size) 16777216 = true) : MV P all n ⟨some d, .buildSlice t len parts.toArray, ty, pos, af, none⟩ (lk tm) hp (.list sz xs) := by
  obtain ⟨i', hi1, hi2⟩ := TSz.h (P := P) (t := e)
  obtain rfl : i' = i := by rw [TInfo.h (P := P) (t := e)] at hi1; exact (Option.some.inj hi1).symm
  subst hi2
  intro w S a h1 h2 h3 h4 K Q' hK
  have r := strel_rst h1 h2 h3 h4
  obtain rfl : parts.length = len := Nat.eq_of_beq_eq_true hlen
  have h24 := Nat.le_of_ble_eq_true h24
  obtain ⟨zz, hzz⟩ : ∃ zz : Array Value, zz = if parts.length * i'.size = 0 then #[] else z.cells := ⟨_, rfl⟩
  obtain ⟨vs, g1, g2, g3, g4⟩ := fill_seq r i'.size parts 0 xs ((Array.range (parts.length * i'.size)).map (zz[· % zz.size]!)) hl (allEl_spec hel) (by simp)
  simp only [Nat.zero_mul, List.take_zero, List.nil_append] at g1
  have e0 := Ext.alloc w (.cells vs.toArray e)
  have hrun : (execOp a.eval ⟨some d, .buildSlice t parts.length parts.toArray, ty, pos, af, none⟩).run P w = .ok (.value (.slice (some ⟨w.heap.size, 0, none⟩) parts.length parts.length)) (w.alloc (.cells vs.toArray e)) := by
    have hm : ((parts.toArray.map fun p => (p.1, a.eval p.2))).toList = parts.map fun p => (p.1, a.eval p.2) := by simp
    simp only [execOp, Instr.buildSlice, Sem.run_bind, run_underlying (TUnder.h (P := P) (t := t)), Result.andThen_ok, sizeOf, typeInfo, run_program, TInfo.h (P := P) (t := e), Sem.run_pure]
    rw [if_neg (by omega)]
    by_cases h0 : parts.length * i'.size = 0
    · rw [if_pos h0] at hzz ⊢
      subst hzz
      simp only [Sem.run_bind, Result.andThen_ok, Sem.run_pure, hm, g1, run_newRow]
    · rw [if_neg h0] at hzz ⊢
      subst hzz
      simp only [Sem.run_bind, Result.andThen_ok, Sem.run_pure, zeroValue, typeInfo, run_program, TInfo.h (P := P) (t := e), hz, hm, g1, run_newRow]
  show Oper.upon P _ a K Q' _
  rw [hrun]
  have hnew : (w.alloc (.cells vs.toArray e)).heap[w.heap.size]? = some (.cells vs.toArray e (0, 0)) := by
    show (w.heap.push _)[w.heap.size]? = _
    simp
  refine hK _ _ (fun m => S m ∨ m = w.heap.size) ⟨e0, fun m hm => .inl hm, fun m hm hs => hs.elim id (fun h => by omega), fun m hm => ?_⟩ ?_
  · rcases hm with hm | hm
    · exact Nat.lt_of_lt_of_le (h3.slt m hm) e0.size
    · subst hm; simp
  · have := At.list (w := w.alloc (.cells vs.toArray e)) (S := fun m => S m ∨ m = w.heap.size) i'.size xs (some ⟨w.heap.size, 0, none⟩) parts.length vs (allEl_spec hel) (by rw [flat_length (allEl_spec hel), g2]) (fun j c u hc hu => ?_) (fun j u hu => ?_) (by omega)
    · rw [g3] at this; exact this
    · exact (g4 j c u hc (by simpa using hu)).mono fun m hm => ⟨.inl hm, e0.same m (h3.slt m hm)⟩
    · refine ⟨_, rfl, rfl, .inr rfl, ?_⟩
      rw [cell_at hnew]
      simpa using hu
end rules
section values
variable {P : Program} {n : Nat} {tm : List (Nat × AV)} {hp : Heap} {d : Nat} {ty : TypeId} {pos : String} {af : Array Edge}
/-- A field of a struct in a slot. -/
theorem q_fieldv1 {x : Operand} {s ft : TypeId} {j off : Nat} {D : TypeDesc} {cs : List AV} {c : AV} [TUnder P ft D] (hf : ∃ fs f, P.underlying s = some (.struct fs) ∧ fs[j]? = some f ∧ f.type = ft ∧ f.offset = off) (hx : evA tm x = some (.agg cs))
    (hD : TypeDesc.isAggB D = false) (hc : cs[off]? = some c) : QV P ⟨some d, .field s x j, ty, pos, af, none⟩ ⟨n, tm, hp⟩ c :=
  (fun w S a r => by
    obtain ⟨fs, f, hu, hj, rfl, rfl⟩ := hf
    obtain ⟨vs, h2, h3, h4⟩ := (evA_at (σ := ⟨n, tm, hp⟩) r hx).agg_inv
    obtain ⟨v, g1, g2⟩ := AtA.get h3 h4 hc
    refine ⟨v, fun w1 _ => ?_, g2⟩
    have hr := part_one (P := P) (t := f.type) hD g1 w1
    simp only [execOp, h2, Instr.field, Sem.run_bind, run_underlying hu, Result.andThen_ok, hj]
    simp [asAgg, hr])
end values
end Go.Eng

/- The engine, part 58: lists that may be nil, compared with nil. No program in sight. -/
set_option linter.unusedVariables false
set_option linter.unusedSectionVars false
namespace Go.Eng
open Go
variable [GTab]
/-- A box of ours that is not written again: it is frozen, a slot points to what is in it. -/
theorem ImpX.frzPtr {n s : Nat} {tm : List (Nat × AV)} {hp hp1 : Heap} {T : St → Prop} {b : Bk} {cs : List AV} (hs : lk tm s = some (.ptr b 0)) (dl : Del hp b (.cells cs) hp1) (k : ImpX ⟨n, (s, .rptr cs) :: tm, hp1⟩ T) : ImpX ⟨n, tm, hp⟩ T := by
  refine ImpX.step (σ1 := ⟨n, (s, .rptr cs) :: tm, hp1⟩) (fun w S a r => ?_) k
  obtain ⟨p, q, rfl, rfl⟩ := dl.split
  have hmem : (b, Ob.cells cs) ∈ p ++ (b, .cells cs) :: q := mem_mid.2 (.inl rfl)
  obtain ⟨h1, m0, vs, E, hb0, hh, hsz, ha⟩ := r.hp.holds _ hmem
  have hin : ∀ m, b.blk = some m → m < w.heap.size := fun m hm => r.hp.lt ⟨_, hmem, eb_of hm⟩
  let S' : Nat → Prop := fun m => S m ∨ b.blk = some m
  have mono : ∀ m, S m → S' m ∧ w.heap[m]? = w.heap[m]? := fun m hm => ⟨.inl hm, rfl⟩
  have hnd := r.hp.nodup
  have hsub : (p ++ q).Sublist (p ++ (b, Ob.cells cs) :: q) := List.Sublist.append (List.Sublist.refl _) (List.sublist_cons_self _ _)
  have hrel : HRel w S' (p ++ q) := by
    refine ⟨hnd.sublist (sub_flatMap hsub), fun e he => (r.hp.holds e (hsub.subset he)).mono mono (fun _ _ => rfl), fun e he m hm => ?_, fun m hm => ?_, fun g o ho => ⟨.inl (r.hp.glob g o ho).1, (r.hp.glob g o ho).2⟩⟩
    · rw [← r.hp.sep e (hsub.subset he) m hm]
      refine ⟨fun hs => hs.elim id fun hb => ?_, .inl⟩
      exfalso
      rw [List.flatMap_append, List.flatMap_cons, List.nodup_append, List.nodup_append] at hnd
      rcases List.mem_append.1 he with h | h
      · exact hnd.2.2 m (List.mem_flatMap.2 ⟨e, h, hm⟩) m (List.mem_append_left _ (eb_of hb)) rfl
      · exact hnd.2.1.2.2 m (eb_of hb) m (List.mem_flatMap.2 ⟨e, h, hm⟩) rfl
    · rcases hm with h | h
      · exact r.hp.slt m h
      · exact hin m h
  have hr := r.heap mono hrel
  refine ⟨_, S', rfl, ⟨hr.size, hr.defers, fun t av h => ?_, hr.hp⟩, rfl, rfl, rfl, Nat.le_refl _, mono, fun m hm hh => ⟨rfl, fun hs => hs.elim id fun hb => (hh ⟨_, hmem, eb_of hb⟩).elim⟩, fun m hm => .inl ?_, fun _ => Nat.le_refl _⟩
  · simp only [lk] at h
    split at h
    · rename_i hbq
      obtain rfl : s = t := by simpa using hbq
      obtain rfl := Option.some.inj h
      obtain ⟨v, e1, e2⟩ := hr.tm s _ hs
      cases e2 with
      | ptr _ _ m hb =>
        obtain rfl := Option.some.inj (hb.symm.trans hb0)
        refine ⟨_, e1, .rptr cs ⟨m, 0, none⟩ vs.toList (by simp [hsz]) (fun i c v hc hv => (ha i c v hc (by simpa using hv)).mono mono) rfl (.inr hb) (fun i v hv => ?_)⟩
        rw [cell_at hh]; simpa using hv
    · exact hr.tm t av h
  · obtain ⟨e, he, hb⟩ := hm
    exact ⟨e, hsub.subset he, hb⟩
section rules
variable {P : Program} {n : Nat} {tm : List (Nat × AV)} {hp : Heap} {d : Nat} {ty : TypeId} {pos : String} {af : Array Edge}
end rules
end Go.Eng

