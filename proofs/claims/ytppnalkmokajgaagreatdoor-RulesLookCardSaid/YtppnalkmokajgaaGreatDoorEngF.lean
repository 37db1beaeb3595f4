/- The engine: abstract values, the symbolic heap, one rule for each operation. No program in sight. -/
import Derived.Test.YtppnalkmokajgaaGreatDoorEngE
import Derived.Shelf.SlSortCmp.NoneTotal
import Derived.Lib.Case
/- The engine, part 48: an operation in a region with tokens that looks at a value told of new memory, and whose result is told without it. No program in sight. -/
set_option linter.unusedVariables false
set_option linter.unusedSectionVars false
namespace Go.Eng
open Go
variable [GTab]
section rules
variable {P : Program} {all : Array Oper} {n : Nat} {B : Heap} {tk : List Tok} {dy : List Nat} {i : Nat} {rest : List Oper} {tm : List (Nat × AV)} {acc : (Nat → Bk) → List (Nat × AV)} {Q : (Nat → Bk) → List (Nat × AV) → Prop} {d : Nat} {ty : TypeId} {pos : String} {af : Array Edge} {op : Op}
end rules
end Go.Eng

/- The engine, part 49: room for a new builder. No program in sight. -/
set_option linter.unusedVariables false
set_option linter.unusedSectionVars false
namespace Go.Eng
open Go Go.Proofs Go.Shelf Go.Lib
variable {P : Program} [GTab]
end Go.Eng

/- The engine, part 50: 'a and b', 'a or b' of plain truths, in a region with tokens: without two ways. No program in sight. -/
set_option linter.unusedVariables false
set_option linter.unusedSectionVars false
namespace Go.Eng
open Go
variable [GTab]
section rules
variable {P : Program} {all : Array Oper} {rest : List Oper} {n : Nat} {tm : List (Nat × AV)} {hp : Heap} {Q : List (Nat × AV) → Prop} {d1 d2 j s x : Nat} {t1 t2 : TypeId} {p1 p2 : String} {a1 a2 : Array Edge} {a b : Bool}
end rules
end Go.Eng

/- The engine, part 51: make of slices whose elements are slices. No program in sight. -/
set_option linter.unusedVariables false
set_option linter.unusedSectionVars false
namespace Go.Eng
open Go
variable [GTab]
section rules
variable {P : Program} {all : Array Oper} {rest : List Oper} {n : Nat} {tm : List (Nat × AV)} {hp : Heap} {Q : St → Prop} {d : Nat} {ty : TypeId} {pos : String} {af : Array Edge}
end rules
end Go.Eng

/- The engine, part 52: memory that is given up. No program in sight. -/
set_option linter.unusedVariables false
set_option linter.unusedSectionVars false
namespace Go.Eng
open Go
variable [GTab]
theorem ImpX.drop {n : Nat} {tm : List (Nat × AV)} {hp hp1 : Heap} {T : St → Prop} {b : Bk} {o : Ob} (dl : Del hp b o hp1) (k : ImpX ⟨n, tm, hp1⟩ T) : ImpX ⟨n, tm, hp⟩ T := by
  have hs : hp1.Sublist hp := by
    obtain ⟨p, q, rfl, rfl⟩ := dl.split
    exact List.Sublist.append (List.Sublist.refl _) (List.sublist_cons_self _ _)
  exact ImpX.step (σ1 := ⟨n, tm, hp1⟩) (fun w S a r => ⟨_, S, rfl, r.less ⟨rfl, fun _ _ h => h, hs⟩, Evo.less (Evo.refl w S hp) fun _ hn => hn.sub hs⟩) k
end Go.Eng

/- The engine, part 53: clear of slices whose elements hold slices. No program in sight. -/
set_option linter.unusedVariables false
set_option linter.unusedSectionVars false
namespace Go.Eng
open Go
variable [GTab]
section rules
variable {P : Program} {all : Array Oper} {rest : List Oper} {n : Nat} {tm : List (Nat × AV)} {hp : Heap} {Q : St → Prop} {d : Nat} {ty : TypeId} {pos : String} {af : Array Edge}
end rules
end Go.Eng

/- The engine, part 54: a captured box that is never written again. No program in sight. -/
set_option linter.unusedVariables false
set_option linter.unusedSectionVars false
namespace Go.Eng
open Go
variable [GTab]
end Go.Eng

/- The engine, part 55: look-ups in maps whose values hold slices. No program in sight. -/
set_option linter.unusedVariables false
set_option linter.unusedSectionVars false
namespace Go.Eng
open Go
variable [GTab]
section rules
variable {P : Program} {all : Array Oper} {rest : List Oper} {n : Nat} {tm : List (Nat × AV)} {hp : Heap} {Q : St → Prop} {d : Nat} {ty : TypeId} {pos : String} {af : Array Edge}
end rules
end Go.Eng

/- The engine, part 56: structs of plain cells as keys of maps. No program in sight. -/
set_option linter.unusedVariables false
set_option linter.unusedSectionVars false
namespace Go.Eng
open Go
variable [GTab]
def scB : AV → Bool
  | .int _ _ => true
  | .bool _ => true
  | .str _ => true
  | _ => false
theorem sc_det {w : World} {S : Nat → Prop} {a : AV} {v u : Value} (h : scB a = true) (hv : At w S a v) (hu : At w S a u) : v = u ∧ ∀ n, Instr.sameBits n v v = true := by
  cases a <;> simp only [scB, Bool.false_eq_true] at h
  · rw [hv.int_inv, hu.int_inv]; exact ⟨rfl, fun n => by cases n <;> simp [Instr.sameBits]⟩
  · rw [hv.bool_inv, hu.bool_inv]; exact ⟨rfl, fun n => by cases n <;> simp [Instr.sameBits]⟩
  · rw [hv.str_inv, hu.str_inv]
    refine ⟨rfl, fun n => ?_⟩
    cases n <;> (simp only [Instr.sameBits]; exact (ba_beq _ _).2 rfl)
theorem zip_self_all {α : Type} (p : α × α → Bool) : ∀ (l : List α), (∀ x ∈ l, p (x, x) = true) → (l.zip l).all p = true
  | [], _ => rfl
  | x :: r, h => by
    rw [List.zip_cons_cons, List.all_cons, h x List.mem_cons_self, zip_self_all p r (fun y hy => h y (List.mem_cons_of_mem _ hy))]; rfl
theorem sc_aggs {w : World} {S : Nat → Prop} {cs : List AV} {v u : Value} (h : ∀ c ∈ cs, scB c = true) (hv : At w S (.agg cs) v) (hu : At w S (.agg cs) u) : Instr.sameBits 10000 v u = true := by
  obtain ⟨vs, rfl, hl, ha⟩ := hv.agg_inv
  obtain ⟨us, rfl, hl', ha'⟩ := hu.agg_inv
  have key : ∀ (i : Nat) (h1 : i < vs.size) (h2 : i < us.size), vs[i] = us[i] ∧ ∀ n, Instr.sameBits n vs[i] vs[i] = true := fun i h1 h2 => by
    have hc : cs[i]? = some (cs[i]'(by omega)) := by simp [show i < cs.length by omega]
    exact sc_det (h _ (List.getElem_mem _)) (ha i _ _ hc (by simp [h1])) (ha' i _ _ hc (by simp [h2]))
  have heq : vs = us := Array.ext (by omega) (fun i h1 h2 => (key i h1 h2).1)
  subst heq
  have g : ∀ n : Nat, Instr.sameBits (n + 1) (.agg vs) (.agg vs) = true := fun n => by
    simp only [Instr.sameBits, beq_self_eq_true, Bool.true_and]
    refine zip_self_all _ _ (fun x hx => ?_)
    obtain ⟨i, hi, rfl⟩ := List.getElem_of_mem hx
    simpa using (key i (by simpa using hi) (by simpa using hi)).2 n
  exact g 9999
def scT (D : TypeDesc) : Bool := match D with
  | .int _ => true
  | .bool => true
  | .string => true
  | _ => false
theorem ck_sc {P : Program} {t : TypeId} {D : TypeDesc} (hu : P.underlying t = some D) (hD : scT D = true) (b : Bool) (n : Nat) (v : Value) (w : World) : (Instr.checkKey b (n + 1) t v).run P w = .ok () w := by
  cases D <;> simp only [scT, Bool.false_eq_true] at hD <;> simp [Instr.checkKey, run_underlying hu]
theorem part_sc {P : Program} {t : TypeId} {D : TypeDesc} (hu : P.underlying t = some D) (hD : scT D = true) {cs : Array Value} {off : Nat} {v : Value} (h : cs[off]? = some v) (w : World) : (part t cs off).run P w = .ok v w := by
  unfold part isAgg
  simp only [Sem.run_bind, run_underlying hu, Result.andThen_ok]
  cases D <;> simp_all [scT]
theorem ck_fields {P : Program} (b : Bool) (n : Nat) (vs : Array Value) (w : World) : ∀ (fs : List Field), (∀ f ∈ fs, ∃ D, P.underlying f.type = some D ∧ scT D = true ∧ f.offset < vs.size) → (forIn fs PUnit.unit (fun f (_ : PUnit) => (if f.name ≠ "_" then do
      let x ← part f.type vs f.offset
      Instr.checkKey b (n + 1) f.type x
      pure (ForInStep.yield PUnit.unit)
      else pure (ForInStep.yield PUnit.unit) : Sem (ForInStep PUnit)))).run P w = .ok PUnit.unit w
  | [], _ => by simp
  | f :: fs, h => by
    obtain ⟨D, h1, h2, h3⟩ := h f List.mem_cons_self
    have hp : ∀ w1, (part f.type vs f.offset).run P w1 = .ok vs[f.offset] w1 := part_sc h1 h2 (by simp [h3])
    have ih := ck_fields b n vs w fs (fun g hg => h g (List.mem_cons_of_mem _ hg))
    simp only [List.forIn_cons, Sem.run_bind]
    by_cases hn : f.name = "_"
    · simp only [hn, ne_eq, not_true_eq_false, if_false, Sem.run_pure, Result.andThen_ok]
      exact ih
    · simp only [hn, ne_eq, not_false_eq_true, if_true, Sem.run_bind, hp, Result.andThen_ok, ck_sc h1 h2, Sem.run_pure]
      exact ih
theorem ask_P {P : Program} {t : TypeId} {v : Value} {K : Type} [DecidableEq K] {k : K} {q : K → Value → Prop} (hq : ∀ k' u, q k' u → ∀ w, (Op.equal t v u).run P w = .ok (decide (k' = k)) w) : ∀ (es : List MapEntry) (ks : List K) (i : Nat) (w : World), ks.length = es.length → (∀ (i : Nat) k' e, ks[i]? = some k' → es[i]? = some e → q k' e.key) → (Instr.findAsking t v es i).run P w = .ok (findP k ks es i) w
  | [], [], i, w, _, _ => by simp [Instr.findAsking, findP]
  | [], k' :: ks, i, w, hl, _ => by simp at hl
  | e :: es, [], i, w, hl, _ => by simp at hl
  | e :: es, k' :: ks, i, w, hl, h => by
    unfold Instr.findAsking findP
    rw [Sem.run_bind, hq k' e.key (h 0 k' e rfl rfl)]
    by_cases hk : k' = k
    · simp [hk]
    · simp only [hk, decide_false, Result.andThen_ok, Bool.false_eq_true, if_false]
      exact ask_P hq es ks (i + 1) w (by simpa using hl) (fun i k' e h1 h2 => h (i + 1) k' e (by simpa using h1) (by simpa using h2))
theorem MKey.struct {P : Program} {t : TypeId} {K : Type} [DecidableEq K] {g : K → AV} {dd : Nat} {fs : List Field} {n : Nat} [EqTy P t dd g] (hk : Nat.ble dd 10000 = true) (hu : P.underlying t = some (.struct fs.toArray))
    (hf : ∀ f ∈ fs, ∃ D, P.underlying f.type = some D ∧ scT D = true ∧ f.offset < n) (hg : ∀ x, ∃ cs, g x = .agg cs ∧ cs.length = n ∧ ∀ c ∈ cs, scB c = true) (inj : ∀ a b, g a = g b → a = b) : MKey P t g where
  inj := inj
  check := fun {w S k v} hv b w1 => by
    obtain ⟨cs, e, hl, hs⟩ := hg k
    rw [e] at hv
    obtain ⟨vs, rfl, hl', ha⟩ := hv.agg_inv
    have key : ∀ m : Nat, (Instr.checkKey b (m + 1 + 1) t (.agg vs)).run P w1 = .ok () w1 := fun m => by
      have h1 := ck_fields (P := P) b m vs w1 fs (fun f hm => by obtain ⟨D, h1, h2, h3⟩ := hf f hm; exact ⟨D, h1, h2, by omega⟩)
      rw [Instr.checkKey]
      simp only [Sem.run_bind, run_underlying hu, Result.andThen_ok]
      rw [← Array.forIn_toList]
      simp only [h1, Result.andThen_ok, Sem.run_pure]
    exact key 9998
  find := fun {w S k v} hv es ks hl hk' w1 => by
    obtain ⟨cs, e, hn, hs⟩ := hg k
    have hv' := hv
    rw [e] at hv'
    obtain ⟨vs, rfl, hl', ha⟩ := hv'.agg_inv
    have hq := ask_P (P := P) (t := t) (v := .agg vs) (k := k) (q := fun k' u => At w S (g k') u) (fun k' u hu w2 => by
      have := EqTy.h (P := P) (t := t) (g := g) k k' w S _ _ hv hu (10000 - dd) w2
      rw [Nat.sub_add_cancel (Nat.le_of_ble_eq_true hk)] at this
      rw [show decide (k' = k) = decide (k = k') by rw [Bool.eq_iff_iff]; simp; exact eq_comm]
      exact this) es ks 0 w1 hl (fun i k' e h1 h2 => hk' i k' e h1 h2)
    unfold Instr.findKey
    rw [Sem.run_bind, run_underlying hu]
    simp only [Result.andThen_ok]
    cases es with
    | nil =>
      cases ks with
      | nil => simp [Instr.findNow, findP]
      | cons _ _ => simp at hl
    | cons m es =>
      have : Instr.findNow (.struct fs.toArray) (.agg vs) (m :: es) 0 = none := by
        unfold Instr.findNow; simp [Instr.sameNow]
      rw [this]; exact hq
  bits := fun {w S k v u} h1 h2 => by
    obtain ⟨cs, e, hn, hs⟩ := hg k
    rw [e] at h1 h2
    exact sc_aggs hs h1 h2
end Go.Eng

/- A call of a function value that was handed in, in the head of a drawn region. -/
set_option linter.unusedVariables false
set_option linter.unusedSectionVars false
namespace Go.Eng
open Go
variable [GTab]
section rules
variable {P : Program} {all : Array Oper} {rest : List Oper} {n : Nat} {tm : List (Nat × AV)} {hp : Heap} {Q : List (Nat × AV) → Prop} {d : Nat} {ty : TypeId} {pos : String} {af : Array Edge} {op : Op}
theorem AM.callvp {f : FuncId} {x : Operand} {args : List Operand} {ts : Array TypeId} {caps l l' : List AV} {R : AV} [IsFn P f] (hx : evA (rst (looks all ⟨some d, .call { callee := .value x, args := args.toArray, argTypes := ts }, ty, pos, af, none⟩) tm) x = some (.func (.func f) caps)) (hl : evL (rst (looks all ⟨some d, .call { callee := .value x, args := args.toArray, argTypes := ts }, ty, pos, af, none⟩) tm) args = some l) (c : Pu P f l' R) (co : CoL hp (l ++ caps) l') (hn : Nat.blt d n = true)
    (k : AM P all n hp rest ((d, R) :: tm) Q) : AM P all n hp (⟨some d, .call { callee := .value x, args := args.toArray, argTypes := ts }, ty, pos, af, none⟩ :: rest) tm Q := by
  refine AM.mv (fun w S a h1 h2 h3 h4 K Q' hK => ?_) hn k
  have r := strel_rst h1 h2 h3 h4
  obtain ⟨cv, e1, e2, e3⟩ := (evA_at r hx).func_inv
  show Oper.upon P _ a K Q' _
  rw [run_exec_callv a _ e1]
  obtain ⟨g1, g2⟩ := evL_vals r hl
  obtain ⟨g3, g4⟩ := CoL.at r.hp co (vs := args.map a.eval ++ cv.toList) (by simp [g1, e2]) (AtA_cons g1 g2 (by simpa using e3))
  refine (c w S _ (hrel_nil h3.slt h3.glob) (by simpa using g3) g4).mono ?_
  rintro e w' ⟨v, rr, h', S', rfl, rfl, k3, k4, k5⟩
  exact hK v w' S' ⟨k5.toExt, fun m hm => (k5.keep m hm).1, fun m hm hs => (k5.other m hm (fun ⟨x, hx, _⟩ => by simp at hx)).2 hs, k4.slt⟩ k3
theorem MV.buildSliceL {t e : TypeId} {i : TypeInfo} {z : Value} {len sz : Nat} {parts : List (Nat × Operand)} {xs : List AV} [TUnder P t (.slice e)] [TInfo P e i] [TSz P e sz] (hz : i.zero = some z)
    (hl : evS (rst (looks all ⟨some d, .buildSlice t len parts.toArray, ty, pos, af, none⟩) tm) parts 0 = some xs) (hlen : Nat.beq parts.length len = true) (hel : allEl i.size xs = true) (h24 : Nat.ble (len * i.size) 16777216 = true) : MV P all n ⟨some d, .buildSlice t len parts.toArray, ty, pos, af, none⟩ (lk tm) hp (.list sz xs) := by
  obtain ⟨i', hi1, hi2⟩ := TSz.h (P := P) (t := e)
  obtain rfl : i' = i := by rw [TInfo.h (P := P) (t := e)] at hi1; exact (Option.some.inj hi1).symm
  subst hi2
  intro w S a h1 h2 h3 h4 K Q' hK
  have r := strel_rst h1 h2 h3 h4
  obtain rfl : parts.length = len := Nat.eq_of_beq_eq_true hlen
  have h24 := Nat.le_of_ble_eq_true h24
  obtain ⟨zz, hzz⟩ : ∃ zz : Array Value, zz = if parts.length * i'.size = 0 then #[] else z.cells := ⟨_, rfl⟩
  obtain ⟨vs, g1, g2, g3, g4⟩ := fill_seq r i'.size parts 0 xs ((Array.range (parts.length * i'.size)).map (zz[· % zz.size]!)) hl (allEl_spec hel) (by simp)
  simp only [Nat.zero_mul, List.take_zero, List.nil_append] at g1
  have e0 := Ext.alloc w (.cells vs.toArray e)
  have hrun : (execOp a.eval ⟨some d, .buildSlice t parts.length parts.toArray, ty, pos, af, none⟩).run P w = .ok (.value (.slice (some ⟨w.heap.size, 0, none⟩) parts.length parts.length)) (w.alloc (.cells vs.toArray e)) := by
    have hm : ((parts.toArray.map fun p => (p.1, a.eval p.2))).toList = parts.map fun p => (p.1, a.eval p.2) := by simp
    simp only [execOp, Instr.buildSlice, Sem.run_bind, run_underlying (TUnder.h (P := P) (t := t)), Result.andThen_ok, sizeOf, typeInfo, run_program, TInfo.h (P := P) (t := e), Sem.run_pure]
    rw [if_neg (by omega)]
    by_cases h0 : parts.length * i'.size = 0
    · rw [if_pos h0] at hzz ⊢
      subst hzz
      simp only [Sem.run_bind, Result.andThen_ok, Sem.run_pure, hm, g1, run_newRow]
    · rw [if_neg h0] at hzz ⊢
      subst hzz
      simp only [Sem.run_bind, Result.andThen_ok, Sem.run_pure, zeroValue, typeInfo, run_program, TInfo.h (P := P) (t := e), hz, hm, g1, run_newRow]
  show Oper.upon P _ a K Q' _
  rw [hrun]
  have hnew : (w.alloc (.cells vs.toArray e)).heap[w.heap.size]? = some (.cells vs.toArray e (0, 0)) := by
    show (w.heap.push _)[w.heap.size]? = _
    simp
  refine hK _ _ (fun m => S m ∨ m = w.heap.size) ⟨e0, fun m hm => .inl hm, fun m hm hs => hs.elim id (fun h => by omega), fun m hm => ?_⟩ ?_
  · rcases hm with hm | hm
    · exact Nat.lt_of_lt_of_le (h3.slt m hm) e0.size
    · subst hm; simp
  · have := At.list (w := w.alloc (.cells vs.toArray e)) (S := fun m => S m ∨ m = w.heap.size) i'.size xs (some ⟨w.heap.size, 0, none⟩) parts.length vs (allEl_spec hel) (by rw [flat_length (allEl_spec hel), g2]) (fun j c u hc hu => ?_) (fun j u hu => ?_) (by omega)
    · rw [g3] at this; exact this
    · exact (g4 j c u hc (by simpa using hu)).mono fun m hm => ⟨.inl hm, e0.same m (h3.slt m hm)⟩
    · refine ⟨_, rfl, rfl, .inr rfl, ?_⟩
      rw [cell_at hnew]
      simpa using hu
end rules
section values
variable {P : Program} {n : Nat} {tm : List (Nat × AV)} {hp : Heap} {d : Nat} {ty : TypeId} {pos : String} {af : Array Edge}
end values
end Go.Eng

/- The engine, part 58: lists that may be nil, compared with nil. No program in sight. -/
set_option linter.unusedVariables false
set_option linter.unusedSectionVars false
namespace Go.Eng
open Go
variable [GTab]
section rules
variable {P : Program} {n : Nat} {tm : List (Nat × AV)} {hp : Heap} {d : Nat} {ty : TypeId} {pos : String} {af : Array Edge}
end rules
end Go.Eng

/- The engine, part 59: what a map owns is frozen: a map of plain lists. No program in sight. -/
set_option linter.unusedVariables false
set_option linter.unusedSectionVars false
namespace Go.Eng
open Go
variable [GTab]
section
variable {K E : Type}
end
end Go.Eng

/- The engine, part 60: method values, and loops that run a fixed number of times. No program in sight. -/
set_option linter.unusedVariables false
set_option linter.unusedSectionVars false
namespace Go.Eng
open Go
variable [GTab]
section rules
variable {P : Program} {all : Array Oper} {rest : List Oper} {n : Nat} {tm : List (Nat × AV)} {hp : Heap} {Q : St → Prop} {d : Nat} {ty : TypeId} {pos : String} {af : Array Edge}
end rules
section
variable {P : Program} {R : St → Prop} {k : List It} {σ : St}
/-- A loop that runs at most so many times. -/
def ARounds (P : Program) (R : St → Prop) (body : Code) (k : List It) : Nat → St → Prop
  | 0 => fun _ => False
  | n + 1 => fun σ => ATodo P R (.code body :: .stop (fun σ' => ImpX σ' (ARounds P R body k n)) :: k) σ
theorem ARounds.next {body : Code} {n : Nat} (h : ATodo P R (.code body :: .stop (fun σ' => ImpX σ' (ARounds P R body k n)) :: k) σ) : ARounds P R body k (n + 1) σ := h
end
end Go.Eng

/- The engine, part 61: guards in regions with tokens. No program in sight. -/
set_option linter.unusedVariables false
set_option linter.unusedSectionVars false
namespace Go.Eng
open Go
variable [GTab]
/-- The same is the same (a short name). -/
theorem J {α : Sort _} {a : α} : a = a := rfl
section rules
variable {P : Program} {all : Array Oper} {n : Nat} {B : Heap} {tk : List Tok} {dy : List Nat} {i : Nat} {rest : List Oper} {tm : List (Nat × AV)} {acc : (Nat → Bk) → List (Nat × AV)} {Q : (Nat → Bk) → List (Nat × AV) → Prop} {d : Nat} {ty : TypeId} {pos : String} {af : Array Edge} {op : Op}
/-- An operation whose guard lets it be done. -/
theorem AT.guard_yes {j : Nat} {want b : Bool} {s : Nat} (hj : (all[j]?).bind (·.dst) = some s) (hs : lk tm s = some (.bool b)) (hb : b = want)
    (k : AT P all n B tk dy i (⟨some d, op, ty, pos, af, none⟩ :: rest) tm acc Q) : AT P all n B tk dy i (⟨some d, op, ty, pos, af, some (j, want)⟩ :: rest) tm acc Q := by
  obtain ⟨D, tm', h1, h2⟩ := k
  cases h1 with
  | @cons _ _ _ _ _ _ D1 x V h hv hx kk =>
    refine ⟨(x, V) :: D1, tm', .cons (fun β X hX => ?_) hv hx kk, fun β => ?_⟩
    · obtain ⟨g1, g2⟩ := h β X hX
      refine ⟨g1, .inl ⟨⟨s, hj, .inl ⟨b, orE_l hs, by simp [hb]⟩⟩, ?_⟩⟩
      rcases g2 with ⟨_, g3⟩ | ⟨g3, _⟩
      · intro w S a s1 s2 s3 s4 K Q' hK
        exact g3 w S a s1 s2 s3 (fun t ht => s4 t (by simp only [looks, List.append_nil] at ht ⊢; exact List.mem_append_left _ ht)) K Q' hK
      · simp [Wanted] at g3
    · have := h2 β
      cases x <;> exact this
end rules
section
variable {P : Program} {o : Oper} {σ : St}
end
end Go.Eng

/- The engine, part 62: an operation that reads memory before or after it is turned. No program in sight. -/
set_option linter.unusedVariables false
set_option linter.unusedSectionVars false
namespace Go.Eng
open Go
variable [GTab]
section rules
variable {P : Program} {all : Array Oper} {n : Nat} {B : Heap} {tk : List Tok} {dy : List Nat} {i : Nat} {rest : List Oper} {tm : List (Nat × AV)} {acc : (Nat → Bk) → List (Nat × AV)} {Q : (Nat → Bk) → List (Nat × AV) → Prop} {d : Nat} {ty : TypeId} {pos : String} {af : Array Edge} {op : Op}
end rules
end Go.Eng

/- The engine, part 63: an entry of a map that is made or found, then written (m[k] += v). No program in sight. -/
set_option linter.unusedVariables false
set_option linter.unusedSimpArgs false
set_option linter.unusedSectionVars false
namespace Go.Eng
open Go
variable [GTab]

section rules
variable {P : Program} {all : Array Oper} {rest : List Oper} {n : Nat} {tm : List (Nat × AV)} {hp : Heap} {Q : St → Prop} {d : Nat} {ty : TypeId} {pos : String} {af : Array Edge}
end rules
end Go.Eng

/- The engine, part 64: objects that pointers of ours lead to: all of one type lie in one pool, by number. No program in sight. -/
set_option linter.unusedVariables false
set_option linter.unusedSimpArgs false
set_option linter.unusedSectionVars false
namespace Go.Eng
open Go
variable [GTab]

theorem Upd.mid {h h' : Heap} {b b' : Bk} {o o' : Ob} (u : Upd h b o b' o' h') (b2 : Bk) (o2 : Ob) : ∃ h2, Upd h b o b2 o2 h2 ∧ Upd h2 b2 o2 b' o' h' := by
  induction u with
  | here => exact ⟨_, .here, .here⟩
  | next _ ih => obtain ⟨h2, a, b⟩ := ih; exact ⟨_, .next a, .next b⟩
  | skip _ ih => obtain ⟨h2, a, b⟩ := ih; exact ⟨_, .skip a, .skip b⟩
/-- A pool's pieces in another order. -/
theorem pool_perm {w : World} {S : Nat → Prop} {hp hp' : Heap} {bp : Bk} {es es' : List (Bk × PO)} (r : HRel w S hp) (u : Upd hp bp (.pool es) bp (.pool es') hp') (h : es.Perm es') : HRel w S hp' ∧ Evo w S hp w S hp' := by
  obtain ⟨p, q, rfl, rfl⟩ := u.split
  obtain ⟨hb0, hall⟩ : bp.blk = none ∧ ∀ e ∈ es, HoldsP w S e.1 e.2 := r.holds (bp, .pool es) (mem_mid.2 (.inl rfl))
  have hebs : ∀ n, n ∈ eb (bp, .pool es') ↔ n ∈ eb (bp, .pool es) := by
    intro n
    rw [eb_pool, eb_pool]
    constructor
    · rintro (k | ⟨e, he, hn⟩)
      · exact .inl k
      · exact .inr ⟨e, h.mem_iff.2 he, hn⟩
    · rintro (k | ⟨e, he, hn⟩)
      · exact .inl k
      · exact .inr ⟨e, h.mem_iff.1 he, hn⟩
  have e1 : (eb (bp, .pool es)).Perm (eb (bp, .pool es')) := by
    simp only [eb, Ob.more]
    exact List.Perm.append_left _ (h.filterMap _)
  have hasI : ∀ n, Has (p ++ (bp, .pool es') :: q) n → Has (p ++ (bp, .pool es) :: q) n := by
    rintro n ⟨e, he, hn⟩
    rcases mem_mid.1 he with rfl | he
    · exact ⟨_, mem_mid.2 (.inl rfl), (hebs n).1 hn⟩
    · exact ⟨e, mem_mid.2 (.inr he), hn⟩
  refine ⟨⟨?_, ?_, ?_, r.slt, r.glob⟩, ⟨rfl, rfl, rfl, Nat.le_refl _, fun n hn => ⟨hn, rfl⟩, fun n _ _ => ⟨rfl, id⟩, fun n hn => .inl (hasI n hn), fun _ => Nat.le_refl _⟩⟩
  · have := r.nodup
    rw [List.flatMap_append, List.flatMap_cons] at this ⊢
    exact ((List.Perm.append_left _ (List.Perm.append_right _ e1)).nodup_iff).1 this
  · intro e he
    rcases mem_mid.1 he with rfl | he
    · exact ⟨hb0, fun e he => hall e (h.mem_iff.2 he)⟩
    · exact r.holds e (mem_mid.2 (.inr he))
  · intro e he n hn
    rcases mem_mid.1 he with rfl | he
    · have := r.sep (bp, .pool es) (mem_mid.2 (.inl rfl)) n ((hebs n).1 hn)
      exact ⟨fun h => (this.1 h).elim, fun h => h.elim⟩
    · exact r.sep e (mem_mid.2 (.inr he)) n hn
theorem HRel.same {w : World} {S : Nat → Prop} {h h' : Heap} (r : HRel w S h) (hp : h.Perm h') : HRel w S h' ∧ Evo w S h w S h' :=
  ⟨r.perm hp, rfl, rfl, rfl, Nat.le_refl _, fun n hn => ⟨hn, rfl⟩, fun n _ _ => ⟨rfl, id⟩, fun n ⟨e, he, hn⟩ => .inl ⟨e, hp.mem_iff.2 he, hn⟩, fun _ => Nat.le_refl _⟩
def obs (xs : List (Bk × PO)) : Heap := xs.map fun e => (e.1, e.2.ob)
/-- Several pieces out of a pool. -/
theorem pool_takeL {w : World} {S : Nat → Prop} {bp : Bk} {es' : List (Bk × PO)} : ∀ (xs es : List (Bk × PO)) {hp hp' : Heap}, HRel w S hp → Upd hp bp (.pool es) bp (.pool es') hp' → es.Perm (xs ++ es') → HRel w S (obs xs ++ hp') ∧ Evo w S hp w S (obs xs ++ hp')
  | [], es, hp, hp', r, u, h => pool_perm r u h
  | x :: xs, es, hp, hp', r, u, h => by
    obtain ⟨h2, u1, u2⟩ := u.mid bp (.pool (xs ++ es'))
    obtain ⟨r1, e1⟩ := pool_take r u1 h
    obtain ⟨r2, e2⟩ := pool_takeL xs (xs ++ es') r1 (.next u2) (List.Perm.refl _)
    obtain ⟨r3, e3⟩ := r2.same (h' := obs (x :: xs) ++ hp') List.perm_middle
    exact ⟨r3, (e1.trans e2).trans e3⟩
/-! ### objects by number -/
section ara
variable {V : Type}
/-- The pieces of all objects: kb tells those of one, bo where its box lies, bs where its lists lie. -/
def araG (kb : Bk → (Nat → Bk) → V → List (Bk × PO)) (bo : Nat → Bk) (bs : Nat → Nat → Bk) : Nat → List (Option V) → List (Bk × PO)
  | _, [] => []
  | i, some v :: r => kb (bo i) (bs i) v ++ araG kb bo bs (i + 1) r
  | i, none :: r => araG kb bo bs (i + 1) r
def araE (kb : Bk → (Nat → Bk) → V → List (Bk × PO)) (bo : Nat → Bk) (bs : Nat → Nat → Bk) (M : List V) : List (Bk × PO) := araG kb bo bs 0 (M.map some)
/-- All but object i. -/
def araX (kb : Bk → (Nat → Bk) → V → List (Bk × PO)) (bo : Nat → Bk) (bs : Nat → Nat → Bk) (M : List V) (i : Int) : List (Bk × PO) := araG kb bo bs 0 ((M.map some).set i.toNat none)
variable {kb : Bk → (Nat → Bk) → V → List (Bk × PO)} {bo bo' : Nat → Bk} {bs bs' : Nat → Nat → Bk}
theorem araG_congr : ∀ (l : List (Option V)) (i : Nat), (∀ j v, l[j]? = some (some v) → bo (i + j) = bo' (i + j) ∧ bs (i + j) = bs' (i + j)) → araG kb bo bs i l = araG kb bo' bs' i l
  | [], _, _ => rfl
  | some v :: r, i, h => by
    obtain ⟨h1, h2⟩ := h 0 v rfl
    show kb (bo i) (bs i) v ++ araG kb bo bs (i + 1) r = kb (bo' i) (bs' i) v ++ araG kb bo' bs' (i + 1) r
    rw [show bo i = bo' i from h1, show bs i = bs' i from h2, araG_congr r (i + 1) (fun j v hj => by
      have := h (j + 1) v (by simpa using hj)
      rw [show i + 1 + j = i + (j + 1) by omega]; exact this)]
  | none :: r, i, h => araG_congr r (i + 1) (fun j v hj => by
      have := h (j + 1) v (by simpa using hj)
      rw [show i + 1 + j = i + (j + 1) by omega]; exact this)
theorem araG_set : ∀ (l : List (Option V)) (i j : Nat) (v : V), l[j]? = some none → (araG kb bo bs i (l.set j (some v))).Perm (kb (bo (i + j)) (bs (i + j)) v ++ araG kb bo bs i l)
  | [], _, _, _, h => by simp at h
  | o :: r, i, 0, v, h => by
    obtain rfl : o = none := by simpa using h
    exact List.Perm.refl _
  | some u :: r, i, j + 1, v, h => by
    have := araG_set r (i + 1) j v (by simpa using h)
    rw [show i + 1 + j = i + (j + 1) by omega] at this
    show (kb (bo i) (bs i) u ++ araG kb bo bs (i + 1) (r.set j (some v))).Perm _
    refine (List.Perm.append_left _ this).trans ?_
    show (kb (bo i) (bs i) u ++ (kb (bo (i + (j + 1))) (bs (i + (j + 1))) v ++ araG kb bo bs (i + 1) r)).Perm (kb (bo (i + (j + 1))) (bs (i + (j + 1))) v ++ (kb (bo i) (bs i) u ++ araG kb bo bs (i + 1) r))
    rw [← List.append_assoc, ← List.append_assoc]
    exact List.Perm.append_right _ List.perm_append_comm
  | none :: r, i, j + 1, v, h => by
    have := araG_set r (i + 1) j v (by simpa using h)
    rw [show i + 1 + j = i + (j + 1) by omega] at this
    exact this
/-- An object in its place. -/
theorem araE_perm {M M' : List V} {i : Int} {v v' : V} {s : Nat → Bk} (h : idx M i = some v) (hM : M' = M.set i.toNat v') (hs : bs' = fun j => if j = i.toNat then s else bs j) : (araE kb bo bs' M').Perm (kb (bo i.toNat) s v' ++ araX kb bo bs M i) := by
  obtain ⟨h0, h1, h2⟩ := idx_some h
  unfold araE araX
  have hl : (M.map some)[i.toNat]? = some (some v) := by rw [List.getElem?_map, h2]; rfl
  have hlt : i.toNat < (M.map some).length := (List.getElem?_eq_some_iff.1 hl).1
  have hn : ((M.map some).set i.toNat none)[i.toNat]? = some none := by rw [List.getElem?_set_self hlt]
  have e1 : M'.map some = ((M.map some).set i.toNat none).set i.toNat (some v') := by rw [hM, List.map_set, List.set_set]
  rw [e1]
  have := araG_set (kb := kb) (bo := bo) (bs := bs') ((M.map some).set i.toNat none) 0 i.toNat v' hn
  rw [Nat.zero_add] at this
  refine this.trans ?_
  rw [show bs' i.toNat = s by rw [hs]; simp]
  refine List.Perm.append_left _ ?_
  rw [araG_congr (bo' := bo) (bs' := bs) ((M.map some).set i.toNat none) 0 (fun j u hj => by
    rw [Nat.zero_add]
    refine ⟨rfl, ?_⟩
    have : j ≠ i.toNat := fun e => by rw [e, hn] at hj; simp at hj
    rw [hs]; simp [this])]
theorem araE_take {M : List V} {i : Int} {v : V} (h : idx M i = some v) : (araE kb bo bs M).Perm (kb (bo i.toNat) (bs i.toNat) v ++ araX kb bo bs M i) :=
  araE_perm h (set_same (idx_some h).2.2).symm (by funext j; split <;> simp_all)
end ara
/-- What stands in memory, said otherwise. -/
theorem ImpX.obEq {n : Nat} {tm : List (Nat × AV)} {hp hp' : Heap} {T : St → Prop} {b : Bk} {o o' : Ob} (he : o = o') (u : Upd hp b o b o' hp') (k : ImpX ⟨n, tm, hp'⟩ T) : ImpX ⟨n, tm, hp⟩ T := by
  subst he
  rw [upd_of_eq u] at k
  exact k
section rules
variable {P : Program} {all : Array Oper} {rest : List Oper} {n : Nat} {tm : List (Nat × AV)} {hp : Heap} {Q : St → Prop} {d : Nat} {ty : TypeId} {pos : String} {af : Array Edge}
end rules
end Go.Eng

/- The engine, part 65: short forms for the proofs that are written by program. No program in sight. -/
set_option linter.unusedVariables false
set_option linter.unusedSectionVars false
namespace Go.Eng
open Go
variable [GTab]
section todo
variable {P : Program} {R : St → Prop} {k : List It} {σ : St}
end todo
section rules
variable {P : Program} {all : Array Oper} {rest : List Oper} {n : Nat} {tm : List (Nat × AV)} {hp : Heap} {Q : St → Prop} {d : Nat} {ty : TypeId} {pos : String} {af : Array Edge} {op : Op} {s : Nat} {j : Nat}
end rules
/-- One result in a slot; nothing is told of memory. -/
theorem hP {P : Program} {σ : St} {s : Nat} {av : AV} {Q : List AV → St → Prop} (h1 : lk σ.tm s = some av) (h2 : Q [av] σ) : ImpX σ (fun σ' => ∃ rs, Rs P σ' [.tmp s] rs ∧ Q rs σ') := ImpX.here ⟨[av], .cons (.tmp _ _ h1) .nil, h2⟩
/-- One result in a slot, and memory. -/
theorem hH {P : Program} {σ : St} {s : Nat} {av : AV} {Q : List AV → Heap → Prop} {hp' : Heap} (h1 : lk σ.tm s = some av) (is : List Nat) (hs : pickH σ.hp is = some hp') (h2 : Q [av] hp') : ImpX σ (fun σ' => ∃ rs, Rs P σ' [.tmp s] rs ∧ (∃ h', HS σ'.hp h' ∧ Q rs h')) := ImpX.here ⟨[av], .cons (.tmp _ _ h1) .nil, hp', pickH_hs hs, h2⟩
theorem hQ {P : Program} {σ : St} {s t : Nat} {av aw : AV} {Q : List AV → St → Prop} (h1 : lk σ.tm s = some av) (h1' : lk σ.tm t = some aw) (h2 : Q [av, aw] σ) : ImpX σ (fun σ' => ∃ rs, Rs P σ' [.tmp s, .tmp t] rs ∧ Q rs σ') := ImpX.here ⟨[av, aw], .cons (.tmp _ _ h1) (.cons (.tmp _ _ h1') .nil), h2⟩
theorem hI {P : Program} {σ : St} {s t : Nat} {av aw : AV} {Q : List AV → Heap → Prop} {hp' : Heap} (h1 : lk σ.tm s = some av) (h1' : lk σ.tm t = some aw) (is : List Nat) (hs : pickH σ.hp is = some hp') (h2 : Q [av, aw] hp') : ImpX σ (fun σ' => ∃ rs, Rs P σ' [.tmp s, .tmp t] rs ∧ (∃ h', HS σ'.hp h' ∧ Q rs h')) := ImpX.here ⟨[av, aw], .cons (.tmp _ _ h1) (.cons (.tmp _ _ h1') .nil), hp', pickH_hs hs, h2⟩
end Go.Eng

/- The engine, part 66: a key that is in the map reads the same. No program in sight. -/
set_option linter.unusedVariables false
set_option linter.unusedSectionVars false
namespace Go.Eng
open Go
section
variable {K V : Type} [DecidableEq K] [KLt K]
end
end Go.Eng

/- The engine, part 67: an operation of a drawn region that puts two new pieces of memory into one value. No program in sight. -/
set_option linter.unusedVariables false
set_option linter.unusedSectionVars false
namespace Go.Eng
open Go
variable [GTab]
section rules
variable {P : Program} {all : Array Oper} {n : Nat} {B : Heap} {tk : List Tok} {dy : List Nat} {i : Nat} {rest : List Oper} {tm tm' : List (Nat × AV)} {acc : (Nat → Bk) → List (Nat × AV)} {Q : (Nat → Bk) → List (Nat × AV) → Prop} {d : Nat} {ty : TypeId} {pos : String} {af : Array Edge} {op : Op}
end rules
end Go.Eng

/- The engine, part 68: a loop whose first round is told apart. No program in sight. -/
set_option linter.unusedVariables false
set_option linter.unusedSectionVars false
namespace Go.Eng
open Go
variable [GTab]
section
variable {P : Program} {R : St → Prop} {k : List It} {σ : St}
end
end Go.Eng

/- The engine, part 69: objects by number: looked at in their pool, put back, frozen. No program in sight. -/
set_option linter.unusedVariables false
set_option linter.unusedSimpArgs false
set_option linter.unusedSectionVars false
namespace Go.Eng
open Go
variable [GTab]

/-- What stands in one cell of an object: a value, or a list of its own. -/
inductive CD : Type 1 where
  | v (a : AV)
  | l {α : Type} (sz : Nat) (g : α → AV) (xs : List α)
def cdC (s : Nat → Bk) : Nat → List CD → List AV
  | _, [] => []
  | k, .v a :: r => a :: cdC s k r
  | k, .l sz _ xs :: r => .sl sz (s k) 0 xs.length :: cdC s (k + 1) r
def cdA (s : Nat → Bk) : Nat → List CD → List (Bk × PO)
  | _, [] => []
  | k, .v _ :: r => cdA s k r
  | k, .l sz g xs :: r => (s k, .arr sz (xs.map g)) :: cdA s (k + 1) r
def cdF : List CD → List AV
  | [] => []
  | .v a :: r => a :: cdF r
  | .l sz g xs :: r => .list sz (xs.map g) :: cdF r
/-- The pieces of an object, and its cells when nothing of it turns any more. -/
structure KB {V : Type} (kb : Bk → (Nat → Bk) → V → List (Bk × PO)) (fs : V → List AV) : Prop where
  ok : ∃ D : V → List CD, (∀ b s v, kb b s v = (b, .cells (cdC s 0 (D v))) :: cdA s 0 (D v)) ∧ ∀ v, fs v = cdF (D v)
/-- The pieces of an object ahead of other memory. -/
def obsO : List (Bk × PO) → Heap → Option Heap
  | [], r => some r
  | (b, .cells cs) :: l, r => match obsO l r with
    | some m => some ((b, .cells cs) :: m)
    | none => none
  | (b, .arr sz xs) :: l, r => match obsO l r with
    | some m => some ((b, .arr sz xs) :: m)
    | none => none
theorem obsO_eq : ∀ {l : List (Bk × PO)} {r m : Heap}, obsO l r = some m → obs l ++ r = m
  | [], r, m, h => Option.some.inj h
  | (b, .cells cs) :: l, r, m, h => by
    unfold obsO at h
    split at h
    · rename_i m' hm
      obtain rfl := Option.some.inj h
      rw [← obsO_eq hm]; rfl
    · cases h
  | (b, .arr sz xs) :: l, r, m, h => by
    unfold obsO at h
    split at h
    · rename_i m' hm
      obtain rfl := Option.some.inj h
      rw [← obsO_eq hm]; rfl
    · cases h
section view
variable {V : Type} {kb : Bk → (Nat → Bk) → V → List (Bk × PO)} {fs : V → List AV} {bo : Nat → Bk} {bs : Nat → Nat → Bk} {M : List V} {i : Int} {v : V} {hp hp' hp2 : Heap} {b bp : Bk}
/-- An object's pieces lie in memory. -/
theorem ara_view {w : World} {S : Nat → Prop} (r : HRel w S hp) (h : idx M i = some v) (u : Upd hp bp (.pool (araE kb bo bs M)) bp (.pool (araX kb bo bs M i)) hp') : HRel w S (obs (kb (bo i.toNat) (bs i.toNat) v) ++ hp') ∧ ∀ n, Has (obs (kb (bo i.toNat) (bs i.toNat) v) ++ hp') n → Has hp n := by
  obtain ⟨r1, e1⟩ := pool_takeL _ _ r u (araE_take h)
  refine ⟨r1, fun n hn => ?_⟩
  rcases e1.new n hn with h | h
  · exact h
  · have := r1.lt hn; omega
/-- What reads an object's pieces may read them in the pool. -/
theorem QV.ara {P : Program} {o : Oper} {n : Nat} {tm : List (Nat × AV)} {av : AV} (h : idx M i = some v) (u : Upd hp bp (.pool (araE kb bo bs M)) bp (.pool (araX kb bo bs M i)) hp') (e : obsO (kb (bo i.toNat) (bs i.toNat) v) hp' = some hp2) (q : QV P o ⟨n, tm, hp2⟩ av) : QV P o ⟨n, tm, hp⟩ av := by
  intro w S a r
  have := obsO_eq e
  subst this
  exact q w S a ⟨r.size, r.defers, r.tm, (ara_view r.hp h u).1⟩
theorem CoB.ara {a a' : AV} (h : idx M i = some v) (u : Upd hp bp (.pool (araE kb bo bs M)) bp (.pool (araX kb bo bs M i)) hp') (e : obsO (kb (bo i.toNat) (bs i.toNat) v) hp' = some hp2) (c : CoB hp2 a a') : CoB hp a a' := by
  refine .sem fun w S x r at_ => ?_
  have := obsO_eq e
  subst this
  obtain ⟨r1, r2⟩ := ara_view r h u
  exact (c.at r1 at_).mono fun m hm => ⟨hm.imp id (r2 m), rfl⟩
end view

end Go.Eng

/- The engine, part 70: slices.SortFunc at elements of one cell, by a comparison that looks at memory of ours. No program in sight. -/
set_option linter.unusedVariables false
set_option linter.unusedSimpArgs false
set_option linter.unusedSectionVars false
namespace Go.Eng
open Go Go.Sort Go.Proofs
variable [GTab]

/-- What the shelf says of an instance of slices.SortFunc whose elements have one cell. -/
structure SortP (P : Program) (f : FuncId) : Prop where
  some_ : ∀ (enc : Nat → Value) (_ : OneCell enc) (cf : Nat → Nat → Int) (_ : SWO (ltOf cf)) (g : Nat) (cb : Array Value) (blk off cap : Nat) (d : Array Nat) (w : World)
    (_ : ∀ args w, (callFunc g args).run P w = .ok (.enter g args) w) (_ : CmpLays1 P g cb enc cf blk off d.size w) (_ : Sort.Holds enc w blk off d) (_ : blk < w.heap.size) (_ : d.size < 4611686018427387904),
    Calls P f #[.slice (some ⟨blk, off, none⟩) d.size cap, .func (.func g) #[] cb] w fun e w' =>
      e = .returned (.tuple #[]) ∧ ∃ n os, w' = sortWorld enc w blk off n (pdq (ltOf cf) d 0 d.size (Lib.bitLen d.size) true true) os
  none_ : ∀ (p : Option Addr) (cap : Nat) (fv : Value) (w : World), Calls P f #[.slice p 0 cap, fv] w fun e w' => e = .returned (.tuple #[]) ∧ w' = w

end Go.Eng

/- The engine, part 71: literal arrays, cell by cell. No program in sight. -/
set_option linter.unusedVariables false
set_option linter.unusedSimpArgs false
set_option linter.unusedSectionVars false
namespace Go.Eng
open Go
variable [GTab]

section rules
variable {P : Program} {all : Array Oper} {rest : List Oper} {n : Nat} {tm : List (Nat × AV)} {hp : Heap} {Q : St → Prop} {d : Nat} {ty : TypeId} {pos : String} {af : Array Edge}
end rules
end Go.Eng

/- The engine, part 72: lists behind a front that was dropped. No program in sight. -/
set_option linter.unusedVariables false
set_option linter.unusedSimpArgs false
set_option linter.unusedSectionVars false
namespace Go.Eng
open Go
variable [GTab]

section rules
variable {P : Program} {all : Array Oper} {rest : List Oper} {n : Nat} {tm : List (Nat × AV)} {hp : Heap} {Q : St → Prop} {d : Nat} {ty : TypeId} {pos : String} {af : Array Edge}
theorem run_append_inO {P : Program} {t e E : TypeId} {i : TypeInfo} {w : World} (ht : P.underlying t = some (.slice e)) (hi : P.info? e = some i) (g o sLen sCap : Nat) (cur : Array Value) (hg : w.heap[g]? = some (.cells cur E (0, 0)))
    (a : Addr) (m c : Nat) (news : List Value) (hl : news.length = m * i.size) (hnews : ∀ (j : Nat) u, news[j]? = some u → w.cell? (a.add j) = some u) (h1 : ∀ u ∈ news, u.oneCell' = true)
    (hroom : sLen + m ≤ sCap) (hfit : (o + sLen * i.size) + news.length ≤ cur.size) :
    (Builtin.append_ #[t, t] ty #[.slice (some ⟨g, o, none⟩) sLen sCap, .slice (some a) m c]).run P w =
      .ok (.slice (some ⟨g, o, none⟩) (sLen + m) sCap) (w.setRow g (cur.toList.take (o + sLen * i.size) ++ news ++ cur.toList.drop ((o + sLen * i.size) + news.length)).toArray) := by
  have hf := run_firstCells_some (P := P) w i.size m a m c news hl hnews
  have hst := run_storeCells_at P g (o + sLen * i.size) E news 0 cur w hg (by simpa using hfit) h1
  simp only [Nat.add_zero] at hst
  simp [Builtin.append_, run_underlying ht, sizeOf, typeInfo, hi, Builtin.lenOf, hroom, hf, Addr.add_lit, hst]
theorem append_runO {w : World} {S : Nat → Prop} {hp : Heap} {t e : TypeId} {i : TypeInfo} {z : Value} {b : Bk} {ps xs ys : List AV} {v1 v2 : Value} (r : HRel w S hp) (ht : P.underlying t = some (.slice e)) (hi : P.info? e = some i) (hz : i.zero = some z) (hzs : z.cells.size = i.size) (h0 : 0 < i.size)
    (f : Fnd hp b (.arr i.size (ps ++ xs))) (hv1 : At w S (.sl i.size b ps.length xs.length) v1) (hs : SrcV w S i.size ys v2) (hb : (xs.length + ys.length) * i.bytes ≤ 140737488355328) (h63 : xs.length + ys.length ≤ 9223372036854775807) :
    ∃ v' w' b' qs, ((b' = b ∧ qs = ps) ∨ (b' ≠ b ∧ qs = [])) ∧ (Builtin.append_ #[t, t] ty #[v1, v2]).run P w = .ok v' w' ∧ At w' S (.sl i.size b' qs.length (xs.length + ys.length)) v' ∧ GB w w' b.blk ∧ Holds w' S b' (.arr i.size (qs ++ (xs ++ ys))) ∧
      (b'.blk = b.blk ∨ b'.blk = none ∨ ∃ m, b'.blk = some m ∧ w.heap.size ≤ m) := by
  obtain ⟨k0, a, c, nvs, rfl, k1, k2, k3⟩ := hs
  have hold := r.holds _ f.mem
  obtain ⟨g0, g1, g2⟩ := arr_cells r (.inl f)
  have g0x : ∀ x ∈ xs, El i.size x := fun x hx => g0 x (List.mem_append_right _ hx)
  have g0p : ∀ x ∈ ps, El i.size x := fun x hx => g0 x (List.mem_append_left _ hx)
  have hv1' := hv1
  obtain ⟨oa, cap, rfl, e2⟩ := hv1.sl_inv
  by_cases hy : ys = []
  · subst hy
    have hle : xs.length ≤ cap := by
      rcases e2 with ⟨_, _, hl, _, _⟩ | ⟨m, hb', ha, h1, h2⟩ | ⟨m, ad, hb', ha, hl, hc⟩ <;> omega
    refine ⟨_, w, b, ps, .inl ⟨rfl, rfl⟩, run_append_none ht hi oa a xs.length cap c hle w, by simpa using hv1', ⟨⟨rfl, rfl, rfl, Nat.le_refl _, fun _ _ _ => rfl⟩, fun _ => Nat.le_refl _⟩, by simpa using hold, .inl rfl⟩
  · have hm : 0 < ys.length := List.length_pos_iff.2 hy
    have hnl : 0 < nvs.length := by rw [k1]; exact Nat.mul_pos hm h0
    obtain ⟨ad, rfl, _⟩ := k3 0 nvs[0] (by simp [hnl])
    have k3' : ∀ (j : Nat) u, nvs[j]? = some u → w.cell? (ad.add j) = some u := fun j u hu => by
      obtain ⟨ad', h1, h2⟩ := k3 j u hu
      obtain rfl := Option.some.inj h1
      exact h2
    have hone : ∀ u ∈ nvs, u.oneCell' = true := one_vals (cs := flat ys) (vs := nvs.toArray) (by simp [k1, flat_length k0]) k2 (flat_one k0)
    have elx : ∀ x ∈ xs ++ ys, El i.size x := fun x hx => by rcases List.mem_append.1 hx with h | h; exact g0x x h; exact k0 x h
    have ely : ∀ x ∈ ps ++ (xs ++ ys), El i.size x := fun x hx => by rcases List.mem_append.1 hx with h | h; exact g0p x h; exact elx x h
    /- a new block -/
    have grown : ∀ (old : Nat) (olds : List Value) (wr : Option Nat), olds.length = xs.length * i.size → AtA w S (flat xs) olds.toArray →
        At (w.drew.alloc (.cells (olds.toArray ++ nvs.toArray ++ Builtin.zeroCells z.cells (grownCap w (xs.length + ys.length) old e - (xs.length + ys.length))) e)) S (.sl i.size ⟨some w.heap.size, grownCap w (xs.length + ys.length) old e⟩ 0 (xs.length + ys.length))
          (.slice (some ⟨w.heap.size, 0, none⟩) (xs.length + ys.length) (grownCap w (xs.length + ys.length) old e)) ∧
        GB w (w.drew.alloc (.cells (olds.toArray ++ nvs.toArray ++ Builtin.zeroCells z.cells (grownCap w (xs.length + ys.length) old e - (xs.length + ys.length))) e)) wr ∧
        Holds (w.drew.alloc (.cells (olds.toArray ++ nvs.toArray ++ Builtin.zeroCells z.cells (grownCap w (xs.length + ys.length) old e - (xs.length + ys.length))) e)) S ⟨some w.heap.size, grownCap w (xs.length + ys.length) old e⟩ (.arr i.size (xs ++ ys)) := by
      intro old olds wr ho1 ho2
      have hge := grownCap_ge w (xs.length + ys.length) old e
      have ex : Ext w (w.drew.alloc (.cells (olds.toArray ++ nvs.toArray ++ Builtin.zeroCells z.cells (grownCap w (xs.length + ys.length) old e - (xs.length + ys.length))) e)) := (Ext.draws w _ (Nat.le_succ _)).trans (Ext.alloc w.drew _)
      generalize grownCap w (xs.length + ys.length) old e = cp at *
      refine ⟨?_, ⟨⟨ex.os, ex.tape, ex.output, ex.size, fun k hk _ => ex.same k hk⟩, ex.drawn⟩, elx, by simpa using hge, .inr ⟨w.heap.size, olds.toArray ++ nvs.toArray ++ Builtin.zeroCells z.cells (cp - (xs.length + ys.length)), e, rfl, ?_, ?_, ?_⟩⟩
      · have := At.sl (w := w.drew.alloc (.cells (olds.toArray ++ nvs.toArray ++ Builtin.zeroCells z.cells (cp - (xs.length + ys.length))) e)) (S := S) i.size ⟨some w.heap.size, cp⟩ 0 (xs.length + ys.length) w.heap.size cp rfl hge (by simp)
        simpa using this
      · show (w.heap.push _)[w.heap.size]? = _
        simp
      · simp only [Array.size_append, List.size_toArray, size_zeroCells, hzs, ho1, k1]
        rw [← Nat.add_mul, ← Nat.add_mul]
        congr 1
        omega
      · rw [flat_append]
        have h2 : AtA w S (flat xs ++ flat ys) (olds ++ nvs).toArray := AtA_cons (by rw [flat_length g0x, ho1]) ho2 k2
        intro j c' u hc hu
        have hj : j < (olds ++ nvs).length := by
          have := (List.getElem?_eq_some_iff.1 hc).1
          simp only [List.length_append, flat_length g0x, flat_length k0] at this
          simp only [List.length_append, ho1, k1]
          exact this
        have hu' : (olds ++ nvs).toArray[j]? = some u := by
          rw [Array.getElem?_append_left (by simpa using hj)] at hu
          simpa using hu
        exact (h2 j c' u hc hu').mono fun m hm' => ⟨hm', ex.same m (r.slt m hm')⟩
    rcases e2 with ⟨hbn, _, hl, rfl, rfl⟩ | ⟨m, hbm, rfl, h1, h2⟩ | ⟨m, ad', hbm, rfl, hl, rfl⟩
    · have hx : xs = [] := List.eq_nil_of_length_eq_zero hl
      subst hx
      have hr := run_append_nil (P := P) (ty := ty) w t e i z ht hi hz ad ys.length c nvs k1 k3' hm (by simp at h63; omega) (by simp only [List.length_nil, Nat.zero_add] at hb; omega)
      obtain ⟨q1, q2, q3⟩ := grown 0 [] b.blk (by simp) (fun j c' u hc => by simp [flat] at hc)
      simp only [List.length_nil, Nat.zero_add, Array.empty_append] at q1 q2 q3 ⊢
      exact ⟨_, _, _, [], .inr ⟨fun e => (by rw [← e] at hbn; cases hbn), rfl⟩, hr, q1, q2, q3, .inr (.inr ⟨_, rfl, Nat.le_refl _⟩)⟩
    · rcases g2 with ⟨g2, _⟩ | ⟨m', vs, E, g2, g3, g4, g5⟩
      · rw [g2] at hbm; cases hbm
      · obtain rfl : m' = m := by rw [g2] at hbm; exact Option.some.inj hbm
        have hpx : ps.length * i.size + xs.length * i.size = (ps ++ xs).length * i.size := by rw [List.length_append, Nat.add_mul]
        by_cases hroom : xs.length + ys.length ≤ cap
        · have hmul : (ps.length + (xs.length + ys.length)) * i.size ≤ b.cap * i.size := Nat.mul_le_mul_right _ (by omega)
          have hfit : (ps.length * i.size + xs.length * i.size) + nvs.length ≤ vs.size := by rw [k1, ← Nat.add_mul, ← Nat.add_mul, g4, Nat.add_assoc]; exact hmul
          have hr := run_append_inO (P := P) (ty := ty) ht hi m' (ps.length * i.size) xs.length cap vs g3 ad ys.length c nvs k1 k3' hone hroom hfit
          rw [hpx] at hr hfit
          have nS : ¬ S m' := fun hs => (r.sep _ f.mem m' (eb_of hbm)).1 hs
          have ex : ∀ k, S k → S k ∧ (w.setRow m' (vs.toList.take ((ps ++ xs).length * i.size) ++ nvs ++ vs.toList.drop ((ps ++ xs).length * i.size + nvs.length)).toArray).heap[k]? = w.heap[k]? := fun k hk => ⟨hk, setRow_other w m' k _ (fun e => nS (e ▸ hk))⟩
          refine ⟨_, _, b, ps, .inl ⟨rfl, rfl⟩, hr, ?_, ⟨⟨rfl, rfl, rfl, by simp, fun k _ hk => setRow_other w m' k _ (fun e => hk (by rw [hbm, e]))⟩, fun _ => Nat.le_refl _⟩, ⟨ely, by simp; omega, .inr ⟨m', (vs.toList.take ((ps ++ xs).length * i.size) ++ nvs ++ vs.toList.drop ((ps ++ xs).length * i.size + nvs.length)).toArray, E, hbm, setRow_heap w m' vs _ E _ g3, ?_, ?_⟩⟩, .inl rfl⟩
          · exact At.sl (w := w.setRow m' (vs.toList.take ((ps ++ xs).length * i.size) ++ nvs ++ vs.toList.drop ((ps ++ xs).length * i.size + nvs.length)).toArray) (S := S) i.size b ps.length (xs.length + ys.length) m' cap hbm hroom (by omega)
          · simp only [List.size_toArray, List.length_append, List.length_take, List.length_drop, Array.length_toList (xs := vs)] at hfit ⊢
            omega
          · rw [← List.append_assoc, flat_append]
            have hA : AtA w S (flat (ps ++ xs) ++ flat ys) (vs.toList.take ((ps ++ xs).length * i.size) ++ nvs).toArray := AtA_cons (by rw [flat_length g0, List.length_take, Array.length_toList (xs := vs)]; omega) (fun j c' u hc hu => by
              simp only [List.getElem?_toArray, List.getElem?_take] at hu
              split at hu
              · exact g5 j c' u hc (by simpa using hu)
              · cases hu) k2
            intro j c' u hc hu
            have hj : j < (vs.toList.take ((ps ++ xs).length * i.size) ++ nvs).length := by
              have := (List.getElem?_eq_some_iff.1 hc).1
              rw [List.length_append, flat_length g0, flat_length k0] at this
              rw [List.length_append, List.length_take, Array.length_toList (xs := vs), k1]; omega
            simp only [List.getElem?_toArray] at hu
            rw [List.getElem?_append_left hj] at hu
            exact (hA j c' u hc (by simpa using hu)).mono ex
        · have hin : ps.length * i.size + xs.length * i.size ≤ vs.size := by
            have := Nat.mul_le_mul_right i.size g1
            rw [hpx, g4]; exact this
          have hol : ((vs.toList.drop (ps.length * i.size)).take (xs.length * i.size)).length = xs.length * i.size := by
            rw [List.length_take, List.length_drop, Array.length_toList (xs := vs)]; omega
          have hr := run_append_grow (P := P) (ty := ty) w t e i z ht hi hz ⟨m', ps.length * i.size, none⟩ xs.length cap ((vs.toList.drop (ps.length * i.size)).take (xs.length * i.size)) hol (fun j u hu => by
              rw [add_at, cell_at g3]
              rw [List.getElem?_take] at hu
              split at hu
              · rw [List.getElem?_drop] at hu; simpa using hu
              · cases hu) ad ys.length c nvs k1 k3' (by omega) (by omega) (growslice_fits (by omega) hb)
          obtain ⟨q1, q2, q3⟩ := grown cap ((vs.toList.drop (ps.length * i.size)).take (xs.length * i.size)) b.blk hol (fun j c' u hc hu => by
              simp only [List.getElem?_toArray, List.getElem?_take] at hu
              split at hu
              · rw [List.getElem?_drop] at hu
                refine g5 (ps.length * i.size + j) c' u ?_ (by simpa using hu)
                rw [flat_append, List.getElem?_append_right (by rw [flat_length g0p]; omega), flat_length g0p]
                rw [Nat.add_sub_cancel_left]; exact hc
              · cases hu)
          have hm' : m' < w.heap.size := (Array.getElem?_eq_some_iff.1 g3).1
          exact ⟨_, _, _, [], .inr ⟨fun e => (by rw [← e] at hbm; exact absurd (Option.some.inj hbm) (by omega)), rfl⟩, hr, q1, q2, q3, .inr (.inr ⟨_, rfl, Nat.le_refl _⟩)⟩
    · have hx : xs = [] := List.eq_nil_of_length_eq_zero hl
      subst hx
      have hr := run_append_grow (P := P) (ty := ty) w t e i z ht hi hz ad' 0 0 [] (by simp) (fun j u hu => by simp at hu) ad ys.length c nvs k1 k3' (by omega) (by simp at h63; omega) (growslice_fits (by omega) (by simpa using hb))
      obtain ⟨q1, q2, q3⟩ := grown 0 [] b.blk (by simp) (fun j c' u hc => by simp [flat] at hc)
      simp only [List.length_nil, Nat.zero_add] at q1 q2 q3 hr ⊢
      exact ⟨_, _, _, [], .inr ⟨fun e => (by
        rw [← e] at g2
        rcases g2 with ⟨g2, _⟩ | ⟨m', vs, E, g2, g3, _⟩
        · cases g2
        · have := (Array.getElem?_eq_some_iff.1 g3).1
          exact absurd (Option.some.inj g2) (by omega)), rfl⟩, hr, q1, q2, q3, .inr (.inr ⟨_, rfl, Nat.le_refl _⟩)⟩
/-- The front behind which a list goes on, when something was appended. -/
noncomputable def preO {α : Type} (b b' : Bk) (Ps : List α) : List α := open Classical in if b' = b then Ps else []
theorem t_appendO {α : Type} {g : α → AV} {Ps Xs Ys Zs : List α} {t e : TypeId} {i : TypeInfo} {z : Value} {x y : Operand} {src : AV} {b : Bk} {sz : Nat} {hp' : Bk → Heap} [TUnder P t (.slice e)] [TInfo P e i] (hx : evA tm x = some (.sl sz b Ps.length Xs.length)) (hy : evA tm y = some src) (hz : i.zero = some z)
    (hzs : Nat.beq z.cells.size i.size = true) (hsz : Nat.beq i.size sz = true) (h0 : Nat.blt 0 sz = true) (hn : Nat.blt d n = true) (hby : Nat.ble i.bytes 65536 = true) (hs : Src hp sz src (Ys.map g)) (hv : app Xs Ys = some Zs) (u : ∀ b', Upd hp b (.arr sz ((Ps ++ Xs).map g)) b' (.arr sz ((preO b b' Ps ++ Zs).map g)) (hp' b'))
    (kk : ∀ b', ARun P all rest ⟨n, (d, .sl sz b' (preO b b' Ps).length Zs.length) :: tm, hp' b'⟩ Q) : ARun P all (⟨some d, .call { callee := .builtin .append, args := #[x, y], argTypes := #[t, t] }, ty, pos, af, none⟩ :: rest) ⟨n, tm, hp⟩ Q := by
  obtain ⟨hb, rfl⟩ := app_some hv
  refine ARun.opx rfl fun w S a r => ?_
  obtain rfl : i.size = sz := Nat.eq_of_beq_eq_true hsz
  have hby := Nat.le_of_ble_eq_true hby
  have hf := (u b).fnd
  rw [List.map_append] at hf
  have hx' : evA tm x = some (.sl i.size b (Ps.map g).length (Xs.map g).length) := by rw [List.length_map, List.length_map]; exact hx
  have hmul : ((Xs.map g).length + (Ys.map g).length) * i.bytes ≤ 1000000000 * 65536 := Nat.mul_le_mul (by simpa using hb) hby
  obtain ⟨v', w', b', qs, hq, g1, g2, g3, g4, g5⟩ := append_runO (P := P) (ty := ty) r.hp (TUnder.h (P := P) (t := t)) (TInfo.h (P := P) (t := e)) hz (Nat.eq_of_beq_eq_true hzs) (by simpa using h0) hf (evA_at (σ := ⟨n, tm, hp⟩) r hx') (hs.at r.hp (evA_at (σ := ⟨n, tm, hp⟩) r hy)) (by omega) (by simp; omega)
  obtain rfl : qs = (preO b b' Ps).map g := by
    rcases hq with ⟨rfl, rfl⟩ | ⟨h1, rfl⟩
    · simp [preO]
    · simp [preO, h1]
  rw [← List.map_append, ← List.map_append] at g4
  obtain ⟨k1, k2, k3⟩ := upd_rel r.hp (u b') g3 id id g4 g5
  have g2' : At w' S (.sl i.size b' (preO b b' Ps).length (Xs ++ Ys).length) v' := by simpa using g2
  refine ⟨v', w', S, _, ?_, (r.heap k3 k1).put hn g2', k2, kk b'⟩
  simp [execOp, resolve, invoke, builtin, g1]
theorem t_index_dq {α : Type} {Ps Xs : List α} {el : α} {t e : TypeId} {i : TypeInfo} {x y : Operand} {k : IntKind} {j : Int} {sz : Nat} {b : Bk} [TUnder P t (.slice e)] [TInfo P e i] (hx : evA tm x = some (.sl sz b Ps.length Xs.length)) (hsz : Nat.beq i.size sz = true) (hy : evA tm y = some (.int k j))
    (hv : idx Xs j = some el) : QV P ⟨some d, .indexAddr t x y, ty, pos, af, none⟩ ⟨n, tm, hp⟩ (.aptr sz b (Ps.length + j.toNat) 0) := by
  obtain ⟨h0, h1, _⟩ := idx_some hv
  exact q_index_sl hx hsz hy ⟨h0, h1⟩
theorem dq_get {α : Type} {g : α → AV} {Ps Xs : List α} {el : α} {j : Int} (hv : idx Xs j = some el) : ((Ps ++ Xs).map g)[Ps.length + j.toNat]? = some (g el) := by
  rw [List.getElem?_map, List.getElem?_append_right (by omega), Nat.add_sub_cancel_left, (idx_some hv).2.2]; rfl
theorem t_load_dq {α : Type} {g : α → AV} {Ps Xs : List α} {el : α} {j : Int} {t : TypeId} {D : TypeDesc} {x : Operand} {b : Bk} {sz o : Nat} {av : AV} [TUnder P t D] (hD : TypeDesc.isAggB D = false) (hx : evA tm x = some (.aptr sz b (Ps.length + j.toNat) o)) (f : Fnd hp b (.arr sz ((Ps ++ Xs).map g)))
    (hv : idx Xs j = some el) (ho : (g el).cells[o]? = some av) : QV P ⟨some d, .load t x, ty, pos, af, none⟩ ⟨n, tm, hp⟩ av :=
  q_load_aptr hD hx (.inl f) (dq_get hv) ho
theorem t_load_dq_agg {α : Type} {g : α → AV} {Ps Xs : List α} {el : α} {j : Int} {t : TypeId} {D : TypeDesc} {i : TypeInfo} {x : Operand} {b : Bk} {sz : Nat} {cs : List AV} [TUnder P t D] [TInfo P t i] (hD : TypeDesc.isAggB D = true) (hx : evA tm x = some (.aptr sz b (Ps.length + j.toNat) 0)) (f : Fnd hp b (.arr sz ((Ps ++ Xs).map g))) (hsz : Nat.beq i.size sz = true)
    (hv : idx Xs j = some el) (hc : g el = .agg cs) : QV P ⟨some d, .load t x, ty, pos, af, none⟩ ⟨n, tm, hp⟩ (.agg cs) :=
  q_load_aptr_agg hD hx (.inl f) hsz (by rw [dq_get (g := g) hv, hc])
theorem t_slice_dq {α : Type} {Ps Xs Zs : List α} {t e : TypeId} {i : TypeInfo} {x : Operand} {lo hi : Option Operand} {l h : Option Int} {sz : Nat} {b : Bk} {L H : Int} [TUnder P t (.slice e)] [TInfo P e i] (hx : evA tm x = some (.sl sz b Ps.length Xs.length)) (hsz : Nat.beq i.size sz = true) (hl : Bnd tm lo l) (hh : Bnd tm hi h)
    (eL : lowB l = L) (eH : highB Xs.length h = H) (hv : slc Xs L H = some Zs) : QV P ⟨some d, .slice t x lo hi none, ty, pos, af, none⟩ ⟨n, tm, hp⟩ (.sl sz b (Ps.length + L.toNat) Zs.length) := by
  obtain ⟨⟨h0, h1, h2⟩, _⟩ := slc_some hv
  have hlen := (slc_len hv).1
  subst eL; subst eH
  have := q_slice_sl (P := P) (d := d) (ty := ty) (pos := pos) (af := af) (n := n) (tm := tm) (hp := hp) (t := t) (e := e) hx hsz hl hh h0 h1 h2
  rw [hlen]; exact this
end rules
/-- The front of a list is dropped: its memory stays. -/
theorem ImpX.dqCut {α : Type} {g : α → AV} {n : Nat} {tm : List (Nat × AV)} {hp : Heap} {hp' : List α → Heap} {T : St → Prop} {b : Bk} {sz : Nat} {Ps Xs Zs : List α} {L : Int} (hv : slc Xs L Xs.length = some Zs) (u : ∀ Qs, Upd hp b (.arr sz ((Ps ++ Xs).map g)) b (.arr sz ((Qs ++ Zs).map g)) (hp' Qs))
    (kk : ∀ Qs : List α, Qs.length = Ps.length + L.toNat → ImpX ⟨n, tm, hp' Qs⟩ T) : ImpX ⟨n, tm, hp⟩ T := fun w S a r => by
  obtain ⟨⟨h0, h1, h2⟩, hz⟩ := slc_some hv
  have hH := r.hp.holds _ (u Ps).fnd.mem
  have hx : Ps ++ Xs = (Ps ++ Xs.take L.toNat) ++ Zs := by
    rw [List.append_assoc]
    congr 1
    have hzl : Zs = Xs.drop L.toNat := by rw [hz, List.take_of_length_le (by rw [List.length_drop]; omega)]
    rw [hzl, List.take_append_drop]
  have hH' : Holds w S b (.arr sz (((Ps ++ Xs.take L.toNat) ++ Zs).map g)) := by rw [← hx]; exact hH
  obtain ⟨r1, e1, _⟩ := upd_rel r.hp (u (Ps ++ Xs.take L.toNat)) (GB_refl w b.blk) id id hH' (.inl rfl)
  obtain ⟨σ', S', t1, t2, t3⟩ := kk (Ps ++ Xs.take L.toNat) (by rw [List.length_append, List.length_take]; omega) w S a (r.heap (fun m hm => ⟨hm, rfl⟩) r1)
  exact ⟨σ', S', t1, t2, e1.trans t3⟩
/-- The tail of a list is dropped. -/
theorem ImpX.dqTake {α : Type} {g : α → AV} {n : Nat} {tm : List (Nat × AV)} {hp hp' : Heap} {T : St → Prop} {b : Bk} {sz : Nat} {Ps Xs Zs : List α} {H : Int} (hv : slc Xs 0 H = some Zs) (u : Upd hp b (.arr sz ((Ps ++ Xs).map g)) b (.arr sz ((Ps ++ Zs).map g)) hp')
    (kk : ImpX ⟨n, tm, hp'⟩ T) : ImpX ⟨n, tm, hp⟩ T := fun w S a r => by
  obtain ⟨⟨h0, h1, h2⟩, hz⟩ := slc_some hv
  have hx : (Ps ++ Zs).map g = ((Ps ++ Xs).map g).take (Ps.length + H.toNat) := by
    rw [← List.map_take, List.take_append]
    congr 2
    · rw [List.take_of_length_le (by omega)]
    · rw [hz, Nat.add_sub_cancel_left]; simp
  have u' := u
  rw [hx] at u'
  obtain ⟨q1, q2⟩ := upd_take r.hp u'
  obtain ⟨σ', S', t1, t2, t3⟩ := kk w S a (r.heap (fun m hm => ⟨hm, rfl⟩) q1)
  exact ⟨σ', S', t1, t2, q2.trans t3⟩
end Go.Eng

/- The engine, part 73: a box that some slots point to is frozen. No program in sight. -/
set_option linter.unusedVariables false
set_option linter.unusedSectionVars false
namespace Go.Eng
open Go
variable [GTab]
/-- Slots that point to what is frozen. -/
def putR (cs : List AV) : List Nat → List (Nat × AV) → List (Nat × AV)
  | [], tm => tm
  | s :: r, tm => (s, .rptr cs) :: putR cs r tm
theorem lk_putR {cs : List AV} {tm : List (Nat × AV)} {t : Nat} {av : AV} : ∀ {ss : List Nat}, lk (putR cs ss tm) t = some av → (t ∈ ss ∧ av = .rptr cs) ∨ lk tm t = some av
  | [], h => .inr h
  | s :: r, h => by
    simp only [putR, lk] at h
    split at h
    · rename_i hb
      obtain rfl : s = t := by simpa using hb
      exact .inl ⟨by simp, (Option.some.inj h).symm⟩
    · rcases lk_putR h with ⟨h1, h2⟩ | h1
      · exact .inl ⟨List.mem_cons_of_mem _ h1, h2⟩
      · exact .inr h1
/-- A box of ours that is not written again: it is frozen, some slots point to what is in it. -/
theorem ImpX.frzPtrL {n : Nat} {ss : List Nat} {tm : List (Nat × AV)} {hp hp1 : Heap} {T : St → Prop} {b : Bk} {cs : List AV} (hs : ∀ s ∈ ss, lk tm s = some (.ptr b 0)) (dl : Del hp b (.cells cs) hp1) (k : ImpX ⟨n, putR cs ss tm, hp1⟩ T) : ImpX ⟨n, tm, hp⟩ T := by
  refine ImpX.step (σ1 := ⟨n, putR cs ss tm, hp1⟩) (fun w S a r => ?_) k
  obtain ⟨p, q, rfl, rfl⟩ := dl.split
  have hmem : (b, Ob.cells cs) ∈ p ++ (b, .cells cs) :: q := mem_mid.2 (.inl rfl)
  obtain ⟨h1, m0, vs, E, hb0, hh, hsz, ha⟩ := r.hp.holds _ hmem
  have hin : ∀ m, b.blk = some m → m < w.heap.size := fun m hm => r.hp.lt ⟨_, hmem, eb_of hm⟩
  let S' : Nat → Prop := fun m => S m ∨ b.blk = some m
  have mono : ∀ m, S m → S' m ∧ w.heap[m]? = w.heap[m]? := fun m hm => ⟨.inl hm, rfl⟩
  have hnd := r.hp.nodup
  have hsub : (p ++ q).Sublist (p ++ (b, Ob.cells cs) :: q) := List.Sublist.append (List.Sublist.refl _) (List.sublist_cons_self _ _)
  have hrel : HRel w S' (p ++ q) := by
    refine ⟨hnd.sublist (sub_flatMap hsub), fun e he => (r.hp.holds e (hsub.subset he)).mono mono (fun _ _ => rfl), fun e he m hm => ?_, fun m hm => ?_, fun g o ho => ⟨.inl (r.hp.glob g o ho).1, (r.hp.glob g o ho).2⟩⟩
    · rw [← r.hp.sep e (hsub.subset he) m hm]
      refine ⟨fun hs => hs.elim id fun hb => ?_, .inl⟩
      exfalso
      rw [List.flatMap_append, List.flatMap_cons, List.nodup_append, List.nodup_append] at hnd
      rcases List.mem_append.1 he with h | h
      · exact hnd.2.2 m (List.mem_flatMap.2 ⟨e, h, hm⟩) m (List.mem_append_left _ (eb_of hb)) rfl
      · exact hnd.2.1.2.2 m (eb_of hb) m (List.mem_flatMap.2 ⟨e, h, hm⟩) rfl
    · rcases hm with h | h
      · exact r.hp.slt m h
      · exact hin m h
  have hr := r.heap mono hrel
  refine ⟨_, S', rfl, ⟨hr.size, hr.defers, fun t av h => ?_, hr.hp⟩, rfl, rfl, rfl, Nat.le_refl _, mono, fun m hm hh => ⟨rfl, fun hs => hs.elim id fun hb => (hh ⟨_, hmem, eb_of hb⟩).elim⟩, fun m hm => .inl ?_, fun _ => Nat.le_refl _⟩
  · rcases lk_putR h with ⟨ht, rfl⟩ | h
    · obtain ⟨v, e1, e2⟩ := hr.tm t _ (hs t ht)
      cases e2 with
      | ptr _ _ m hb =>
        obtain rfl := Option.some.inj (hb.symm.trans hb0)
        refine ⟨_, e1, .rptr cs ⟨m, 0, none⟩ vs.toList (by simp [hsz]) (fun i c v hc hv => (ha i c v hc (by simpa using hv)).mono mono) rfl (.inr hb) (fun i v hv => ?_)⟩
        rw [cell_at hh]; simpa using hv
    · exact hr.tm t av h
  · obtain ⟨e, he, hb⟩ := hm
    exact ⟨e, hsub.subset he, hb⟩
end Go.Eng

