/- The engine: abstract values, the symbolic heap, one rule for each operation. No program in sight. -/
import Derived.Test.YtifmjkaghhkhfaaGreatDoorEngE
import Derived.Shelf.SlSortCmp.NoneTotal
/- The engine, part 48: an operation in a region with tokens that looks at a value told of new memory, and whose result is told without it. No program in sight. -/
set_option linter.unusedVariables false
set_option linter.unusedSectionVars false
namespace Go.Eng
open Go
variable [GTab]
section rules
variable {P : Program} {all : Array Oper} {n : Nat} {B : Heap} {tk : List Tok} {dy : List Nat} {i : Nat} {rest : List Oper} {tm : List (Nat × AV)} {acc : (Nat → Bk) → List (Nat × AV)} {Q : (Nat → Bk) → List (Nat × AV) → Prop} {d : Nat} {ty : TypeId} {pos : String} {af : Array Edge} {op : Op}
end rules
end Go.Eng

/- The engine, part 49: room for a new builder. No program in sight. -/
set_option linter.unusedVariables false
set_option linter.unusedSectionVars false
namespace Go.Eng
open Go Go.Proofs Go.Shelf Go.Lib
variable {P : Program} [GTab]
end Go.Eng

/- The engine, part 50: 'a and b', 'a or b' of plain truths, in a region with tokens: without two ways. No program in sight. -/
set_option linter.unusedVariables false
set_option linter.unusedSectionVars false
namespace Go.Eng
open Go
variable [GTab]
section rules
variable {P : Program} {all : Array Oper} {rest : List Oper} {n : Nat} {tm : List (Nat × AV)} {hp : Heap} {Q : List (Nat × AV) → Prop} {d1 d2 j s x : Nat} {t1 t2 : TypeId} {p1 p2 : String} {a1 a2 : Array Edge} {a b : Bool}
end rules
end Go.Eng

/- The engine, part 51: make of slices whose elements are slices. No program in sight. -/
set_option linter.unusedVariables false
set_option linter.unusedSectionVars false
namespace Go.Eng
open Go
variable [GTab]
section rules
variable {P : Program} {all : Array Oper} {rest : List Oper} {n : Nat} {tm : List (Nat × AV)} {hp : Heap} {Q : St → Prop} {d : Nat} {ty : TypeId} {pos : String} {af : Array Edge}
end rules
end Go.Eng

/- The engine, part 52: memory that is given up. No program in sight. -/
set_option linter.unusedVariables false
set_option linter.unusedSectionVars false
namespace Go.Eng
open Go
variable [GTab]
theorem ImpX.drop {n : Nat} {tm : List (Nat × AV)} {hp hp1 : Heap} {T : St → Prop} {b : Bk} {o : Ob} (dl : Del hp b o hp1) (k : ImpX ⟨n, tm, hp1⟩ T) : ImpX ⟨n, tm, hp⟩ T := by
  have hs : hp1.Sublist hp := by
    obtain ⟨p, q, rfl, rfl⟩ := dl.split
    exact List.Sublist.append (List.Sublist.refl _) (List.sublist_cons_self _ _)
  exact ImpX.step (σ1 := ⟨n, tm, hp1⟩) (fun w S a r => ⟨_, S, rfl, r.less ⟨rfl, fun _ _ h => h, hs⟩, Evo.less (Evo.refl w S hp) fun _ hn => hn.sub hs⟩) k
end Go.Eng

/- The engine, part 53: clear of slices whose elements hold slices. No program in sight. -/
set_option linter.unusedVariables false
set_option linter.unusedSectionVars false
namespace Go.Eng
open Go
variable [GTab]
section rules
variable {P : Program} {all : Array Oper} {rest : List Oper} {n : Nat} {tm : List (Nat × AV)} {hp : Heap} {Q : St → Prop} {d : Nat} {ty : TypeId} {pos : String} {af : Array Edge}
end rules
end Go.Eng

/- The engine, part 54: a captured box that is never written again. No program in sight. -/
set_option linter.unusedVariables false
set_option linter.unusedSectionVars false
namespace Go.Eng
open Go
variable [GTab]
end Go.Eng

/- The engine, part 55: look-ups in maps whose values hold slices. No program in sight. -/
set_option linter.unusedVariables false
set_option linter.unusedSectionVars false
namespace Go.Eng
open Go
variable [GTab]
section rules
variable {P : Program} {all : Array Oper} {rest : List Oper} {n : Nat} {tm : List (Nat × AV)} {hp : Heap} {Q : St → Prop} {d : Nat} {ty : TypeId} {pos : String} {af : Array Edge}
end rules
end Go.Eng

/- The engine, part 56: structs of plain cells as keys of maps. No program in sight. -/
set_option linter.unusedVariables false
set_option linter.unusedSectionVars false
namespace Go.Eng
open Go
variable [GTab]
def scB : AV → Bool
  | .int _ _ => true
  | .bool _ => true
  | .str _ => true
  | _ => false
theorem sc_det {w : World} {S : Nat → Prop} {a : AV} {v u : Value} (h : scB a = true) (hv : At w S a v) (hu : At w S a u) : v = u ∧ ∀ n, Instr.sameBits n v v = true := by
  cases a <;> simp only [scB, Bool.false_eq_true] at h
  · rw [hv.int_inv, hu.int_inv]; exact ⟨rfl, fun n => by cases n <;> simp [Instr.sameBits]⟩
  · rw [hv.bool_inv, hu.bool_inv]; exact ⟨rfl, fun n => by cases n <;> simp [Instr.sameBits]⟩
  · rw [hv.str_inv, hu.str_inv]
    refine ⟨rfl, fun n => ?_⟩
    cases n <;> (simp only [Instr.sameBits]; exact (ba_beq _ _).2 rfl)
theorem zip_self_all {α : Type} (p : α × α → Bool) : ∀ (l : List α), (∀ x ∈ l, p (x, x) = true) → (l.zip l).all p = true
  | [], _ => rfl
  | x :: r, h => by
    rw [List.zip_cons_cons, List.all_cons, h x List.mem_cons_self, zip_self_all p r (fun y hy => h y (List.mem_cons_of_mem _ hy))]; rfl
theorem sc_aggs {w : World} {S : Nat → Prop} {cs : List AV} {v u : Value} (h : ∀ c ∈ cs, scB c = true) (hv : At w S (.agg cs) v) (hu : At w S (.agg cs) u) : Instr.sameBits 10000 v u = true := by
  obtain ⟨vs, rfl, hl, ha⟩ := hv.agg_inv
  obtain ⟨us, rfl, hl', ha'⟩ := hu.agg_inv
  have key : ∀ (i : Nat) (h1 : i < vs.size) (h2 : i < us.size), vs[i] = us[i] ∧ ∀ n, Instr.sameBits n vs[i] vs[i] = true := fun i h1 h2 => by
    have hc : cs[i]? = some (cs[i]'(by omega)) := by simp [show i < cs.length by omega]
    exact sc_det (h _ (List.getElem_mem _)) (ha i _ _ hc (by simp [h1])) (ha' i _ _ hc (by simp [h2]))
  have heq : vs = us := Array.ext (by omega) (fun i h1 h2 => (key i h1 h2).1)
  subst heq
  have g : ∀ n : Nat, Instr.sameBits (n + 1) (.agg vs) (.agg vs) = true := fun n => by
    simp only [Instr.sameBits, beq_self_eq_true, Bool.true_and]
    refine zip_self_all _ _ (fun x hx => ?_)
    obtain ⟨i, hi, rfl⟩ := List.getElem_of_mem hx
    simpa using (key i (by simpa using hi) (by simpa using hi)).2 n
  exact g 9999
def scT (D : TypeDesc) : Bool := match D with
  | .int _ => true
  | .bool => true
  | .string => true
  | _ => false
theorem ck_sc {P : Program} {t : TypeId} {D : TypeDesc} (hu : P.underlying t = some D) (hD : scT D = true) (b : Bool) (n : Nat) (v : Value) (w : World) : (Instr.checkKey b (n + 1) t v).run P w = .ok () w := by
  cases D <;> simp only [scT, Bool.false_eq_true] at hD <;> simp [Instr.checkKey, run_underlying hu]
theorem part_sc {P : Program} {t : TypeId} {D : TypeDesc} (hu : P.underlying t = some D) (hD : scT D = true) {cs : Array Value} {off : Nat} {v : Value} (h : cs[off]? = some v) (w : World) : (part t cs off).run P w = .ok v w := by
  unfold part isAgg
  simp only [Sem.run_bind, run_underlying hu, Result.andThen_ok]
  cases D <;> simp_all [scT]
theorem ck_fields {P : Program} (b : Bool) (n : Nat) (vs : Array Value) (w : World) : ∀ (fs : List Field), (∀ f ∈ fs, ∃ D, P.underlying f.type = some D ∧ scT D = true ∧ f.offset < vs.size) → (forIn fs PUnit.unit (fun f (_ : PUnit) => (if f.name ≠ "_" then do
      let x ← part f.type vs f.offset
      Instr.checkKey b (n + 1) f.type x
      pure (ForInStep.yield PUnit.unit)
      else pure (ForInStep.yield PUnit.unit) : Sem (ForInStep PUnit)))).run P w = .ok PUnit.unit w
  | [], _ => by simp
  | f :: fs, h => by
    obtain ⟨D, h1, h2, h3⟩ := h f List.mem_cons_self
    have hp : ∀ w1, (part f.type vs f.offset).run P w1 = .ok vs[f.offset] w1 := part_sc h1 h2 (by simp [h3])
    have ih := ck_fields b n vs w fs (fun g hg => h g (List.mem_cons_of_mem _ hg))
    simp only [List.forIn_cons, Sem.run_bind]
    by_cases hn : f.name = "_"
    · simp only [hn, ne_eq, not_true_eq_false, if_false, Sem.run_pure, Result.andThen_ok]
      exact ih
    · simp only [hn, ne_eq, not_false_eq_true, if_true, Sem.run_bind, hp, Result.andThen_ok, ck_sc h1 h2, Sem.run_pure]
      exact ih
theorem ask_P {P : Program} {t : TypeId} {v : Value} {K : Type} [DecidableEq K] {k : K} {q : K → Value → Prop} (hq : ∀ k' u, q k' u → ∀ w, (Op.equal t v u).run P w = .ok (decide (k' = k)) w) : ∀ (es : List MapEntry) (ks : List K) (i : Nat) (w : World), ks.length = es.length → (∀ (i : Nat) k' e, ks[i]? = some k' → es[i]? = some e → q k' e.key) → (Instr.findAsking t v es i).run P w = .ok (findP k ks es i) w
  | [], [], i, w, _, _ => by simp [Instr.findAsking, findP]
  | [], k' :: ks, i, w, hl, _ => by simp at hl
  | e :: es, [], i, w, hl, _ => by simp at hl
  | e :: es, k' :: ks, i, w, hl, h => by
    unfold Instr.findAsking findP
    rw [Sem.run_bind, hq k' e.key (h 0 k' e rfl rfl)]
    by_cases hk : k' = k
    · simp [hk]
    · simp only [hk, decide_false, Result.andThen_ok, Bool.false_eq_true, if_false]
      exact ask_P hq es ks (i + 1) w (by simpa using hl) (fun i k' e h1 h2 => h (i + 1) k' e (by simpa using h1) (by simpa using h2))
theorem MKey.struct {P : Program} {t : TypeId} {K : Type} [DecidableEq K] {g : K → AV} {dd : Nat} {fs : List Field} {n : Nat} [EqTy P t dd g] (hk : Nat.ble dd 10000 = true) (hu : P.underlying t = some (.struct fs.toArray))
    (hf : ∀ f ∈ fs, ∃ D, P.underlying f.type = some D ∧ scT D = true ∧ f.offset < n) (hg : ∀ x, ∃ cs, g x = .agg cs ∧ cs.length = n ∧ ∀ c ∈ cs, scB c = true) (inj : ∀ a b, g a = g b → a = b) : MKey P t g where
  inj := inj
  check := fun {w S k v} hv b w1 => by
    obtain ⟨cs, e, hl, hs⟩ := hg k
    rw [e] at hv
    obtain ⟨vs, rfl, hl', ha⟩ := hv.agg_inv
    have key : ∀ m : Nat, (Instr.checkKey b (m + 1 + 1) t (.agg vs)).run P w1 = .ok () w1 := fun m => by
      have h1 := ck_fields (P := P) b m vs w1 fs (fun f hm => by obtain ⟨D, h1, h2, h3⟩ := hf f hm; exact ⟨D, h1, h2, by omega⟩)
      rw [Instr.checkKey]
      simp only [Sem.run_bind, run_underlying hu, Result.andThen_ok]
      rw [← Array.forIn_toList]
      simp only [h1, Result.andThen_ok, Sem.run_pure]
    exact key 9998
  find := fun {w S k v} hv es ks hl hk' w1 => by
    obtain ⟨cs, e, hn, hs⟩ := hg k
    have hv' := hv
    rw [e] at hv'
    obtain ⟨vs, rfl, hl', ha⟩ := hv'.agg_inv
    have hq := ask_P (P := P) (t := t) (v := .agg vs) (k := k) (q := fun k' u => At w S (g k') u) (fun k' u hu w2 => by
      have := EqTy.h (P := P) (t := t) (g := g) k k' w S _ _ hv hu (10000 - dd) w2
      rw [Nat.sub_add_cancel (Nat.le_of_ble_eq_true hk)] at this
      rw [show decide (k' = k) = decide (k = k') by rw [Bool.eq_iff_iff]; simp; exact eq_comm]
      exact this) es ks 0 w1 hl (fun i k' e h1 h2 => hk' i k' e h1 h2)
    unfold Instr.findKey
    rw [Sem.run_bind, run_underlying hu]
    simp only [Result.andThen_ok]
    cases es with
    | nil =>
      cases ks with
      | nil => simp [Instr.findNow, findP]
      | cons _ _ => simp at hl
    | cons m es =>
      have : Instr.findNow (.struct fs.toArray) (.agg vs) (m :: es) 0 = none := by
        unfold Instr.findNow; simp [Instr.sameNow]
      rw [this]; exact hq
  bits := fun {w S k v u} h1 h2 => by
    obtain ⟨cs, e, hn, hs⟩ := hg k
    rw [e] at h1 h2
    exact sc_aggs hs h1 h2
end Go.Eng

/- A call of a function value that was handed in, in the head of a drawn region. -/
set_option linter.unusedVariables false
set_option linter.unusedSectionVars false
namespace Go.Eng
open Go
variable [GTab]
section rules
variable {P : Program} {all : Array Oper} {rest : List Oper} {n : Nat} {tm : List (Nat × AV)} {hp : Heap} {Q : List (Nat × AV) → Prop} {d : Nat} {ty : TypeId} {pos : String} {af : Array Edge} {op : Op}
theorem AM.callvp {f : FuncId} {x : Operand} {args : List Operand} {ts : Array TypeId} {caps l l' : List AV} {R : AV} [IsFn P f] (hx : evA (rst (looks all ⟨some d, .call { callee := .value x, args := args.toArray, argTypes := ts }, ty, pos, af, none⟩) tm) x = some (.func (.func f) caps)) (hl : evL (rst (looks all ⟨some d, .call { callee := .value x, args := args.toArray, argTypes := ts }, ty, pos, af, none⟩) tm) args = some l) (c : Pu P f l' R) (co : CoL hp (l ++ caps) l') (hn : Nat.blt d n = true)
    (k : AM P all n hp rest ((d, R) :: tm) Q) : AM P all n hp (⟨some d, .call { callee := .value x, args := args.toArray, argTypes := ts }, ty, pos, af, none⟩ :: rest) tm Q := by
  refine AM.mv (fun w S a h1 h2 h3 h4 K Q' hK => ?_) hn k
  have r := strel_rst h1 h2 h3 h4
  obtain ⟨cv, e1, e2, e3⟩ := (evA_at r hx).func_inv
  show Oper.upon P _ a K Q' _
  rw [run_exec_callv a _ e1]
  obtain ⟨g1, g2⟩ := evL_vals r hl
  obtain ⟨g3, g4⟩ := CoL.at r.hp co (vs := args.map a.eval ++ cv.toList) (by simp [g1, e2]) (AtA_cons g1 g2 (by simpa using e3))
  refine (c w S _ (hrel_nil h3.slt h3.glob) (by simpa using g3) g4).mono ?_
  rintro e w' ⟨v, rr, h', S', rfl, rfl, k3, k4, k5⟩
  exact hK v w' S' ⟨k5.toExt, fun m hm => (k5.keep m hm).1, fun m hm hs => (k5.other m hm (fun ⟨x, hx, _⟩ => by simp at hx)).2 hs, k4.slt⟩ k3
theorem MV.buildSliceL {t e : TypeId} {i : TypeInfo} {z : Value} {len sz : Nat} {parts : List (Nat × Operand)} {xs : List AV} [TUnder P t (.slice e)] [TInfo P e i] [TSz P e sz] (hz : i.zero = some z)
    (hl : evS (rst (looks all ⟨some d, .buildSlice t len parts.toArray, ty, pos, af, none⟩) tm) parts 0 = some xs) (hlen : Nat.beq parts.length len = true) (hel : allEl i.size xs = true) (h24 : Nat.ble (len * i.size) 16777216 = true) : MV P all n ⟨some d, .buildSlice t len parts.toArray, ty, pos, af, none⟩ (lk tm) hp (.list sz xs) := by
  obtain ⟨i', hi1, hi2⟩ := TSz.h (P := P) (t := e)
  obtain rfl : i' = i := by rw [TInfo.h (P := P) (t := e)] at hi1; exact (Option.some.inj hi1).symm
  subst hi2
  intro w S a h1 h2 h3 h4 K Q' hK
  have r := strel_rst h1 h2 h3 h4
  obtain rfl : parts.length = len := Nat.eq_of_beq_eq_true hlen
  have h24 := Nat.le_of_ble_eq_true h24
  obtain ⟨zz, hzz⟩ : ∃ zz : Array Value, zz = if parts.length * i'.size = 0 then #[] else z.cells := ⟨_, rfl⟩
  obtain ⟨vs, g1, g2, g3, g4⟩ := fill_seq r i'.size parts 0 xs ((Array.range (parts.length * i'.size)).map (zz[· % zz.size]!)) hl (allEl_spec hel) (by simp)
  simp only [Nat.zero_mul, List.take_zero, List.nil_append] at g1
  have e0 := Ext.alloc w (.cells vs.toArray e)
  have hrun : (execOp a.eval ⟨some d, .buildSlice t parts.length parts.toArray, ty, pos, af, none⟩).run P w = .ok (.value (.slice (some ⟨w.heap.size, 0, none⟩) parts.length parts.length)) (w.alloc (.cells vs.toArray e)) := by
    have hm : ((parts.toArray.map fun p => (p.1, a.eval p.2))).toList = parts.map fun p => (p.1, a.eval p.2) := by simp
    simp only [execOp, Instr.buildSlice, Sem.run_bind, run_underlying (TUnder.h (P := P) (t := t)), Result.andThen_ok, sizeOf, typeInfo, run_program, TInfo.h (P := P) (t := e), Sem.run_pure]
    rw [if_neg (by omega)]
    by_cases h0 : parts.length * i'.size = 0
    · rw [if_pos h0] at hzz ⊢
      subst hzz
      simp only [Sem.run_bind, Result.andThen_ok, Sem.run_pure, hm, g1, run_newRow]
    · rw [if_neg h0] at hzz ⊢
      subst hzz
      simp only [Sem.run_bind, Result.andThen_ok, Sem.run_pure, zeroValue, typeInfo, run_program, TInfo.h (P := P) (t := e), hz, hm, g1, run_newRow]
  show Oper.upon P _ a K Q' _
  rw [hrun]
  have hnew : (w.alloc (.cells vs.toArray e)).heap[w.heap.size]? = some (.cells vs.toArray e (0, 0)) := by
    show (w.heap.push _)[w.heap.size]? = _
    simp
  refine hK _ _ (fun m => S m ∨ m = w.heap.size) ⟨e0, fun m hm => .inl hm, fun m hm hs => hs.elim id (fun h => by omega), fun m hm => ?_⟩ ?_
  · rcases hm with hm | hm
    · exact Nat.lt_of_lt_of_le (h3.slt m hm) e0.size
    · subst hm; simp
  · have := At.list (w := w.alloc (.cells vs.toArray e)) (S := fun m => S m ∨ m = w.heap.size) i'.size xs (some ⟨w.heap.size, 0, none⟩) parts.length vs (allEl_spec hel) (by rw [flat_length (allEl_spec hel), g2]) (fun j c u hc hu => ?_) (fun j u hu => ?_) (by omega)
    · rw [g3] at this; exact this
    · exact (g4 j c u hc (by simpa using hu)).mono fun m hm => ⟨.inl hm, e0.same m (h3.slt m hm)⟩
    · refine ⟨_, rfl, rfl, .inr rfl, ?_⟩
      rw [cell_at hnew]
      simpa using hu
end rules
section values
variable {P : Program} {n : Nat} {tm : List (Nat × AV)} {hp : Heap} {d : Nat} {ty : TypeId} {pos : String} {af : Array Edge}
end values
end Go.Eng

/- The engine, part 58: lists that may be nil, compared with nil. No program in sight. -/
set_option linter.unusedVariables false
set_option linter.unusedSectionVars false
namespace Go.Eng
open Go
variable [GTab]
section rules
variable {P : Program} {n : Nat} {tm : List (Nat × AV)} {hp : Heap} {d : Nat} {ty : TypeId} {pos : String} {af : Array Edge}
end rules
end Go.Eng

/- The engine, part 59: what a map owns is frozen: a map of plain lists. No program in sight. -/
set_option linter.unusedVariables false
set_option linter.unusedSectionVars false
namespace Go.Eng
open Go
variable [GTab]
section
variable {K E : Type}
end
end Go.Eng

/- The engine, part 60: method values, and loops that run a fixed number of times. No program in sight. -/
set_option linter.unusedVariables false
set_option linter.unusedSectionVars false
namespace Go.Eng
open Go
variable [GTab]
section rules
variable {P : Program} {all : Array Oper} {rest : List Oper} {n : Nat} {tm : List (Nat × AV)} {hp : Heap} {Q : St → Prop} {d : Nat} {ty : TypeId} {pos : String} {af : Array Edge}
end rules
section
variable {P : Program} {R : St → Prop} {k : List It} {σ : St}
/-- A loop that runs at most so many times. -/
def ARounds (P : Program) (R : St → Prop) (body : Code) (k : List It) : Nat → St → Prop
  | 0 => fun _ => False
  | n + 1 => fun σ => ATodo P R (.code body :: .stop (fun σ' => ImpX σ' (ARounds P R body k n)) :: k) σ
theorem ARounds.next {body : Code} {n : Nat} (h : ATodo P R (.code body :: .stop (fun σ' => ImpX σ' (ARounds P R body k n)) :: k) σ) : ARounds P R body k (n + 1) σ := h
end
end Go.Eng

/- The engine, part 61: guards in regions with tokens. No program in sight. -/
set_option linter.unusedVariables false
set_option linter.unusedSectionVars false
namespace Go.Eng
open Go
variable [GTab]
/-- The same is the same (a short name). -/
theorem J {α : Sort _} {a : α} : a = a := rfl
section rules
variable {P : Program} {all : Array Oper} {n : Nat} {B : Heap} {tk : List Tok} {dy : List Nat} {i : Nat} {rest : List Oper} {tm : List (Nat × AV)} {acc : (Nat → Bk) → List (Nat × AV)} {Q : (Nat → Bk) → List (Nat × AV) → Prop} {d : Nat} {ty : TypeId} {pos : String} {af : Array Edge} {op : Op}
/-- An operation whose guard lets it be done. -/
theorem AT.guard_yes {j : Nat} {want b : Bool} {s : Nat} (hj : (all[j]?).bind (·.dst) = some s) (hs : lk tm s = some (.bool b)) (hb : b = want)
    (k : AT P all n B tk dy i (⟨some d, op, ty, pos, af, none⟩ :: rest) tm acc Q) : AT P all n B tk dy i (⟨some d, op, ty, pos, af, some (j, want)⟩ :: rest) tm acc Q := by
  obtain ⟨D, tm', h1, h2⟩ := k
  cases h1 with
  | @cons _ _ _ _ _ _ D1 x V h hv hx kk =>
    refine ⟨(x, V) :: D1, tm', .cons (fun β X hX => ?_) hv hx kk, fun β => ?_⟩
    · obtain ⟨g1, g2⟩ := h β X hX
      refine ⟨g1, .inl ⟨⟨s, hj, .inl ⟨b, orE_l hs, by simp [hb]⟩⟩, ?_⟩⟩
      rcases g2 with ⟨_, g3⟩ | ⟨g3, _⟩
      · intro w S a s1 s2 s3 s4 K Q' hK
        exact g3 w S a s1 s2 s3 (fun t ht => s4 t (by simp only [looks, List.append_nil] at ht ⊢; exact List.mem_append_left _ ht)) K Q' hK
      · simp [Wanted] at g3
    · have := h2 β
      cases x <;> exact this
end rules
section
variable {P : Program} {o : Oper} {σ : St}
theorem QV.dT {p : Prop} [Decidable p] (hc : p) (h : QV P o σ (.bool (decide p))) : QV P o σ (.bool true) := by rw [decide_eq_true hc] at h; exact h
theorem QV.dF {p : Prop} [Decidable p] (hc : ¬ p) (h : QV P o σ (.bool (decide p))) : QV P o σ (.bool false) := by rw [decide_eq_false hc] at h; exact h
end
end Go.Eng

/- The engine, part 62: an operation that reads memory before or after it is turned. No program in sight. -/
set_option linter.unusedVariables false
set_option linter.unusedSectionVars false
namespace Go.Eng
open Go
variable [GTab]
section rules
variable {P : Program} {all : Array Oper} {n : Nat} {B : Heap} {tk : List Tok} {dy : List Nat} {i : Nat} {rest : List Oper} {tm : List (Nat × AV)} {acc : (Nat → Bk) → List (Nat × AV)} {Q : (Nat → Bk) → List (Nat × AV) → Prop} {d : Nat} {ty : TypeId} {pos : String} {af : Array Edge} {op : Op}
end rules
end Go.Eng

/- The engine, part 63: an entry of a map that is made or found, then written (m[k] += v). No program in sight. -/
set_option linter.unusedVariables false
set_option linter.unusedSimpArgs false
set_option linter.unusedSectionVars false
namespace Go.Eng
open Go
variable [GTab]

section rules
variable {P : Program} {all : Array Oper} {rest : List Oper} {n : Nat} {tm : List (Nat × AV)} {hp : Heap} {Q : St → Prop} {d : Nat} {ty : TypeId} {pos : String} {af : Array Edge}
end rules
end Go.Eng

/- The engine, part 64: objects that pointers of ours lead to: all of one type lie in one pool, by number. No program in sight. -/
set_option linter.unusedVariables false
set_option linter.unusedSimpArgs false
set_option linter.unusedSectionVars false
namespace Go.Eng
open Go
variable [GTab]

theorem Upd.mid {h h' : Heap} {b b' : Bk} {o o' : Ob} (u : Upd h b o b' o' h') (b2 : Bk) (o2 : Ob) : ∃ h2, Upd h b o b2 o2 h2 ∧ Upd h2 b2 o2 b' o' h' := by
  induction u with
  | here => exact ⟨_, .here, .here⟩
  | next _ ih => obtain ⟨h2, a, b⟩ := ih; exact ⟨_, .next a, .next b⟩
  | skip _ ih => obtain ⟨h2, a, b⟩ := ih; exact ⟨_, .skip a, .skip b⟩
/-- A pool's pieces in another order. -/
theorem pool_perm {w : World} {S : Nat → Prop} {hp hp' : Heap} {bp : Bk} {es es' : List (Bk × PO)} (r : HRel w S hp) (u : Upd hp bp (.pool es) bp (.pool es') hp') (h : es.Perm es') : HRel w S hp' ∧ Evo w S hp w S hp' := by
  obtain ⟨p, q, rfl, rfl⟩ := u.split
  obtain ⟨hb0, hall⟩ : bp.blk = none ∧ ∀ e ∈ es, HoldsP w S e.1 e.2 := r.holds (bp, .pool es) (mem_mid.2 (.inl rfl))
  have hebs : ∀ n, n ∈ eb (bp, .pool es') ↔ n ∈ eb (bp, .pool es) := by
    intro n
    rw [eb_pool, eb_pool]
    constructor
    · rintro (k | ⟨e, he, hn⟩)
      · exact .inl k
      · exact .inr ⟨e, h.mem_iff.2 he, hn⟩
    · rintro (k | ⟨e, he, hn⟩)
      · exact .inl k
      · exact .inr ⟨e, h.mem_iff.1 he, hn⟩
  have e1 : (eb (bp, .pool es)).Perm (eb (bp, .pool es')) := by
    simp only [eb, Ob.more]
    exact List.Perm.append_left _ (h.filterMap _)
  have hasI : ∀ n, Has (p ++ (bp, .pool es') :: q) n → Has (p ++ (bp, .pool es) :: q) n := by
    rintro n ⟨e, he, hn⟩
    rcases mem_mid.1 he with rfl | he
    · exact ⟨_, mem_mid.2 (.inl rfl), (hebs n).1 hn⟩
    · exact ⟨e, mem_mid.2 (.inr he), hn⟩
  refine ⟨⟨?_, ?_, ?_, r.slt, r.glob⟩, ⟨rfl, rfl, rfl, Nat.le_refl _, fun n hn => ⟨hn, rfl⟩, fun n _ _ => ⟨rfl, id⟩, fun n hn => .inl (hasI n hn), fun _ => Nat.le_refl _⟩⟩
  · have := r.nodup
    rw [List.flatMap_append, List.flatMap_cons] at this ⊢
    exact ((List.Perm.append_left _ (List.Perm.append_right _ e1)).nodup_iff).1 this
  · intro e he
    rcases mem_mid.1 he with rfl | he
    · exact ⟨hb0, fun e he => hall e (h.mem_iff.2 he)⟩
    · exact r.holds e (mem_mid.2 (.inr he))
  · intro e he n hn
    rcases mem_mid.1 he with rfl | he
    · have := r.sep (bp, .pool es) (mem_mid.2 (.inl rfl)) n ((hebs n).1 hn)
      exact ⟨fun h => (this.1 h).elim, fun h => h.elim⟩
    · exact r.sep e (mem_mid.2 (.inr he)) n hn
theorem HRel.same {w : World} {S : Nat → Prop} {h h' : Heap} (r : HRel w S h) (hp : h.Perm h') : HRel w S h' ∧ Evo w S h w S h' :=
  ⟨r.perm hp, rfl, rfl, rfl, Nat.le_refl _, fun n hn => ⟨hn, rfl⟩, fun n _ _ => ⟨rfl, id⟩, fun n ⟨e, he, hn⟩ => .inl ⟨e, hp.mem_iff.2 he, hn⟩, fun _ => Nat.le_refl _⟩
def obs (xs : List (Bk × PO)) : Heap := xs.map fun e => (e.1, e.2.ob)
/-- Several pieces out of a pool. -/
theorem pool_takeL {w : World} {S : Nat → Prop} {bp : Bk} {es' : List (Bk × PO)} : ∀ (xs es : List (Bk × PO)) {hp hp' : Heap}, HRel w S hp → Upd hp bp (.pool es) bp (.pool es') hp' → es.Perm (xs ++ es') → HRel w S (obs xs ++ hp') ∧ Evo w S hp w S (obs xs ++ hp')
  | [], es, hp, hp', r, u, h => pool_perm r u h
  | x :: xs, es, hp, hp', r, u, h => by
    obtain ⟨h2, u1, u2⟩ := u.mid bp (.pool (xs ++ es'))
    obtain ⟨r1, e1⟩ := pool_take r u1 h
    obtain ⟨r2, e2⟩ := pool_takeL xs (xs ++ es') r1 (.next u2) (List.Perm.refl _)
    obtain ⟨r3, e3⟩ := r2.same (h' := obs (x :: xs) ++ hp') List.perm_middle
    exact ⟨r3, (e1.trans e2).trans e3⟩
/-- Several pieces into a pool. -/
theorem pool_putL {w : World} {S : Nat → Prop} {bp : Bk} {es : List (Bk × PO)} : ∀ (xs es' : List (Bk × PO)) {hp1 hp' : Heap}, HRel w S (obs xs ++ hp1) → Upd hp1 bp (.pool es) bp (.pool es') hp' → es'.Perm (xs ++ es) → HRel w S hp' ∧ Evo w S (obs xs ++ hp1) w S hp'
  | [], es', hp1, hp', r, u, h => pool_perm r u h.symm
  | x :: xs, es', hp1, hp', r, u, h => by
    obtain ⟨h2, u1, u2⟩ := u.mid bp (.pool (xs ++ es))
    obtain ⟨r0, e0⟩ := r.same (h' := obs xs ++ (x.1, x.2.ob) :: hp1) List.perm_middle.symm
    obtain ⟨r1, e1⟩ := pool_putL xs (xs ++ es) r0 (.next u1) (List.Perm.refl _)
    obtain ⟨r2, e2⟩ := pool_put r1 .here u2 h
    exact ⟨r2, (e0.trans e1).trans e2⟩

/-! ### objects by number -/
section ara
variable {V : Type}
/-- The pieces of all objects: kb tells those of one, bo where its box lies, bs where its lists lie. -/
def araG (kb : Bk → (Nat → Bk) → V → List (Bk × PO)) (bo : Nat → Bk) (bs : Nat → Nat → Bk) : Nat → List (Option V) → List (Bk × PO)
  | _, [] => []
  | i, some v :: r => kb (bo i) (bs i) v ++ araG kb bo bs (i + 1) r
  | i, none :: r => araG kb bo bs (i + 1) r
def araE (kb : Bk → (Nat → Bk) → V → List (Bk × PO)) (bo : Nat → Bk) (bs : Nat → Nat → Bk) (M : List V) : List (Bk × PO) := araG kb bo bs 0 (M.map some)
/-- All but object i. -/
def araX (kb : Bk → (Nat → Bk) → V → List (Bk × PO)) (bo : Nat → Bk) (bs : Nat → Nat → Bk) (M : List V) (i : Int) : List (Bk × PO) := araG kb bo bs 0 ((M.map some).set i.toNat none)
variable {kb : Bk → (Nat → Bk) → V → List (Bk × PO)} {bo bo' : Nat → Bk} {bs bs' : Nat → Nat → Bk}
theorem araG_congr : ∀ (l : List (Option V)) (i : Nat), (∀ j v, l[j]? = some (some v) → bo (i + j) = bo' (i + j) ∧ bs (i + j) = bs' (i + j)) → araG kb bo bs i l = araG kb bo' bs' i l
  | [], _, _ => rfl
  | some v :: r, i, h => by
    obtain ⟨h1, h2⟩ := h 0 v rfl
    show kb (bo i) (bs i) v ++ araG kb bo bs (i + 1) r = kb (bo' i) (bs' i) v ++ araG kb bo' bs' (i + 1) r
    rw [show bo i = bo' i from h1, show bs i = bs' i from h2, araG_congr r (i + 1) (fun j v hj => by
      have := h (j + 1) v (by simpa using hj)
      rw [show i + 1 + j = i + (j + 1) by omega]; exact this)]
  | none :: r, i, h => araG_congr r (i + 1) (fun j v hj => by
      have := h (j + 1) v (by simpa using hj)
      rw [show i + 1 + j = i + (j + 1) by omega]; exact this)
theorem araG_set : ∀ (l : List (Option V)) (i j : Nat) (v : V), l[j]? = some none → (araG kb bo bs i (l.set j (some v))).Perm (kb (bo (i + j)) (bs (i + j)) v ++ araG kb bo bs i l)
  | [], _, _, _, h => by simp at h
  | o :: r, i, 0, v, h => by
    obtain rfl : o = none := by simpa using h
    exact List.Perm.refl _
  | some u :: r, i, j + 1, v, h => by
    have := araG_set r (i + 1) j v (by simpa using h)
    rw [show i + 1 + j = i + (j + 1) by omega] at this
    show (kb (bo i) (bs i) u ++ araG kb bo bs (i + 1) (r.set j (some v))).Perm _
    refine (List.Perm.append_left _ this).trans ?_
    show (kb (bo i) (bs i) u ++ (kb (bo (i + (j + 1))) (bs (i + (j + 1))) v ++ araG kb bo bs (i + 1) r)).Perm (kb (bo (i + (j + 1))) (bs (i + (j + 1))) v ++ (kb (bo i) (bs i) u ++ araG kb bo bs (i + 1) r))
    rw [← List.append_assoc, ← List.append_assoc]
    exact List.Perm.append_right _ List.perm_append_comm
  | none :: r, i, j + 1, v, h => by
    have := araG_set r (i + 1) j v (by simpa using h)
    rw [show i + 1 + j = i + (j + 1) by omega] at this
    exact this
theorem araG_app : ∀ (l m : List (Option V)) (i : Nat), araG kb bo bs i (l ++ m) = araG kb bo bs i l ++ araG kb bo bs (i + l.length) m
  | [], m, i => rfl
  | some v :: r, m, i => by
    show kb (bo i) (bs i) v ++ araG kb bo bs (i + 1) (r ++ m) = (kb (bo i) (bs i) v ++ araG kb bo bs (i + 1) r) ++ araG kb bo bs (i + (r.length + 1)) m
    rw [araG_app r m (i + 1), List.append_assoc, show i + 1 + r.length = i + (r.length + 1) by omega]
  | none :: r, m, i => by
    show araG kb bo bs (i + 1) (r ++ m) = araG kb bo bs (i + 1) r ++ araG kb bo bs (i + (r.length + 1)) m
    rw [araG_app r m (i + 1), show i + 1 + r.length = i + (r.length + 1) by omega]
/-- An object in its place. -/
theorem araE_perm {M M' : List V} {i : Int} {v v' : V} {s : Nat → Bk} (h : idx M i = some v) (hM : M' = M.set i.toNat v') (hs : bs' = fun j => if j = i.toNat then s else bs j) : (araE kb bo bs' M').Perm (kb (bo i.toNat) s v' ++ araX kb bo bs M i) := by
  obtain ⟨h0, h1, h2⟩ := idx_some h
  unfold araE araX
  have hl : (M.map some)[i.toNat]? = some (some v) := by rw [List.getElem?_map, h2]; rfl
  have hlt : i.toNat < (M.map some).length := (List.getElem?_eq_some_iff.1 hl).1
  have hn : ((M.map some).set i.toNat none)[i.toNat]? = some none := by rw [List.getElem?_set_self hlt]
  have e1 : M'.map some = ((M.map some).set i.toNat none).set i.toNat (some v') := by rw [hM, List.map_set, List.set_set]
  rw [e1]
  have := araG_set (kb := kb) (bo := bo) (bs := bs') ((M.map some).set i.toNat none) 0 i.toNat v' hn
  rw [Nat.zero_add] at this
  refine this.trans ?_
  rw [show bs' i.toNat = s by rw [hs]; simp]
  refine List.Perm.append_left _ ?_
  rw [araG_congr (bo' := bo) (bs' := bs) ((M.map some).set i.toNat none) 0 (fun j u hj => by
    rw [Nat.zero_add]
    refine ⟨rfl, ?_⟩
    have : j ≠ i.toNat := fun e => by rw [e, hn] at hj; simp at hj
    rw [hs]; simp [this])]
theorem araE_take {M : List V} {i : Int} {v : V} (h : idx M i = some v) : (araE kb bo bs M).Perm (kb (bo i.toNat) (bs i.toNat) v ++ araX kb bo bs M i) :=
  araE_perm h (set_same (idx_some h).2.2).symm (by funext j; split <;> simp_all)
theorem araE_add {M : List V} {b : Bk} {s : Nat → Bk} {v : V} (h1 : ∀ j, j < M.length → bo' j = bo j) (h2 : bo' M.length = b) (h3 : ∀ j, j < M.length → bs' j = bs j) (h4 : bs' M.length = s) : (araE kb bo' bs' (M ++ [v])).Perm (kb b s v ++ araE kb bo bs M) := by
  unfold araE
  rw [List.map_append, araG_app, List.length_map, Nat.zero_add]
  have e1 : araG kb bo' bs' M.length ([v].map some) = kb b s v := by
    show kb (bo' M.length) (bs' M.length) v ++ [] = _
    rw [h2, h4, List.append_nil]
  rw [e1, araG_congr (bo' := bo) (bs' := bs) (M.map some) 0 (fun j u hj => by
    have : j < M.length := by
      have := (List.getElem?_eq_some_iff.1 hj).1
      simpa using this
    rw [Nat.zero_add]
    exact ⟨h1 j this, h3 j this⟩)]
  exact List.perm_append_comm
end ara
/-- An empty pool. -/
theorem ImpX.poolNew {n : Nat} {tm : List (Nat × AV)} {hp : Heap} {T : St → Prop} {V : Type} {kb : Bk → (Nat → Bk) → V → List (Bk × PO)} (k : ∀ (bp : Bk) (bo : Nat → Bk) (bs : Nat → Nat → Bk), ImpX ⟨n, tm, (bp, .pool (araE kb bo bs [])) :: hp⟩ T) : ImpX ⟨n, tm, hp⟩ T := by
  refine ImpX.step (σ1 := ⟨n, tm, (⟨none, 0⟩, .pool (araE kb (fun _ => ⟨none, 0⟩) (fun _ _ => ⟨none, 0⟩) [])) :: hp⟩) (fun w S a r => ?_) (k _ _ _)
  obtain ⟨g1, g2, g3⟩ := add_rel (b := ⟨none, 0⟩) (o := .pool []) r.hp (Ext.refl w) id ⟨rfl, by simp⟩ (.inl rfl)
  exact ⟨_, S, rfl, r.heap g3 g1, g2⟩
theorem ImpX.araTake {n : Nat} {tm : List (Nat × AV)} {hp hp' : Heap} {T : St → Prop} {V : Type} {kb : Bk → (Nat → Bk) → V → List (Bk × PO)} {bo : Nat → Bk} {bs : Nat → Nat → Bk} {M : List V} {i : Int} {v : V} {bp : Bk} (h : idx M i = some v) (u : Upd hp bp (.pool (araE kb bo bs M)) bp (.pool (araX kb bo bs M i)) hp')
    (k : ImpX ⟨n, tm, obs (kb (bo i.toNat) (bs i.toNat) v) ++ hp'⟩ T) : ImpX ⟨n, tm, hp⟩ T := by
  refine ImpX.step (fun w S a r => ?_) k
  obtain ⟨g1, g2⟩ := pool_takeL _ _ r.hp u (araE_take h)
  exact ⟨_, S, rfl, r.heap (fun m hm => ⟨hm, rfl⟩) g1, g2⟩
theorem ImpX.araPut {n : Nat} {tm : List (Nat × AV)} {hp hp1 h0 : Heap} {hp' : (Nat → Nat → Bk) → Heap} {T : St → Prop} {V : Type} {kb : Bk → (Nat → Bk) → V → List (Bk × PO)} {bo : Nat → Bk} {bs : Nat → Nat → Bk} {M M' : List V} {i : Int} {v v' : V} {b0 bp : Bk} {s : Nat → Bk} (h : idx M i = some v) (hb : b0 = bo i.toNat) (hM : M' = M.set i.toNat v') (hs : Sel hp h0 hp1) (ho : h0 = obs (kb b0 s v')) (u : ∀ bs', Upd hp1 bp (.pool (araX kb bo bs M i)) bp (.pool (araE kb bo bs' M')) (hp' bs'))
    (k : ∀ bs', ImpX ⟨n, tm, hp' bs'⟩ T) : ImpX ⟨n, tm, hp⟩ T := by
  refine ImpX.step (σ1 := ⟨n, tm, hp' (fun j => if j = i.toNat then s else bs j)⟩) (fun w S a r => ?_) (k _)
  obtain ⟨g0, e0⟩ := r.hp.same hs.perm
  rw [ho] at g0 e0
  obtain ⟨g1, g2⟩ := pool_putL _ _ g0 (u (fun j => if j = i.toNat then s else bs j)) (by rw [hb]; exact araE_perm h hM rfl)
  exact ⟨_, S, rfl, r.heap (fun m hm => ⟨hm, rfl⟩) g1, e0.trans g2⟩
theorem ImpX.araAdd {n : Nat} {tm : List (Nat × AV)} {hp hp1 h0 : Heap} {hp' : (Nat → Bk) → (Nat → Nat → Bk) → Heap} {T : St → Prop} {V : Type} {kb : Bk → (Nat → Bk) → V → List (Bk × PO)} {bo : Nat → Bk} {bs : Nat → Nat → Bk} {M : List V} {v : V} {b bp : Bk} {s : Nat → Bk} (hs : Sel hp h0 hp1) (ho : h0 = obs (kb b s v)) (u : ∀ bo' bs', Upd hp1 bp (.pool (araE kb bo bs M)) bp (.pool (araE kb bo' bs' (M ++ [v]))) (hp' bo' bs'))
    (k : ∀ bo' bs', (∀ j, j < M.length → bo' j = bo j) → bo' M.length = b → ImpX ⟨n, tm, hp' bo' bs'⟩ T) : ImpX ⟨n, tm, hp⟩ T := by
  have c1 : ∀ j, j < M.length → (fun j => if j = M.length then b else bo j) j = bo j := fun j hj => if_neg (by omega)
  have c2 : (fun j => if j = M.length then b else bo j) M.length = b := if_pos rfl
  refine ImpX.step (σ1 := ⟨n, tm, hp' (fun j => if j = M.length then b else bo j) (fun j => if j = M.length then s else bs j)⟩) (fun w S a r => ?_) (k _ _ c1 c2)
  obtain ⟨g0, e0⟩ := r.hp.same hs.perm
  rw [ho] at g0 e0
  obtain ⟨g1, g2⟩ := pool_putL _ _ g0 (u (fun j => if j = M.length then b else bo j) (fun j => if j = M.length then s else bs j)) (araE_add c1 c2 (fun j hj => if_neg (by omega)) (if_pos rfl))
  exact ⟨_, S, rfl, r.heap (fun m hm => ⟨hm, rfl⟩) g1, e0.trans g2⟩
/-- What stands in memory, said otherwise. -/
theorem ImpX.obEq {n : Nat} {tm : List (Nat × AV)} {hp hp' : Heap} {T : St → Prop} {b : Bk} {o o' : Ob} (he : o = o') (u : Upd hp b o b o' hp') (k : ImpX ⟨n, tm, hp'⟩ T) : ImpX ⟨n, tm, hp⟩ T := by
  subst he
  rw [upd_of_eq u] at k
  exact k
/-- Numbers of objects that are there. -/
def inB (n : Nat) (l : List Int) : Option Unit := if ∀ x ∈ l, 0 ≤ x ∧ x < n then some () else none
theorem inB_some {n : Nat} {l : List Int} {u : Unit} (h : inB n l = some u) : ∀ x ∈ l, 0 ≤ x ∧ x < n := by
  unfold inB at h
  split at h
  · assumption
  · cases h
/-- A pointer to an object, by number. -/
def pA (bo : Nat → Bk) (i : Int) : AV := .ptr (bo i.toNat) 0
theorem pA_eq {bo bo' : Nat → Bk} {N : Nat} (h : ∀ j, j < N → bo' j = bo j) {i : Int} (hi : 0 ≤ i ∧ i < N) : pA bo i = pA bo' i := by
  unfold pA; rw [h i.toNat (by omega)]
theorem re_list {bo bo' : Nat → Bk} {N : Nat} (h : ∀ j, j < N → bo' j = bo j) {l : List Int} {u : Unit} (hg : inB N l = some u) : l.map (pA bo) = l.map (pA bo') :=
  List.map_congr_left fun x hx => pA_eq h (inB_some hg x hx)
theorem re_map {K : Type} {gk : K → AV} {bo bo' : Nat → Bk} {N : Nat} (h : ∀ j, j < N → bo' j = bo j) {M : List (K × Int)} {u : Unit} (hg : inB N (M.map Prod.snd) = some u) : (M.map fun e => (gk e.1, pA bo e.2)) = M.map fun e => (gk e.1, pA bo' e.2) :=
  List.map_congr_left fun e he => by rw [pA_eq h (inB_some hg e.2 (List.mem_map.2 ⟨e, he, rfl⟩))]
theorem pA_new {bo : Nat → Bk} {N : Nat} {b : Bk} (h : bo N = b) (o : Nat) : AV.ptr (bo (N : Int).toNat) o = AV.ptr b o := by
  rw [Int.toNat_natCast, h]

section rules
variable {P : Program} {all : Array Oper} {rest : List Oper} {n : Nat} {tm : List (Nat × AV)} {hp : Heap} {Q : St → Prop} {d : Nat} {ty : TypeId} {pos : String} {af : Array Edge}
/-- A look-up of a pointer that is not there: nil. -/
theorem t_lookupA0 {K : Type} [DecidableEq K] {gk : K → AV} {gv : Int → AV} {M : List (K × Int)} {key : K} {t kt vt : TypeId} {i : TypeInfo} {x y : Operand} {b : Bk} [TUnder P t (.map kt vt)] [TInfo P vt i] [MKey P kt gk] (hx : evA tm x = some (.mref b)) (hy : evA tm y = some (gk key)) (f : Fnd hp b (.mp (M.map fun e => (gk e.1, gv e.2)))) (hz : i.zero = some (.pointer none)) (h : mget? M key = none) :
    QV P ⟨some d, .lookup t x y false, ty, pos, af, none⟩ ⟨n, tm, hp⟩ (.raw (.pointer none)) := by
  intro w S a r
  have kx := evA_at (σ := ⟨n, tm, hp⟩) r hx
  have ky := evA_at (σ := ⟨n, tm, hp⟩) r hy
  obtain ⟨nb, hb, ex⟩ := kx.mref_inv
  obtain ⟨L, c, M', nb', ents, p1, p2, p3, p4, p5, p6, p7, p8⟩ := mp_open (MKey.inj P kt) r.hp f
  obtain rfl : nb' = nb := by rw [p4] at hb; exact Option.some.inj hb
  rw [← mget_perm p1 p8] at h
  have hfind := MKey.find (P := P) (t := kt) (g := gk) ky ents.toList (M'.map Prod.fst) (by simpa using p6.symm) (fun j k' e h1 h2 => by
    rw [List.getElem?_map] at h1
    cases hm : M'[j]? with
    | none => rw [hm] at h1; cases h1
    | some q => rw [hm] at h1; rw [← Option.some.inj h1]; exact (p7 j q e hm h2).1)
  rcases findP_M (gv := gv) (w := w) (S := S) (k := key) M' ents.toList 0 p6.symm (fun j e m h1 h2 => (p7 j e m h1 h2).2) with ⟨q1, q2⟩ | ⟨v', j, val, q1, q2, q3, _⟩
  · refine ⟨.pointer none, fun w1 e1 => ?_, .raw _⟩
    simp [execOp, Instr.lookup, ex, run_underlying (TUnder.h (P := P) (t := t)), run_getMap (e1.heap p5), MKey.check (P := P) (t := kt) ky, hfind, q2, zeroValue, typeInfo, TInfo.h (P := P) (t := vt), hz]
  · rw [q1] at h; cases h
theorem t_lookupA1 {K : Type} [DecidableEq K] {gk : K → AV} {gv : Int → AV} {M : List (K × Int)} {key : K} {v : Int} {t kt vt : TypeId} {i : TypeInfo} {x y : Operand} {b : Bk} [TUnder P t (.map kt vt)] [TInfo P vt i] [MKey P kt gk] (hx : evA tm x = some (.mref b)) (hy : evA tm y = some (gk key)) (f : Fnd hp b (.mp (M.map fun e => (gk e.1, gv e.2)))) (h : mget? M key = some v) :
    QV P ⟨some d, .lookup t x y false, ty, pos, af, none⟩ ⟨n, tm, hp⟩ (gv v) := by
  intro w S a r
  have kx := evA_at (σ := ⟨n, tm, hp⟩) r hx
  have ky := evA_at (σ := ⟨n, tm, hp⟩) r hy
  obtain ⟨nb, hb, ex⟩ := kx.mref_inv
  obtain ⟨L, c, M', nb', ents, p1, p2, p3, p4, p5, p6, p7, p8⟩ := mp_open (MKey.inj P kt) r.hp f
  obtain rfl : nb' = nb := by rw [p4] at hb; exact Option.some.inj hb
  rw [← mget_perm p1 p8] at h
  have hfind := MKey.find (P := P) (t := kt) (g := gk) ky ents.toList (M'.map Prod.fst) (by simpa using p6.symm) (fun j k' e h1 h2 => by
    rw [List.getElem?_map] at h1
    cases hm : M'[j]? with
    | none => rw [hm] at h1; cases h1
    | some q => rw [hm] at h1; rw [← Option.some.inj h1]; exact (p7 j q e hm h2).1)
  rcases findP_M (gv := gv) (w := w) (S := S) (k := key) M' ents.toList 0 p6.symm (fun j e m h1 h2 => (p7 j e m h1 h2).2) with ⟨q1, q2⟩ | ⟨v', j, val, q1, q2, q3, _⟩
  · rw [q1] at h; cases h
  · rw [q1] at h
    obtain rfl := Option.some.inj h
    refine ⟨val, fun w1 e1 => ?_, q3⟩
    simp [execOp, Instr.lookup, ex, run_underlying (TUnder.h (P := P) (t := t)), run_getMap (e1.heap p5), MKey.check (P := P) (t := kt) ky, hfind, q2]
end rules
end Go.Eng

/- The engine, part 65: short forms for the proofs that are written by program. No program in sight. -/
set_option linter.unusedVariables false
set_option linter.unusedSectionVars false
namespace Go.Eng
open Go
variable [GTab]
section todo
variable {P : Program} {R : St → Prop} {k : List It} {σ : St}
end todo
section rules
variable {P : Program} {all : Array Oper} {rest : List Oper} {n : Nat} {tm : List (Nat × AV)} {hp : Heap} {Q : St → Prop} {d : Nat} {ty : TypeId} {pos : String} {af : Array Edge} {op : Op} {s : Nat} {j : Nat}
end rules
/-- One result in a slot; nothing is told of memory. -/
theorem hP {P : Program} {σ : St} {s : Nat} {av : AV} {Q : List AV → St → Prop} (h1 : lk σ.tm s = some av) (h2 : Q [av] σ) : ImpX σ (fun σ' => ∃ rs, Rs P σ' [.tmp s] rs ∧ Q rs σ') := ImpX.here ⟨[av], .cons (.tmp _ _ h1) .nil, h2⟩
/-- One result in a slot, and memory. -/
theorem hH {P : Program} {σ : St} {s : Nat} {av : AV} {Q : List AV → Heap → Prop} {hp' : Heap} (h1 : lk σ.tm s = some av) (is : List Nat) (hs : pickH σ.hp is = some hp') (h2 : Q [av] hp') : ImpX σ (fun σ' => ∃ rs, Rs P σ' [.tmp s] rs ∧ (∃ h', HS σ'.hp h' ∧ Q rs h')) := ImpX.here ⟨[av], .cons (.tmp _ _ h1) .nil, hp', pickH_hs hs, h2⟩
theorem hQ {P : Program} {σ : St} {s t : Nat} {av aw : AV} {Q : List AV → St → Prop} (h1 : lk σ.tm s = some av) (h1' : lk σ.tm t = some aw) (h2 : Q [av, aw] σ) : ImpX σ (fun σ' => ∃ rs, Rs P σ' [.tmp s, .tmp t] rs ∧ Q rs σ') := ImpX.here ⟨[av, aw], .cons (.tmp _ _ h1) (.cons (.tmp _ _ h1') .nil), h2⟩
theorem hI {P : Program} {σ : St} {s t : Nat} {av aw : AV} {Q : List AV → Heap → Prop} {hp' : Heap} (h1 : lk σ.tm s = some av) (h1' : lk σ.tm t = some aw) (is : List Nat) (hs : pickH σ.hp is = some hp') (h2 : Q [av, aw] hp') : ImpX σ (fun σ' => ∃ rs, Rs P σ' [.tmp s, .tmp t] rs ∧ (∃ h', HS σ'.hp h' ∧ Q rs h')) := ImpX.here ⟨[av, aw], .cons (.tmp _ _ h1) (.cons (.tmp _ _ h1') .nil), hp', pickH_hs hs, h2⟩
end Go.Eng

/- The engine, part 66: a key that is in the map reads the same. No program in sight. -/
set_option linter.unusedVariables false
set_option linter.unusedSectionVars false
namespace Go.Eng
open Go
section
variable {K V : Type} [DecidableEq K] [KLt K]
end
end Go.Eng

/- The engine, part 67: an operation of a drawn region that puts two new pieces of memory into one value. No program in sight. -/
set_option linter.unusedVariables false
set_option linter.unusedSectionVars false
namespace Go.Eng
open Go
variable [GTab]
section rules
variable {P : Program} {all : Array Oper} {n : Nat} {B : Heap} {tk : List Tok} {dy : List Nat} {i : Nat} {rest : List Oper} {tm tm' : List (Nat × AV)} {acc : (Nat → Bk) → List (Nat × AV)} {Q : (Nat → Bk) → List (Nat × AV) → Prop} {d : Nat} {ty : TypeId} {pos : String} {af : Array Edge} {op : Op}
end rules
end Go.Eng

/- The engine, part 68: a loop whose first round is told apart. No program in sight. -/
set_option linter.unusedVariables false
set_option linter.unusedSectionVars false
namespace Go.Eng
open Go
variable [GTab]
section
variable {P : Program} {R : St → Prop} {k : List It} {σ : St}
end
end Go.Eng

/- The engine, part 69: objects by number: looked at in their pool, put back, frozen. No program in sight. -/
set_option linter.unusedVariables false
set_option linter.unusedSimpArgs false
set_option linter.unusedSectionVars false
namespace Go.Eng
open Go
variable [GTab]

/-- What stands in one cell of an object: a value, or a list of its own. -/
inductive CD : Type 1 where
  | v (a : AV)
  | l {α : Type} (sz : Nat) (g : α → AV) (xs : List α)
def cdC (s : Nat → Bk) : Nat → List CD → List AV
  | _, [] => []
  | k, .v a :: r => a :: cdC s k r
  | k, .l sz _ xs :: r => .sl sz (s k) 0 xs.length :: cdC s (k + 1) r
def cdA (s : Nat → Bk) : Nat → List CD → List (Bk × PO)
  | _, [] => []
  | k, .v _ :: r => cdA s k r
  | k, .l sz g xs :: r => (s k, .arr sz (xs.map g)) :: cdA s (k + 1) r
def cdF : List CD → List AV
  | [] => []
  | .v a :: r => a :: cdF r
  | .l sz g xs :: r => .list sz (xs.map g) :: cdF r
theorem cd_len (s : Nat → Bk) : ∀ (k : Nat) (D : List CD), (cdC s k D).length = (cdF D).length
  | _, [] => rfl
  | k, .v a :: r => congrArg (· + 1) (cd_len s k r)
  | k, .l sz g xs :: r => congrArg (· + 1) (cd_len s (k + 1) r)
/-- The pieces of an object, and its cells when nothing of it turns any more. -/
structure KB {V : Type} (kb : Bk → (Nat → Bk) → V → List (Bk × PO)) (fs : V → List AV) : Prop where
  ok : ∃ D : V → List CD, (∀ b s v, kb b s v = (b, .cells (cdC s 0 (D v))) :: cdA s 0 (D v)) ∧ ∀ v, fs v = cdF (D v)
theorem fnd_of_mem {b : Bk} {o : Ob} : ∀ {h : Heap}, (b, o) ∈ h → Fnd h b o
  | [], h => by simp at h
  | e :: r, h => by
    rcases List.mem_cons.1 h with rfl | h
    · exact .here
    · exact .next (fnd_of_mem h)
theorem cd_cob {s : Nat → Bk} {hp : Heap} : ∀ (D : List CD) (k : Nat), (∀ e ∈ cdA s k D, Fnd hp e.1 e.2.ob) → ∀ (i : Nat) c c', (cdC s k D)[i]? = some c → (cdF D)[i]? = some c' → CoB hp c c'
  | [], _, _, i, c, c', h, _ => by simp [cdC] at h
  | .v a :: r, k, hf, i, c, c', h, h' => by
    match i with
    | 0 =>
      simp only [cdC, cdF, List.getElem?_cons_zero, Option.some.injEq] at h h'
      subst h; subst h'; exact .co (.refl _)
    | i + 1 => exact cd_cob r k (fun e he => hf e (by simpa [cdA] using he)) i c c' (by simpa [cdC] using h) (by simpa [cdF] using h')
  | .l sz g xs :: r, k, hf, i, c, c', h, h' => by
    match i with
    | 0 =>
      simp only [cdC, cdF, List.getElem?_cons_zero, Option.some.injEq] at h h'
      subst h; subst h'
      exact .arr sz (s k) _ _ (hf (s k, .arr sz (xs.map g)) (by simp [cdA])) (by simp)
    | i + 1 => exact cd_cob r (k + 1) (fun e he => hf e (by simp only [cdA, List.mem_cons]; exact .inr he)) i c c' (by simpa [cdC] using h) (by simpa [cdF] using h')
theorem obs_mem {e : Bk × PO} {l : List (Bk × PO)} (h : e ∈ l) : (e.1, e.2.ob) ∈ obs l := List.mem_map.2 ⟨e, h, rfl⟩
theorem KB.cob {V : Type} {kb : Bk → (Nat → Bk) → V → List (Bk × PO)} {fs : V → List AV} (K : KB kb fs) (b : Bk) (s : Nat → Bk) (v : V) (hp' : Heap) : CoB (obs (kb b s v) ++ hp') (.ptr b 0) (.rptr (fs v)) := by
  obtain ⟨D, h1, h2⟩ := K.ok
  rw [h2]
  refine .box b (cdC s 0 (D v)) _ (fnd_of_mem (List.mem_append_left _ ?_)) (cd_len s 0 (D v)).symm (cd_cob (D v) 0 fun e he => fnd_of_mem (List.mem_append_left _ (obs_mem ?_)))
  · rw [h1]; exact List.mem_cons_self ..
  · rw [h1]; exact List.mem_cons_of_mem _ he

/-- The pieces of an object ahead of other memory. -/
def obsO : List (Bk × PO) → Heap → Option Heap
  | [], r => some r
  | (b, .cells cs) :: l, r => match obsO l r with
    | some m => some ((b, .cells cs) :: m)
    | none => none
  | (b, .arr sz xs) :: l, r => match obsO l r with
    | some m => some ((b, .arr sz xs) :: m)
    | none => none
theorem obsO_eq : ∀ {l : List (Bk × PO)} {r m : Heap}, obsO l r = some m → obs l ++ r = m
  | [], r, m, h => Option.some.inj h
  | (b, .cells cs) :: l, r, m, h => by
    unfold obsO at h
    split at h
    · rename_i m' hm
      obtain rfl := Option.some.inj h
      rw [← obsO_eq hm]; rfl
    · cases h
  | (b, .arr sz xs) :: l, r, m, h => by
    unfold obsO at h
    split at h
    · rename_i m' hm
      obtain rfl := Option.some.inj h
      rw [← obsO_eq hm]; rfl
    · cases h
theorem obsO_nil {l : List (Bk × PO)} {m : Heap} (h : obsO l [] = some m) : m = obs l := by rw [← obsO_eq h, List.append_nil]

section view
variable {V : Type} {kb : Bk → (Nat → Bk) → V → List (Bk × PO)} {fs : V → List AV} {bo : Nat → Bk} {bs : Nat → Nat → Bk} {M : List V} {i : Int} {v : V} {hp hp' hp2 : Heap} {b bp : Bk}
/-- An object's pieces lie in memory. -/
theorem ara_view {w : World} {S : Nat → Prop} (r : HRel w S hp) (h : idx M i = some v) (u : Upd hp bp (.pool (araE kb bo bs M)) bp (.pool (araX kb bo bs M i)) hp') : HRel w S (obs (kb (bo i.toNat) (bs i.toNat) v) ++ hp') ∧ ∀ n, Has (obs (kb (bo i.toNat) (bs i.toNat) v) ++ hp') n → Has hp n := by
  obtain ⟨r1, e1⟩ := pool_takeL _ _ r u (araE_take h)
  refine ⟨r1, fun n hn => ?_⟩
  rcases e1.new n hn with h | h
  · exact h
  · have := r1.lt hn; omega
/-- What reads an object's pieces may read them in the pool. -/
theorem QV.ara {P : Program} {o : Oper} {n : Nat} {tm : List (Nat × AV)} {av : AV} (h : idx M i = some v) (u : Upd hp bp (.pool (araE kb bo bs M)) bp (.pool (araX kb bo bs M i)) hp') (e : obsO (kb (bo i.toNat) (bs i.toNat) v) hp' = some hp2) (q : QV P o ⟨n, tm, hp2⟩ av) : QV P o ⟨n, tm, hp⟩ av := by
  intro w S a r
  have := obsO_eq e
  subst this
  exact q w S a ⟨r.size, r.defers, r.tm, (ara_view r.hp h u).1⟩
theorem CoB.ara {a a' : AV} (h : idx M i = some v) (u : Upd hp bp (.pool (araE kb bo bs M)) bp (.pool (araX kb bo bs M i)) hp') (e : obsO (kb (bo i.toNat) (bs i.toNat) v) hp' = some hp2) (c : CoB hp2 a a') : CoB hp a a' := by
  refine .sem fun w S x r at_ => ?_
  have := obsO_eq e
  subst this
  obtain ⟨r1, r2⟩ := ara_view r h u
  exact (c.at r1 at_).mono fun m hm => ⟨hm.imp id (r2 m), rfl⟩
theorem fnd_upd {o : Ob} {hp : Heap} (f : Fnd hp b o) (o' : Ob) : ∃ hp', Upd hp b o b o' hp' := by
  induction f with
  | here => exact ⟨_, .here⟩
  | next _ ih => obtain ⟨h, u⟩ := ih; exact ⟨_, .next u⟩
  | skip _ ih => obtain ⟨h, u⟩ := ih; exact ⟨_, .skip u⟩
/-- A pointer to an object, looked through. -/
theorem CoB.araP (K : KB kb fs) (h : idx M i = some v) (f : Fnd hp bp (.pool (araE kb bo bs M))) : CoB hp (pA bo i) (.rptr (fs v)) := by
  obtain ⟨hp', u⟩ := fnd_upd f (.pool (araX kb bo bs M i))
  refine .sem fun w S x r at_ => ?_
  obtain ⟨r1, r2⟩ := ara_view r h u
  exact ((K.cob (bo i.toNat) (bs i.toNat) v hp').at r1 at_).mono fun m hm => ⟨hm.imp id (r2 m), rfl⟩
theorem CoB.araP' (K : KB kb fs) (h : idx M i = some v) (f : Fnd hp bp (.pool (araE kb bo bs M))) : CoB hp (.ptr (bo i.toNat) 0) (.rptr (fs v)) := CoB.araP K h f
/-- The objects of some numbers. -/
def idxs (M : List V) : List Int → Option (List V)
  | [] => some []
  | i :: r => (idx M i).bind fun v => (idxs M r).bind fun l => some (v :: l)
theorem idxs_cons {M : List V} {i : Int} {r : List Int} {vs : List V} (h : idxs M (i :: r) = some vs) : ∃ v l, idx M i = some v ∧ idxs M r = some l ∧ vs = v :: l := by
  unfold idxs at h
  cases h1 : idx M i with
  | none => rw [h1] at h; cases h
  | some v =>
    rw [h1] at h
    cases h2 : idxs M r with
    | none => rw [h2] at h; cases h
    | some l => rw [h2] at h; exact ⟨v, l, rfl, rfl, (Option.some.inj h).symm⟩
theorem idxs_len {M : List V} : ∀ {l : List Int} {vs : List V}, idxs M l = some vs → vs.length = l.length
  | [], vs, h => by obtain rfl := Option.some.inj h; rfl
  | i :: r, vs, h => by obtain ⟨v, l, _, h2, rfl⟩ := idxs_cons h; simp [idxs_len h2]
theorem idxs_get {M : List V} : ∀ {l : List Int} {vs : List V}, idxs M l = some vs → ∀ (j : Nat) i, l[j]? = some i → ∃ v, vs[j]? = some v ∧ idx M i = some v
  | [], vs, _, j, i, h => by simp at h
  | i0 :: r, vs, h, j, i, hj => by
    obtain ⟨v, l, h1, h2, rfl⟩ := idxs_cons h
    match j with
    | 0 => simp at hj; subst hj; exact ⟨v, rfl, h1⟩
    | j + 1 => exact idxs_get h2 j i (by simpa using hj)
theorem flat_one1 {α : Type} (f : α → AV) (h : ∀ x, (f x).cells = [f x]) (l : List α) : flat (l.map f) = l.map f := by
  induction l with
  | nil => rfl
  | cons x r ih => rw [List.map_cons, flat_cons, h, ih]; rfl
/-- A list of pointers to objects, looked at. -/
theorem CoB.araL (K : KB kb fs) {l : List Int} {vs : List V} (hl : idxs M l = some vs) (f : Fnd hp b (.arr 1 (l.map (pA bo))) ∨ Fnd hp b (.fro 1 (l.map (pA bo)))) (fp : Fnd hp bp (.pool (araE kb bo bs M))) : CoB hp (.sl 1 b 0 l.length) (.list 1 (vs.map fun x => .rptr (fs x))) := by
  refine .sem fun w S x r at_ => ?_
  have h0 : At w (SB S hp) (.list 1 (l.map (pA bo))) x := by
    have h1 : CoB hp (.sl 1 b 0 l.length) (.list 1 (l.map (pA bo))) := by
      rcases f with f | f
      · exact .arr 1 b _ _ f (by simp)
      · exact .co (.fro 1 b _ _ f (by simp))
    exact h1.at r at_
  have hlen := idxs_len hl
  cases h0 with
  | list sz xs a cap ws hsz hll hh hm hc =>
    have e1 : flat (l.map (pA bo)) = l.map (pA bo) := flat_one1 _ (fun _ => rfl) l
    have e2 : flat (vs.map fun x => AV.rptr (fs x)) = vs.map fun x => AV.rptr (fs x) := flat_one1 _ (fun _ => rfl) vs
    rw [e1] at hll hh
    have : (vs.map fun x => AV.rptr (fs x)).length = (l.map (pA bo)).length := by simp [hlen]
    rw [← this] at hc ⊢
    refine .list 1 _ a cap ws (fun y hy => ?_) (by rw [e2, this]; exact hll) (fun j c v' hc' hv => ?_) hm hc
    · obtain ⟨q, _, rfl⟩ := List.mem_map.1 hy
      exact ⟨rfl, fun c hc => by simp only [AV.cells, List.mem_singleton] at hc; subst hc; rfl⟩
    · rw [e2] at hc'
      have hj : j < l.length := by
        have := (List.getElem?_eq_some_iff.1 hc').1
        simp [hlen] at this; exact this
      obtain ⟨y, hy, hyi⟩ := idxs_get hl j l[j] (by simp [hj])
      rw [List.getElem?_map, hy] at hc'
      obtain rfl := Option.some.inj hc'
      have ha := hh j (pA bo l[j]) v' (by simp [hj]) hv
      have ha' : At w S (pA bo l[j]) v' := by
        unfold pA at ha ⊢
        cases ha with
        | ptr _ _ n hb => exact .ptr _ _ n hb
      exact (CoB.araP K hyi fp).at r ha'
end view

/-- An object whose pieces stand as they were goes back. -/
theorem ImpX.araBack {n : Nat} {tm : List (Nat × AV)} {hp hp1 h0 hp' : Heap} {T : St → Prop} {V : Type} {kb : Bk → (Nat → Bk) → V → List (Bk × PO)} {bo : Nat → Bk} {bs : Nat → Nat → Bk} {M : List V} {i : Int} {v : V} {bp : Bk} (h : idx M i = some v) (hs : Sel hp h0 hp1) (ho : obsO (kb (bo i.toNat) (bs i.toNat) v) [] = some h0) (u : Upd hp1 bp (.pool (araX kb bo bs M i)) bp (.pool (araE kb bo bs M)) hp')
    (k : ImpX ⟨n, tm, hp'⟩ T) : ImpX ⟨n, tm, hp⟩ T := by
  refine ImpX.step (σ1 := ⟨n, tm, hp'⟩) (fun w S a r => ?_) k
  obtain ⟨g0, e0⟩ := r.hp.same hs.perm
  rw [obsO_nil ho] at g0 e0
  obtain ⟨g1, g2⟩ := pool_putL _ _ g0 u (araE_take h)
  exact ⟨_, S, rfl, r.heap (fun m hm => ⟨hm, rfl⟩) g1, e0.trans g2⟩
theorem ImpX.araTakeN {n : Nat} {tm : List (Nat × AV)} {hp hp' hp2 : Heap} {T : St → Prop} {V : Type} {kb : Bk → (Nat → Bk) → V → List (Bk × PO)} {bo : Nat → Bk} {bs : Nat → Nat → Bk} {M : List V} {i : Int} {v : V} {bp : Bk} (h : idx M i = some v) (u : Upd hp bp (.pool (araE kb bo bs M)) bp (.pool (araX kb bo bs M i)) hp') (e : obsO (kb (bo i.toNat) (bs i.toNat) v) hp' = some hp2)
    (k : ImpX ⟨n, tm, hp2⟩ T) : ImpX ⟨n, tm, hp⟩ T := ImpX.araTake h u (by rw [obsO_eq e]; exact k)
/-- An object that has turned goes back. -/
theorem ImpX.araPutN {n : Nat} {tm : List (Nat × AV)} {hp hp1 h0 : Heap} {hp' : (Nat → Nat → Bk) → Heap} {T : St → Prop} {V : Type} {kb : Bk → (Nat → Bk) → V → List (Bk × PO)} {bo : Nat → Bk} {bs : Nat → Nat → Bk} {M : List V} {i : Int} {v v' : V} {bp : Bk} {s : Nat → Bk} (h : idx M i = some v) (hs : Sel hp h0 hp1) (ho : obsO (kb (bo i.toNat) s v') [] = some h0) (u : ∀ bs', Upd hp1 bp (.pool (araX kb bo bs M i)) bp (.pool (araE kb bo bs' (M.set i.toNat v'))) (hp' bs'))
    (k : ∀ bs', ImpX ⟨n, tm, hp' bs'⟩ T) : ImpX ⟨n, tm, hp⟩ T := ImpX.araPut h rfl rfl hs (obsO_nil ho) u k
theorem ImpX.araAddN {n : Nat} {tm : List (Nat × AV)} {hp hp1 h0 : Heap} {hp' : (Nat → Bk) → (Nat → Nat → Bk) → Heap} {T : St → Prop} {V : Type} {kb : Bk → (Nat → Bk) → V → List (Bk × PO)} {bo : Nat → Bk} {bs : Nat → Nat → Bk} {M : List V} {v : V} {b bp : Bk} {s : Nat → Bk} (hs : Sel hp h0 hp1) (ho : obsO (kb b s v) [] = some h0) (u : ∀ bo' bs', Upd hp1 bp (.pool (araE kb bo bs M)) bp (.pool (araE kb bo' bs' (M ++ [v]))) (hp' bo' bs'))
    (k : ∀ bo' bs', (∀ j, j < M.length → bo' j = bo j) → bo' M.length = b → ImpX ⟨n, tm, hp' bo' bs'⟩ T) : ImpX ⟨n, tm, hp⟩ T := ImpX.araAdd hs (obsO_nil ho) u k
theorem inB_l {n : Nat} {a c : List Int} {u : Unit} (h : inB n (a ++ c) = some u) : inB n a = some () := by
  have := inB_some h
  unfold inB; rw [if_pos]
  exact fun x hx => this x (List.mem_append_left _ hx)
theorem inB_r {n : Nat} {a c : List Int} {u : Unit} (h : inB n (a ++ c) = some u) : inB n c = some () := by
  have := inB_some h
  unfold inB; rw [if_pos]
  exact fun x hx => this x (List.mem_append_right _ hx)
theorem re_new {bo : Nat → Bk} {N : Nat} {b : Bk} (h : bo N = b) (o : Nat) : AV.ptr (bo ((N : Nat) : Int).toNat) o = AV.ptr b o := pA_new h o
theorem re_arr {bo bo' : Nat → Bk} {N : Nat} (h : ∀ j, j < N → bo' j = bo j) {l : List Int} {u : Unit} (hg : inB N l = some u) : Ob.arr 1 (l.map (pA bo)) = Ob.arr 1 (l.map (pA bo')) := congrArg (Ob.arr 1) (re_list h hg)
theorem re_mp {K : Type} {gk : K → AV} {bo bo' : Nat → Bk} {N : Nat} (h : ∀ j, j < N → bo' j = bo j) {M : List (K × Int)} {u : Unit} (hg : inB N (M.map Prod.snd) = some u) : Ob.mp (M.map fun e => (gk e.1, pA bo e.2)) = Ob.mp (M.map fun e => (gk e.1, pA bo' e.2)) := congrArg Ob.mp (re_map h hg)
/-- Names of lists, by number. -/
def nbk (l : List Bk) (k : Nat) : Bk := l.getD k ⟨none, 0⟩
/-- A slot's value is looked at only, from now on: what it leads to is frozen. -/
theorem ImpX.cobFrz {n s : Nat} {tm : List (Nat × AV)} {hp h0 hp1 : Heap} {T : St → Prop} {av av' : AV} (hs : lk tm s = some av) (sel : Sel hp h0 hp1) (co : CoB h0 av av') (k : ImpX ⟨n, (s, av') :: tm, hp1⟩ T) : ImpX ⟨n, tm, hp⟩ T := by
  refine ImpX.step (σ1 := ⟨n, (s, av') :: tm, hp1⟩) (fun w S a r => ?_) k
  obtain ⟨g0, e0⟩ := r.hp.same sel.perm
  let S' : Nat → Prop := SB S h0
  have mono : ∀ m, S m → S' m ∧ w.heap[m]? = w.heap[m]? := fun m hm => ⟨.inl hm, rfl⟩
  have hnd := g0.nodup
  have hsub : hp1.Sublist (h0 ++ hp1) := List.sublist_append_right _ _
  have hsub0 : h0.Sublist (h0 ++ hp1) := List.sublist_append_left _ _
  have hrel : HRel w S' hp1 := by
    refine ⟨hnd.sublist (sub_flatMap hsub), fun e he => (g0.holds e (hsub.subset he)).mono mono (fun _ _ => rfl), fun e he m hm => ?_, fun m hm => ?_, fun g o ho => ⟨.inl (r.hp.glob g o ho).1, (r.hp.glob g o ho).2⟩⟩
    · rw [← g0.sep e (hsub.subset he) m hm]
      refine ⟨fun hs => hs.elim id fun ⟨x, hx, hxm⟩ => ?_, .inl⟩
      exfalso
      rw [List.flatMap_append, List.nodup_append] at hnd
      exact hnd.2.2 m (List.mem_flatMap.2 ⟨x, hx, hxm⟩) m (List.mem_flatMap.2 ⟨e, he, hm⟩) rfl
    · rcases hm with h | ⟨x, hx, hxm⟩
      · exact r.hp.slt m h
      · exact g0.lt ⟨x, hsub0.subset hx, hxm⟩
  have hr := r.heap mono hrel
  refine ⟨_, S', rfl, ⟨hr.size, hr.defers, fun t av h => ?_, hr.hp⟩, rfl, rfl, rfl, Nat.le_refl _, mono, fun m hm hh => ⟨rfl, fun hs => hs.elim id fun ⟨x, hx, hxm⟩ => (hh ⟨x, sel.perm.mem_iff.2 (hsub0.subset hx), hxm⟩).elim⟩, fun m hm => .inl ?_, fun _ => Nat.le_refl _⟩
  · simp only [lk] at h
    split at h
    · rename_i hbq
      obtain rfl : s = t := by simpa using hbq
      obtain rfl := Option.some.inj h
      obtain ⟨v, e1, e2⟩ := r.tm s _ hs
      exact ⟨v, e1, co.at (g0.sub hsub0) e2⟩
    · exact hr.tm t av h
  · obtain ⟨e, he, hb⟩ := hm
    exact ⟨e, sel.perm.mem_iff.2 (hsub.subset he), hb⟩
end Go.Eng

/- The engine, part 70: slices.SortFunc at elements of one cell, by a comparison that looks at memory of ours. No program in sight. -/
set_option linter.unusedVariables false
set_option linter.unusedSimpArgs false
set_option linter.unusedSectionVars false
namespace Go.Eng
open Go Go.Sort Go.Proofs
variable [GTab]

/-- What the shelf says of an instance of slices.SortFunc whose elements have one cell. -/
structure SortP (P : Program) (f : FuncId) : Prop where
  some_ : ∀ (enc : Nat → Value) (_ : OneCell enc) (cf : Nat → Nat → Int) (_ : SWO (ltOf cf)) (g : Nat) (cb : Array Value) (blk off cap : Nat) (d : Array Nat) (w : World)
    (_ : ∀ args w, (callFunc g args).run P w = .ok (.enter g args) w) (_ : CmpLays1 P g cb enc cf blk off d.size w) (_ : Sort.Holds enc w blk off d) (_ : blk < w.heap.size) (_ : d.size < 4611686018427387904),
    Calls P f #[.slice (some ⟨blk, off, none⟩) d.size cap, .func (.func g) #[] cb] w fun e w' =>
      e = .returned (.tuple #[]) ∧ ∃ n os, w' = sortWorld enc w blk off n (pdq (ltOf cf) d 0 d.size (Lib.bitLen d.size) true true) os
  none_ : ∀ (p : Option Addr) (cap : Nat) (fv : Value) (w : World), Calls P f #[.slice p 0 cap, fv] w fun e w' => e = .returned (.tuple #[]) ∧ w' = w

theorem sort_acallB {P : Program} {α : Type} {f : FuncId} (K : SortP P f) {gf : FuncId} [IsFn P gf] {g : α → AV} {C C' : List AV} {hpR : Heap} {fn : α → α → Option Int}
    (hfn : ∀ {x y : α} {u : Int}, fn x y = some u → ∃ a c, CoB hpR (g x) a ∧ CoB hpR (g y) c ∧ @Pu strongT P gf (a :: c :: C') (I u)) (hC : CoBL hpR C C')
    (hc1 : ∀ x, (g x).cells = [g x]) (hone : ∀ x, (g x).one = true) {Xs Ys : List α} {b : Bk} (h : sortO fn Xs = some Ys) :
    ACall P f [.sl 1 b 0 Xs.length, .func (.func gf) C] ((b, .arr 1 (Xs.map g)) :: hpR) (T0 ((b, .arr 1 (Ys.map g)) :: hpR) (.tup [])) := by
  intro w S vs r hl ha
  obtain ⟨v0, v1, rfl⟩ : ∃ v0 v1, vs = #[v0, v1] := by
    match vs, hl with
    | ⟨[v0, v1]⟩, _ => exact ⟨v0, v1, rfl⟩
  have a0 := ha 0 _ v0 rfl rfl
  have a1 := ha 1 _ v1 rfl rfl
  obtain ⟨oa, cap, rfl, e2⟩ := a0.sl_inv
  obtain ⟨cv, rfl, hcl, hca⟩ := a1.func_inv
  match Xs, h with
  | [], h =>
    obtain rfl := Option.some.inj h
    refine (K.none_ oa cap _ w).mono ?_
    rintro e w' ⟨rfl, rfl⟩
    exact ⟨_, .tup [], _, S, rfl, ⟨rfl, rfl⟩, .tup [] #[] rfl (fun i c v hc => by simp at hc), r, Evo.refl _ _ _⟩
  | x :: xr, h =>
    rw [sortO_cons] at h
    by_cases hc : (xr.length + 1 < 4611686018427387904 ∧ (∀ a ∈ x :: xr, ∀ b ∈ x :: xr, ∃ u, fn a b = some u) ∧ SWO (ltOf (ordx fn x xr)))
    · rw [if_pos hc] at h
      obtain rfl := Option.some.inj h
      obtain ⟨hlen, hdef, hO⟩ := hc
      have hmem : (b, Ob.arr 1 ((x :: xr).map g)) ∈ (b, Ob.arr 1 ((x :: xr).map g)) :: hpR := List.mem_cons_self ..
      obtain ⟨h0, h1, h2⟩ := r.holds _ hmem
      replace h1 : xr.length + 1 ≤ b.cap := by simpa using h1
      rcases h2 with ⟨_, hcap⟩ | ⟨m, row, E, hb, hrow, hsz, hat⟩
      · have hcap' : b.cap = 0 := hcap
        omega
      rcases e2 with ⟨hn, _, _, _, _⟩ | ⟨m', hb', rfl, hle, hle2⟩ | ⟨m', ad, _, _, hl0, _⟩
      · rw [hn] at hb; cases hb
      · obtain rfl : m' = m := by rw [hb'] at hb; exact Option.some.inj hb
        have hmlt : m' < w.heap.size := hp_lt hrow
        have nS : ¬ S m' := fun hs => by have := (r.sep _ hmem m' (eb_of hb)).1 hs; exact this
        have nR : ¬ Has hpR m' := fun ⟨e, he, hen⟩ => by
          have := r.nodup
          rw [List.flatMap_cons, List.nodup_append] at this
          exact this.2.2 m' (eb_of hb) m' (List.mem_flatMap.2 ⟨e, he, hen⟩) rfl
        have rR : HRel w S hpR := r.sub (List.sublist_cons_self _ _)
        rw [flat_ones hc1] at hat
        have hrs : xr.length + 1 ≤ row.size := by rw [show row.size = b.cap from hsz.trans (Nat.mul_one _)]; exact h1
        let ix : Nat → Nat := fun i => if i < xr.length + 1 then i else 0
        have hix : ∀ i, ix i < xr.length + 1 := fun i => by simp only [ix]; split <;> omega
        have helx : ∀ i, (x :: xr)[ix i]? = some (elx x xr i) := by
          intro i
          simp only [ix, elx, List.getD_eq_getElem?_getD]
          split
          · rename_i hi
            rw [List.getElem?_eq_getElem (by simpa using hi)]; simp
          · rename_i hi
            rw [List.getElem?_eq_none (l := x :: xr) (i := i) (by simp; omega)]; simp
        let enc : Nat → Value := fun i => row[ix i]!
        have henA : ∀ i, At w S (g (elx x xr i)) (enc i) := by
          intro i
          have hi := hix i
          refine hat (ix i) _ _ (by rw [List.getElem?_map, helx i]; rfl) ?_
          simp only [enc]
          rw [getElem!_pos row (ix i) (by omega), Array.getElem?_eq_getElem (by omega)]
        have henO : OneCell enc := fun i => (henA i).one_ok (hone _)
        have hHold : Sort.Holds enc w m' 0 (Array.range (xr.length + 1)) := by
          intro j hj
          rw [Array.size_range] at hj
          have hjr : j < row.size := by omega
          have e1 : enc (Array.range (xr.length + 1))[j]! = row[j] := by
            rw [getElem!_pos _ _ (by simpa using hj), Array.getElem_range]
            simp only [enc, ix, if_pos hj]
            rw [getElem!_pos row j hjr]
          rw [e1]
          constructor
          · simp only [World.cell?, hrow, Nat.zero_add, Option.isSome_none, Bool.false_eq_true, if_false]
            rw [Array.getElem?_eq_getElem hjr]
          · simp [World.frozen?, hrow]
        have hkeep : ∀ (mm : Nat) (dk : Array Nat) (os : Array Obj) (n : Nat), n < w.heap.size → n ≠ m' → (sortWorld enc w m' 0 mm dk os).heap[n]? = w.heap[n]? := fun mm dk os n hn hne => heap_putW enc w m' 0 mm dk os hn hne
        have hsize : ∀ (mm : Nat) (dk : Array Nat) (os : Array Obj), w.heap.size ≤ (sortWorld enc w m' 0 mm dk os).heap.size := fun mm dk os => by unfold sortWorld; simp
        have hWS : ∀ (mm : Nat) (dk : Array Nat) (os : Array Obj) n, S n → S n ∧ (sortWorld enc w m' 0 mm dk os).heap[n]? = w.heap[n]? := fun mm dk os n hs => ⟨hs, hkeep mm dk os n (r.slt n hs) (fun e => nS (e ▸ hs))⟩
        have hRel : ∀ (mm : Nat) (dk : Array Nat) (os : Array Obj), HRel (sortWorld enc w m' 0 mm dk os) S hpR := fun mm dk os =>
          ⟨rR.nodup, fun e he => (rR.holds e he).mono (hWS mm dk os) (fun n hn => hkeep mm dk os n (rR.lt ⟨e, he, hn⟩) (fun e' => nR ⟨e, he, e' ▸ hn⟩)), rR.sep, fun n hn => Nat.lt_of_lt_of_le (rR.slt n hn) (hsize mm dk os), fun g o ho => ⟨(r.glob g o ho).1, gkeep (hWS mm dk os g (r.glob g o ho).1).2 (r.glob g o ho).2⟩⟩
        have hcmp : CmpLays1 P gf cv enc (ordx fn x xr) m' 0 (Array.range (xr.length + 1)).size w := by
          intro mm os dk hdk i j
          obtain ⟨u, hu⟩ := hdef _ (elx_mem x xr i) _ (elx_mem x xr j)
          obtain ⟨a, c, ca, cc, hp⟩ := hfn hu
          have rr := hRel mm dk os
          have hlv : (g (elx x xr i) :: g (elx x xr j) :: C).length = ([enc i, enc j] ++ cv.toList).length := by simp [‹C.length = cv.size›]
          have hargs : AtA (sortWorld enc w m' 0 mm dk os) S (g (elx x xr i) :: g (elx x xr j) :: C) (([enc i, enc j] ++ cv.toList).toArray) := by
            intro q e v he hv
            match q with
            | 0 => simp at he hv; subst he; subst hv; exact (henA i).mono (hWS mm dk os)
            | 1 => simp at he hv; subst he; subst hv; exact (henA j).mono (hWS mm dk os)
            | q + 2 =>
              simp only [List.getElem?_cons_succ] at he
              have hv' : cv[q]? = some v := by simpa using hv
              exact (hca q e v he hv').mono (hWS mm dk os)
          obtain ⟨k1, k2⟩ := CoBL.at rr (.cons ca (.cons cc hC)) hlv hargs
          have e1 : (#[enc i, enc j] ++ cv : Array Value) = ([enc i, enc j] ++ cv.toList).toArray := by simp
          rw [e1]
          refine (hp _ (SB S hpR) _ (@hrel_nil strongT _ _ (fun n hn => hn.elim (rr.slt n) fun h => rr.lt h) (fun g o ho => ⟨.inl (rr.glob g o ho).1, (rr.glob g o ho).2⟩)) (by simpa using k1) k2).mono ?_
          rintro e w' ⟨v, rv, h', S', rfl, hq, h3, h4, h5⟩
          obtain rfl := hq
          rw [h3.int_inv]
          refine ⟨?_, @Ext.grown strongT _ _ trivial (@Evo.toExt strongT _ _ _ _ _ h5)⟩
          unfold ordx
          rw [hu]; rfl
        have hsd : (Array.range (xr.length + 1)).size = xr.length + 1 := Array.size_range
        have hcall := K.some_ enc henO (ordx fn x xr) hO gf cv m' 0 cap (Array.range (xr.length + 1)) w (fun args w => run_callFunc gf args w) hcmp hHold hmlt (by rw [hsd]; exact hlen)
        rw [hsd] at hcall
        simp only [Nat.zero_mul]
        refine hcall.mono ?_
        rintro e w' ⟨rfl, q, os, rfl⟩
        have hps := pdq_sorts (ltOf (ordx fn x xr)) hO (Array.range (xr.length + 1)) 0 (xr.length + 1) (Lib.bitLen (xr.length + 1)) true true (Nat.zero_le _) (by rw [hsd]; exact Nat.le_refl _) (Or.inl rfl)
        generalize hd' : pdq (ltOf (ordx fn x xr)) (Array.range (xr.length + 1)) 0 (xr.length + 1) (Lib.bitLen (xr.length + 1)) true true = d' at hps ⊢
        have hd's : d'.size = xr.length + 1 := by rw [hps.1.1, hsd]
        have hW := hWS q d' os
        have hEl : ∀ y ∈ (d'.toList.map (elx x xr)).map g, El 1 y := by
          intro y hy
          simp only [List.mem_map] at hy
          obtain ⟨z, ⟨i, _, rfl⟩, rfl⟩ := hy
          exact h0 _ (List.mem_map.2 ⟨_, elx_mem x xr i, rfl⟩)
        have hh : Go.Eng.Holds (sortWorld enc w m' 0 q d' os) S b (.arr 1 ((d'.toList.map (elx x xr)).map g)) := by
          refine ⟨hEl, by simp [hd's]; omega, .inr ⟨m', _, E, hb, row_putW enc w m' q d' os hrow, by simp [putCells, hsz], ?_⟩⟩
          rw [flat_ones hc1]
          intro j c v hc hv
          have hjl : j < xr.length + 1 := by
            have := (List.getElem?_eq_some_iff.1 hc).1
            simpa [hd's] using this
          have hjr : j < row.size := by omega
          have hdj : (d'.toList.map (elx x xr))[j]? = some (elx x xr d'[j]!) := by
            rw [List.getElem?_map, Array.getElem?_toList, Array.getElem?_eq_getElem (by omega), getElem!_pos d' j (by omega)]; rfl
          rw [List.getElem?_map, hdj] at hc
          obtain rfl := Option.some.inj hc
          simp only [putCells, Array.getElem?_mapIdx, Array.getElem?_eq_getElem hjr, Option.map_some, Option.some.injEq] at hv
          rw [if_pos ⟨Nat.zero_le _, by rw [hd's]; omega⟩, Nat.sub_zero] at hv
          rw [← hv]
          exact (henA _).mono hW
        have hsz' := hsize q d' os
        have rN := hRel q d' os
        refine ⟨_, .tup [], _, S, rfl, ⟨rfl, rfl⟩, .tup [] #[] rfl (fun i c v hc => by simp at hc), ⟨r.nodup, fun e he => ?_, fun e he n hn => ?_, fun n hn => Nat.lt_of_lt_of_le (r.slt n hn) hsz', rN.glob⟩, ?_⟩
        · rcases List.mem_cons.1 he with rfl | he
          · exact hh
          · exact rN.holds e he
        · rcases List.mem_cons.1 he with rfl | he
          · replace hn := (eb_one rfl).1 hn
            rw [hb] at hn
            obtain rfl := Option.some.inj hn
            exact ⟨fun hs => (nS hs).elim, fun hf => hf.elim⟩
          · exact rN.sep e he n hn
        · refine ⟨rfl, rfl, rfl, hsz', hW, fun n hn hnh => ⟨hkeep q d' os n hn (fun e => hnh ⟨_, hmem, by rw [e]; exact eb_of hb⟩), id⟩, ?_, ?_⟩
          · rintro n ⟨e, he, hen⟩
            rcases List.mem_cons.1 he with rfl | he
            · exact .inl ⟨_, hmem, hen⟩
            · exact .inl ⟨e, List.mem_cons_of_mem _ he, hen⟩
          · intro _
            show w.drawn ≤ w.drawn + q
            omega
      · simp at hl0
    · rw [if_neg hc] at h; cases h
/-- Numbers of objects, in the order of the objects. -/
noncomputable def sortA {V : Type} (fn : V → V → Option Int) (M : List V) (l : List Int) : Option (List Int) :=
  sortO (fun i j => (idx M i).bind fun x => (idx M j).bind fun y => fn x y) l
/-- Pointers to objects, sorted by what they lead to. -/
theorem sortA_acall {P : Program} {V : Type} {f : FuncId} (K : SortP P f) {gf : FuncId} [IsFn P gf] {kb : Bk → (Nat → Bk) → V → List (Bk × PO)} {fs : V → List AV} (B : KB kb fs) {C : List AV} {fn : V → V → Option Int} (hfn : ∀ {x y : V} {u : Int}, fn x y = some u → @Pu strongT P gf (.rptr (fs x) :: .rptr (fs y) :: C) (I u))
    {M : List V} {bo : Nat → Bk} {bs : Nat → Nat → Bk} {bp b : Bk} {l r : List Int} (h : sortA fn M l = some r) :
    ACall P f [.sl 1 b 0 l.length, .func (.func gf) C] [(b, .arr 1 (l.map (pA bo))), (bp, .pool (araE kb bo bs M))] (T0 [(b, .arr 1 (r.map (pA bo))), (bp, .pool (araE kb bo bs M))] (.tup [])) := by
  refine sort_acallB K (g := pA bo) (fn := fun i j => (idx M i).bind fun x => (idx M j).bind fun y => fn x y) (C' := C) ?_ (CoBL.refl C) (fun _ => rfl) (fun _ => rfl) h
  intro i j u hu
  cases hi : idx M i with
  | none => rw [hi] at hu; cases hu
  | some x =>
    cases hj : idx M j with
    | none => rw [hi, hj] at hu; cases hu
    | some y =>
      rw [hi, hj] at hu
      exact ⟨_, _, CoB.araP B hi .here, CoB.araP B hj .here, hfn hu⟩
theorem sortO_len {α : Type} {fn : α → α → Option Int} {Xs Ys : List α} (h : sortO fn Xs = some Ys) : Ys.length = Xs.length := by
  match Xs, h with
  | [], h => obtain rfl := Option.some.inj h; rfl
  | x :: xr, h =>
    rw [sortO_cons] at h
    by_cases hc : (xr.length + 1 < 4611686018427387904 ∧ (∀ a ∈ x :: xr, ∀ b ∈ x :: xr, ∃ u, fn a b = some u) ∧ SWO (ltOf (ordx fn x xr)))
    · rw [if_pos hc] at h
      obtain rfl := Option.some.inj h
      have hps := pdq_sorts (ltOf (ordx fn x xr)) hc.2.2 (Array.range (xr.length + 1)) 0 (xr.length + 1) (Lib.bitLen (xr.length + 1)) true true (Nat.zero_le _) (by rw [Array.size_range]; exact Nat.le_refl _) (Or.inl rfl)
      have := hps.1.1
      rw [Array.size_range] at this
      simp [this]
    · rw [if_neg hc] at h; cases h
theorem sortA_len {V : Type} {fn : V → V → Option Int} {M : List V} {l r : List Int} (h : sortA fn M l = some r) : r.length = l.length := sortO_len h
end Go.Eng

