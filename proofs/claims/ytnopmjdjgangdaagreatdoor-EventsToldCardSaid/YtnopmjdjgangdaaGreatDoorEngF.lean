/- The engine: abstract values, the symbolic heap, one rule for each operation. No program in sight. -/
import Derived.Test.YtnopmjdjgangdaaGreatDoorEngE
import Derived.Shelf.SlSortCmp.NoneTotal
import Derived.Lib.Case
/- The engine, part 48: an operation in a region with tokens that looks at a value told of new memory, and whose result is told without it. No program in sight. -/
set_option linter.unusedVariables false
set_option linter.unusedSectionVars false
namespace Go.Eng
open Go
variable [GTab]
section rules
variable {P : Program} {all : Array Oper} {n : Nat} {B : Heap} {tk : List Tok} {dy : List Nat} {i : Nat} {rest : List Oper} {tm : List (Nat × AV)} {acc : (Nat → Bk) → List (Nat × AV)} {Q : (Nat → Bk) → List (Nat × AV) → Prop} {d : Nat} {ty : TypeId} {pos : String} {af : Array Edge} {op : Op}
end rules
end Go.Eng

/- The engine, part 49: room for a new builder. No program in sight. -/
set_option linter.unusedVariables false
set_option linter.unusedSectionVars false
namespace Go.Eng
open Go Go.Proofs Go.Shelf Go.Lib
variable {P : Program} [GTab]
end Go.Eng

/- The engine, part 50: 'a and b', 'a or b' of plain truths, in a region with tokens: without two ways. No program in sight. -/
set_option linter.unusedVariables false
set_option linter.unusedSectionVars false
namespace Go.Eng
open Go
variable [GTab]
section rules
variable {P : Program} {all : Array Oper} {rest : List Oper} {n : Nat} {tm : List (Nat × AV)} {hp : Heap} {Q : List (Nat × AV) → Prop} {d1 d2 j s x : Nat} {t1 t2 : TypeId} {p1 p2 : String} {a1 a2 : Array Edge} {a b : Bool}
end rules
end Go.Eng

/- The engine, part 51: make of slices whose elements are slices. No program in sight. -/
set_option linter.unusedVariables false
set_option linter.unusedSectionVars false
namespace Go.Eng
open Go
variable [GTab]
section rules
variable {P : Program} {all : Array Oper} {rest : List Oper} {n : Nat} {tm : List (Nat × AV)} {hp : Heap} {Q : St → Prop} {d : Nat} {ty : TypeId} {pos : String} {af : Array Edge}
end rules
end Go.Eng

/- The engine, part 52: memory that is given up. No program in sight. -/
set_option linter.unusedVariables false
set_option linter.unusedSectionVars false
namespace Go.Eng
open Go
variable [GTab]
theorem ImpX.drop {n : Nat} {tm : List (Nat × AV)} {hp hp1 : Heap} {T : St → Prop} {b : Bk} {o : Ob} (dl : Del hp b o hp1) (k : ImpX ⟨n, tm, hp1⟩ T) : ImpX ⟨n, tm, hp⟩ T := by
  have hs : hp1.Sublist hp := by
    obtain ⟨p, q, rfl, rfl⟩ := dl.split
    exact List.Sublist.append (List.Sublist.refl _) (List.sublist_cons_self _ _)
  exact ImpX.step (σ1 := ⟨n, tm, hp1⟩) (fun w S a r => ⟨_, S, rfl, r.less ⟨rfl, fun _ _ h => h, hs⟩, Evo.less (Evo.refl w S hp) fun _ hn => hn.sub hs⟩) k
end Go.Eng

/- The engine, part 53: clear of slices whose elements hold slices. No program in sight. -/
set_option linter.unusedVariables false
set_option linter.unusedSectionVars false
namespace Go.Eng
open Go
variable [GTab]
section rules
variable {P : Program} {all : Array Oper} {rest : List Oper} {n : Nat} {tm : List (Nat × AV)} {hp : Heap} {Q : St → Prop} {d : Nat} {ty : TypeId} {pos : String} {af : Array Edge}
end rules
end Go.Eng

/- The engine, part 54: a captured box that is never written again. No program in sight. -/
set_option linter.unusedVariables false
set_option linter.unusedSectionVars false
namespace Go.Eng
open Go
variable [GTab]
end Go.Eng

/- The engine, part 55: look-ups in maps whose values hold slices. No program in sight. -/
set_option linter.unusedVariables false
set_option linter.unusedSectionVars false
namespace Go.Eng
open Go
variable [GTab]
section rules
variable {P : Program} {all : Array Oper} {rest : List Oper} {n : Nat} {tm : List (Nat × AV)} {hp : Heap} {Q : St → Prop} {d : Nat} {ty : TypeId} {pos : String} {af : Array Edge}
end rules
end Go.Eng

/- The engine, part 56: structs of plain cells as keys of maps. No program in sight. -/
set_option linter.unusedVariables false
set_option linter.unusedSectionVars false
namespace Go.Eng
open Go
variable [GTab]
def scB : AV → Bool
  | .int _ _ => true
  | .bool _ => true
  | .str _ => true
  | _ => false
theorem sc_det {w : World} {S : Nat → Prop} {a : AV} {v u : Value} (h : scB a = true) (hv : At w S a v) (hu : At w S a u) : v = u ∧ ∀ n, Instr.sameBits n v v = true := by
  cases a <;> simp only [scB, Bool.false_eq_true] at h
  · rw [hv.int_inv, hu.int_inv]; exact ⟨rfl, fun n => by cases n <;> simp [Instr.sameBits]⟩
  · rw [hv.bool_inv, hu.bool_inv]; exact ⟨rfl, fun n => by cases n <;> simp [Instr.sameBits]⟩
  · rw [hv.str_inv, hu.str_inv]
    refine ⟨rfl, fun n => ?_⟩
    cases n <;> (simp only [Instr.sameBits]; exact (ba_beq _ _).2 rfl)
theorem zip_self_all {α : Type} (p : α × α → Bool) : ∀ (l : List α), (∀ x ∈ l, p (x, x) = true) → (l.zip l).all p = true
  | [], _ => rfl
  | x :: r, h => by
    rw [List.zip_cons_cons, List.all_cons, h x List.mem_cons_self, zip_self_all p r (fun y hy => h y (List.mem_cons_of_mem _ hy))]; rfl
theorem sc_aggs {w : World} {S : Nat → Prop} {cs : List AV} {v u : Value} (h : ∀ c ∈ cs, scB c = true) (hv : At w S (.agg cs) v) (hu : At w S (.agg cs) u) : Instr.sameBits 10000 v u = true := by
  obtain ⟨vs, rfl, hl, ha⟩ := hv.agg_inv
  obtain ⟨us, rfl, hl', ha'⟩ := hu.agg_inv
  have key : ∀ (i : Nat) (h1 : i < vs.size) (h2 : i < us.size), vs[i] = us[i] ∧ ∀ n, Instr.sameBits n vs[i] vs[i] = true := fun i h1 h2 => by
    have hc : cs[i]? = some (cs[i]'(by omega)) := by simp [show i < cs.length by omega]
    exact sc_det (h _ (List.getElem_mem _)) (ha i _ _ hc (by simp [h1])) (ha' i _ _ hc (by simp [h2]))
  have heq : vs = us := Array.ext (by omega) (fun i h1 h2 => (key i h1 h2).1)
  subst heq
  have g : ∀ n : Nat, Instr.sameBits (n + 1) (.agg vs) (.agg vs) = true := fun n => by
    simp only [Instr.sameBits, beq_self_eq_true, Bool.true_and]
    refine zip_self_all _ _ (fun x hx => ?_)
    obtain ⟨i, hi, rfl⟩ := List.getElem_of_mem hx
    simpa using (key i (by simpa using hi) (by simpa using hi)).2 n
  exact g 9999
def scT (D : TypeDesc) : Bool := match D with
  | .int _ => true
  | .bool => true
  | .string => true
  | _ => false
theorem ck_sc {P : Program} {t : TypeId} {D : TypeDesc} (hu : P.underlying t = some D) (hD : scT D = true) (b : Bool) (n : Nat) (v : Value) (w : World) : (Instr.checkKey b (n + 1) t v).run P w = .ok () w := by
  cases D <;> simp only [scT, Bool.false_eq_true] at hD <;> simp [Instr.checkKey, run_underlying hu]
theorem part_sc {P : Program} {t : TypeId} {D : TypeDesc} (hu : P.underlying t = some D) (hD : scT D = true) {cs : Array Value} {off : Nat} {v : Value} (h : cs[off]? = some v) (w : World) : (part t cs off).run P w = .ok v w := by
  unfold part isAgg
  simp only [Sem.run_bind, run_underlying hu, Result.andThen_ok]
  cases D <;> simp_all [scT]
theorem ck_fields {P : Program} (b : Bool) (n : Nat) (vs : Array Value) (w : World) : ∀ (fs : List Field), (∀ f ∈ fs, ∃ D, P.underlying f.type = some D ∧ scT D = true ∧ f.offset < vs.size) → (forIn fs PUnit.unit (fun f (_ : PUnit) => (if f.name ≠ "_" then do
      let x ← part f.type vs f.offset
      Instr.checkKey b (n + 1) f.type x
      pure (ForInStep.yield PUnit.unit)
      else pure (ForInStep.yield PUnit.unit) : Sem (ForInStep PUnit)))).run P w = .ok PUnit.unit w
  | [], _ => by simp
  | f :: fs, h => by
    obtain ⟨D, h1, h2, h3⟩ := h f List.mem_cons_self
    have hp : ∀ w1, (part f.type vs f.offset).run P w1 = .ok vs[f.offset] w1 := part_sc h1 h2 (by simp [h3])
    have ih := ck_fields b n vs w fs (fun g hg => h g (List.mem_cons_of_mem _ hg))
    simp only [List.forIn_cons, Sem.run_bind]
    by_cases hn : f.name = "_"
    · simp only [hn, ne_eq, not_true_eq_false, if_false, Sem.run_pure, Result.andThen_ok]
      exact ih
    · simp only [hn, ne_eq, not_false_eq_true, if_true, Sem.run_bind, hp, Result.andThen_ok, ck_sc h1 h2, Sem.run_pure]
      exact ih
theorem ask_P {P : Program} {t : TypeId} {v : Value} {K : Type} [DecidableEq K] {k : K} {q : K → Value → Prop} (hq : ∀ k' u, q k' u → ∀ w, (Op.equal t v u).run P w = .ok (decide (k' = k)) w) : ∀ (es : List MapEntry) (ks : List K) (i : Nat) (w : World), ks.length = es.length → (∀ (i : Nat) k' e, ks[i]? = some k' → es[i]? = some e → q k' e.key) → (Instr.findAsking t v es i).run P w = .ok (findP k ks es i) w
  | [], [], i, w, _, _ => by simp [Instr.findAsking, findP]
  | [], k' :: ks, i, w, hl, _ => by simp at hl
  | e :: es, [], i, w, hl, _ => by simp at hl
  | e :: es, k' :: ks, i, w, hl, h => by
    unfold Instr.findAsking findP
    rw [Sem.run_bind, hq k' e.key (h 0 k' e rfl rfl)]
    by_cases hk : k' = k
    · simp [hk]
    · simp only [hk, decide_false, Result.andThen_ok, Bool.false_eq_true, if_false]
      exact ask_P hq es ks (i + 1) w (by simpa using hl) (fun i k' e h1 h2 => h (i + 1) k' e (by simpa using h1) (by simpa using h2))
theorem MKey.struct {P : Program} {t : TypeId} {K : Type} [DecidableEq K] {g : K → AV} {dd : Nat} {fs : List Field} {n : Nat} [EqTy P t dd g] (hk : Nat.ble dd 10000 = true) (hu : P.underlying t = some (.struct fs.toArray))
    (hf : ∀ f ∈ fs, ∃ D, P.underlying f.type = some D ∧ scT D = true ∧ f.offset < n) (hg : ∀ x, ∃ cs, g x = .agg cs ∧ cs.length = n ∧ ∀ c ∈ cs, scB c = true) (inj : ∀ a b, g a = g b → a = b) : MKey P t g where
  inj := inj
  check := fun {w S k v} hv b w1 => by
    obtain ⟨cs, e, hl, hs⟩ := hg k
    rw [e] at hv
    obtain ⟨vs, rfl, hl', ha⟩ := hv.agg_inv
    have key : ∀ m : Nat, (Instr.checkKey b (m + 1 + 1) t (.agg vs)).run P w1 = .ok () w1 := fun m => by
      have h1 := ck_fields (P := P) b m vs w1 fs (fun f hm => by obtain ⟨D, h1, h2, h3⟩ := hf f hm; exact ⟨D, h1, h2, by omega⟩)
      rw [Instr.checkKey]
      simp only [Sem.run_bind, run_underlying hu, Result.andThen_ok]
      rw [← Array.forIn_toList]
      simp only [h1, Result.andThen_ok, Sem.run_pure]
    exact key 9998
  find := fun {w S k v} hv es ks hl hk' w1 => by
    obtain ⟨cs, e, hn, hs⟩ := hg k
    have hv' := hv
    rw [e] at hv'
    obtain ⟨vs, rfl, hl', ha⟩ := hv'.agg_inv
    have hq := ask_P (P := P) (t := t) (v := .agg vs) (k := k) (q := fun k' u => At w S (g k') u) (fun k' u hu w2 => by
      have := EqTy.h (P := P) (t := t) (g := g) k k' w S _ _ hv hu (10000 - dd) w2
      rw [Nat.sub_add_cancel (Nat.le_of_ble_eq_true hk)] at this
      rw [show decide (k' = k) = decide (k = k') by rw [Bool.eq_iff_iff]; simp; exact eq_comm]
      exact this) es ks 0 w1 hl (fun i k' e h1 h2 => hk' i k' e h1 h2)
    unfold Instr.findKey
    rw [Sem.run_bind, run_underlying hu]
    simp only [Result.andThen_ok]
    cases es with
    | nil =>
      cases ks with
      | nil => simp [Instr.findNow, findP]
      | cons _ _ => simp at hl
    | cons m es =>
      have : Instr.findNow (.struct fs.toArray) (.agg vs) (m :: es) 0 = none := by
        unfold Instr.findNow; simp [Instr.sameNow]
      rw [this]; exact hq
  bits := fun {w S k v u} h1 h2 => by
    obtain ⟨cs, e, hn, hs⟩ := hg k
    rw [e] at h1 h2
    exact sc_aggs hs h1 h2
end Go.Eng

/- A call of a function value that was handed in, in the head of a drawn region. -/
set_option linter.unusedVariables false
set_option linter.unusedSectionVars false
namespace Go.Eng
open Go
variable [GTab]
section rules
variable {P : Program} {all : Array Oper} {rest : List Oper} {n : Nat} {tm : List (Nat × AV)} {hp : Heap} {Q : List (Nat × AV) → Prop} {d : Nat} {ty : TypeId} {pos : String} {af : Array Edge} {op : Op}
theorem AM.callvp {f : FuncId} {x : Operand} {args : List Operand} {ts : Array TypeId} {caps l l' : List AV} {R : AV} [IsFn P f] (hx : evA (rst (looks all ⟨some d, .call { callee := .value x, args := args.toArray, argTypes := ts }, ty, pos, af, none⟩) tm) x = some (.func (.func f) caps)) (hl : evL (rst (looks all ⟨some d, .call { callee := .value x, args := args.toArray, argTypes := ts }, ty, pos, af, none⟩) tm) args = some l) (c : Pu P f l' R) (co : CoL hp (l ++ caps) l') (hn : Nat.blt d n = true)
    (k : AM P all n hp rest ((d, R) :: tm) Q) : AM P all n hp (⟨some d, .call { callee := .value x, args := args.toArray, argTypes := ts }, ty, pos, af, none⟩ :: rest) tm Q := by
  refine AM.mv (fun w S a h1 h2 h3 h4 K Q' hK => ?_) hn k
  have r := strel_rst h1 h2 h3 h4
  obtain ⟨cv, e1, e2, e3⟩ := (evA_at r hx).func_inv
  show Oper.upon P _ a K Q' _
  rw [run_exec_callv a _ e1]
  obtain ⟨g1, g2⟩ := evL_vals r hl
  obtain ⟨g3, g4⟩ := CoL.at r.hp co (vs := args.map a.eval ++ cv.toList) (by simp [g1, e2]) (AtA_cons g1 g2 (by simpa using e3))
  refine (c w S _ (hrel_nil h3.slt h3.glob) (by simpa using g3) g4).mono ?_
  rintro e w' ⟨v, rr, h', S', rfl, rfl, k3, k4, k5⟩
  exact hK v w' S' ⟨k5.toExt, fun m hm => (k5.keep m hm).1, fun m hm hs => (k5.other m hm (fun ⟨x, hx, _⟩ => by simp at hx)).2 hs, k4.slt⟩ k3
theorem MV.cox {o : Oper} {e : Env} {av av' : AV} (h : MV P all n o e hp av) (c : CoX hp av av') : MV P all n o e hp av' :=
  fun w S a h1 h2 h3 h4 K Q hK => h w S a h1 h2 h3 h4 K Q (fun v w' S' g hv => hK v w' S' g (c.at (h3.grow g) hv))
theorem MV.buildSliceL {t e : TypeId} {i : TypeInfo} {z : Value} {len sz : Nat} {parts : List (Nat × Operand)} {xs : List AV} [TUnder P t (.slice e)] [TInfo P e i] [TSz P e sz] (hz : i.zero = some z)
    (hl : evS (rst (looks all ⟨some d, .buildSlice t len parts.toArray, ty, pos, af, none⟩) tm) parts 0 = some xs) (hlen : Nat.beq parts.length len = true) (hel : allEl i.size xs = true) (h24 : Nat.ble (len * i.size) 16777216 = true) : MV P all n ⟨some d, .buildSlice t len parts.toArray, ty, pos, af, none⟩ (lk tm) hp (.list sz xs) := by
  obtain ⟨i', hi1, hi2⟩ := TSz.h (P := P) (t := e)
  obtain rfl : i' = i := by rw [TInfo.h (P := P) (t := e)] at hi1; exact (Option.some.inj hi1).symm
  subst hi2
  intro w S a h1 h2 h3 h4 K Q' hK
  have r := strel_rst h1 h2 h3 h4
  obtain rfl : parts.length = len := Nat.eq_of_beq_eq_true hlen
  have h24 := Nat.le_of_ble_eq_true h24
  obtain ⟨zz, hzz⟩ : ∃ zz : Array Value, zz = if parts.length * i'.size = 0 then #[] else z.cells := ⟨_, rfl⟩
  obtain ⟨vs, g1, g2, g3, g4⟩ := fill_seq r i'.size parts 0 xs ((Array.range (parts.length * i'.size)).map (zz[· % zz.size]!)) hl (allEl_spec hel) (by simp)
  simp only [Nat.zero_mul, List.take_zero, List.nil_append] at g1
  have e0 := Ext.alloc w (.cells vs.toArray e)
  have hrun : (execOp a.eval ⟨some d, .buildSlice t parts.length parts.toArray, ty, pos, af, none⟩).run P w = .ok (.value (.slice (some ⟨w.heap.size, 0, none⟩) parts.length parts.length)) (w.alloc (.cells vs.toArray e)) := by
    have hm : ((parts.toArray.map fun p => (p.1, a.eval p.2))).toList = parts.map fun p => (p.1, a.eval p.2) := by simp
    simp only [execOp, Instr.buildSlice, Sem.run_bind, run_underlying (TUnder.h (P := P) (t := t)), Result.andThen_ok, sizeOf, typeInfo, run_program, TInfo.h (P := P) (t := e), Sem.run_pure]
    rw [if_neg (by omega)]
    by_cases h0 : parts.length * i'.size = 0
    · rw [if_pos h0] at hzz ⊢
      subst hzz
      simp only [Sem.run_bind, Result.andThen_ok, Sem.run_pure, hm, g1, run_newRow]
    · rw [if_neg h0] at hzz ⊢
      subst hzz
      simp only [Sem.run_bind, Result.andThen_ok, Sem.run_pure, zeroValue, typeInfo, run_program, TInfo.h (P := P) (t := e), hz, hm, g1, run_newRow]
  show Oper.upon P _ a K Q' _
  rw [hrun]
  have hnew : (w.alloc (.cells vs.toArray e)).heap[w.heap.size]? = some (.cells vs.toArray e (0, 0)) := by
    show (w.heap.push _)[w.heap.size]? = _
    simp
  refine hK _ _ (fun m => S m ∨ m = w.heap.size) ⟨e0, fun m hm => .inl hm, fun m hm hs => hs.elim id (fun h => by omega), fun m hm => ?_⟩ ?_
  · rcases hm with hm | hm
    · exact Nat.lt_of_lt_of_le (h3.slt m hm) e0.size
    · subst hm; simp
  · have := At.list (w := w.alloc (.cells vs.toArray e)) (S := fun m => S m ∨ m = w.heap.size) i'.size xs (some ⟨w.heap.size, 0, none⟩) parts.length vs (allEl_spec hel) (by rw [flat_length (allEl_spec hel), g2]) (fun j c u hc hu => ?_) (fun j u hu => ?_) (by omega)
    · rw [g3] at this; exact this
    · exact (g4 j c u hc (by simpa using hu)).mono fun m hm => ⟨.inl hm, e0.same m (h3.slt m hm)⟩
    · refine ⟨_, rfl, rfl, .inr rfl, ?_⟩
      rw [cell_at hnew]
      simpa using hu
end rules
section values
variable {P : Program} {n : Nat} {tm : List (Nat × AV)} {hp : Heap} {d : Nat} {ty : TypeId} {pos : String} {af : Array Edge}
end values
end Go.Eng

/- The engine, part 58: lists that may be nil, compared with nil. No program in sight. -/
set_option linter.unusedVariables false
set_option linter.unusedSectionVars false
namespace Go.Eng
open Go
variable [GTab]
section rules
variable {P : Program} {n : Nat} {tm : List (Nat × AV)} {hp : Heap} {d : Nat} {ty : TypeId} {pos : String} {af : Array Edge}
end rules
end Go.Eng

/- The engine, part 59: what a map owns is frozen: a map of plain lists. No program in sight. -/
set_option linter.unusedVariables false
set_option linter.unusedSectionVars false
namespace Go.Eng
open Go
variable [GTab]
section
variable {K E : Type}
end
end Go.Eng

/- The engine, part 60: method values, and loops that run a fixed number of times. No program in sight. -/
set_option linter.unusedVariables false
set_option linter.unusedSectionVars false
namespace Go.Eng
open Go
variable [GTab]
section rules
variable {P : Program} {all : Array Oper} {rest : List Oper} {n : Nat} {tm : List (Nat × AV)} {hp : Heap} {Q : St → Prop} {d : Nat} {ty : TypeId} {pos : String} {af : Array Edge}
end rules
section
variable {P : Program} {R : St → Prop} {k : List It} {σ : St}
/-- A loop that runs at most so many times. -/
def ARounds (P : Program) (R : St → Prop) (body : Code) (k : List It) : Nat → St → Prop
  | 0 => fun _ => False
  | n + 1 => fun σ => ATodo P R (.code body :: .stop (fun σ' => ImpX σ' (ARounds P R body k n)) :: k) σ
theorem ARounds.next {body : Code} {n : Nat} (h : ATodo P R (.code body :: .stop (fun σ' => ImpX σ' (ARounds P R body k n)) :: k) σ) : ARounds P R body k (n + 1) σ := h
end
end Go.Eng

/- The engine, part 61: guards in regions with tokens. No program in sight. -/
set_option linter.unusedVariables false
set_option linter.unusedSectionVars false
namespace Go.Eng
open Go
variable [GTab]
/-- The same is the same (a short name). -/
theorem J {α : Sort _} {a : α} : a = a := rfl
section rules
variable {P : Program} {all : Array Oper} {n : Nat} {B : Heap} {tk : List Tok} {dy : List Nat} {i : Nat} {rest : List Oper} {tm : List (Nat × AV)} {acc : (Nat → Bk) → List (Nat × AV)} {Q : (Nat → Bk) → List (Nat × AV) → Prop} {d : Nat} {ty : TypeId} {pos : String} {af : Array Edge} {op : Op}
/-- An operation whose guard lets it be done. -/
theorem AT.guard_yes {j : Nat} {want b : Bool} {s : Nat} (hj : (all[j]?).bind (·.dst) = some s) (hs : lk tm s = some (.bool b)) (hb : b = want)
    (k : AT P all n B tk dy i (⟨some d, op, ty, pos, af, none⟩ :: rest) tm acc Q) : AT P all n B tk dy i (⟨some d, op, ty, pos, af, some (j, want)⟩ :: rest) tm acc Q := by
  obtain ⟨D, tm', h1, h2⟩ := k
  cases h1 with
  | @cons _ _ _ _ _ _ D1 x V h hv hx kk =>
    refine ⟨(x, V) :: D1, tm', .cons (fun β X hX => ?_) hv hx kk, fun β => ?_⟩
    · obtain ⟨g1, g2⟩ := h β X hX
      refine ⟨g1, .inl ⟨⟨s, hj, .inl ⟨b, orE_l hs, by simp [hb]⟩⟩, ?_⟩⟩
      rcases g2 with ⟨_, g3⟩ | ⟨g3, _⟩
      · intro w S a s1 s2 s3 s4 K Q' hK
        exact g3 w S a s1 s2 s3 (fun t ht => s4 t (by simp only [looks, List.append_nil] at ht ⊢; exact List.mem_append_left _ ht)) K Q' hK
      · simp [Wanted] at g3
    · have := h2 β
      cases x <;> exact this
end rules
section
variable {P : Program} {o : Oper} {σ : St}
end
end Go.Eng

/- The engine, part 62: an operation that reads memory before or after it is turned. No program in sight. -/
set_option linter.unusedVariables false
set_option linter.unusedSectionVars false
namespace Go.Eng
open Go
variable [GTab]
section rules
variable {P : Program} {all : Array Oper} {n : Nat} {B : Heap} {tk : List Tok} {dy : List Nat} {i : Nat} {rest : List Oper} {tm : List (Nat × AV)} {acc : (Nat → Bk) → List (Nat × AV)} {Q : (Nat → Bk) → List (Nat × AV) → Prop} {d : Nat} {ty : TypeId} {pos : String} {af : Array Edge} {op : Op}
end rules
end Go.Eng

/- The engine, part 63: an entry of a map that is made or found, then written (m[k] += v). No program in sight. -/
set_option linter.unusedVariables false
set_option linter.unusedSimpArgs false
set_option linter.unusedSectionVars false
namespace Go.Eng
open Go
variable [GTab]

section rules
variable {P : Program} {all : Array Oper} {rest : List Oper} {n : Nat} {tm : List (Nat × AV)} {hp : Heap} {Q : St → Prop} {d : Nat} {ty : TypeId} {pos : String} {af : Array Edge}
end rules
end Go.Eng

/- The engine, part 64: objects that pointers of ours lead to: all of one type lie in one pool, by number. No program in sight. -/
set_option linter.unusedVariables false
set_option linter.unusedSimpArgs false
set_option linter.unusedSectionVars false
namespace Go.Eng
open Go
variable [GTab]

theorem Upd.mid {h h' : Heap} {b b' : Bk} {o o' : Ob} (u : Upd h b o b' o' h') (b2 : Bk) (o2 : Ob) : ∃ h2, Upd h b o b2 o2 h2 ∧ Upd h2 b2 o2 b' o' h' := by
  induction u with
  | here => exact ⟨_, .here, .here⟩
  | next _ ih => obtain ⟨h2, a, b⟩ := ih; exact ⟨_, .next a, .next b⟩
  | skip _ ih => obtain ⟨h2, a, b⟩ := ih; exact ⟨_, .skip a, .skip b⟩
/-- A pool's pieces in another order. -/
theorem pool_perm {w : World} {S : Nat → Prop} {hp hp' : Heap} {bp : Bk} {es es' : List (Bk × PO)} (r : HRel w S hp) (u : Upd hp bp (.pool es) bp (.pool es') hp') (h : es.Perm es') : HRel w S hp' ∧ Evo w S hp w S hp' := by
  obtain ⟨p, q, rfl, rfl⟩ := u.split
  obtain ⟨hb0, hall⟩ : bp.blk = none ∧ ∀ e ∈ es, HoldsP w S e.1 e.2 := r.holds (bp, .pool es) (mem_mid.2 (.inl rfl))
  have hebs : ∀ n, n ∈ eb (bp, .pool es') ↔ n ∈ eb (bp, .pool es) := by
    intro n
    rw [eb_pool, eb_pool]
    constructor
    · rintro (k | ⟨e, he, hn⟩)
      · exact .inl k
      · exact .inr ⟨e, h.mem_iff.2 he, hn⟩
    · rintro (k | ⟨e, he, hn⟩)
      · exact .inl k
      · exact .inr ⟨e, h.mem_iff.1 he, hn⟩
  have e1 : (eb (bp, .pool es)).Perm (eb (bp, .pool es')) := by
    simp only [eb, Ob.more]
    exact List.Perm.append_left _ (h.filterMap _)
  have hasI : ∀ n, Has (p ++ (bp, .pool es') :: q) n → Has (p ++ (bp, .pool es) :: q) n := by
    rintro n ⟨e, he, hn⟩
    rcases mem_mid.1 he with rfl | he
    · exact ⟨_, mem_mid.2 (.inl rfl), (hebs n).1 hn⟩
    · exact ⟨e, mem_mid.2 (.inr he), hn⟩
  refine ⟨⟨?_, ?_, ?_, r.slt, r.glob⟩, ⟨rfl, rfl, rfl, Nat.le_refl _, fun n hn => ⟨hn, rfl⟩, fun n _ _ => ⟨rfl, id⟩, fun n hn => .inl (hasI n hn), fun _ => Nat.le_refl _⟩⟩
  · have := r.nodup
    rw [List.flatMap_append, List.flatMap_cons] at this ⊢
    exact ((List.Perm.append_left _ (List.Perm.append_right _ e1)).nodup_iff).1 this
  · intro e he
    rcases mem_mid.1 he with rfl | he
    · exact ⟨hb0, fun e he => hall e (h.mem_iff.2 he)⟩
    · exact r.holds e (mem_mid.2 (.inr he))
  · intro e he n hn
    rcases mem_mid.1 he with rfl | he
    · have := r.sep (bp, .pool es) (mem_mid.2 (.inl rfl)) n ((hebs n).1 hn)
      exact ⟨fun h => (this.1 h).elim, fun h => h.elim⟩
    · exact r.sep e (mem_mid.2 (.inr he)) n hn
theorem HRel.same {w : World} {S : Nat → Prop} {h h' : Heap} (r : HRel w S h) (hp : h.Perm h') : HRel w S h' ∧ Evo w S h w S h' :=
  ⟨r.perm hp, rfl, rfl, rfl, Nat.le_refl _, fun n hn => ⟨hn, rfl⟩, fun n _ _ => ⟨rfl, id⟩, fun n ⟨e, he, hn⟩ => .inl ⟨e, hp.mem_iff.2 he, hn⟩, fun _ => Nat.le_refl _⟩
def obs (xs : List (Bk × PO)) : Heap := xs.map fun e => (e.1, e.2.ob)
/-- Several pieces out of a pool. -/
theorem pool_takeL {w : World} {S : Nat → Prop} {bp : Bk} {es' : List (Bk × PO)} : ∀ (xs es : List (Bk × PO)) {hp hp' : Heap}, HRel w S hp → Upd hp bp (.pool es) bp (.pool es') hp' → es.Perm (xs ++ es') → HRel w S (obs xs ++ hp') ∧ Evo w S hp w S (obs xs ++ hp')
  | [], es, hp, hp', r, u, h => pool_perm r u h
  | x :: xs, es, hp, hp', r, u, h => by
    obtain ⟨h2, u1, u2⟩ := u.mid bp (.pool (xs ++ es'))
    obtain ⟨r1, e1⟩ := pool_take r u1 h
    obtain ⟨r2, e2⟩ := pool_takeL xs (xs ++ es') r1 (.next u2) (List.Perm.refl _)
    obtain ⟨r3, e3⟩ := r2.same (h' := obs (x :: xs) ++ hp') List.perm_middle
    exact ⟨r3, (e1.trans e2).trans e3⟩
/-! ### objects by number -/
section ara
variable {V : Type}
/-- The pieces of all objects: kb tells those of one, bo where its box lies, bs where its lists lie. -/
def araG (kb : Bk → (Nat → Bk) → V → List (Bk × PO)) (bo : Nat → Bk) (bs : Nat → Nat → Bk) : Nat → List (Option V) → List (Bk × PO)
  | _, [] => []
  | i, some v :: r => kb (bo i) (bs i) v ++ araG kb bo bs (i + 1) r
  | i, none :: r => araG kb bo bs (i + 1) r
def araE (kb : Bk → (Nat → Bk) → V → List (Bk × PO)) (bo : Nat → Bk) (bs : Nat → Nat → Bk) (M : List V) : List (Bk × PO) := araG kb bo bs 0 (M.map some)
/-- All but object i. -/
def araX (kb : Bk → (Nat → Bk) → V → List (Bk × PO)) (bo : Nat → Bk) (bs : Nat → Nat → Bk) (M : List V) (i : Int) : List (Bk × PO) := araG kb bo bs 0 ((M.map some).set i.toNat none)
variable {kb : Bk → (Nat → Bk) → V → List (Bk × PO)} {bo bo' : Nat → Bk} {bs bs' : Nat → Nat → Bk}
theorem araG_congr : ∀ (l : List (Option V)) (i : Nat), (∀ j v, l[j]? = some (some v) → bo (i + j) = bo' (i + j) ∧ bs (i + j) = bs' (i + j)) → araG kb bo bs i l = araG kb bo' bs' i l
  | [], _, _ => rfl
  | some v :: r, i, h => by
    obtain ⟨h1, h2⟩ := h 0 v rfl
    show kb (bo i) (bs i) v ++ araG kb bo bs (i + 1) r = kb (bo' i) (bs' i) v ++ araG kb bo' bs' (i + 1) r
    rw [show bo i = bo' i from h1, show bs i = bs' i from h2, araG_congr r (i + 1) (fun j v hj => by
      have := h (j + 1) v (by simpa using hj)
      rw [show i + 1 + j = i + (j + 1) by omega]; exact this)]
  | none :: r, i, h => araG_congr r (i + 1) (fun j v hj => by
      have := h (j + 1) v (by simpa using hj)
      rw [show i + 1 + j = i + (j + 1) by omega]; exact this)
theorem araG_set : ∀ (l : List (Option V)) (i j : Nat) (v : V), l[j]? = some none → (araG kb bo bs i (l.set j (some v))).Perm (kb (bo (i + j)) (bs (i + j)) v ++ araG kb bo bs i l)
  | [], _, _, _, h => by simp at h
  | o :: r, i, 0, v, h => by
    obtain rfl : o = none := by simpa using h
    exact List.Perm.refl _
  | some u :: r, i, j + 1, v, h => by
    have := araG_set r (i + 1) j v (by simpa using h)
    rw [show i + 1 + j = i + (j + 1) by omega] at this
    show (kb (bo i) (bs i) u ++ araG kb bo bs (i + 1) (r.set j (some v))).Perm _
    refine (List.Perm.append_left _ this).trans ?_
    show (kb (bo i) (bs i) u ++ (kb (bo (i + (j + 1))) (bs (i + (j + 1))) v ++ araG kb bo bs (i + 1) r)).Perm (kb (bo (i + (j + 1))) (bs (i + (j + 1))) v ++ (kb (bo i) (bs i) u ++ araG kb bo bs (i + 1) r))
    rw [← List.append_assoc, ← List.append_assoc]
    exact List.Perm.append_right _ List.perm_append_comm
  | none :: r, i, j + 1, v, h => by
    have := araG_set r (i + 1) j v (by simpa using h)
    rw [show i + 1 + j = i + (j + 1) by omega] at this
    exact this
/-- An object in its place. -/
theorem araE_perm {M M' : List V} {i : Int} {v v' : V} {s : Nat → Bk} (h : idx M i = some v) (hM : M' = M.set i.toNat v') (hs : bs' = fun j => if j = i.toNat then s else bs j) : (araE kb bo bs' M').Perm (kb (bo i.toNat) s v' ++ araX kb bo bs M i) := by
  obtain ⟨h0, h1, h2⟩ := idx_some h
  unfold araE araX
  have hl : (M.map some)[i.toNat]? = some (some v) := by rw [List.getElem?_map, h2]; rfl
  have hlt : i.toNat < (M.map some).length := (List.getElem?_eq_some_iff.1 hl).1
  have hn : ((M.map some).set i.toNat none)[i.toNat]? = some none := by rw [List.getElem?_set_self hlt]
  have e1 : M'.map some = ((M.map some).set i.toNat none).set i.toNat (some v') := by rw [hM, List.map_set, List.set_set]
  rw [e1]
  have := araG_set (kb := kb) (bo := bo) (bs := bs') ((M.map some).set i.toNat none) 0 i.toNat v' hn
  rw [Nat.zero_add] at this
  refine this.trans ?_
  rw [show bs' i.toNat = s by rw [hs]; simp]
  refine List.Perm.append_left _ ?_
  rw [araG_congr (bo' := bo) (bs' := bs) ((M.map some).set i.toNat none) 0 (fun j u hj => by
    rw [Nat.zero_add]
    refine ⟨rfl, ?_⟩
    have : j ≠ i.toNat := fun e => by rw [e, hn] at hj; simp at hj
    rw [hs]; simp [this])]
theorem araE_take {M : List V} {i : Int} {v : V} (h : idx M i = some v) : (araE kb bo bs M).Perm (kb (bo i.toNat) (bs i.toNat) v ++ araX kb bo bs M i) :=
  araE_perm h (set_same (idx_some h).2.2).symm (by funext j; split <;> simp_all)
end ara
/-- What stands in memory, said otherwise. -/
theorem ImpX.obEq {n : Nat} {tm : List (Nat × AV)} {hp hp' : Heap} {T : St → Prop} {b : Bk} {o o' : Ob} (he : o = o') (u : Upd hp b o b o' hp') (k : ImpX ⟨n, tm, hp'⟩ T) : ImpX ⟨n, tm, hp⟩ T := by
  subst he
  rw [upd_of_eq u] at k
  exact k
section rules
variable {P : Program} {all : Array Oper} {rest : List Oper} {n : Nat} {tm : List (Nat × AV)} {hp : Heap} {Q : St → Prop} {d : Nat} {ty : TypeId} {pos : String} {af : Array Edge}
end rules
end Go.Eng

/- The engine, part 65: short forms for the proofs that are written by program. No program in sight. -/
set_option linter.unusedVariables false
set_option linter.unusedSectionVars false
namespace Go.Eng
open Go
variable [GTab]
section todo
variable {P : Program} {R : St → Prop} {k : List It} {σ : St}
end todo
section rules
variable {P : Program} {all : Array Oper} {rest : List Oper} {n : Nat} {tm : List (Nat × AV)} {hp : Heap} {Q : St → Prop} {d : Nat} {ty : TypeId} {pos : String} {af : Array Edge} {op : Op} {s : Nat} {j : Nat}
end rules
/-- One result in a slot; nothing is told of memory. -/
theorem hP {P : Program} {σ : St} {s : Nat} {av : AV} {Q : List AV → St → Prop} (h1 : lk σ.tm s = some av) (h2 : Q [av] σ) : ImpX σ (fun σ' => ∃ rs, Rs P σ' [.tmp s] rs ∧ Q rs σ') := ImpX.here ⟨[av], .cons (.tmp _ _ h1) .nil, h2⟩
/-- One result in a slot, and memory. -/
theorem hH {P : Program} {σ : St} {s : Nat} {av : AV} {Q : List AV → Heap → Prop} {hp' : Heap} (h1 : lk σ.tm s = some av) (is : List Nat) (hs : pickH σ.hp is = some hp') (h2 : Q [av] hp') : ImpX σ (fun σ' => ∃ rs, Rs P σ' [.tmp s] rs ∧ (∃ h', HS σ'.hp h' ∧ Q rs h')) := ImpX.here ⟨[av], .cons (.tmp _ _ h1) .nil, hp', pickH_hs hs, h2⟩
theorem hQ {P : Program} {σ : St} {s t : Nat} {av aw : AV} {Q : List AV → St → Prop} (h1 : lk σ.tm s = some av) (h1' : lk σ.tm t = some aw) (h2 : Q [av, aw] σ) : ImpX σ (fun σ' => ∃ rs, Rs P σ' [.tmp s, .tmp t] rs ∧ Q rs σ') := ImpX.here ⟨[av, aw], .cons (.tmp _ _ h1) (.cons (.tmp _ _ h1') .nil), h2⟩
theorem hI {P : Program} {σ : St} {s t : Nat} {av aw : AV} {Q : List AV → Heap → Prop} {hp' : Heap} (h1 : lk σ.tm s = some av) (h1' : lk σ.tm t = some aw) (is : List Nat) (hs : pickH σ.hp is = some hp') (h2 : Q [av, aw] hp') : ImpX σ (fun σ' => ∃ rs, Rs P σ' [.tmp s, .tmp t] rs ∧ (∃ h', HS σ'.hp h' ∧ Q rs h')) := ImpX.here ⟨[av, aw], .cons (.tmp _ _ h1) (.cons (.tmp _ _ h1') .nil), hp', pickH_hs hs, h2⟩
end Go.Eng

/- The engine, part 66: a key that is in the map reads the same. No program in sight. -/
set_option linter.unusedVariables false
set_option linter.unusedSectionVars false
namespace Go.Eng
open Go
section
variable {K V : Type} [DecidableEq K] [KLt K]
end
end Go.Eng

/- The engine, part 67: an operation of a drawn region that puts two new pieces of memory into one value. No program in sight. -/
set_option linter.unusedVariables false
set_option linter.unusedSectionVars false
namespace Go.Eng
open Go
variable [GTab]
section rules
variable {P : Program} {all : Array Oper} {n : Nat} {B : Heap} {tk : List Tok} {dy : List Nat} {i : Nat} {rest : List Oper} {tm tm' : List (Nat × AV)} {acc : (Nat → Bk) → List (Nat × AV)} {Q : (Nat → Bk) → List (Nat × AV) → Prop} {d : Nat} {ty : TypeId} {pos : String} {af : Array Edge} {op : Op}
end rules
end Go.Eng

/- The engine, part 68: a loop whose first round is told apart. No program in sight. -/
set_option linter.unusedVariables false
set_option linter.unusedSectionVars false
namespace Go.Eng
open Go
variable [GTab]
section
variable {P : Program} {R : St → Prop} {k : List It} {σ : St}
end
end Go.Eng

/- The engine, part 69: objects by number: looked at in their pool, put back, frozen. No program in sight. -/
set_option linter.unusedVariables false
set_option linter.unusedSimpArgs false
set_option linter.unusedSectionVars false
namespace Go.Eng
open Go
variable [GTab]

/-- What stands in one cell of an object: a value, or a list of its own. -/
inductive CD : Type 1 where
  | v (a : AV)
  | l {α : Type} (sz : Nat) (g : α → AV) (xs : List α)
def cdC (s : Nat → Bk) : Nat → List CD → List AV
  | _, [] => []
  | k, .v a :: r => a :: cdC s k r
  | k, .l sz _ xs :: r => .sl sz (s k) 0 xs.length :: cdC s (k + 1) r
def cdA (s : Nat → Bk) : Nat → List CD → List (Bk × PO)
  | _, [] => []
  | k, .v _ :: r => cdA s k r
  | k, .l sz g xs :: r => (s k, .arr sz (xs.map g)) :: cdA s (k + 1) r
def cdF : List CD → List AV
  | [] => []
  | .v a :: r => a :: cdF r
  | .l sz g xs :: r => .list sz (xs.map g) :: cdF r
/-- The pieces of an object, and its cells when nothing of it turns any more. -/
structure KB {V : Type} (kb : Bk → (Nat → Bk) → V → List (Bk × PO)) (fs : V → List AV) : Prop where
  ok : ∃ D : V → List CD, (∀ b s v, kb b s v = (b, .cells (cdC s 0 (D v))) :: cdA s 0 (D v)) ∧ ∀ v, fs v = cdF (D v)
/-- The pieces of an object ahead of other memory. -/
def obsO : List (Bk × PO) → Heap → Option Heap
  | [], r => some r
  | (b, .cells cs) :: l, r => match obsO l r with
    | some m => some ((b, .cells cs) :: m)
    | none => none
  | (b, .arr sz xs) :: l, r => match obsO l r with
    | some m => some ((b, .arr sz xs) :: m)
    | none => none
theorem obsO_eq : ∀ {l : List (Bk × PO)} {r m : Heap}, obsO l r = some m → obs l ++ r = m
  | [], r, m, h => Option.some.inj h
  | (b, .cells cs) :: l, r, m, h => by
    unfold obsO at h
    split at h
    · rename_i m' hm
      obtain rfl := Option.some.inj h
      rw [← obsO_eq hm]; rfl
    · cases h
  | (b, .arr sz xs) :: l, r, m, h => by
    unfold obsO at h
    split at h
    · rename_i m' hm
      obtain rfl := Option.some.inj h
      rw [← obsO_eq hm]; rfl
    · cases h
section view
variable {V : Type} {kb : Bk → (Nat → Bk) → V → List (Bk × PO)} {fs : V → List AV} {bo : Nat → Bk} {bs : Nat → Nat → Bk} {M : List V} {i : Int} {v : V} {hp hp' hp2 : Heap} {b bp : Bk}
/-- An object's pieces lie in memory. -/
theorem ara_view {w : World} {S : Nat → Prop} (r : HRel w S hp) (h : idx M i = some v) (u : Upd hp bp (.pool (araE kb bo bs M)) bp (.pool (araX kb bo bs M i)) hp') : HRel w S (obs (kb (bo i.toNat) (bs i.toNat) v) ++ hp') ∧ ∀ n, Has (obs (kb (bo i.toNat) (bs i.toNat) v) ++ hp') n → Has hp n := by
  obtain ⟨r1, e1⟩ := pool_takeL _ _ r u (araE_take h)
  refine ⟨r1, fun n hn => ?_⟩
  rcases e1.new n hn with h | h
  · exact h
  · have := r1.lt hn; omega
/-- What reads an object's pieces may read them in the pool. -/
theorem QV.ara {P : Program} {o : Oper} {n : Nat} {tm : List (Nat × AV)} {av : AV} (h : idx M i = some v) (u : Upd hp bp (.pool (araE kb bo bs M)) bp (.pool (araX kb bo bs M i)) hp') (e : obsO (kb (bo i.toNat) (bs i.toNat) v) hp' = some hp2) (q : QV P o ⟨n, tm, hp2⟩ av) : QV P o ⟨n, tm, hp⟩ av := by
  intro w S a r
  have := obsO_eq e
  subst this
  exact q w S a ⟨r.size, r.defers, r.tm, (ara_view r.hp h u).1⟩
theorem CoB.ara {a a' : AV} (h : idx M i = some v) (u : Upd hp bp (.pool (araE kb bo bs M)) bp (.pool (araX kb bo bs M i)) hp') (e : obsO (kb (bo i.toNat) (bs i.toNat) v) hp' = some hp2) (c : CoB hp2 a a') : CoB hp a a' := by
  refine .sem fun w S x r at_ => ?_
  have := obsO_eq e
  subst this
  obtain ⟨r1, r2⟩ := ara_view r h u
  exact (c.at r1 at_).mono fun m hm => ⟨hm.imp id (r2 m), rfl⟩
end view

end Go.Eng

/- The engine, part 70: slices.SortFunc at elements of one cell, by a comparison that looks at memory of ours. No program in sight. -/
set_option linter.unusedVariables false
set_option linter.unusedSimpArgs false
set_option linter.unusedSectionVars false
namespace Go.Eng
open Go Go.Sort Go.Proofs
variable [GTab]

/-- What the shelf says of an instance of slices.SortFunc whose elements have one cell. -/
structure SortP (P : Program) (f : FuncId) : Prop where
  some_ : ∀ (enc : Nat → Value) (_ : OneCell enc) (cf : Nat → Nat → Int) (_ : SWO (ltOf cf)) (g : Nat) (cb : Array Value) (blk off cap : Nat) (d : Array Nat) (w : World)
    (_ : ∀ args w, (callFunc g args).run P w = .ok (.enter g args) w) (_ : CmpLays1 P g cb enc cf blk off d.size w) (_ : Sort.Holds enc w blk off d) (_ : blk < w.heap.size) (_ : d.size < 4611686018427387904),
    Calls P f #[.slice (some ⟨blk, off, none⟩) d.size cap, .func (.func g) #[] cb] w fun e w' =>
      e = .returned (.tuple #[]) ∧ ∃ n os, w' = sortWorld enc w blk off n (pdq (ltOf cf) d 0 d.size (Lib.bitLen d.size) true true) os
  none_ : ∀ (p : Option Addr) (cap : Nat) (fv : Value) (w : World), Calls P f #[.slice p 0 cap, fv] w fun e w' => e = .returned (.tuple #[]) ∧ w' = w

end Go.Eng

/- The engine, part 71: literal arrays, cell by cell. No program in sight. -/
set_option linter.unusedVariables false
set_option linter.unusedSimpArgs false
set_option linter.unusedSectionVars false
namespace Go.Eng
open Go
variable [GTab]

section rules
variable {P : Program} {all : Array Oper} {rest : List Oper} {n : Nat} {tm : List (Nat × AV)} {hp : Heap} {Q : St → Prop} {d : Nat} {ty : TypeId} {pos : String} {af : Array Edge}
/-- A slice literal whose array has a known size. -/
theorem n_buildSliceM {t e : TypeId} {i : TypeInfo} {z : Value} {len sz : Nat} {parts : List (Nat × Operand)} {xs : List AV} [TUnder P t (.slice e)] [TInfo P e i] [TSz P e sz] (hz : i.zero = some z) (hl : evS tm parts 0 = some xs) (hlen : Nat.beq parts.length len = true) (hel : allEl sz xs = true)
    (h24 : Nat.ble (len * i.size) 16777216 = true) (hn : Nat.blt d n = true) (kk : ∀ m : Nat, ARun P all rest ⟨n, (d, .sl sz ⟨some m, len⟩ 0 len) :: tm, (⟨some m, len⟩, .arr sz xs) :: hp⟩ Q) : ARun P all (⟨some d, .buildSlice t len parts.toArray, ty, pos, af, none⟩ :: rest) ⟨n, tm, hp⟩ Q := by
  obtain ⟨i', hi1, hi2⟩ := TSz.h (P := P) (t := e)
  obtain rfl : i' = i := by rw [TInfo.h (P := P) (t := e)] at hi1; exact (Option.some.inj hi1).symm
  subst hi2
  refine ARun.opx rfl fun w S a r => ?_
  obtain rfl : parts.length = len := Nat.eq_of_beq_eq_true hlen
  have h24 := Nat.le_of_ble_eq_true h24
  obtain ⟨zz, hzz⟩ : ∃ zz : Array Value, zz = if parts.length * i'.size = 0 then #[] else z.cells := ⟨_, rfl⟩
  obtain ⟨vs, g1, g2, g3, g4⟩ := fill_seq (σ := ⟨n, tm, hp⟩) r i'.size parts 0 xs ((Array.range (parts.length * i'.size)).map (zz[· % zz.size]!)) hl (allEl_spec hel) (by simp)
  simp only [Nat.zero_mul, List.take_zero, List.nil_append] at g1
  have e0 := Ext.alloc w (.cells vs.toArray e)
  have hh : Holds (w.alloc (.cells vs.toArray e)) S ⟨some w.heap.size, parts.length⟩ (.arr i'.size xs) := by
    refine ⟨allEl_spec hel, by simp [g3], .inr ⟨w.heap.size, vs.toArray, e, rfl, ?_, by simp [g2, g3], g4.mono fun m hm => ⟨hm, e0.same m (r.hp.slt m hm)⟩⟩⟩
    show (w.heap.push _)[w.heap.size]? = _
    simp
  obtain ⟨k1, k2, k3⟩ := add_rel r.hp e0 id hh (.inr ⟨_, rfl, Nat.le_refl _⟩)
  refine ⟨.slice (some ⟨w.heap.size, 0, none⟩) parts.length parts.length, w.alloc (.cells vs.toArray e), S, _, ?_, (r.heap k3 k1).put hn ?_, k2, kk w.heap.size⟩
  · have hm : ((parts.toArray.map fun p => (p.1, a.eval p.2))).toList = parts.map fun p => (p.1, a.eval p.2) := by simp
    simp only [execOp, Instr.buildSlice, Sem.run_bind, run_underlying (TUnder.h (P := P) (t := t)), Result.andThen_ok, sizeOf, typeInfo, run_program, TInfo.h (P := P) (t := e), Sem.run_pure]
    rw [if_neg (by omega)]
    by_cases h0 : parts.length * i'.size = 0
    · rw [if_pos h0] at hzz ⊢
      subst hzz
      simp only [Sem.run_bind, Result.andThen_ok, Sem.run_pure, hm, g1, run_newRow]
    · rw [if_neg h0] at hzz ⊢
      subst hzz
      simp only [Sem.run_bind, Result.andThen_ok, Sem.run_pure, zeroValue, typeInfo, run_program, TInfo.h (P := P) (t := e), hz, hm, g1, run_newRow]
  · have := At.sl (w := w.alloc (.cells vs.toArray e)) (S := S) i'.size ⟨some w.heap.size, parts.length⟩ 0 parts.length w.heap.size parts.length rfl (Nat.le_refl _) (by simp)
    simpa using this
/-- An element of a literal array: a place of its cells. -/
theorem q_index_lit {t e : TypeId} {i : TypeInfo} {x y : Operand} {k : IntKind} {j : Int} {q o sz len : Nat} {b : Bk} [TUnder P t (.slice e)] [TInfo P e i] (hx : evA tm x = some (.sl sz b 0 len)) (hsz : Nat.beq i.size sz = true) (hy : evA tm y = some (.int k j))
    (hj : j = (q : Int)) (hq : Nat.blt q len = true) (ho : Nat.beq (q * sz) o = true) : QV P ⟨some d, .indexAddr t x y, ty, pos, af, none⟩ ⟨n, tm, hp⟩ (.ptr b o) :=
  (fun w S a r => by
    obtain rfl : i.size = sz := Nat.eq_of_beq_eq_true hsz
    have hq : q < len := by
      have := Nat.le_of_ble_eq_true (show Nat.ble (q + 1) len = true from hq); omega
    have ho := Nat.eq_of_beq_eq_true ho
    obtain ⟨oa, cap, e1, e2⟩ := (evA_at (σ := ⟨n, tm, hp⟩) r hx).sl_inv
    rcases e2 with ⟨_, _, hl, _⟩ | ⟨m, hb, rfl, h1, h2⟩ | ⟨m, ad, hb, _, hl, _⟩
    · omega
    · refine ⟨.pointer (some ⟨m, o, none⟩), fun w1 _ => ?_, .ptr _ _ m hb⟩
      have := run_indexAt (P := P) (TUnder.h (P := P) (t := t)) (TInfo.h (P := P) (t := e)) ⟨m, 0 * i.size, none⟩ len cap k j (by omega) (by omega) w1
      have hjq : j.toNat = q := by omega
      rw [add_at, ← Nat.add_mul, hjq, Nat.zero_add, ho] at this
      simp only [Nat.zero_mul] at this
      simp [execOp, e1, (evA_at (σ := ⟨n, tm, hp⟩) r hy).int_inv, this]
    · omega)
end rules
/-- A literal array becomes its cells. -/
theorem ImpX.arrCells {n m k sz : Nat} {tm : List (Nat × AV)} {hp hp' : Heap} {T : St → Prop} {xs cs : List AV} (u : Upd hp ⟨some m, k⟩ (.arr sz xs) ⟨some m, k⟩ (.cells cs) hp') (hk : Nat.beq xs.length k = true) (hc : flat xs = cs) (kk : ImpX ⟨n, tm, hp'⟩ T) : ImpX ⟨n, tm, hp⟩ T := fun w S a r => by
  obtain ⟨h1, h2, h3⟩ := r.hp.holds _ u.fnd.mem
  have hk := Nat.eq_of_beq_eq_true hk
  subst hc
  have hlen : ∀ xs : List AV, (∀ x ∈ xs, El sz x) → (flat xs).length = xs.length * sz := by
    intro xs
    induction xs with
    | nil => intro _; simp [flat]
    | cons x r ih =>
      intro h
      have := ih fun y hy => h y (List.mem_cons_of_mem _ hy)
      have hx := (h x (List.mem_cons_self ..)).1
      show (x.cells ++ flat r).length = _
      rw [List.length_append, this, hx, List.length_cons, Nat.add_mul, Nat.one_mul, Nat.add_comm]
  have hH : Holds w S ⟨some m, k⟩ (.cells (flat xs)) := by
    refine ⟨fun c hc => ?_, ?_⟩
    · obtain ⟨x, hx, hcx⟩ := List.mem_flatMap.1 hc
      exact (h1 x hx).2 c hcx
    · rcases h3 with ⟨hb, _⟩ | ⟨n', vs, E, g1, g2, g3, g4⟩
      · cases hb
      · exact ⟨n', vs, E, g1, g2, by rw [g3, hlen xs h1, hk], g4⟩
  obtain ⟨r1, e1, _⟩ := upd_rel r.hp u (GB_refl w (some m)) id id hH (.inl rfl)
  obtain ⟨σ', S', t1, t2, t3⟩ := kk w S a (r.heap (fun m hm => ⟨hm, rfl⟩) r1)
  exact ⟨σ', S', t1, t2, e1.trans t3⟩
/-- The cells of a literal array become an array again. -/
theorem ImpX.cellsArr {n m k sz : Nat} {tm : List (Nat × AV)} {hp hp' : Heap} {T : St → Prop} {b : Bk} {xs cs : List AV} (hb : (⟨some m, k⟩ : Bk) = b) (u : Upd hp b (.cells cs) b (.arr sz xs) hp') (hk : Nat.beq xs.length k = true) (hc : flat xs = cs) (hel : allEl sz xs = true) (kk : ImpX ⟨n, tm, hp'⟩ T) : ImpX ⟨n, tm, hp⟩ T := fun w S a r => by
  obtain ⟨h1, n', vs, E, g1, g2, g3, g4⟩ := r.hp.holds _ u.fnd.mem
  have hk := Nat.eq_of_beq_eq_true hk
  have hel := allEl_spec hel
  subst hc
  subst hb
  have hlen : ∀ xs : List AV, (∀ x ∈ xs, El sz x) → (flat xs).length = xs.length * sz := by
    intro xs
    induction xs with
    | nil => intro _; simp [flat]
    | cons x r ih =>
      intro h
      have := ih fun y hy => h y (List.mem_cons_of_mem _ hy)
      have hx := (h x (List.mem_cons_self ..)).1
      show (x.cells ++ flat r).length = _
      rw [List.length_append, this, hx, List.length_cons, Nat.add_mul, Nat.one_mul, Nat.add_comm]
  have hH : Holds w S ⟨some m, k⟩ (.arr sz xs) := ⟨hel, by show xs.length ≤ k; omega, .inr ⟨n', vs, E, g1, g2, by rw [g3, hlen xs hel, hk], g4⟩⟩
  obtain ⟨r1, e1, _⟩ := upd_rel r.hp u (GB_refl w (some m)) id id hH (.inl rfl)
  obtain ⟨σ', S', t1, t2, t3⟩ := kk w S a (r.heap (fun m hm => ⟨hm, rfl⟩) r1)
  exact ⟨σ', S', t1, t2, e1.trans t3⟩
/-- Letters made capital, made small: of ASCII text. -/
def toUpperO (s : List UInt8) : Option (List UInt8) := if s.length ≤ 140737488355328 ∧ s.all (fun b => decide (b.toNat < 128)) = true then some (Lib.toUpperA s) else none
end Go.Eng

/- The engine, part 72: lists behind a front that was dropped. No program in sight. -/
set_option linter.unusedVariables false
set_option linter.unusedSimpArgs false
set_option linter.unusedSectionVars false
namespace Go.Eng
open Go
variable [GTab]

section rules
variable {P : Program} {all : Array Oper} {rest : List Oper} {n : Nat} {tm : List (Nat × AV)} {hp : Heap} {Q : St → Prop} {d : Nat} {ty : TypeId} {pos : String} {af : Array Edge}
end rules
end Go.Eng

/- The engine, part 73: a box that some slots point to is frozen. No program in sight. -/
set_option linter.unusedVariables false
set_option linter.unusedSectionVars false
namespace Go.Eng
open Go
variable [GTab]
end Go.Eng

/- The engine, part 74: an entry of a map of pointers, made and then written. No program in sight. -/
set_option linter.unusedVariables false
set_option linter.unusedSectionVars false
namespace Go.Eng
open Go
variable [GTab]
section rules
variable {P : Program} {all : Array Oper} {rest : List Oper} {n : Nat} {tm : List (Nat × AV)} {hp : Heap} {Q : St → Prop} {d : Nat} {ty : TypeId} {pos : String} {af : Array Edge}
end rules
end Go.Eng

/- Maps that are looked at: a map's reference whose block stands in memory that does not turn, with its plain list. -/
set_option linter.unusedSectionVars false
set_option linter.unusedVariables false
namespace Go.Eng
open Go Go.Proofs

/-- The reference of a map in memory that does not turn, with its entries. -/
def fmP (es : List (AV × AV)) : World → (Nat → Prop) → Value → Prop := fun w S v => ∃ n b, v = .map (some n) ∧ S n ∧ b.blk = some n ∧ ∃ L c, (L.map MEnt.kv).Perm es ∧ HoldsM w S b L c
def fmE {K V : Type} (gk : K → AV) (gv : V → AV) (M : List (K × V)) : AV := .sem (fmP (M.map fun e => (gk e.1, gv e.2)))
variable [GTab]
theorem fmP_mono (es : List (AV × AV)) (w w' : World) (S S' : Nat → Prop) (v : Value) (hs : ∀ n, S n → S' n ∧ w'.heap[n]? = w.heap[n]?) (h : fmP es w S v) : fmP es w' S' v := by
  obtain ⟨n, b, h1, h2, h3, L, c, h4, h5⟩ := h
  refine ⟨n, b, h1, (hs n h2).1, h3, L, c, h4, h5.mono hs (fun m hm => ?_)⟩
  obtain rfl : m = n := Option.some.inj (hm.symm.trans h3)
  exact (hs m h2).2
theorem fmP_one (es : List (AV × AV)) (w : World) (S : Nat → Prop) (v : Value) (h : fmP es w S v) : v.oneCell' = true := by
  obtain ⟨n, b, rfl, _⟩ := h; rfl
theorem At.fm {K V : Type} {gk : K → AV} {gv : V → AV} {M : List (K × V)} {w : World} {S : Nat → Prop} {v : Value} (h : fmP (M.map fun e => (gk e.1, gv e.2)) w S v) : At w S (fmE gk gv M) v := .sem _ _ (fmP_mono _) (fmP_one _) h
/-- A map of ours that a call looks at. -/
theorem CoB.fm {K V : Type} {gk : K → AV} {gv : V → AV} {M : List (K × V)} {hp : Heap} {b : Bk} (f : Fnd hp b (.mp (M.map fun e => (gk e.1, gv e.2)))) : CoB hp (.mref b) (fmE gk gv M) := by
  refine .sem fun w S v r h => ?_
  obtain ⟨n, hb, rfl⟩ := h.mref_inv
  obtain ⟨L, c, h1, h2⟩ := r.holds _ f.mem
  exact .fm ⟨n, b, rfl, .inr ⟨_, f.mem, eb_of hb⟩, hb, L, c, h1, h2.mono (fun m hm => ⟨.inl hm, rfl⟩) (fun _ _ => rfl)⟩
section rules
variable {P : Program} {all : Array Oper} {rest : List Oper} {n : Nat} {tm : List (Nat × AV)} {hp : Heap} {Q : St → Prop} {d : Nat} {ty : TypeId} {pos : String} {af : Array Edge}
end rules
end Go.Eng

/- A sort whose comparison looks at memory of ours: what stands frozen in the elements stays so. -/
set_option linter.unusedVariables false
set_option linter.unusedSimpArgs false
set_option linter.unusedSectionVars false
namespace Go.Eng
open Go Go.Sort Go.Proofs
variable [GTab]

section rules
variable {P : Program} {all : Array Oper} {rest : List Oper} {n : Nat} {tm : List (Nat × AV)} {hp : Heap} {Q : St → Prop} {d : Nat} {ty : TypeId} {pos : String} {af : Array Edge}
end rules
end Go.Eng

/- Strings that are walked through, rune by rune. -/
set_option linter.unusedVariables false
set_option linter.unusedSimpArgs false
set_option linter.unusedSectionVars false
namespace Go.Eng
open Go Go.Proofs
variable [GTab]

section rules
variable {P : Program} {all : Array Oper} {rest : List Oper} {n : Nat} {tm : List (Nat × AV)} {hp : Heap} {Q : St → Prop} {d : Nat} {ty : TypeId} {pos : String} {af : Array Edge}
end rules
end Go.Eng

/- The engine, part 78: regions that draw their order, in which the entries of a map literal are laid in any order. No program in sight. -/
set_option linter.unusedVariables false
set_option linter.unusedSimpArgs false
set_option linter.unusedSectionVars false
namespace Go.Eng
open Go Go.Proofs
variable [GTab]

section order
variable {P : Program} {all : Array Oper} {n m : Nat}
/-- A step of a head, whatever is kept. -/
def IStep (P : Program) (all : Array Oper) (n m : Nat) (I : Array Bool → Act → World → (Nat → Prop) → Prop) (i : Nat) (o : Oper) (e : Env) (av : Option AV) : Prop :=
  (∀ d, o.dst = some d → d < n) ∧ ∀ (listed : Array Bool) (w : World) (S : Nat → Prop) (a : Act), LOk all m listed → i < listed.size → listed.getD i false = false → (∀ j, Anc all i j → listed.getD j false = true) → a.tmps.size = n → a.defers = [] → (∀ n, S n → n < w.heap.size) → I listed a w S → RelE w S (looks all o) e a →
    ((Region.wanted o (yielded all a.tmps) = true ∧ ∀ (K : Act → World → Prop) (Q : Exit → Act → World → Prop), (∀ v w' S', (∀ k, S k → S' k ∧ w'.heap[k]? = w.heap[k]?) → (∀ n, S' n → n < w'.heap.size) → I (listed.setIfInBounds i true) (a.put o.dst v) w' S' → (∀ x, av = some x → At w' S' x v) → K (a.put o.dst v) w') → o.wp P a w K Q) ∨
     (Region.wanted o (yielded all a.tmps) = false ∧ I (listed.setIfInBounds i true) (a.put o.dst undef) w S ∧ ∀ x, av = some x → x = .raw undef))

variable {avs : Nat → Option AV} {en : Nat → Env} {e : Env} {I : Array Bool → Act → World → (Nat → Prop) → Prop}
theorem any_headI (hB : MonoB all m) (hm : m ≤ all.size) {Q : Exit → Act → World → Prop} (h0 : en 0 = e) (hs : ∀ i o, i < m → all[i]? = some o → IStep P all n m I i o (en i) (avs i) ∧ en (i + 1) = eputO (en i) o.dst (avs i))
    (fin : ∀ listed a w S, (∀ i, i < m → listed.getD i false = true) → a.tmps.size = n → a.defers = [] → (∀ n, S n → n < w.heap.size) → I listed a w S → EnvOk w S (en m) a → wpList P all Q (all.toList.drop m) a w) :
    ∀ (fuel : Nat) (listed : Array Bool) (a : Act) (w : World) (S : Nat → Prop), LOk all m listed → (listed.toList.count true) + fuel = all.size → a.tmps.size = n → a.defers = [] → (∀ n, S n → n < w.heap.size) → I listed a w S → EnvOk w S (curO all avs e listed all.size) a →
      wpAny P .any all Q fuel listed a w := by
  have hs2 : ∀ i o, i < m → all[i]? = some o → en (i + 1) = eputO (en i) o.dst (avs i) := fun i o h1 h2 => (hs i o h1 h2).2
  have done : ∀ (fuel : Nat) (listed : Array Bool) (a : Act) (w : World) (S : Nat → Prop), LOk all m listed → (listed.toList.count true) + fuel = all.size → a.tmps.size = n → a.defers = [] → (∀ n, S n → n < w.heap.size) → I listed a w S → EnvOk w S (curO all avs e listed all.size) a →
      (∀ i, i < m → listed.getD i false = true) → wpAny P .any all Q fuel listed a w := by
    intro fuel listed a w S L hc hsz hdf hr hg hen hall
    have hno : ∀ i, m ≤ i → listed.getD i false = false := fun i hi => by
      cases hv : listed.getD i false with
      | false => rfl
      | true => have := L.head i hv; omega
    have hcount : listed.toList.count true = m := by
      have : listed.toList = List.replicate m true ++ List.replicate (all.size - m) false := by
        apply List.ext_getElem?
        intro i
        rcases Nat.lt_or_ge i m with hi | hi
        · have hil : i < listed.size := by rw [L.size]; omega
          rw [List.getElem?_append_left (by simpa using hi)]
          have := hall i hi
          simp [hil] at this
          simp [hil, hi, this]
        · rw [List.getElem?_append_right (by simpa using hi)]
          rcases Nat.lt_or_ge i listed.size with hil | hil
          · have := hno i hi
            simp [hil] at this
            have h2 : i - m < all.size - m := by rw [L.size] at hil; omega
            simp [hil, h2, this]
          · have h2 : ¬ i - m < all.size - m := by rw [L.size] at hil; omega
            simp [List.getElem?_eq_none (l := listed.toList) (by simpa using hil), h2]
      rw [this, List.count_append, List.count_replicate, List.count_replicate]
      simp
    have hcur : curO all avs e listed all.size = en m := by
      have key : ∀ k, k ≤ all.size → curO all avs e listed k = en (min k m) := by
        intro k
        induction k with
        | zero => intro _; simp [curO, h0]
        | succ k ih =>
          intro hk
          have hok : all[k]? = some all[k] := by simp [show k < all.size by omega]
          simp only [curO, hok, Option.bind_some, ih (by omega)]
          rcases Nat.lt_or_ge k m with h | h
          · rw [if_pos (hall k h), Nat.min_eq_left (by omega), Nat.min_eq_left (by omega), hs2 k _ h hok]
          · rw [if_neg (by rw [hno k h]; simp), Nat.min_eq_right (by omega), Nat.min_eq_right (by omega)]
      rw [key all.size (Nat.le_refl _), Nat.min_eq_right hm]
    rw [hcur] at hen
    exact any_tail hB fuel m listed a w (Nat.le_refl _) (by omega) L.size hall hno (fin listed a w S hall hsz hdf hr hg hen)
  intro fuel
  induction fuel with
  | zero =>
    intro listed a w S L hc hsz hdf hr hg hen
    refine done 0 listed a w S L hc hsz hdf hr hg hen (fun i hi => ?_)
    have hcnt : listed.toList.count true = listed.toList.length := by rw [Array.length_toList, L.size]; omega
    have hall := List.count_eq_length.1 hcnt
    have hil : i < listed.size := by rw [L.size]; omega
    have := hall listed[i] (by simp)
    simp [hil]; exact this.symm
  | succ fuel ih =>
    intro listed a w S L hc hsz hdf hr hg hen
    by_cases hall : ∀ i, i < m → listed.getD i false = true
    · exact done _ listed a w S L hc hsz hdf hr hg hen hall
    · refine ⟨fun hrd => (hall fun i hi => ready_nil hB L.size hrd i (by omega)).elim, fun i hi => ?_⟩
      obtain ⟨hi1, hi2⟩ := ready_not hi
      have hni := getD_tf hi2
      have hoi : all[i]? = some all[i] := by simp [hi1]
      have him : i < m := by
        rcases Nat.lt_or_ge i m with h | h
        · exact h
        · refine (hall fun j hj => ?_).elim
          have hoj : all[j]? = some all[j] := by simp [show j < all.size by omega]
          exact Closed.ready L.closed ((monoB_spec hB hoi hoj (by omega)).2 h) hi
      have hil : i < listed.size := by rw [L.size]; exact hi1
      obtain ⟨⟨hdn, hstep⟩, _⟩ := hs i _ him hoi
      have hrel : RelE w S (looks all all[i]) (en i) a := by
        intro s hsl av hav
        have hc := curO_look (avs := avs) (en := en) (e := e) hB L h0 hs2 hm hoi him hni (fun j hj => Closed.ready L.closed hj hi) hsl all.size (Nat.le_refl _)
        rw [Nat.min_eq_right (by omega)] at hc
        exact hen s av (by rw [hc]; exact hav)
      have L' : LOk all m (listed.setIfInBounds i true) := by
        refine ⟨by simpa using L.size, fun k hk => ?_, fun k j o hk hok hw => ?_⟩
        · rw [getD_set hil] at hk
          split at hk
          · omega
          · exact L.head k hk
        · rw [getD_set hil] at hk
          rw [getD_set hil]
          split
          · rfl
          · split at hk
            · rename_i hki
              subst hki
              obtain rfl : all[k] = o := by rw [hoi] at hok; exact Option.some.inj hok
              exact ready_waits hoi hi hw
            · exact L.closed k j o hk hok hw
      have hcnt : (listed.setIfInBounds i true).toList.count true + fuel = all.size := by
        have hlist : listed[i] = false := by simpa [hil] using hni
        have : (listed.setIfInBounds i true).toList = listed.toList.set i true := by simp
        rw [this, List.count_set (by simpa using hil)]
        have hl2 : listed.toList[i]'(by simpa using hil) = false := by simpa using hlist
        rw [hl2]
        have e1 : (if (false == true) = true then 1 else 0) = 0 := rfl
        have e2 : (if (true == true) = true then 1 else 0) = 1 := rfl
        rw [e1, e2]
        omega
      have upd : ∀ (v : Value) (w' : World) (S' : Nat → Prop), (∀ k, S k → S' k ∧ w'.heap[k]? = w.heap[k]?) → (∀ x, avs i = some x → At w' S' x v) → EnvOk w' S' (curO all avs e (listed.setIfInBounds i true) all.size) (a.put (all[i]).dst v) := by
        intro v w' S' hkp hat s av hav
        rw [curO_set (avs := avs) (e := e) hB L hoi him hni s all.size (Nat.le_refl _), if_pos (by omega)] at hav
        by_cases hd : (all[i]).dst = some s
        · rw [hd, eputO_eq] at hav
          have hsn := hdn s hd
          exact ⟨v, by rw [hd]; simp [Act.put, hsz, hsn], hat _ hav⟩
        · rw [eputO_ne hd] at hav
          obtain ⟨u, h1, h2⟩ := hen s av hav
          refine ⟨u, ?_, h2.mono hkp⟩
          cases hdd : (all[i]).dst with
          | none => simpa [Act.put] using h1
          | some d' =>
            have hne : d' ≠ s := fun e => hd (by rw [hdd, e])
            simp [Act.put, hne, h1]
      have psz : ∀ v, (a.put (all[i]).dst v).tmps.size = n := fun v => by cases (all[i]).dst <;> simp [Act.put, hsz]
      have pdf : ∀ v, (a.put (all[i]).dst v).defers = [] := fun v => by cases (all[i]).dst <;> simp [Act.put, hdf]
      simp only [wpOp, hoi]
      rcases hstep listed w S a L hil hni (fun j hj => Closed.ready L.closed hj hi) hsz hdf hr hg hrel with ⟨hw, hmv⟩ | ⟨hw, hI, hav⟩
      · rw [if_pos hw]
        exact .inl (hmv _ _ (fun v w' S' hkp hlt hI hat => ih _ _ _ S' L' hcnt (psz v) (pdf v) hlt hI (upd v w' S' hkp hat)))
      · rw [if_neg (by rw [hw]; simp)]
        refine ih _ _ _ S L' hcnt (psz _) (pdf _) hr hI (upd _ w S (fun k hk => ⟨hk, rfl⟩) (fun x hx => ?_))
        rw [hav x hx]; exact .raw _
end order

/-! ### a map literal -/
theorem mp_perm {w : World} {S : Nat → Prop} {hp : Heap} {b : Bk} {es es' : List (AV × AV)} (r : HRel w S ((b, .mp es) :: hp)) (h : es.Perm es') : HRel w S ((b, .mp es') :: hp) ∧ Evo w S ((b, .mp es) :: hp) w S ((b, .mp es') :: hp) := by
  obtain ⟨L, c, hL, hH⟩ := r.holds _ (List.mem_cons_self ..)
  obtain ⟨r1, e1, _⟩ := upd_rel r (o' := .mp es') .here (GB_refl w b.blk) id id ⟨L, c, hL.trans h, hH⟩ (.inl rfl)
  exact ⟨r1, e1⟩

section lit
variable {K V : Type} [DecidableEq K] [KLt K]
def litM (lit : List (Nat × K × V)) (c : Nat → Bool) : List (K × V) := (lit.filter (fun x => c x.1)).map (·.2)
def encM (gk : K → AV) (gv : V → AV) (M : List (K × V)) : List (AV × AV) := M.map fun e => (gk e.1, gv e.2)
theorem litM_congr {lit : List (Nat × K × V)} {c c' : Nat → Bool} (h : ∀ x ∈ lit, c x.1 = c' x.1) : litM lit c = litM lit c' := by
  unfold litM; rw [List.filter_congr h]
theorem litM_all {lit : List (Nat × K × V)} {c : Nat → Bool} (h : ∀ x ∈ lit, c x.1 = true) : litM lit c = lit.map (·.2) := by
  unfold litM; rw [List.filter_eq_self.2 h]
theorem litM_none {lit : List (Nat × K × V)} {c : Nat → Bool} (h : ∀ x ∈ lit, c x.1 = false) : litM lit c = [] := by
  unfold litM; rw [List.filter_eq_nil_iff.2 (fun x hx => by rw [h x hx]; simp)]; rfl
theorem mdel_of_not {M : List (K × V)} {k : K} (h : ∀ e ∈ M, e.1 ≠ k) : mdel M k = M := by
  unfold mdel
  exact List.filter_eq_self.2 fun e he => by simpa using h e he
theorem litM_set : ∀ {lit : List (Nat × K × V)} {c : Nat → Bool} {i : Nat} {k : K} {v : V}, (lit.map (·.1)).Nodup → (lit.map (·.2.1)).Nodup → (i, k, v) ∈ lit → c i = false → (mset (litM lit c) k v).Perm (litM lit (fun j => if j = i then true else c j)) := by
  intro lit c i k v hn hk hx hc
  have hnot : ∀ e ∈ litM lit c, e.1 ≠ k := by
    intro e he hek
    obtain ⟨x, hx1, rfl⟩ := List.mem_map.1 he
    obtain ⟨hx2, hx3⟩ := List.mem_filter.1 hx1
    have : x = (i, k, v) := by
      obtain ⟨a, b, hab⟩ := List.append_of_mem hx
      subst hab
      rw [List.map_append, List.map_cons, List.nodup_append] at hk
      obtain ⟨k1, k2, k3⟩ := hk
      rcases List.mem_append.1 hx2 with h | h
      · exact (k3 _ (List.mem_map.2 ⟨x, h, rfl⟩) k (by simp) hek).elim
      · rcases List.mem_cons.1 h with h | h
        · exact h
        · exact ((List.nodup_cons.1 k2).1 (List.mem_map.2 ⟨x, h, hek⟩)).elim
    subst this
    rw [hc] at hx3; cases hx3
  refine (mset_perm _ _ _).trans ?_
  rw [mdel_of_not hnot]
  obtain ⟨a, b, hab⟩ := List.append_of_mem hx
  subst hab
  rw [List.map_append, List.map_cons, List.nodup_append] at hn
  obtain ⟨n1, n2, n3⟩ := hn
  have ha : ∀ x ∈ a, (if x.1 = i then true else c x.1) = c x.1 := fun x hx => if_neg (n3 _ (List.mem_map.2 ⟨x, hx, rfl⟩) i (by simp))
  have hb : ∀ x ∈ b, (if x.1 = i then true else c x.1) = c x.1 := fun x hx => if_neg (fun e => (List.nodup_cons.1 n2).1 (List.mem_map.2 ⟨x, hx, e⟩))
  unfold litM
  rw [List.filter_append, List.filter_append, List.filter_cons, List.filter_cons, List.filter_congr ha, List.filter_congr hb]
  simp only [hc, if_true, Bool.false_eq_true, if_false, List.map_append, List.map_cons]
  exact List.perm_middle.symm

/-- What is kept: the memory, and the literal's block once it is made. -/
def IL (w0 : World) (S0 : Nat → Prop) (hp : Heap) (p : Nat) (al : List (Nat × Nat)) (gk : K → AV) (gv : V → AV) (lit : List (Nat × K × V)) (listed : Array Bool) (a : Act) (w : World) (S : Nat → Prop) : Prop :=
  if listed.getD p false = true then ∃ b v, (∀ x ∈ al, listed.getD x.1 false = true → a.tmps[x.2]? = some v) ∧ At w S (.mref b) v ∧ HRel w S ((b, .mp (encM gk gv (litM lit (listed.getD · false)))) :: hp) ∧ Evo w0 S0 hp w S ((b, .mp (encM gk gv (litM lit (listed.getD · false)))) :: hp)
  else HRel w S hp ∧ Evo w0 S0 hp w S hp

variable {P : Program} {all : Array Oper} {n m : Nat} {hp : Heap} {p : Nat} {al : List (Nat × Nat)} {gk : K → AV} {gv : V → AV} {lit : List (Nat × K × V)}
/-- The slots that hold the map's reference. -/
def refs (us : List (Nat × Nat)) (b : Bk) : List (Nat × AV) := us.map fun x => (x.2, .mref b)
inductive ALf (P : Program) (all : Array Oper) (n : Nat) (hp : Heap) (p : Nat) (al : List (Nat × Nat)) (gk : K → AV) (gv : V → AV) (lit : List (Nat × K × V)) : Nat → List Oper → Env → Env → Prop
  | nil (i : Nat) (e : Env) : ALf P all n hp p al gk gv lit i [] e e
  | am {i : Nat} {o : Oper} {l : List Oper} {e e' : Env} {av : AV} (hi : i ≠ p) (hl : ∀ x ∈ lit, x.1 ≠ i) (ha : ∀ x ∈ al, x.1 ≠ i) (hd : ∀ x ∈ al, o.dst ≠ some x.2) (h : MStep P all n hp o e av) (k : ALf P all n hp p al gk gv lit (i + 1) l (eputO e o.dst (some av)) e') : ALf P all n hp p al gk gv lit i (o :: l) e e'
  | mk {o : Oper} {l : List Oper} {e e' : Env} {dp : Nat} (hl : ∀ x ∈ lit, x.1 ≠ p) (hd : o.dst = some dp) (hu : ∀ x ∈ al, x.1 = p → x.2 = dp) (hal : ∀ x ∈ al, x.1 ≠ p → Anc all x.1 p) (ha : ∀ x ∈ lit, Anc all x.1 p) (h : TStep P all n hp o e [] (fun b => .mref b) (fun b => [(b, .mp [])])) (k : ALf P all n hp p al gk gv lit (p + 1) l (eputO e o.dst none) e') : ALf P all n hp p al gk gv lit p (o :: l) e e'
  | mv {i : Nat} {o : Oper} {l : List Oper} {e e' : Env} {s : Nat} {us : List (Nat × Nat)} (hi : i ≠ p) (hl : ∀ x ∈ lit, x.1 ≠ i) (hd : o.dst = some s) (hu : ∀ x ∈ al, x.1 = i → x.2 = s) (hs : ∀ x ∈ al, x.1 ≠ i → x.2 ≠ s) (ha : Anc all i p) (hus : ∀ x ∈ us, x ∈ al ∧ Anc all i x.1) (hg : o.guard = none) (hn : s < n) (h : ∀ b, MV P all n o (orE (lk (refs us b)) e) hp (.mref b)) (k : ALf P all n hp p al gk gv lit (i + 1) l (eputO e o.dst none) e') : ALf P all n hp p al gk gv lit i (o :: l) e e'
  | ins {i : Nat} {o : Oper} {l : List Oper} {e e' : Env} {key : K} {v : V} {us : List (Nat × Nat)} (hx : (i, key, v) ∈ lit) (hi : i ≠ p) (hai : ∀ x ∈ al, x.1 ≠ i) (hd : o.dst = none) (ha : Anc all i p) (hus : ∀ x ∈ us, x ∈ al ∧ Anc all i x.1) (h : ∀ b M, TStep P all n hp o (orE (lk (refs us b)) e) [(b, .mp (encM gk gv M))] (fun _ => .raw undef) (fun _ => [(b, .mp (encM gk gv (mset M key v)))])) (k : ALf P all n hp p al gk gv lit (i + 1) l e e') : ALf P all n hp p al gk gv lit i (o :: l) e e'
  | look {i : Nat} {o : Oper} {l : List Oper} {e e' : Env} {av : AV} {us : List (Nat × Nat)} (hi : i ≠ p) (hl : ∀ x ∈ lit, x.1 ≠ i) (hai : ∀ x ∈ al, x.1 ≠ i) (hd : ∀ x ∈ al, o.dst ≠ some x.2) (ha : Anc all i p) (hal : ∀ x ∈ lit, Anc all i x.1) (hus : ∀ x ∈ us, x ∈ al ∧ Anc all i x.1) (h : ∀ b, MStep P all n ((b, .mp (encM gk gv (lit.map (·.2)))) :: hp) o (orE (lk (refs us b)) e) av) (k : ALf P all n hp p al gk gv lit (i + 1) l (eputO e o.dst (some av)) e') : ALf P all n hp p al gk gv lit i (o :: l) e e'

theorem put_ne {a : Act} {d : Option Nat} {v u : Value} {s : Nat} (h : d ≠ some s) (hv : a.tmps[s]? = some u) : (a.put d v).tmps[s]? = some u := by
  cases d with
  | none => simpa [Act.put] using hv
  | some d' =>
    have hne : d' ≠ s := fun e => h (by rw [e])
    simp [Act.put, hne, hv]

/-- A step that only looks, over the literal's memory too. -/
theorem istep_am {w0 : World} {S0 : Nat → Prop} {i : Nat} {o : Oper} {e : Env} {av : AV} (hi : i ≠ p) (hl : ∀ x ∈ lit, x.1 ≠ i) (hai : ∀ x ∈ al, x.1 ≠ i) (hd : ∀ x ∈ al, o.dst ≠ some x.2) (h : MStep P all n hp o e av) : IStep P all n m (IL w0 S0 hp p al gk gv lit) i o e (some av) := by
  refine ⟨h.1, fun listed w S a L hil hni hanc hsz hdf hlt hI hrel => ?_⟩
  have hset : ∀ k, k ≠ i → (listed.setIfInBounds i true).getD k false = listed.getD k false := fun k hk => by rw [getD_set hil, if_neg hk]
  have hlm : litM lit ((listed.setIfInBounds i true).getD · false) = litM lit (listed.getD · false) := litM_congr fun x hx => hset _ (hl x hx)
  have hpp : (listed.setIfInBounds i true).getD p false = listed.getD p false := hset p (Ne.symm hi)
  rcases h.2 with ⟨hw, hmv⟩ | ⟨hw, hav⟩
  · refine .inl ⟨wanted_of hw hrel, fun K Q hK => ?_⟩
    unfold IL at hI hK
    rw [hpp, hlm] at hK
    split at hI
    · rename_i hl
      obtain ⟨b, u, h1, h2, h3, h4⟩ := hI
      refine hmv w S a hsz hdf (h3.sub (List.sublist_cons_self _ _)) hrel K Q (fun v w' S' g hat => hK v w' S' (g.keep hlt) g.slt ?_ (fun x hx => by rw [← Option.some.inj hx]; exact hat))
      rw [if_pos hl]
      exact ⟨b, u, fun x hx hlx => put_ne (hd x hx) (h1 x hx (by rw [← hset _ (hai x hx)]; exact hlx)), h2.mono (g.keep hlt), h3.grow g, h4.trans (g.evo hlt _)⟩
    · rename_i hl
      refine hmv w S a hsz hdf hI.1 hrel K Q (fun v w' S' g hat => hK v w' S' (g.keep hlt) g.slt ?_ (fun x hx => by rw [← Option.some.inj hx]; exact hat))
      rw [if_neg hl]
      exact ⟨hI.1.grow g, hI.2.trans (g.evo hlt _)⟩
  · refine .inr ⟨wanted_of hw hrel, ?_, fun x hx => by rw [← Option.some.inj hx]; exact hav⟩
    unfold IL at hI ⊢
    rw [hpp, hlm]
    split at hI
    · rename_i hl
      obtain ⟨b, u, h1, h2⟩ := hI
      rw [if_pos hl]
      exact ⟨b, u, fun x hx hlx => put_ne (hd x hx) (h1 x hx (by rw [← hset _ (hai x hx)]; exact hlx)), h2⟩
    · rename_i hl
      rw [if_neg hl]; exact hI

theorem istep_mk {w0 : World} {S0 : Nat → Prop} {o : Oper} {e : Env} {dp : Nat} (hl : ∀ x ∈ lit, x.1 ≠ p) (hd : o.dst = some dp) (hu : ∀ x ∈ al, x.1 = p → x.2 = dp) (hal : ∀ x ∈ al, x.1 ≠ p → Anc all x.1 p) (ha : ∀ x ∈ lit, Anc all x.1 p) (h : TStep P all n hp o e [] (fun b => .mref b) (fun b => [(b, .mp [])])) : IStep P all n m (IL w0 S0 hp p al gk gv lit) p o e none := by
  refine ⟨h.1, fun listed w S a L hil hni hanc hsz hdf hlt hI hrel => ?_⟩
  have hnone : ∀ x ∈ lit, listed.getD x.1 false = false := fun x hx => by
    cases hv : listed.getD x.1 false with
    | false => rfl
    | true => have := Closed.anc L.closed (ha x hx) hv; rw [hni] at this; cases this
  have hlm : litM lit ((listed.setIfInBounds p true).getD · false) = ([] : List (K × V)) := litM_none fun x hx => by rw [getD_set hil, if_neg (hl x hx)]; exact hnone x hx
  unfold IL at hI
  rw [if_neg (by rw [hni]; simp)] at hI
  rcases h.2 with ⟨hw, htv⟩ | ⟨hw, hav⟩
  · refine .inl ⟨wanted_of hw hrel, fun K Q hK => ?_⟩
    refine htv w S a hsz hdf (by simpa using hI.1) hrel K Q (fun b v w' S' ev hr hat => hK v w' S' ev.keep hr.slt ?_ (fun x hx => by cases hx))
    unfold IL
    rw [getD_set hil, if_pos rfl, if_pos rfl, hlm]
    refine ⟨b, v, fun x hx hlx => ?_, hat, hr, hI.2.trans ev⟩
    have hdn := h.1 dp hd
    by_cases hxp : x.1 = p
    · rw [hu x hx hxp, hd]; simp [Act.put, hsz, hdn]
    · rw [getD_set hil, if_neg hxp] at hlx
      have := Closed.anc L.closed (hal x hx hxp) hlx
      rw [hni] at this; cases this
  · have := (hav ⟨none, 0⟩).2
    cases this

theorem lk_refs : ∀ {us : List (Nat × Nat)} {b : Bk} {s : Nat} {av : AV}, lk (refs us b) s = some av → av = .mref b ∧ ∃ x ∈ us, x.2 = s
  | [], b, s, av, h => by simp [refs, lk] at h
  | y :: us, b, s, av, h => by
    by_cases hs : y.2 = s
    · subst hs
      have : lk (refs (y :: us) b) y.2 = some (.mref b) := by simp [refs, lk]
      rw [this] at h
      exact ⟨(Option.some.inj h).symm, y, by simp, rfl⟩
    · have : lk (refs (y :: us) b) s = lk (refs us b) s := by simp [refs, lk, nbeq_f' hs]
      rw [this] at h
      obtain ⟨h1, x, h2, h3⟩ := lk_refs h
      exact ⟨h1, x, List.mem_cons_of_mem _ h2, h3⟩
theorem rel_or {w : World} {S : Nat → Prop} {ls : List Nat} {e : Env} {a : Act} {b : Bk} {v : Value} {us : List (Nat × Nat)} (h : RelE w S ls e a) (hv : ∀ x ∈ us, a.tmps[x.2]? = some v) (hat : At w S (.mref b) v) : RelE w S ls (orE (lk (refs us b)) e) a := by
  intro s hs av hav
  unfold orE at hav
  cases hl : lk (refs us b) s with
  | some av' =>
    rw [hl] at hav
    obtain rfl := Option.some.inj hav
    obtain ⟨rfl, x, hx, rfl⟩ := lk_refs hl
    exact ⟨v, hv x hx, hat⟩
  | none =>
    rw [hl] at hav
    exact h s hs av hav
theorem istep_mv {w0 : World} {S0 : Nat → Prop} {i : Nat} {o : Oper} {e : Env} {s : Nat} {us : List (Nat × Nat)} (hi : i ≠ p) (hl : ∀ x ∈ lit, x.1 ≠ i) (hd : o.dst = some s) (hu : ∀ x ∈ al, x.1 = i → x.2 = s) (hs : ∀ x ∈ al, x.1 ≠ i → x.2 ≠ s) (ha : Anc all i p) (hus : ∀ x ∈ us, x ∈ al ∧ Anc all i x.1) (hg : o.guard = none) (hn : s < n) (h : ∀ b, MV P all n o (orE (lk (refs us b)) e) hp (.mref b)) : IStep P all n m (IL w0 S0 hp p al gk gv lit) i o e none := by
  refine ⟨fun d hd' => by rw [hd] at hd'; obtain rfl := Option.some.inj hd'; exact hn, fun listed w S a L hil hni hanc hsz hdf hlt hI hrel => ?_⟩
  have hp1 := hanc p ha
  have hset : ∀ k, k ≠ i → (listed.setIfInBounds i true).getD k false = listed.getD k false := fun k hk => by rw [getD_set hil, if_neg hk]
  have hlm : litM lit ((listed.setIfInBounds i true).getD · false) = litM lit (listed.getD · false) := litM_congr fun x hx => hset _ (hl x hx)
  unfold IL at hI
  rw [if_pos hp1] at hI
  obtain ⟨b, u, h1, h2, h3, h4⟩ := hI
  have hrel' := rel_or hrel (us := us) (fun x hx => h1 x (hus x hx).1 (hanc _ (hus x hx).2)) h2
  refine .inl ⟨by simp [Region.wanted, hg], fun K Q hK => ?_⟩
  refine h b w S a hsz hdf (h3.sub (List.sublist_cons_self _ _)) hrel' K Q (fun v w' S' g hat => hK v w' S' (g.keep hlt) g.slt ?_ (fun x hx => by cases hx))
  obtain ⟨nb, hb, hv⟩ := hat.mref_inv
  obtain ⟨nb', hb', hu'⟩ := h2.mref_inv
  have hvu : v = u := by rw [hb] at hb'; obtain rfl := Option.some.inj hb'; rw [hv, hu']
  subst hvu
  unfold IL
  rw [hset p (Ne.symm hi), if_pos hp1, hlm]
  refine ⟨b, v, fun x hx hlx => ?_, hat, h3.grow g, h4.trans (g.evo hlt _)⟩
  by_cases hxi : x.1 = i
  · rw [hu x hx hxi, hd]; simp [Act.put, hsz, hn]
  · exact put_ne (by rw [hd]; exact fun e => hs x hx hxi (Option.some.inj e).symm) (h1 x hx (by rw [← hset _ hxi]; exact hlx))

theorem istep_ins {w0 : World} {S0 : Nat → Prop} {i : Nat} {o : Oper} {e : Env} {key : K} {v : V} (hn1 : (lit.map (·.1)).Nodup) (hn2 : (lit.map (·.2.1)).Nodup) {us : List (Nat × Nat)} (hx : (i, key, v) ∈ lit) (hi : i ≠ p) (hai : ∀ x ∈ al, x.1 ≠ i) (hd : o.dst = none) (ha : Anc all i p) (hus : ∀ x ∈ us, x ∈ al ∧ Anc all i x.1) (h : ∀ b M, TStep P all n hp o (orE (lk (refs us b)) e) [(b, .mp (encM gk gv M))] (fun _ => .raw undef) (fun _ => [(b, .mp (encM gk gv (mset M key v)))])) : IStep P all n m (IL w0 S0 hp p al gk gv lit) i o e (some (.raw undef)) := by
  refine ⟨(h ⟨none, 0⟩ []).1, fun listed w S a L hil hni hanc hsz hdf hlt hI hrel => ?_⟩
  have hp1 := hanc p ha
  unfold IL at hI
  rw [if_pos hp1] at hI
  obtain ⟨b, u, h1, h2, h3, h4⟩ := hI
  have hrel' := rel_or hrel (us := us) (fun x hx => h1 x (hus x hx).1 (hanc _ (hus x hx).2)) h2
  have hset : ∀ k, k ≠ i → (listed.setIfInBounds i true).getD k false = listed.getD k false := fun k hk => by rw [getD_set hil, if_neg hk]
  have hlm : litM lit ((listed.setIfInBounds i true).getD · false) = litM lit (fun j => if j = i then true else listed.getD j false) := litM_congr fun x _ => getD_set hil
  have hperm := litM_set (c := (listed.getD · false)) hn1 hn2 hx hni
  rw [← hlm] at hperm
  rcases (h b (litM lit (listed.getD · false))).2 with ⟨hw, htv⟩ | ⟨hw, hav⟩
  · refine .inl ⟨wanted_of hw hrel', fun K Q hK => ?_⟩
    refine htv w S a hsz hdf h3 hrel' K Q (fun b' v' w' S' ev hr hat => hK v' w' S' ev.keep hr.slt ?_ (fun x hx => by rw [← Option.some.inj hx]; exact hat))
    obtain ⟨r2, e2⟩ := mp_perm hr (hperm.map _ : (encM gk gv _).Perm (encM gk gv _))
    unfold IL
    rw [getD_set hil, if_neg (Ne.symm hi), if_pos hp1]
    exact ⟨b, u, fun x hx hlx => put_ne (by rw [hd]; simp) (h1 x hx (by rw [← hset _ (hai x hx)]; exact hlx)), h2.mono ev.keep, r2, (h4.trans ev).trans e2⟩
  · have h5 := (hav ⟨none, 0⟩).1
    refine .inr ⟨wanted_of hw hrel', ?_, fun x hx => (Option.some.inj hx).symm⟩
    have h6 : encM gk gv (mset (litM lit (listed.getD · false)) key v) = encM gk gv (litM lit (listed.getD · false)) := by
      have := List.cons.inj h5
      have := (Prod.mk.inj this.1).2
      exact Ob.mp.inj this
    have h7 := congrArg List.length h6
    have h8 := (mset_perm (litM lit (listed.getD · false)) key v).length_eq
    have hnot : ∀ e ∈ litM lit (listed.getD · false), e.1 ≠ key := by
      intro e he hek
      obtain ⟨x, hx1, rfl⟩ := List.mem_map.1 he
      obtain ⟨hx2, hx3⟩ := List.mem_filter.1 hx1
      have : x = (i, key, v) := by
        obtain ⟨a', b', hab⟩ := List.append_of_mem hx
        rw [hab] at hn2 hx2
        rw [List.map_append, List.map_cons, List.nodup_append] at hn2
        obtain ⟨k1, k2, k3⟩ := hn2
        rcases List.mem_append.1 hx2 with h | h
        · exact (k3 _ (List.mem_map.2 ⟨x, h, rfl⟩) key (by simp) hek).elim
        · rcases List.mem_cons.1 h with h | h
          · exact h
          · exact ((List.nodup_cons.1 k2).1 (List.mem_map.2 ⟨x, h, hek⟩)).elim
      subst this
      simp only [hni] at hx3; cases hx3
    rw [mdel_of_not hnot] at h8
    simp only [encM, List.length_map, List.length_cons] at h7 h8
    omega

theorem istep_look {w0 : World} {S0 : Nat → Prop} {i : Nat} {o : Oper} {e : Env} {av : AV} (hi : i ≠ p) {us : List (Nat × Nat)} (hl : ∀ x ∈ lit, x.1 ≠ i) (hai : ∀ x ∈ al, x.1 ≠ i) (hd : ∀ x ∈ al, o.dst ≠ some x.2) (ha : Anc all i p) (hal : ∀ x ∈ lit, Anc all i x.1) (hus : ∀ x ∈ us, x ∈ al ∧ Anc all i x.1) (h : ∀ b, MStep P all n ((b, .mp (encM gk gv (lit.map (·.2)))) :: hp) o (orE (lk (refs us b)) e) av) : IStep P all n m (IL w0 S0 hp p al gk gv lit) i o e (some av) := by
  refine ⟨(h ⟨none, 0⟩).1, fun listed w S a L hil hni hanc hsz hdf hlt hI hrel => ?_⟩
  have hp1 := hanc p ha
  have hset : ∀ k, k ≠ i → (listed.setIfInBounds i true).getD k false = listed.getD k false := fun k hk => by rw [getD_set hil, if_neg hk]
  have hlm : litM lit ((listed.setIfInBounds i true).getD · false) = litM lit (listed.getD · false) := litM_congr fun x hx => hset _ (hl x hx)
  have hall : litM lit (listed.getD · false) = lit.map (·.2) := litM_all fun x hx => hanc _ (hal x hx)
  have hpp : (listed.setIfInBounds i true).getD p false = true := by rw [hset p (Ne.symm hi)]; exact hp1
  unfold IL at hI
  rw [if_pos hp1, hall] at hI
  obtain ⟨b, u, h1, h2, h3, h4⟩ := hI
  have hrel' := rel_or hrel (us := us) (fun x hx => h1 x (hus x hx).1 (hanc _ (hus x hx).2)) h2
  rcases (h b).2 with ⟨hw, hmv⟩ | ⟨hw, hav⟩
  · refine .inl ⟨wanted_of hw hrel', fun K Q hK => ?_⟩
    refine hmv w S a hsz hdf h3 hrel' K Q (fun v w' S' g hat => hK v w' S' (g.keep hlt) g.slt ?_ (fun x hx => by rw [← Option.some.inj hx]; exact hat))
    unfold IL
    rw [if_pos hpp, hlm, hall]
    exact ⟨b, u, fun x hx hlx => put_ne (hd x hx) (h1 x hx (by rw [← hset _ (hai x hx)]; exact hlx)), h2.mono (g.keep hlt), h3.grow g, h4.trans (g.evo hlt _)⟩
  · refine .inr ⟨wanted_of hw hrel', ?_, fun x hx => by rw [← Option.some.inj hx]; exact hav⟩
    unfold IL
    rw [if_pos hpp, hlm, hall]
    exact ⟨b, u, fun x hx hlx => put_ne (hd x hx) (h1 x hx (by rw [← hset _ (hai x hx)]; exact hlx)), h2, h3, h4⟩

theorem ALf.unroll {w0 : World} {S0 : Nat → Prop} (hn1 : (lit.map (·.1)).Nodup) (hn2 : (lit.map (·.2.1)).Nodup) {i0 : Nat} {l : List Oper} {e e' : Env} (h : ALf P all n hp p al gk gv lit i0 l e e') :
    ∃ (avs : Nat → Option AV) (en : Nat → Env), en 0 = e ∧ en l.length = e' ∧ ∀ j o, l[j]? = some o → IStep P all n m (IL w0 S0 hp p al gk gv lit) (i0 + j) o (en j) (avs j) ∧ en (j + 1) = eputO (en j) o.dst (avs j) := by
  have key : ∀ {i0 : Nat} {o : Oper} {l : List Oper} {e e1 e' : Env} {x : Option AV}, IStep P all n m (IL w0 S0 hp p al gk gv lit) i0 o e x → e1 = eputO e o.dst x → (∃ (avs : Nat → Option AV) (en : Nat → Env), en 0 = e1 ∧ en l.length = e' ∧ ∀ j o, l[j]? = some o → IStep P all n m (IL w0 S0 hp p al gk gv lit) (i0 + 1 + j) o (en j) (avs j) ∧ en (j + 1) = eputO (en j) o.dst (avs j)) →
      ∃ (avs : Nat → Option AV) (en : Nat → Env), en 0 = e ∧ en (o :: l).length = e' ∧ ∀ j o', (o :: l)[j]? = some o' → IStep P all n m (IL w0 S0 hp p al gk gv lit) (i0 + j) o' (en j) (avs j) ∧ en (j + 1) = eputO (en j) o'.dst (avs j) := by
    intro i0 o l e e1 e' x hst he ⟨avs, en, h0, h1, h2⟩
    refine ⟨fun i => match i with | 0 => x | i + 1 => avs i, fun i => match i with | 0 => e | i + 1 => en i, rfl, h1, fun j o' ho => ?_⟩
    match j with
    | 0 => simp at ho; subst ho; exact ⟨hst, by rw [← he]; exact h0⟩
    | j + 1 =>
      have := h2 j o' (by simpa using ho)
      rw [show i0 + (j + 1) = i0 + 1 + j by omega]
      exact this
  induction h with
  | nil i e => exact ⟨fun _ => none, fun _ => e, rfl, rfl, fun i o h => by simp at h⟩
  | am hi hl hai hd h k ih => exact key (istep_am hi hl hai hd h) rfl ih
  | mk hl hd hu hal ha h k ih => exact key (istep_mk hl hd hu hal ha h) rfl ih
  | mv hi hl hd hu hs ha hus hg hn h k ih => exact key (istep_mv hi hl hd hu hs ha hus hg hn h) rfl ih
  | ins hx hi hai hd ha hus h k ih => exact key (istep_ins hn1 hn2 hx hi hai hd ha hus h) (by rw [hd]; rfl) ih
  | look hi hl hai hd ha hal hus h k ih => exact key (istep_look hi hl hai hd ha hal hus h) rfl ih
end lit

/-! ### the rules -/
section rules
variable {K V : Type} [DecidableEq K] [KLt K] {P : Program} {all : Array Oper} {n : Nat} {hp : Heap} {p : Nat} {al : List (Nat × Nat)} {gk : K → AV} {gv : V → AV} {lit : List (Nat × K × V)} {A : List Nat}
def AL (P : Program) (all : Array Oper) (n : Nat) (hp : Heap) (p : Nat) (al : List (Nat × Nat)) (gk : K → AV) (gv : V → AV) (lit : List (Nat × K × V)) (A : List Nat) (i : Nat) (l : List Oper) (tm : List (Nat × AV)) (Q : List (Nat × AV) → Prop) : Prop :=
  ancs all = A → ∃ tm', ALf P all n hp p al gk gv lit i l (lk tm) (lk tm') ∧ Q tm'
variable {i : Nat} {l l1 l2 rest : List Oper} {tm : List (Nat × AV)} {Q : List (Nat × AV) → Prop} {d : Nat} {ty : TypeId} {pos : String} {af : Array Edge} {op : Op}

theorem AL.nil (h : Q tm) : AL P all n hp p al gk gv lit A i [] tm Q := fun _ => ⟨tm, .nil _ _, h⟩

def noLitB (al : List (Nat × Nat)) (p : Nat) (ks : List Nat) (i : Nat) (l : List Oper) : Bool := (l.all fun o => match o.dst with | some d => al.all fun x => !Nat.beq d x.2 | none => true) && (Nat.blt p i || Nat.ble (i + l.length) p) && ((ks.all fun k => Nat.blt k i || Nat.ble (i + l.length) k) && al.all fun x => Nat.blt x.1 i || Nat.ble (i + l.length) x.1)
theorem al_am : ∀ {l1 : List Oper} {e e' : Env} {i : Nat} (h : AMf P all n hp l1 e e') (hn : noLitB al p (lit.map (·.1)) i l1 = true) {l2 : List Oper} {e2 : Env}, ALf P all n hp p al gk gv lit (i + l1.length) l2 e' e2 → ALf P all n hp p al gk gv lit i (l1 ++ l2) e e2 := by
  intro l1 e e' i h
  have hstep : ∀ {i : Nat} {o : Oper} {l : List Oper}, noLitB al p (lit.map (·.1)) i (o :: l) = true → i ≠ p ∧ (∀ x ∈ lit, x.1 ≠ i) ∧ (∀ x ∈ al, x.1 ≠ i) ∧ (∀ x ∈ al, o.dst ≠ some x.2) ∧ noLitB al p (lit.map (·.1)) (i + 1) l = true := by
    intro i o l hn
    unfold noLitB at hn ⊢
    simp only [Bool.and_eq_true, List.all_eq_true, List.length_cons, Bool.or_eq_true] at hn ⊢
    obtain ⟨⟨h1, h2⟩, h3, h4⟩ := hn
    refine ⟨fun e => ?_, fun x hx e => ?_, fun x hx e => ?_, fun x hx e => ?_, ⟨fun o' ho' => h1 o' (List.mem_cons_of_mem _ ho'), ?_⟩, fun k hk => ?_, fun x hx => ?_⟩
    · simp at h2; omega
    · have := h3 x.1 (List.mem_map.2 ⟨x, hx, rfl⟩); simp at this; omega
    · have := h4 x hx; simp at this; omega
    · have := h1 o (List.mem_cons_self ..); rw [e] at this; have := List.all_eq_true.1 this x hx; simp at this
    · simp at h2 ⊢; omega
    · have := h3 k hk; simp at this ⊢; omega
    · have := h4 x hx; simp at this ⊢; omega
  induction h generalizing i with
  | nil e => intro hn l2 e2 k; simpa using k
  | @run o l e e' av hg hm hd k ih =>
    intro hn l2 e2 kk
    obtain ⟨a1, a2, a3, a4, a5⟩ := hstep hn
    refine .am a1 a2 a3 a4 ⟨hd, .inl ⟨hg, hm⟩⟩ ?_
    rw [eputO_some]
    exact ih a5 (by rw [show i + 1 + l.length = i + (o :: l).length by simp; omega]; exact kk)
  | @pass o l e e' hg hd k ih =>
    intro hn l2 e2 kk
    obtain ⟨a1, a2, a3, a4, a5⟩ := hstep hn
    refine .am a1 a2 a3 a4 ⟨hd, .inr ⟨hg, rfl⟩⟩ ?_
    rw [eputO_some]
    exact ih a5 (by rw [show i + 1 + l.length = i + (o :: l).length by simp; omega]; exact kk)
/-- Some operations that only look. -/
theorem AL.am (m : Nat) (hs : splO m l = some (l1, l2)) (hn : noLitB al p (lit.map (·.1)) i l1 = true) (h : AM P all n hp l1 tm (fun tm' => AL P all n hp p al gk gv lit A (i + m) l2 tm' Q)) : AL P all n hp p al gk gv lit A i l tm Q := by
  intro hA
  obtain ⟨rfl, rfl⟩ := splO_spec hs
  obtain ⟨tm1, h1, h2⟩ := h
  obtain ⟨tm', h3, h4⟩ := h2 hA
  exact ⟨tm', al_am h1 hn h3, h4⟩
def bitsB (A : List Nat) (i : Nat) (ks : List Nat) : Bool := ks.all fun k => (A.getD i 0).testBit k
theorem bits_anc {ks : List Nat} (hA : ancs all = A) (h : bitsB A i ks = true) {k : Nat} (hk : k ∈ ks) : Anc all i k := by
  have := List.all_eq_true.1 h k hk
  subst hA; exact ancs_spec this
/-- Where the map's reference is read from: of the slots that hold it, those that i waits for. -/
def usB (A : List Nat) (i : Nat) (al us : List (Nat × Nat)) : Bool := us.all fun x => al.contains x && (A.getD i 0).testBit x.1
theorem us_spec {us : List (Nat × Nat)} (hA : ancs all = A) (h : usB A i al us = true) : ∀ x ∈ us, x ∈ al ∧ Anc all i x.1 := by
  intro x hx
  have := List.all_eq_true.1 h x hx
  rw [Bool.and_eq_true] at this
  exact ⟨by simpa using this.1, by subst hA; exact ancs_spec this.2⟩
theorem eputO_lkn (hd : lk tm d = none) : eputO (lk tm) (some d) none = lk tm := by
  funext s
  simp only [eputO]
  split
  · rename_i e; subst e; exact hd.symm
  · rfl
/-- The map is made. -/
theorem AL.mk {dp : Nat} {t : TypeId} (ps : List Nat) (hps : lit.map (·.1) = ps) (hn : Nat.blt dp n = true) (hd : lk tm dp = none) (hl : (ps.all fun x => (A.getD x 0).testBit i && !Nat.beq x i) = true) (hal : (al.all fun x => bif Nat.beq x.1 i then Nat.beq x.2 dp else (A.getD x.1 0).testBit i) = true) (k : AL P all n hp i al gk gv lit A (i + 1) rest tm Q) : AL P all n hp i al gk gv lit A i (⟨some dp, .makeMap t none, ty, pos, af, none⟩ :: rest) tm Q := by
  intro hA
  obtain ⟨tm', h1, h2⟩ := k hA
  have hl' : ∀ x ∈ lit, ((A.getD x.1 0).testBit i && !Nat.beq x.1 i) = true := fun x hx => List.all_eq_true.1 hl x.1 (by rw [← hps]; exact List.mem_map.2 ⟨x, hx, rfl⟩)
  have hal' := List.all_eq_true.1 hal
  refine ⟨tm', .mk (dp := dp) (fun x hx e => ?_) rfl (fun x hx e => ?_) (fun x hx e => ?_) (fun x hx => ?_) ?_ ?_, h2⟩
  · have := hl' x hx; rw [e] at this; simp at this
  · have := hal' x hx; rw [e] at this; simpa using this
  · have := hal' x hx
    rw [nbeq_f' e] at this
    subst hA; exact ancs_spec this
  · have := hl' x hx
    rw [Bool.and_eq_true] at this
    subst hA; exact ancs_spec this.1
  · refine tstep_run rfl (fun d' hd' => by obtain rfl := Option.some.inj hd'; simpa using hn) rfl (fun _ => rfl) ?_ (fun e => by cases e)
    exact t_makeMap hn (fun b => ARun.nil ⟨b, _, rfl, fun d' hd' => by obtain rfl := Option.some.inj hd'; simp [lk]⟩)
  · show ALf P all n hp i al gk gv lit (i + 1) rest (eputO (lk tm) (some dp) none) (lk tm')
    rw [eputO_lkn hd]; exact h1
theorem or_refs (us : List (Nat × Nat)) (b : Bk) : orE (lk (refs us b)) (lk tm) = lk (refs us b ++ tm) := (lk_append _ _).symm
/-- The map's reference is handed on. -/
theorem AL.mv {x : Operand} (us : List (Nat × Nat)) (hn : Nat.blt d n = true) (hd : lk tm d = none) (hip : Nat.beq i p = false) (hil : (lit.all fun x => !Nat.beq x.1 i) = true) (hal : (al.all fun x => bif Nat.beq x.1 i then Nat.beq x.2 d else !Nat.beq x.2 d) = true) (hb : bitsB A i [p] = true) (hus : usB A i al us = true) (hx : ∀ b, evA (rst (looks all ⟨some d, .move x, ty, pos, af, none⟩) (refs us b ++ tm)) x = some (.mref b)) (k : AL P all n hp p al gk gv lit A (i + 1) rest tm Q) : AL P all n hp p al gk gv lit A i (⟨some d, .move x, ty, pos, af, none⟩ :: rest) tm Q := by
  intro hA
  obtain ⟨tm', h1, h2⟩ := k hA
  have hal' := List.all_eq_true.1 hal
  refine ⟨tm', .mv (s := d) (us := us) (fun e => by subst e; simp at hip) (fun x hx e => ?_) rfl (fun x hx e => ?_) (fun x hx e => ?_) (bits_anc hA hb (by simp)) (us_spec hA hus) rfl (by simpa using hn) (fun b => ?_) ?_, h2⟩
  · have := List.all_eq_true.1 hil x hx; rw [e] at this; simp at this
  · have := hal' x hx; rw [e] at this; simpa using this
  · have := hal' x hx
    rw [nbeq_f' e] at this
    intro e2
    rw [e2] at this; simp at this
  · rw [or_refs]
    intro w S a s1 s2 s3 s4 K Q' hK
    obtain ⟨v, g1, g2⟩ := q_move (P := P) (ty := ty) (pos := pos) (af := af) (d := d) (n := n) (hp := hp) (hx b) w S a (strel_rst s1 s2 s3 s4)
    show Oper.upon P _ a K Q' _
    rw [g1 w (Ext.refl w)]
    exact hK v w S (Grow.refl s3.slt) g2
  · show ALf P all n hp p al gk gv lit (i + 1) rest (eputO (lk tm) (some d) none) (lk tm')
    rw [eputO_lkn hd]; exact h1
/-- An entry is laid. -/
theorem AL.ins {t kt vt : TypeId} {key : K} {v : V} {x y z : Operand} {av : AV} (us : List (Nat × Nat)) [TUnder P t (.map kt vt)] [MKey P kt gk] (hf : lit.find? (fun x => Nat.beq x.1 i) = some (i, key, v)) (hb : bitsB A i [p] = true) (hip : Nat.beq i p = false) (hai : (al.all fun x => !Nat.beq x.1 i) = true) (hus : usB A i al us = true) (hx : ∀ b, evA (rst (looks all ⟨none, .insert t x y z, ty, pos, af, none⟩) (refs us b ++ tm)) x = some (.mref b)) (hy : ∀ b, evA (rst (looks all ⟨none, .insert t x y z, ty, pos, af, none⟩) (refs us b ++ tm)) y = some (gk key)) (hz : ∀ b, evA (rst (looks all ⟨none, .insert t x y z, ty, pos, af, none⟩) (refs us b ++ tm)) z = some av) (hav : av = gv v) (k : AL P all n hp p al gk gv lit A (i + 1) rest tm Q) :
    AL P all n hp p al gk gv lit A i (⟨none, .insert t x y z, ty, pos, af, none⟩ :: rest) tm Q := by
  intro hA
  obtain ⟨tm', h1, h2⟩ := k hA
  refine ⟨tm', .ins (us := us) (List.mem_of_find?_eq_some hf) (fun e => by subst e; simp at hip) (fun x hx e => ?_) rfl (bits_anc hA hb (by simp)) (us_spec hA hus) (fun b M => ?_) h1, h2⟩
  · have := List.all_eq_true.1 hai x hx; rw [e] at this; simp at this
  rw [or_refs]
  refine tstep_run rfl (fun d' hd' => by cases hd') rfl (fun _ => rfl) ?_ (fun _ _ => rfl)
  exact t_insert (gk := gk) (gv := gv) (M := M) (key := key) (v := v) (hx b) (hy b) (hz b) hav .here (ARun.nil ⟨⟨none, 0⟩, _, rfl, fun d' hd' => by cases hd'⟩)
/-- A look at the map behind all entries. -/
theorem AL.look {av : AV} (us : List (Nat × Nat)) (hb : bitsB A i (p :: lit.map (·.1)) = true) (hip : Nat.beq i p = false) (hil : (lit.all fun x => !Nat.beq x.1 i) = true) (hal : (al.all fun x => !Nat.beq x.1 i && !Nat.beq d x.2) = true) (hus : usB A i al us = true) (hn : Nat.blt d n = true)
    (q : ∀ b, QV P ⟨some d, op, ty, pos, af, none⟩ ⟨n, rst (looks all ⟨some d, op, ty, pos, af, none⟩) (refs us b ++ tm), (b, .mp (encM gk gv (lit.map (·.2)))) :: hp⟩ av) (k : AL P all n hp p al gk gv lit A (i + 1) rest ((d, av) :: tm) Q) :
    AL P all n hp p al gk gv lit A i (⟨some d, op, ty, pos, af, none⟩ :: rest) tm Q := by
  intro hA
  obtain ⟨tm', h1, h2⟩ := k hA
  have hal' := List.all_eq_true.1 hal
  refine ⟨tm', .look (av := av) (us := us) (fun e => by subst e; simp at hip) (fun x hx e => ?_) (fun x hx e => ?_) (fun x hx e => ?_) (bits_anc hA hb (by simp)) (fun x hx => bits_anc hA hb (List.mem_cons_of_mem _ (List.mem_map.2 ⟨x, hx, rfl⟩))) (us_spec hA hus) (fun b => ?_) ?_, h2⟩
  · have := List.all_eq_true.1 hil x hx; rw [e] at this; simp at this
  · have := hal' x hx; rw [e] at this; simp at this
  · have := hal' x hx
    obtain rfl := Option.some.inj e; simp at this
  · rw [or_refs]
    refine ⟨fun d' hd' => by obtain rfl := Option.some.inj hd'; simpa using hn, .inl ⟨rfl, fun w S a s1 s2 s3 s4 K Q' hK => ?_⟩⟩
    obtain ⟨v, g1, g2⟩ := q b w S a (strel_rst s1 s2 s3 s4)
    show Oper.upon P _ a K Q' _
    rw [g1 w (Ext.refl w)]
    exact hK v w S (Grow.refl s3.slt) g2
  · have : eputO (lk tm) (some d) (some av) = lk ((d, av) :: tm) := by rw [lk_cons]; rfl
    show ALf P all n hp p al gk gv lit (i + 1) rest (eputO (lk tm) (some d) (some av)) (lk tm')
    rw [this]; exact h1

def nodB {α : Type} [DecidableEq α] : List α → Bool
  | [] => true
  | a :: l => l.all (fun b => !decide (a = b)) && nodB l
theorem nodB_spec {α : Type} [DecidableEq α] : ∀ {l : List α}, nodB l = true → l.Nodup
  | [], _ => List.nodup_nil
  | a :: l, h => by
    simp only [nodB, Bool.and_eq_true, List.all_eq_true] at h
    refine List.nodup_cons.2 ⟨fun hm => ?_, nodB_spec h.2⟩
    have := h.1 a hm
    simp at this

theorem ATodo.regionL {R : St → Prop} {k : List It} {id : Nat} {tm : List (Nat × AV)} {l hd tl : List Oper} (m : Nat) (hm : P.follows .mixedOrders = true) (hs : splO m l = some (hd, tl)) (hA : ancs l.toArray = A) (hB0 : monoB l.toArray m A = true) (p : Nat) (al : List (Nat × Nat)) (gk : K → AV) (gv : V → AV) (lit : List (Nat × K × V)) (hn1 : nodB (lit.map (·.1)) = true) (hn2 : nodB (lit.map (·.2.1)) = true) (hpm : (Nat.blt p m && (lit.all (fun x => Nat.blt x.1 m) && al.all (fun x => Nat.blt x.1 m))) = true)
    (h : AL P l.toArray n hp p al gk gv lit A 0 hd tm (fun tm' => ∀ b, ARun P l.toArray tl ⟨n, refs al b ++ tm', (b, .mp ((lit.map (·.2)).map fun e => (gk e.1, gv e.2))) :: hp⟩ (ATodo P R k))) : ATodo P R (.code (.region id l.toArray true) :: k) ⟨n, tm, hp⟩ := by
  have hB : MonoB l.toArray m := ⟨A, hA, hB0⟩
  intro w S a r
  obtain ⟨hl, hml⟩ := splO_spec hs
  obtain ⟨tm', hAf, hrun⟩ := h hA
  obtain ⟨avs, en, e0, e1, e2⟩ := hAf.unroll (m := m) (w0 := w) (S0 := S) (nodB_spec hn1) (nodB_spec hn2)
  have hsz : m ≤ l.toArray.size := by simp [hl, hml]
  rw [Bool.and_eq_true, Bool.and_eq_true] at hpm
  refine wp_region_any hm ?_
  have hdraw : Ext w { w with drawn := w.drawn + 1 } := Ext.draws w _ (Nat.le_succ _)
  have hf : ∀ k, (Array.replicate l.toArray.size false).getD k false = false := by
    intro k
    rcases Nat.lt_or_ge k l.toArray.size with h | h
    · simp at h; simp [h]
    · simp at h; simp [Nat.not_lt.2 h]
  have hc0 : ∀ k, curO l.toArray avs (lk tm) (Array.replicate l.toArray.size false) k = lk tm := by
    intro k
    induction k with
    | zero => rfl
    | succ k ih => simp only [curO, ih]; rw [if_neg (by rw [hf k]; simp)]
  refine any_headI (P := P) (all := l.toArray) (n := n) (m := m) (avs := avs) (en := en) (e := lk tm) (I := IL w S hp p al gk gv lit) hB hsz e0 (fun i o hi ho => ?_) (fun listed a' w' S' hall h1 h2 h3 h4 h5 => ?_) l.toArray.size (Array.replicate l.toArray.size false) a _ S
    ⟨by simp, (fun k hk => by rw [hf k] at hk; cases hk), (fun k i o hk => by rw [hf k] at hk; cases hk)⟩ (by simp [List.count_replicate]) r.size r.defers (fun n hn => r.hp.slt n hn) ?_ (by rw [hc0]; exact (r.ext hdraw).tm)
  · have : l[i]? = some o := by simpa using ho
    rw [hl, List.getElem?_append_left (by omega)] at this
    have := e2 i o this
    rw [Nat.zero_add] at this
    exact this
  · have htl : l.toArray.toList.drop m = tl := by
      simp only [hl, ← hml]
      exact List.drop_left
    rw [htl]
    have hmm : en m = lk tm' := by rw [← hml]; exact e1
    rw [hmm] at h5
    unfold IL at h4
    rw [if_pos (hall p (by simpa using hpm.1)), litM_all (fun x hx => hall x.1 (by have := List.all_eq_true.1 hpm.2.1 x hx; simpa using this))] at h4
    obtain ⟨b, v, k1, k2, k3, k4⟩ := h4
    refine wpList_mono ?_ _ _ _ ((hrun b).go (h := hp) (w := w) (S := S) ⟨h1, h2, fun s av hlk => ?_, k3⟩ k4)
    · rintro ex a2 w2 ⟨rfl, σ2, S2, q1, q2, q3⟩
      exact ⟨σ2, S2, q1, q2, q3⟩
    · have hlk' : orE (lk (refs al b)) (lk tm') s = some av := by rw [or_refs]; exact hlk
      unfold orE at hlk'
      cases hr : lk (refs al b) s with
      | some av' =>
        rw [hr] at hlk'
        obtain rfl := Option.some.inj hlk'
        obtain ⟨rfl, x, hx, rfl⟩ := lk_refs hr
        exact ⟨v, k1 x hx (hall x.1 (by have := List.all_eq_true.1 hpm.2.2 x hx; simpa using this)), k2⟩
      | none =>
        rw [hr] at hlk'
        exact h5 s av hlk'
  · unfold IL
    rw [if_neg (by rw [hf p]; simp)]
    exact ⟨r.hp.ext hdraw, Evo.ext (h := hp) r.hp.slt hdraw⟩
end rules
end Go.Eng

/- The engine, part 79: a string's bytes as a row that may be turned. No program in sight. -/
set_option linter.unusedVariables false
set_option linter.unusedSimpArgs false
set_option linter.unusedSectionVars false
namespace Go.Eng
open Go
variable [GTab]
theorem bts_list {w : World} {S : Nat → Prop} {hp : Heap} {b : Bk} {xs : List Int} (r : HRel w S hp) (f : Fnd hp b (.bts xs)) {v : Value} (h : At w S (.sl 1 b 0 xs.length) v) : At w (fun m => S m ∨ Has hp m) (.list 1 (xs.map (AV.int .u8))) v := by
  obtain ⟨n, vs, E, g1, g2, g3, g4, g5⟩ := r.holds _ f.mem
  have hin : Has hp n := ⟨_, f.mem, eb_of g1⟩
  have key : ∀ cap, xs.length ≤ cap → At w (fun m => S m ∨ Has hp m) (.list 1 (xs.map (AV.int .u8))) (.slice (some ⟨n, 0, none⟩) xs.length cap) := by
    intro cap hc
    have hl : (xs.map (AV.int .u8)).length = xs.length := by simp
    have := At.list (w := w) (S := fun m => S m ∨ Has hp m) 1 (xs.map (AV.int .u8)) (some ⟨n, 0, none⟩) cap (xs.map fun z => Value.int .u8 z) (fun y hy => ?_) ?_ (fun i c v hc hv => ?_) (fun i v hv => ?_) (by rw [hl]; exact hc)
    · rw [hl] at this; exact this
    · obtain ⟨z, _, rfl⟩ := List.mem_map.1 hy
      exact ⟨rfl, fun c hc => by rw [List.mem_singleton.1 hc]; rfl⟩
    · rw [flat_intsK]; simp
    · rw [flat_intsK] at hc
      simp only [List.getElem?_map, Option.map_eq_some_iff] at hc hv
      obtain ⟨z, h1, rfl⟩ := hc
      obtain ⟨z', h2, rfl⟩ := hv
      rw [h1] at h2; obtain rfl := Option.some.inj h2
      exact .int _ _
    · refine ⟨_, rfl, rfl, .inr hin, ?_⟩
      simp only [List.getElem?_map, Option.map_eq_some_iff] at hv
      obtain ⟨z, h1, rfl⟩ := hv
      rw [Nat.zero_add]
      simp [World.cell?, g2, g5 i z h1]
  obtain ⟨oa, cap, rfl, e2⟩ := h.sl_inv
  rcases e2 with ⟨hb, _⟩ | ⟨m, hb, ha, h1, h2⟩ | ⟨m, ad, hb, ha, hl, hc⟩
  · rw [g1] at hb; cases hb
  · obtain rfl : m = n := by rw [g1] at hb; exact (Option.some.inj hb).symm
    subst ha
    simpa using key cap h1
  · have hx : xs = [] := List.length_eq_zero_iff.1 hl
    subst hx
    subst ha hc
    have := At.list (w := w) (S := fun m => S m ∨ Has hp m) 1 ([] : List AV) (some ad) 0 [] (by simp) rfl (fun i c v hc => by simp [flat] at hc) (fun i v hv => by simp at hv) (by simp)
    exact this
/-- Bytes of ours that a call looks at. -/
theorem CoB.bts {hp : Heap} {b : Bk} {xs : List Int} (f : Fnd hp b (.bts xs)) : CoB hp (.sl 1 b 0 xs.length) (.list 1 (xs.map (AV.int .u8))) := .sem fun w S v r h => bts_list r f h
section rules
variable {P : Program} {all : Array Oper} {rest : List Oper} {n : Nat} {tm : List (Nat × AV)} {hp : Heap} {Q : St → Prop} {d : Nat} {ty : TypeId} {pos : String} {af : Array Edge}
end rules
end Go.Eng

/- The engine, part 80: the greatest of three. No program in sight. -/
set_option linter.unusedVariables false
set_option linter.unusedSimpArgs false
set_option linter.unusedSectionVars false
namespace Go.Eng
open Go
variable [GTab]
section
variable {P : Program} {n : Nat} {tm : List (Nat × AV)} {hp : Heap} {d : Nat} {ty : TypeId} {pos : String} {af : Array Edge}
theorem q_max3 {x y z : Operand} {ts : Array TypeId} {k : IntKind} {i j l : Int} (hx : evA tm x = some (.int k i)) (hy : evA tm y = some (.int k j)) (hz : evA tm z = some (.int k l)) : QV P ⟨some d, .call { callee := .builtin .max, args := #[x, y, z], argTypes := ts }, ty, pos, af, none⟩ ⟨n, tm, hp⟩ (.int k (max (max i j) l)) :=
  (fun w S a r => ⟨.int k (max (max i j) l), fun w1 _ => by
    have e : ∀ i j : Int, (if i < j then j else i) = max i j := by intro i j; rw [Int.max_def]; split <;> split <;> omega
    simp [execOp, (evA_at (σ := ⟨n, tm, hp⟩) r hx).int_inv, (evA_at (σ := ⟨n, tm, hp⟩) r hy).int_inv, (evA_at (σ := ⟨n, tm, hp⟩) r hz).int_inv, resolve, invoke, builtin, Builtin.max_, Builtin.max2, e], .int _ _⟩)
end
end Go.Eng

