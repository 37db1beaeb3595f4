/- The engine: abstract values, the symbolic heap, one rule for each operation. No program in sight. -/
import Derived.Test.YtohnopfmfehhkaaGreatDoorEngE
/- The engine, part 48: an operation in a region with tokens that looks at a value told of new memory, and whose result is told without it. No program in sight. -/
set_option linter.unusedVariables false
set_option linter.unusedSectionVars false
namespace Go.Eng
open Go
variable [GTab]
section rules
variable {P : Program} {all : Array Oper} {n : Nat} {B : Heap} {tk : List Tok} {dy : List Nat} {i : Nat} {rest : List Oper} {tm : List (Nat × AV)} {acc : (Nat → Bk) → List (Nat × AV)} {Q : (Nat → Bk) → List (Nat × AV) → Prop} {d : Nat} {ty : TypeId} {pos : String} {af : Array Edge} {op : Op}
end rules
end Go.Eng

/- The engine, part 49: room for a new builder. No program in sight. -/
set_option linter.unusedVariables false
set_option linter.unusedSectionVars false
namespace Go.Eng
open Go Go.Proofs Go.Shelf Go.Lib
variable {P : Program} [GTab]
end Go.Eng

/- The engine, part 50: 'a and b', 'a or b' of plain truths, in a region with tokens: without two ways. No program in sight. -/
set_option linter.unusedVariables false
set_option linter.unusedSectionVars false
namespace Go.Eng
open Go
variable [GTab]
section rules
variable {P : Program} {all : Array Oper} {rest : List Oper} {n : Nat} {tm : List (Nat × AV)} {hp : Heap} {Q : List (Nat × AV) → Prop} {d1 d2 j s x : Nat} {t1 t2 : TypeId} {p1 p2 : String} {a1 a2 : Array Edge} {a b : Bool}
end rules
end Go.Eng

/- The engine, part 51: make of slices whose elements are slices. No program in sight. -/
set_option linter.unusedVariables false
set_option linter.unusedSectionVars false
namespace Go.Eng
open Go
variable [GTab]
section rules
variable {P : Program} {all : Array Oper} {rest : List Oper} {n : Nat} {tm : List (Nat × AV)} {hp : Heap} {Q : St → Prop} {d : Nat} {ty : TypeId} {pos : String} {af : Array Edge}
end rules
end Go.Eng

/- The engine, part 52: memory that is given up. No program in sight. -/
set_option linter.unusedVariables false
set_option linter.unusedSectionVars false
namespace Go.Eng
open Go
variable [GTab]
theorem ImpX.drop {n : Nat} {tm : List (Nat × AV)} {hp hp1 : Heap} {T : St → Prop} {b : Bk} {o : Ob} (dl : Del hp b o hp1) (k : ImpX ⟨n, tm, hp1⟩ T) : ImpX ⟨n, tm, hp⟩ T := by
  have hs : hp1.Sublist hp := by
    obtain ⟨p, q, rfl, rfl⟩ := dl.split
    exact List.Sublist.append (List.Sublist.refl _) (List.sublist_cons_self _ _)
  exact ImpX.step (σ1 := ⟨n, tm, hp1⟩) (fun w S a r => ⟨_, S, rfl, r.less ⟨rfl, fun _ _ h => h, hs⟩, Evo.less (Evo.refl w S hp) fun _ hn => hn.sub hs⟩) k
end Go.Eng

/- The engine, part 53: clear of slices whose elements hold slices. No program in sight. -/
set_option linter.unusedVariables false
set_option linter.unusedSectionVars false
namespace Go.Eng
open Go
variable [GTab]
/-- A zero, cell by cell; no slice yet is the empty list. -/
def zl1 : Value → AV → Bool
  | .slice none 0 0, .list _ [] => true
  | .int k n, .int k' n' => decide (k = k' ∧ n = n')
  | .bool b, .bool c => b == c
  | .string s, .str [] => Nat.beq s.data.size 0
  | _, _ => false
def zlL : List Value → List AV → Bool
  | [], [] => true
  | v :: vs, a :: cs => zl1 v a && zlL vs cs
  | _, _ => false
theorem zl1_at (w : World) (S : Nat → Prop) {z : Value} {a : AV} (h : zl1 z a = true) : At w S a z := by
  unfold zl1 at h
  split at h
  · rename_i sz
    exact At.list sz [] none 0 [] (fun x hx => by cases hx) rfl (fun i c v h => by simp [flat] at h) (fun i v h => by simp at h) (Nat.le_refl _)
  · obtain ⟨rfl, rfl⟩ := of_decide_eq_true h
    exact .int _ _
  · have := eq_of_beq h
    subst this
    exact .bool _
  · rename_i s
    have hs := Nat.eq_of_beq_eq_true h
    obtain ⟨d⟩ := s
    have hd : d = #[] := Array.eq_empty_of_size_eq_zero hs
    subst hd
    exact .str []
  · cases h
theorem zlL_at (w : World) (S : Nat → Prop) : ∀ {vs : List Value} {cs : List AV}, zlL vs cs = true → cs.length = vs.length ∧ ∀ (j : Nat) c v, cs[j]? = some c → vs[j]? = some v → At w S c v
  | [], [], _ => ⟨rfl, fun j c v h => by simp at h⟩
  | v :: vs, a :: cs, h => by
    simp only [zlL, Bool.and_eq_true] at h
    obtain ⟨h1, h2⟩ := zlL_at w S h.2
    refine ⟨by simp [h1], fun j c u k1 k2 => ?_⟩
    cases j with
    | zero => simp at k1 k2; subst k1 k2; exact zl1_at w S h.1
    | succ j => exact h2 j c u (by simpa using k1) (by simpa using k2)
  | [], _ :: _, h => by cases h
  | _ :: _, [], h => by cases h
section rules
variable {P : Program} {all : Array Oper} {rest : List Oper} {n : Nat} {tm : List (Nat × AV)} {hp : Heap} {Q : St → Prop} {d : Nat} {ty : TypeId} {pos : String} {af : Array Edge}
end rules
end Go.Eng

/- The engine, part 54: a captured box that is never written again. No program in sight. -/
set_option linter.unusedVariables false
set_option linter.unusedSectionVars false
namespace Go.Eng
open Go
variable [GTab]
end Go.Eng

/- The engine, part 55: look-ups in maps whose values hold slices. No program in sight. -/
set_option linter.unusedVariables false
set_option linter.unusedSectionVars false
namespace Go.Eng
open Go
variable [GTab]
/-- A zero value; no slice yet is the empty list. -/
def zlV : Value → AV → Bool
  | .agg vs, .agg cs => zlL vs.toList cs
  | z, a => zl1 z a
theorem zlV_at (w : World) (S : Nat → Prop) {z : Value} {a : AV} (h : zlV z a = true) : At w S a z := by
  unfold zlV at h
  split at h
  · obtain ⟨h1, h2⟩ := zlL_at w S h
    exact .agg _ _ (by simpa using h1) (fun i c v k1 k2 => h2 i c v k1 (by simpa using k2))
  · exact zl1_at w S h
section rules
variable {P : Program} {all : Array Oper} {rest : List Oper} {n : Nat} {tm : List (Nat × AV)} {hp : Heap} {Q : St → Prop} {d : Nat} {ty : TypeId} {pos : String} {af : Array Edge}
theorem t_lookupN {K V : Type} [DecidableEq K] {gk : K → AV} {gv : V → AV} {M : List (K × V)} {key : K} {Z v : V} {t kt vt : TypeId} {i : TypeInfo} {z : Value} {x y : Operand} {b : Bk} {av : AV} [TUnder P t (.map kt vt)] [TInfo P vt i] [MKey P kt gk] (hx : evA tm x = some (.mref b)) (hy : evA tm y = some (gk key)) (f : Fnd hp b (.mp (M.map fun e => (gk e.1, gv e.2)))) (hz : i.zero = some z) (hzx : zlV z (gv Z) = true) (h : mgetO M key Z = some v) (hav : gv v = av) :
    QV P ⟨some d, .lookup t x y false, ty, pos, af, none⟩ ⟨n, tm, hp⟩ av := by
  intro w S a r
  have kx := evA_at (σ := ⟨n, tm, hp⟩) r hx
  have ky := evA_at (σ := ⟨n, tm, hp⟩) r hy
  obtain ⟨nb, hb, ex⟩ := kx.mref_inv
  obtain ⟨L, c, M', nb', ents, p1, p2, p3, p4, p5, p6, p7, p8⟩ := mp_open (MKey.inj P kt) r.hp f
  obtain rfl : nb' = nb := by rw [p4] at hb; exact Option.some.inj hb
  unfold mgetO at h
  have hv := Option.some.inj h
  rw [← mget_perm p1 p8] at hv
  have hfind := MKey.find (P := P) (t := kt) (g := gk) ky ents.toList (M'.map Prod.fst) (by simpa using p6.symm) (fun j k' e h1 h2 => by
    rw [List.getElem?_map] at h1
    cases hm : M'[j]? with
    | none => rw [hm] at h1; cases h1
    | some q => rw [hm] at h1; rw [← Option.some.inj h1]; exact (p7 j q e hm h2).1)
  rcases findP_M (gv := gv) (w := w) (S := S) (k := key) M' ents.toList 0 p6.symm (fun j e m h1 h2 => (p7 j e m h1 h2).2) with ⟨q1, q2⟩ | ⟨v', j, val, q1, q2, q3, _⟩
  · refine ⟨z, fun w1 e1 => ?_, ?_⟩
    · simp [execOp, Instr.lookup, ex, run_underlying (TUnder.h (P := P) (t := t)), run_getMap (e1.heap p5), MKey.check (P := P) (t := kt) ky, hfind, q2, zeroValue, typeInfo, TInfo.h (P := P) (t := vt), hz]
    · rw [← hav, ← hv, q1, Option.getD_none]; exact zlV_at w S hzx
  · refine ⟨val, fun w1 e1 => ?_, ?_⟩
    · simp [execOp, Instr.lookup, ex, run_underlying (TUnder.h (P := P) (t := t)), run_getMap (e1.heap p5), MKey.check (P := P) (t := kt) ky, hfind, q2]
    · rw [← hav, ← hv, q1, Option.getD_some]; exact q3
theorem t_lookup2N {K V : Type} [DecidableEq K] {gk : K → AV} {gv : V → AV} {M : List (K × V)} {key : K} {Z : V} {v : V × Bool} {t kt vt : TypeId} {i : TypeInfo} {z : Value} {x y : Operand} {b : Bk} {av : AV} [TUnder P t (.map kt vt)] [TInfo P vt i] [MKey P kt gk] (hx : evA tm x = some (.mref b)) (hy : evA tm y = some (gk key)) (f : Fnd hp b (.mp (M.map fun e => (gk e.1, gv e.2)))) (hz : i.zero = some z) (hzx : zlV z (gv Z) = true) (h : mget2 M key Z = some v) (hav : gv v.1 = av) :
    QV P ⟨some d, .lookup t x y true, ty, pos, af, none⟩ ⟨n, tm, hp⟩ (.tup [av, .bool v.2]) := by
  intro w S a r
  have kx := evA_at (σ := ⟨n, tm, hp⟩) r hx
  have ky := evA_at (σ := ⟨n, tm, hp⟩) r hy
  obtain ⟨nb, hb, ex⟩ := kx.mref_inv
  obtain ⟨L, c, M', nb', ents, p1, p2, p3, p4, p5, p6, p7, p8⟩ := mp_open (MKey.inj P kt) r.hp f
  obtain rfl : nb' = nb := by rw [p4] at hb; exact Option.some.inj hb
  unfold mget2 at h
  have hv := Option.some.inj h
  rw [← mget_perm p1 p8] at hv
  have hfind := MKey.find (P := P) (t := kt) (g := gk) ky ents.toList (M'.map Prod.fst) (by simpa using p6.symm) (fun j k' e h1 h2 => by
    rw [List.getElem?_map] at h1
    cases hm : M'[j]? with
    | none => rw [hm] at h1; cases h1
    | some q => rw [hm] at h1; rw [← Option.some.inj h1]; exact (p7 j q e hm h2).1)
  rcases findP_M (gv := gv) (w := w) (S := S) (k := key) M' ents.toList 0 p6.symm (fun j e m h1 h2 => (p7 j e m h1 h2).2) with ⟨q1, q2⟩ | ⟨v', j, val, q1, q2, q3, _⟩
  · refine ⟨.tuple #[z, .bool false], fun w1 e1 => ?_, ?_⟩
    · simp [execOp, Instr.lookup, ex, run_underlying (TUnder.h (P := P) (t := t)), run_getMap (e1.heap p5), MKey.check (P := P) (t := kt) ky, hfind, q2, zeroValue, typeInfo, TInfo.h (P := P) (t := vt), hz]
    · rw [← hav, ← hv, q1]
      refine .tup _ _ rfl (AtA_two ?_ (.bool _))
      rw [Option.getD_none]; exact zlV_at w S hzx
  · refine ⟨.tuple #[val, .bool true], fun w1 e1 => ?_, ?_⟩
    · simp [execOp, Instr.lookup, ex, run_underlying (TUnder.h (P := P) (t := t)), run_getMap (e1.heap p5), MKey.check (P := P) (t := kt) ky, hfind, q2]
    · rw [← hav, ← hv, q1]
      exact .tup _ _ rfl (AtA_two q3 (.bool _))
end rules
end Go.Eng

/- The engine, part 56: structs of plain cells as keys of maps. No program in sight. -/
set_option linter.unusedVariables false
set_option linter.unusedSectionVars false
namespace Go.Eng
open Go
variable [GTab]
def scB : AV → Bool
  | .int _ _ => true
  | .bool _ => true
  | .str _ => true
  | _ => false
theorem sc_det {w : World} {S : Nat → Prop} {a : AV} {v u : Value} (h : scB a = true) (hv : At w S a v) (hu : At w S a u) : v = u ∧ ∀ n, Instr.sameBits n v v = true := by
  cases a <;> simp only [scB, Bool.false_eq_true] at h
  · rw [hv.int_inv, hu.int_inv]; exact ⟨rfl, fun n => by cases n <;> simp [Instr.sameBits]⟩
  · rw [hv.bool_inv, hu.bool_inv]; exact ⟨rfl, fun n => by cases n <;> simp [Instr.sameBits]⟩
  · rw [hv.str_inv, hu.str_inv]
    refine ⟨rfl, fun n => ?_⟩
    cases n <;> (simp only [Instr.sameBits]; exact (ba_beq _ _).2 rfl)
theorem zip_self_all {α : Type} (p : α × α → Bool) : ∀ (l : List α), (∀ x ∈ l, p (x, x) = true) → (l.zip l).all p = true
  | [], _ => rfl
  | x :: r, h => by
    rw [List.zip_cons_cons, List.all_cons, h x List.mem_cons_self, zip_self_all p r (fun y hy => h y (List.mem_cons_of_mem _ hy))]; rfl
theorem sc_aggs {w : World} {S : Nat → Prop} {cs : List AV} {v u : Value} (h : ∀ c ∈ cs, scB c = true) (hv : At w S (.agg cs) v) (hu : At w S (.agg cs) u) : Instr.sameBits 10000 v u = true := by
  obtain ⟨vs, rfl, hl, ha⟩ := hv.agg_inv
  obtain ⟨us, rfl, hl', ha'⟩ := hu.agg_inv
  have key : ∀ (i : Nat) (h1 : i < vs.size) (h2 : i < us.size), vs[i] = us[i] ∧ ∀ n, Instr.sameBits n vs[i] vs[i] = true := fun i h1 h2 => by
    have hc : cs[i]? = some (cs[i]'(by omega)) := by simp [show i < cs.length by omega]
    exact sc_det (h _ (List.getElem_mem _)) (ha i _ _ hc (by simp [h1])) (ha' i _ _ hc (by simp [h2]))
  have heq : vs = us := Array.ext (by omega) (fun i h1 h2 => (key i h1 h2).1)
  subst heq
  have g : ∀ n : Nat, Instr.sameBits (n + 1) (.agg vs) (.agg vs) = true := fun n => by
    simp only [Instr.sameBits, beq_self_eq_true, Bool.true_and]
    refine zip_self_all _ _ (fun x hx => ?_)
    obtain ⟨i, hi, rfl⟩ := List.getElem_of_mem hx
    simpa using (key i (by simpa using hi) (by simpa using hi)).2 n
  exact g 9999
def scT (D : TypeDesc) : Bool := match D with
  | .int _ => true
  | .bool => true
  | .string => true
  | _ => false
theorem ck_sc {P : Program} {t : TypeId} {D : TypeDesc} (hu : P.underlying t = some D) (hD : scT D = true) (b : Bool) (n : Nat) (v : Value) (w : World) : (Instr.checkKey b (n + 1) t v).run P w = .ok () w := by
  cases D <;> simp only [scT, Bool.false_eq_true] at hD <;> simp [Instr.checkKey, run_underlying hu]
theorem part_sc {P : Program} {t : TypeId} {D : TypeDesc} (hu : P.underlying t = some D) (hD : scT D = true) {cs : Array Value} {off : Nat} {v : Value} (h : cs[off]? = some v) (w : World) : (part t cs off).run P w = .ok v w := by
  unfold part isAgg
  simp only [Sem.run_bind, run_underlying hu, Result.andThen_ok]
  cases D <;> simp_all [scT]
theorem ck_fields {P : Program} (b : Bool) (n : Nat) (vs : Array Value) (w : World) : ∀ (fs : List Field), (∀ f ∈ fs, ∃ D, P.underlying f.type = some D ∧ scT D = true ∧ f.offset < vs.size) → (forIn fs PUnit.unit (fun f (_ : PUnit) => (if f.name ≠ "_" then do
      let x ← part f.type vs f.offset
      Instr.checkKey b (n + 1) f.type x
      pure (ForInStep.yield PUnit.unit)
      else pure (ForInStep.yield PUnit.unit) : Sem (ForInStep PUnit)))).run P w = .ok PUnit.unit w
  | [], _ => by simp
  | f :: fs, h => by
    obtain ⟨D, h1, h2, h3⟩ := h f List.mem_cons_self
    have hp : ∀ w1, (part f.type vs f.offset).run P w1 = .ok vs[f.offset] w1 := part_sc h1 h2 (by simp [h3])
    have ih := ck_fields b n vs w fs (fun g hg => h g (List.mem_cons_of_mem _ hg))
    simp only [List.forIn_cons, Sem.run_bind]
    by_cases hn : f.name = "_"
    · simp only [hn, ne_eq, not_true_eq_false, if_false, Sem.run_pure, Result.andThen_ok]
      exact ih
    · simp only [hn, ne_eq, not_false_eq_true, if_true, Sem.run_bind, hp, Result.andThen_ok, ck_sc h1 h2, Sem.run_pure]
      exact ih
theorem ask_P {P : Program} {t : TypeId} {v : Value} {K : Type} [DecidableEq K] {k : K} {q : K → Value → Prop} (hq : ∀ k' u, q k' u → ∀ w, (Op.equal t v u).run P w = .ok (decide (k' = k)) w) : ∀ (es : List MapEntry) (ks : List K) (i : Nat) (w : World), ks.length = es.length → (∀ (i : Nat) k' e, ks[i]? = some k' → es[i]? = some e → q k' e.key) → (Instr.findAsking t v es i).run P w = .ok (findP k ks es i) w
  | [], [], i, w, _, _ => by simp [Instr.findAsking, findP]
  | [], k' :: ks, i, w, hl, _ => by simp at hl
  | e :: es, [], i, w, hl, _ => by simp at hl
  | e :: es, k' :: ks, i, w, hl, h => by
    unfold Instr.findAsking findP
    rw [Sem.run_bind, hq k' e.key (h 0 k' e rfl rfl)]
    by_cases hk : k' = k
    · simp [hk]
    · simp only [hk, decide_false, Result.andThen_ok, Bool.false_eq_true, if_false]
      exact ask_P hq es ks (i + 1) w (by simpa using hl) (fun i k' e h1 h2 => h (i + 1) k' e (by simpa using h1) (by simpa using h2))
theorem MKey.struct {P : Program} {t : TypeId} {K : Type} [DecidableEq K] {g : K → AV} {dd : Nat} {fs : List Field} {n : Nat} [EqTy P t dd g] (hk : Nat.ble dd 10000 = true) (hu : P.underlying t = some (.struct fs.toArray))
    (hf : ∀ f ∈ fs, ∃ D, P.underlying f.type = some D ∧ scT D = true ∧ f.offset < n) (hg : ∀ x, ∃ cs, g x = .agg cs ∧ cs.length = n ∧ ∀ c ∈ cs, scB c = true) (inj : ∀ a b, g a = g b → a = b) : MKey P t g where
  inj := inj
  check := fun {w S k v} hv b w1 => by
    obtain ⟨cs, e, hl, hs⟩ := hg k
    rw [e] at hv
    obtain ⟨vs, rfl, hl', ha⟩ := hv.agg_inv
    have key : ∀ m : Nat, (Instr.checkKey b (m + 1 + 1) t (.agg vs)).run P w1 = .ok () w1 := fun m => by
      have h1 := ck_fields (P := P) b m vs w1 fs (fun f hm => by obtain ⟨D, h1, h2, h3⟩ := hf f hm; exact ⟨D, h1, h2, by omega⟩)
      rw [Instr.checkKey]
      simp only [Sem.run_bind, run_underlying hu, Result.andThen_ok]
      rw [← Array.forIn_toList]
      simp only [h1, Result.andThen_ok, Sem.run_pure]
    exact key 9998
  find := fun {w S k v} hv es ks hl hk' w1 => by
    obtain ⟨cs, e, hn, hs⟩ := hg k
    have hv' := hv
    rw [e] at hv'
    obtain ⟨vs, rfl, hl', ha⟩ := hv'.agg_inv
    have hq := ask_P (P := P) (t := t) (v := .agg vs) (k := k) (q := fun k' u => At w S (g k') u) (fun k' u hu w2 => by
      have := EqTy.h (P := P) (t := t) (g := g) k k' w S _ _ hv hu (10000 - dd) w2
      rw [Nat.sub_add_cancel (Nat.le_of_ble_eq_true hk)] at this
      rw [show decide (k' = k) = decide (k = k') by rw [Bool.eq_iff_iff]; simp; exact eq_comm]
      exact this) es ks 0 w1 hl (fun i k' e h1 h2 => hk' i k' e h1 h2)
    unfold Instr.findKey
    rw [Sem.run_bind, run_underlying hu]
    simp only [Result.andThen_ok]
    cases es with
    | nil =>
      cases ks with
      | nil => simp [Instr.findNow, findP]
      | cons _ _ => simp at hl
    | cons m es =>
      have : Instr.findNow (.struct fs.toArray) (.agg vs) (m :: es) 0 = none := by
        unfold Instr.findNow; simp [Instr.sameNow]
      rw [this]; exact hq
  bits := fun {w S k v u} h1 h2 => by
    obtain ⟨cs, e, hn, hs⟩ := hg k
    rw [e] at h1 h2
    exact sc_aggs hs h1 h2
end Go.Eng

/- A call of a function value that was handed in, in the head of a drawn region. -/
set_option linter.unusedVariables false
set_option linter.unusedSectionVars false
namespace Go.Eng
open Go
variable [GTab]
section rules
variable {P : Program} {all : Array Oper} {rest : List Oper} {n : Nat} {tm : List (Nat × AV)} {hp : Heap} {Q : List (Nat × AV) → Prop} {d : Nat} {ty : TypeId} {pos : String} {af : Array Edge} {op : Op}
theorem MV.cox {o : Oper} {e : Env} {av av' : AV} (h : MV P all n o e hp av) (c : CoX hp av av') : MV P all n o e hp av' :=
  fun w S a h1 h2 h3 h4 K Q hK => h w S a h1 h2 h3 h4 K Q (fun v w' S' g hv => hK v w' S' g (c.at (h3.grow g) hv))
theorem MV.buildSliceL {t e : TypeId} {i : TypeInfo} {z : Value} {len sz : Nat} {parts : List (Nat × Operand)} {xs : List AV} [TUnder P t (.slice e)] [TInfo P e i] [TSz P e sz] (hz : i.zero = some z)
    (hl : evS (rst (looks all ⟨some d, .buildSlice t len parts.toArray, ty, pos, af, none⟩) tm) parts 0 = some xs) (hlen : Nat.beq parts.length len = true) (hel : allEl i.size xs = true) (h24 : Nat.ble (len * i.size) 16777216 = true) : MV P all n ⟨some d, .buildSlice t len parts.toArray, ty, pos, af, none⟩ (lk tm) hp (.list sz xs) := by
  obtain ⟨i', hi1, hi2⟩ := TSz.h (P := P) (t := e)
  obtain rfl : i' = i := by rw [TInfo.h (P := P) (t := e)] at hi1; exact (Option.some.inj hi1).symm
  subst hi2
  intro w S a h1 h2 h3 h4 K Q' hK
  have r := strel_rst h1 h2 h3 h4
  obtain rfl : parts.length = len := Nat.eq_of_beq_eq_true hlen
  have h24 := Nat.le_of_ble_eq_true h24
  obtain ⟨zz, hzz⟩ : ∃ zz : Array Value, zz = if parts.length * i'.size = 0 then #[] else z.cells := ⟨_, rfl⟩
  obtain ⟨vs, g1, g2, g3, g4⟩ := fill_seq r i'.size parts 0 xs ((Array.range (parts.length * i'.size)).map (zz[· % zz.size]!)) hl (allEl_spec hel) (by simp)
  simp only [Nat.zero_mul, List.take_zero, List.nil_append] at g1
  have e0 := Ext.alloc w (.cells vs.toArray e)
  have hrun : (execOp a.eval ⟨some d, .buildSlice t parts.length parts.toArray, ty, pos, af, none⟩).run P w = .ok (.value (.slice (some ⟨w.heap.size, 0, none⟩) parts.length parts.length)) (w.alloc (.cells vs.toArray e)) := by
    have hm : ((parts.toArray.map fun p => (p.1, a.eval p.2))).toList = parts.map fun p => (p.1, a.eval p.2) := by simp
    simp only [execOp, Instr.buildSlice, Sem.run_bind, run_underlying (TUnder.h (P := P) (t := t)), Result.andThen_ok, sizeOf, typeInfo, run_program, TInfo.h (P := P) (t := e), Sem.run_pure]
    rw [if_neg (by omega)]
    by_cases h0 : parts.length * i'.size = 0
    · rw [if_pos h0] at hzz ⊢
      subst hzz
      simp only [Sem.run_bind, Result.andThen_ok, Sem.run_pure, hm, g1, run_newRow]
    · rw [if_neg h0] at hzz ⊢
      subst hzz
      simp only [Sem.run_bind, Result.andThen_ok, Sem.run_pure, zeroValue, typeInfo, run_program, TInfo.h (P := P) (t := e), hz, hm, g1, run_newRow]
  show Oper.upon P _ a K Q' _
  rw [hrun]
  have hnew : (w.alloc (.cells vs.toArray e)).heap[w.heap.size]? = some (.cells vs.toArray e (0, 0)) := by
    show (w.heap.push _)[w.heap.size]? = _
    simp
  refine hK _ _ (fun m => S m ∨ m = w.heap.size) ⟨e0, fun m hm => .inl hm, fun m hm hs => hs.elim id (fun h => by omega), fun m hm => ?_⟩ ?_
  · rcases hm with hm | hm
    · exact Nat.lt_of_lt_of_le (h3.slt m hm) e0.size
    · subst hm; simp
  · have := At.list (w := w.alloc (.cells vs.toArray e)) (S := fun m => S m ∨ m = w.heap.size) i'.size xs (some ⟨w.heap.size, 0, none⟩) parts.length vs (allEl_spec hel) (by rw [flat_length (allEl_spec hel), g2]) (fun j c u hc hu => ?_) (fun j u hu => ?_) (by omega)
    · rw [g3] at this; exact this
    · exact (g4 j c u hc (by simpa using hu)).mono fun m hm => ⟨.inl hm, e0.same m (h3.slt m hm)⟩
    · refine ⟨_, rfl, rfl, .inr rfl, ?_⟩
      rw [cell_at hnew]
      simpa using hu
theorem AM.buildSliceX {t e : TypeId} {i : TypeInfo} {z : Value} {len sz : Nat} {parts : List (Nat × Operand)} {xs : List AV} {av : AV} [TUnder P t (.slice e)] [TInfo P e i] [TSz P e sz] (hz : i.zero = some z)
    (hl : evS (rst (looks all ⟨some d, .buildSlice t len parts.toArray, ty, pos, af, none⟩) tm) parts 0 = some xs) (hlen : Nat.beq parts.length len = true) (hel : allEl i.size xs = true) (h24 : Nat.ble (len * i.size) 16777216 = true) (hn : Nat.blt d n = true) (c : CoX hp (.list sz xs) av)
    (k : AM P all n hp rest ((d, av) :: tm) Q) : AM P all n hp (⟨some d, .buildSlice t len parts.toArray, ty, pos, af, none⟩ :: rest) tm Q :=
  AM.mv (MV.cox (MV.buildSliceL hz hl hlen hel h24) c) hn k
end rules
section values
variable {P : Program} {n : Nat} {tm : List (Nat × AV)} {hp : Heap} {d : Nat} {ty : TypeId} {pos : String} {af : Array Edge}
end values
end Go.Eng

/- The engine, part 58: lists that may be nil, compared with nil. No program in sight. -/
set_option linter.unusedVariables false
set_option linter.unusedSectionVars false
namespace Go.Eng
open Go
variable [GTab]
/-- A box of ours that is not written again: it is frozen, a slot points to what is in it. -/
theorem ImpX.frzPtr {n s : Nat} {tm : List (Nat × AV)} {hp hp1 : Heap} {T : St → Prop} {b : Bk} {cs : List AV} (hs : lk tm s = some (.ptr b 0)) (dl : Del hp b (.cells cs) hp1) (k : ImpX ⟨n, (s, .rptr cs) :: tm, hp1⟩ T) : ImpX ⟨n, tm, hp⟩ T := by
  refine ImpX.step (σ1 := ⟨n, (s, .rptr cs) :: tm, hp1⟩) (fun w S a r => ?_) k
  obtain ⟨p, q, rfl, rfl⟩ := dl.split
  have hmem : (b, Ob.cells cs) ∈ p ++ (b, .cells cs) :: q := mem_mid.2 (.inl rfl)
  obtain ⟨h1, m0, vs, E, hb0, hh, hsz, ha⟩ := r.hp.holds _ hmem
  have hin : ∀ m, b.blk = some m → m < w.heap.size := fun m hm => r.hp.lt ⟨_, hmem, eb_of hm⟩
  let S' : Nat → Prop := fun m => S m ∨ b.blk = some m
  have mono : ∀ m, S m → S' m ∧ w.heap[m]? = w.heap[m]? := fun m hm => ⟨.inl hm, rfl⟩
  have hnd := r.hp.nodup
  have hsub : (p ++ q).Sublist (p ++ (b, Ob.cells cs) :: q) := List.Sublist.append (List.Sublist.refl _) (List.sublist_cons_self _ _)
  have hrel : HRel w S' (p ++ q) := by
    refine ⟨hnd.sublist (sub_flatMap hsub), fun e he => (r.hp.holds e (hsub.subset he)).mono mono (fun _ _ => rfl), fun e he m hm => ?_, fun m hm => ?_, fun g o ho => ⟨.inl (r.hp.glob g o ho).1, (r.hp.glob g o ho).2⟩⟩
    · rw [← r.hp.sep e (hsub.subset he) m hm]
      refine ⟨fun hs => hs.elim id fun hb => ?_, .inl⟩
      exfalso
      rw [List.flatMap_append, List.flatMap_cons, List.nodup_append, List.nodup_append] at hnd
      rcases List.mem_append.1 he with h | h
      · exact hnd.2.2 m (List.mem_flatMap.2 ⟨e, h, hm⟩) m (List.mem_append_left _ (eb_of hb)) rfl
      · exact hnd.2.1.2.2 m (eb_of hb) m (List.mem_flatMap.2 ⟨e, h, hm⟩) rfl
    · rcases hm with h | h
      · exact r.hp.slt m h
      · exact hin m h
  have hr := r.heap mono hrel
  refine ⟨_, S', rfl, ⟨hr.size, hr.defers, fun t av h => ?_, hr.hp⟩, rfl, rfl, rfl, Nat.le_refl _, mono, fun m hm hh => ⟨rfl, fun hs => hs.elim id fun hb => (hh ⟨_, hmem, eb_of hb⟩).elim⟩, fun m hm => .inl ?_, fun _ => Nat.le_refl _⟩
  · simp only [lk] at h
    split at h
    · rename_i hbq
      obtain rfl : s = t := by simpa using hbq
      obtain rfl := Option.some.inj h
      obtain ⟨v, e1, e2⟩ := hr.tm s _ hs
      cases e2 with
      | ptr _ _ m hb =>
        obtain rfl := Option.some.inj (hb.symm.trans hb0)
        refine ⟨_, e1, .rptr cs ⟨m, 0, none⟩ vs.toList (by simp [hsz]) (fun i c v hc hv => (ha i c v hc (by simpa using hv)).mono mono) rfl (.inr hb) (fun i v hv => ?_)⟩
        rw [cell_at hh]; simpa using hv
    · exact hr.tm t av h
  · obtain ⟨e, he, hb⟩ := hm
    exact ⟨e, hsub.subset he, hb⟩
/-- The list holds something (so it is not nil). -/
def neNil {α : Type} (l : List α) : Option Unit := match l with
  | [] => none
  | _ :: _ => some ()
theorem neNil_some {α : Type} {l : List α} {u : Unit} (h : neNil l = some u) : 0 < l.length := by
  cases l with
  | nil => cases h
  | cons a l => simp
section rules
variable {P : Program} {n : Nat} {tm : List (Nat × AV)} {hp : Heap} {d : Nat} {ty : TypeId} {pos : String} {af : Array Edge}
theorem slice_eqnil {t e : TypeId} [TUnder P t (.slice e)] (oa : Option Addr) (len cap : Nat) (w : World) : (Op.equal t (.slice oa len cap) (.slice none 0 0)).run P w = .ok oa.isNone w := by
  show (Op.equalIn (9999 + 1) t _ _).run P w = _
  rw [Op.equalIn]
  cases oa with
  | none => simp [run_underlying (TUnder.h (P := P) (t := t))]
  | some ad => simp [run_underlying (TUnder.h (P := P) (t := t))]
theorem q_eqlN {t e yt : TypeId} {x y : Operand} [TUnder P t (.slice e)] (hx : evA tm x = some .nil) (hy : evA tm y = some .nil) : QV P ⟨some d, .binOp .eql t x y yt, ty, pos, af, none⟩ ⟨n, tm, hp⟩ (.bool true) := by
  intro w S a r
  have e1 := (evA_at (σ := ⟨n, tm, hp⟩) r hx).nil_inv
  have e7 := (evA_at (σ := ⟨n, tm, hp⟩) r hy).nil_inv
  refine ⟨.bool true, fun w' _ => ?_, .bool _⟩
  have h2 := slice_eqnil (P := P) (t := t) none 0 0 w'
  have h3 : (binOp .eql t (.slice none 0 0) (.slice none 0 0)).run P w' = .ok (.bool true) w' := by
    rw [show binOp .eql t (.slice none 0 0) (.slice none 0 0) = (do pure (.bool (← Op.equal t (.slice none 0 0) (.slice none 0 0)))) from rfl]
    simp [h2]
  simp [execOp, e1, e7, eqGuard_at_slice, h3]
theorem q_eqlS {α : Type} {l : List α} {u : Unit} {t e yt : TypeId} {x y : Operand} {sz off : Nat} {b : Bk} [TUnder P t (.slice e)] (hx : evA tm x = some (.sl sz b off l.length)) (hy : evA tm y = some .nil) (h0 : neNil l = some u) : QV P ⟨some d, .binOp .eql t x y yt, ty, pos, af, none⟩ ⟨n, tm, hp⟩ (.bool false) := by
  intro w S a r
  have h0 := neNil_some h0
  obtain ⟨oa, cap, e1, e2⟩ := (evA_at (σ := ⟨n, tm, hp⟩) r hx).sl_inv
  have e7 := (evA_at (σ := ⟨n, tm, hp⟩) r hy).nil_inv
  obtain ⟨ad, rfl⟩ : ∃ ad, oa = some ad := by
    rcases e2 with ⟨_, _, h, _⟩ | ⟨m, _, h, _⟩ | ⟨m, ad, _, h, _⟩
    · omega
    · exact ⟨_, h⟩
    · exact ⟨_, h⟩
  refine ⟨.bool false, fun w' _ => ?_, .bool _⟩
  have h2 := slice_eqnil (P := P) (t := t) (some ad) l.length cap w'
  have h3 : (binOp .eql t (.slice (some ad) l.length cap) (.slice none 0 0)).run P w' = .ok (.bool false) w' := by
    rw [show binOp .eql t (.slice (some ad) l.length cap) (.slice none 0 0) = (do pure (.bool (← Op.equal t (.slice (some ad) l.length cap) (.slice none 0 0)))) from rfl]
    simp [h2]
  simp [execOp, e1, e7, eqGuard_at_slice, h3]
end rules
end Go.Eng

/- The engine, part 59: what a map owns is frozen: a map of plain lists. No program in sight. -/
set_option linter.unusedVariables false
set_option linter.unusedSectionVars false
namespace Go.Eng
open Go
variable [GTab]
section
variable {K E : Type}
/-- The frozen blocks of a map's entries. -/
def froE (sz : Nat) (g : E → AV) (β : K → Bk) (M : List (K × List E)) : Heap := M.map fun e => (β e.1, .fro sz (e.2.map g))
theorem froE_eb (sz : Nat) (g : E → AV) (β : K → Bk) (M : List (K × List E)) : (froE sz g β M).flatMap eb = (poolE (keptS sz g) β M).filterMap (·.1.blk) := by
  induction M with
  | nil => rfl
  | cons e r ih =>
    unfold froE poolE at ih ⊢
    rw [List.map_cons, List.flatMap_cons, List.map_cons, List.filterMap_cons, ih]
    show (β e.1).blk.toList ++ _ ++ _ = _
    cases (β e.1).blk <;> simp [Ob.more]
/-- The pieces of a pool are frozen, one by one. -/
theorem pool_fro {w : World} {S : Nat → Prop} {hp hp' : Heap} {bp : Bk} {sz : Nat} {g : E → AV} {β : K → Bk} {M : List (K × List E)} (r : HRel w S hp) (dl : Del hp bp (.pool (poolE (keptS sz g) β M)) hp') :
    ∃ S' : Nat → Prop, HRel w S' (froE sz g β M ++ hp') ∧ Evo w S hp w S' (froE sz g β M ++ hp') ∧ ∀ m, S m → S' m := by
  obtain ⟨p, q, rfl, rfl⟩ := dl.split
  have hmem : (bp, Ob.pool (poolE (keptS sz g) β M)) ∈ p ++ (bp, .pool (poolE (keptS sz g) β M)) :: q := mem_mid.2 (.inl rfl)
  obtain ⟨hb0, hall⟩ : bp.blk = none ∧ ∀ e ∈ poolE (keptS sz g) β M, HoldsP w S e.1 e.2 := r.holds _ hmem
  have hebp : eb (bp, Ob.pool (poolE (keptS sz g) β M)) = (froE sz g β M).flatMap eb := by
    rw [froE_eb]; unfold eb Ob.more; rw [hb0]; rfl
  have hF : ∀ e ∈ froE sz g β M, ∀ m, m ∈ eb e → m ∈ eb (bp, Ob.pool (poolE (keptS sz g) β M)) := fun e he m hm => by
    rw [hebp]; exact List.mem_flatMap.2 ⟨e, he, hm⟩
  let S' : Nat → Prop := fun m => S m ∨ m ∈ eb (bp, Ob.pool (poolE (keptS sz g) β M))
  have mono : ∀ m, S m → S' m ∧ w.heap[m]? = w.heap[m]? := fun m hm => ⟨.inl hm, rfl⟩
  have hnd := r.nodup
  have hsub : (p ++ q).Sublist (p ++ (bp, Ob.pool (poolE (keptS sz g) β M)) :: q) := List.Sublist.append (List.Sublist.refl _) (List.sublist_cons_self _ _)
  have hperm : ((froE sz g β M ++ (p ++ q)).flatMap eb).Perm ((p ++ (bp, Ob.pool (poolE (keptS sz g) β M)) :: q).flatMap eb) := by
    rw [List.flatMap_append, List.flatMap_append, List.flatMap_append, List.flatMap_cons, hebp, ← List.append_assoc, ← List.append_assoc]
    exact List.perm_append_comm.append_right _
  have hdis : ∀ e ∈ p ++ q, ∀ m, m ∈ eb e → m ∈ eb (bp, Ob.pool (poolE (keptS sz g) β M)) → False := fun e he m hm hm2 => by
    rw [List.flatMap_append, List.flatMap_cons, List.nodup_append, List.nodup_append] at hnd
    rcases List.mem_append.1 he with h | h
    · exact hnd.2.2 m (List.mem_flatMap.2 ⟨e, h, hm⟩) m (List.mem_append_left _ hm2) rfl
    · exact hnd.2.1.2.2 m hm2 m (List.mem_flatMap.2 ⟨e, h, hm⟩) rfl
  have hrel : HRel w S' (froE sz g β M ++ (p ++ q)) := by
    refine ⟨hperm.nodup_iff.2 hnd, fun e he => ?_, fun e he m hm => ?_, fun m hm => ?_, fun g o ho => ⟨.inl (r.glob g o ho).1, (r.glob g o ho).2⟩⟩
    · rcases List.mem_append.1 he with h | h
      · obtain ⟨x, hx, rfl⟩ := List.mem_map.1 h
        exact Holds.mono (o := .fro sz (x.2.map g)) mono (fun _ _ => rfl) (show Holds w S (β x.1) (.arr sz (x.2.map g)) from HoldsP.ob.1 (hall (β x.1, .arr sz (x.2.map g)) (List.mem_map.2 ⟨x, hx, rfl⟩)))
      · exact (r.holds e (hsub.subset h)).mono mono (fun _ _ => rfl)
    · rcases List.mem_append.1 he with h | h
      · have h2 := hF e h m hm
        obtain ⟨x, hx, rfl⟩ := List.mem_map.1 h
        exact ⟨fun _ => trivial, fun _ => .inr h2⟩
      · rw [← r.sep e (hsub.subset h) m hm]
        exact ⟨fun hs => hs.elim id fun hb => (hdis e h m hm hb).elim, .inl⟩
    · rcases hm with h | h
      · exact r.slt m h
      · exact r.lt ⟨_, hmem, h⟩
  refine ⟨S', hrel, ⟨rfl, rfl, rfl, Nat.le_refl _, mono, fun m hm hh => ⟨rfl, fun hs => hs.elim id fun hb => (hh ⟨_, hmem, hb⟩).elim⟩, fun m hm => .inl ?_, fun _ => Nat.le_refl _⟩, fun m h => .inl h⟩
  obtain ⟨e, he, hm⟩ := hm
  rcases List.mem_append.1 he with h | h
  · exact ⟨_, hmem, hF e h m hm⟩
  · exact ⟨e, hsub.subset h, hm⟩
theorem fnd_mem {e : Bk × Ob} : ∀ {h : Heap}, e ∈ h → Fnd h e.1 e.2
  | x :: r, he => by
    rcases List.mem_cons.1 he with rfl | he
    · exact .here
    · exact .next (fnd_mem he)
/-- The map reads the frozen lists. -/
theorem map_fro {w : World} {S : Nat → Prop} {hp hp1 : Heap} {bm : Bk} {gk : K → AV} {sz : Nat} {g : E → AV} {β : K → Bk} {M : List (K × List E)} (hinj : ∀ a b, gk a = gk b → a = b) (r : HRel w S (froE sz g β M ++ hp)) (u : Upd hp bm (.mp (mapE gk (keptS sz g) β M)) bm (.mp (M.map fun e => (gk e.1, .list sz (e.2.map g)))) hp1) :
    HRel w S (froE sz g β M ++ hp1) ∧ Evo w S (froE sz g β M ++ hp) w S (froE sz g β M ++ hp1) := by
  have u' : Upd (froE sz g β M ++ hp) bm (.mp (mapE gk (keptS sz g) β M)) bm (.mp (M.map fun e => (gk e.1, .list sz (e.2.map g)))) (froE sz g β M ++ hp1) := .skip u
  have f := u'.fnd
  rw [mapE_withB] at f
  obtain ⟨L, c, M2, n, ents, p1, p2, p3, p4, p5, p6, p7, p8⟩ := mp_open (gv := fun p : Bk × List E => (keptS sz g).val p.1 p.2) hinj r f
  obtain ⟨n', ents', g1, g2, g3, g4, g5, g6, g7⟩ := p3
  have hM2 : ∀ x ∈ M2, ∃ e ∈ M, x = (e.1, (β e.1, e.2)) := fun x hx => by
    obtain ⟨e, he, rfl⟩ := List.mem_map.1 (p1.mem_iff.1 hx); exact ⟨e, he, rfl⟩
  let cv : MEnt × (K × (Bk × List E)) → MEnt := fun z => ⟨z.1.k, .list sz (z.2.2.2.map g), z.1.born⟩
  have hlen : L.length = M2.length := by have := congrArg List.length p2; simpa using this
  have hz1 : (L.zip M2).map (fun z => z.1) = L := List.map_fst_zip (by omega)
  have hz2 : (L.zip M2).map (fun z => z.2) = M2 := List.map_snd_zip (by omega)
  have hkv : ∀ z ∈ L.zip M2, z.1.k = gk z.2.1 ∧ z.1.v = (keptS sz g).val z.2.2.1 z.2.2.2 := fun z hz => by
    obtain ⟨i, hi, hzi⟩ := List.getElem_of_mem hz
    have hi1 : i < L.length := by simp at hi; omega
    have hi2 : i < M2.length := by omega
    have hzz : z = (L[i], M2[i]) := by rw [← hzi, List.getElem_zip]
    have h1 : (L.map MEnt.kv)[i]? = (M2.map fun e => (gk e.1, (keptS sz g).val e.2.1 e.2.2))[i]? := by rw [p2]
    rw [List.getElem?_map, List.getElem?_map, List.getElem?_eq_getElem hi1, List.getElem?_eq_getElem hi2] at h1
    have h2 := Prod.mk.inj (Option.some.inj h1)
    rw [hzz]; exact h2
  have hH : Holds w S bm (.mp (M.map fun e => (gk e.1, .list sz (e.2.map g)))) := by
    refine ⟨(L.zip M2).map cv, c, ?_, n', ents', g1, g2, by rw [g3]; simp; omega, fun i e m he hm => ?_, fun e he => ?_, ?_, ?_⟩
    · have e1 : ((L.zip M2).map cv).map MEnt.kv = M2.map (fun x => (gk x.1, AV.list sz (x.2.2.map g))) := by
        conv => rhs; rw [← hz2]
        rw [List.map_map, List.map_map]
        refine List.map_congr_left fun z hz => ?_
        show (z.1.k, AV.list sz (z.2.2.2.map g)) = (gk (z.2).1, AV.list sz ((z.2).2.2.map g))
        rw [(hkv z hz).1]
      rw [e1]
      refine (p1.map _).trans ?_
      unfold withB
      rw [List.map_map]
      exact List.Perm.refl _
    · rw [List.getElem?_map] at he
      cases hzi : (L.zip M2)[i]? with
      | none => rw [hzi] at he; cases he
      | some z =>
        rw [hzi] at he
        obtain rfl := Option.some.inj he
        have hz : z ∈ L.zip M2 := List.mem_of_getElem? hzi
        have hLi : L[i]? = some z.1 := by
          have : ((L.zip M2).map (fun z => z.1))[i]? = some z.1 := by rw [List.getElem?_map, hzi]; rfl
          rw [hz1] at this; exact this
        obtain ⟨a1, a2, a3⟩ := g4 i z.1 m hLi hm
        refine ⟨a1, a2, ?_⟩
        obtain ⟨x, hx, hx2⟩ := hM2 z.2 (by rw [← hz2]; exact List.mem_map.2 ⟨z, hz, rfl⟩)
        rw [(hkv z hz).2, hx2] at a3
        show At w S (.list sz (z.2.2.2.map g)) m.val
        rw [hx2]
        have hfro : (β x.1, Ob.fro sz (x.2.map g)) ∈ froE sz g β M ++ hp := List.mem_append_left _ (List.mem_map.2 ⟨x, hx, rfl⟩)
        exact (Co.froT (fnd_mem hfro)).at r a3
    · obtain ⟨z, hz, rfl⟩ := List.mem_map.1 he
      exact g5 z.1 (by rw [← hz1]; exact List.mem_map.2 ⟨z, hz, rfl⟩)
    · rw [List.map_map]
      have : (L.zip M2).map ((fun e : MEnt => e.born) ∘ cv) = L.map (·.born) := by
        conv => rhs; rw [← hz1, List.map_map]
        rfl
      rw [this]; exact g6
    · rw [List.map_map]
      have : (L.zip M2).map ((fun e : MEnt => e.k) ∘ cv) = L.map (·.k) := by
        conv => rhs; rw [← hz1, List.map_map]
        rfl
      rw [this]; exact g7
  obtain ⟨r1, e1, _⟩ := upd_rel r u' (GB_refl w bm.blk) id id hH (.inl rfl)
  exact ⟨r1, e1⟩
end
/-- A map that owns its lists becomes a map of plain lists. -/
theorem ImpX.mapFro {n : Nat} {tm : List (Nat × AV)} {hp hp1 hp' : Heap} {T : St → Prop} {K E : Type} {gk : K → AV} {sz : Nat} {g : E → AV} {β : K → Bk} {M : List (K × List E)} {bm bp : Bk} (hinj : ∀ a b, gk a = gk b → a = b)
    (dl : Del hp bp (.pool (poolE (keptS sz g) β M)) hp1) (u : Upd hp1 bm (.mp (mapE gk (keptS sz g) β M)) bm (.mp (M.map fun e => (gk e.1, .list sz (e.2.map g)))) hp') (k : ImpX ⟨n, tm, hp'⟩ T) : ImpX ⟨n, tm, hp⟩ T := by
  refine ImpX.step (σ1 := ⟨n, tm, hp'⟩) (fun w S a r => ?_) k
  obtain ⟨S', r1, e1, m1⟩ := pool_fro r.hp dl
  obtain ⟨r2, e2⟩ := map_fro hinj r1 u
  have hs : hp'.Sublist (froE sz g β M ++ hp') := List.sublist_append_right _ _
  have q := r.heap (S' := S') (fun m hm => ⟨m1 m hm, rfl⟩) r2
  exact ⟨_, S', rfl, q.less ⟨rfl, fun _ _ h => h, hs⟩, Evo.less (e1.trans e2) fun _ hn => hn.sub hs⟩
end Go.Eng

/- The engine, part 60: method values, and loops that run a fixed number of times. No program in sight. -/
set_option linter.unusedVariables false
set_option linter.unusedSectionVars false
namespace Go.Eng
open Go
variable [GTab]
/-- A box of ours stands in a block. -/
theorem ImpX.blkOf {n : Nat} {tm : List (Nat × AV)} {hp : Heap} {T : St → Prop} {b : Bk} {cs : List AV} (f : Fnd hp b (.cells cs)) (k : ∀ m, b.blk = some m → ImpX ⟨n, tm, hp⟩ T) : ImpX ⟨n, tm, hp⟩ T := fun w S a r => by
  obtain ⟨_, m, vs, E, hb, _⟩ := r.hp.holds _ f.mem
  exact k m hb w S a r
section rules
variable {P : Program} {all : Array Oper} {rest : List Oper} {n : Nat} {tm : List (Nat × AV)} {hp : Heap} {Q : St → Prop} {d : Nat} {ty : TypeId} {pos : String} {af : Array Edge}
/-- A method value: its receiver is a box of ours. -/
theorem q_makeFuncB {fn : Fn} {x : Operand} {b : Bk} {m : Nat} (hb : b.blk = some m) (hx : evA tm x = some (.ptr b 0)) : QV P ⟨some d, .makeFunc fn #[x] #[], ty, pos, af, none⟩ ⟨n, tm, hp⟩ (.raw (.func fn #[.pointer (some ⟨m, 0, none⟩)] #[])) :=
  (fun w S a r => by
    have h := evA_at (σ := ⟨n, tm, hp⟩) r hx
    have e : a.eval x = .pointer (some ⟨m, 0, none⟩) := by
      cases hh : a.eval x <;> rw [hh] at h <;> cases h
      rename_i k hk
      rw [hb] at hk; obtain rfl := Option.some.inj hk; rfl
    exact ⟨_, fun _ _ => by simp [execOp, Instr.makeFunc, e], .raw _⟩)
theorem run_exec_callb {f : FuncId} {x : Operand} {args : List Operand} {ts : Array TypeId} {dd : Option Nat} {v : Value} [IsFn P f] (a : Act) (w : World) (hx : a.eval x = .func (.func f) #[v] #[]) :
    (execOp a.eval ⟨dd, .call { callee := .value x, args := args.toArray, argTypes := ts }, ty, pos, af, none⟩).run P w = .ok (.enter f (v :: args.map a.eval).toArray) w := by
  simp [execOp, resolve, hx, Deferred.ofValue, invoke, run_callFunc]
/-- A call of a method value. -/
theorem t_callb {f : FuncId} {x : Operand} {args : List Operand} {ts : Array TypeId} {l l' : List AV} {h0 hr : Heap} {Qc : AV → Heap → Prop} {b : Bk} {m : Nat} [IsFn P f] (hb : b.blk = some m) (hx : evA tm x = some (.raw (.func (.func f) #[.pointer (some ⟨m, 0, none⟩)] #[]))) (hl : evL tm args = some l) (c : ACall P f l' h0 Qc) (co : CoL hp (.ptr b 0 :: l) l') (hsel : Sel hp h0 hr) (hn : Nat.blt d n = true)
    (kk : ∀ r h', Qc r h' → ARun P all rest ⟨n, (d, r) :: tm, h' ++ hr⟩ Q) : ARun P all (⟨some d, .call { callee := .value x, args := args.toArray, argTypes := ts }, ty, pos, af, none⟩ :: rest) ⟨n, tm, hp⟩ Q := by
  have hs := hsel.perm
  refine ARun.callx rfl fun w S a r => ?_
  have e1 := (evA_at (σ := ⟨n, tm, hp⟩) r hx).raw_inv
  refine ⟨f, _, run_exec_callb a w e1, ?_⟩
  obtain ⟨g1, g2⟩ := evL_vals (σ := ⟨n, tm, hp⟩) r hl
  obtain ⟨g3, g4⟩ := CoL.at r.hp co (vs := .pointer (some ⟨m, 0, none⟩) :: args.map a.eval) (by simp [g1]) (fun i c v hc hv => by
    match i with
    | 0 =>
      simp at hc hv
      subst hc; subst hv
      exact .ptr b 0 m hb
    | i + 1 => exact g2 i c v (by simpa using hc) (by simpa using hv))
  have rp := r.hp.perm hs
  refine (c.frame hr w S _ rp (by simpa using g3) g4).mono ?_
  rintro e w' ⟨v, rr, h', S', rfl, ⟨h1, rfl, hq⟩, h3, h4, h5⟩
  have ev : Evo w S hp w' S' (h1 ++ hr) := { h5 with
    other := fun m hm hh => h5.other m hm (fun ⟨x, hx, hb⟩ => hh ⟨x, hs.mem_iff.2 hx, hb⟩)
    new := fun m hm => (h5.new m hm).imp (fun ⟨x, hx, hb⟩ => ⟨x, hs.mem_iff.2 hx, hb⟩) id }
  exact ⟨v, S', ⟨n, (d, rr) :: tm, h1 ++ hr⟩, rfl, (r.heap h5.keep h4).put hn h3, ev, kk rr h1 hq⟩
theorem t_callb0 {f : FuncId} {x : Operand} {args : List Operand} {ts : Array TypeId} {l l' : List AV} {h0 hr H H' : Heap} {V : AV} {b : Bk} {m : Nat} [IsFn P f] (hb : b.blk = some m) (hx : evA tm x = some (.raw (.func (.func f) #[.pointer (some ⟨m, 0, none⟩)] #[]))) (hl : evL tm args = some l) (c : ACall P f l' h0 (T0 H V)) (co : CoL hp (.ptr b 0 :: l) l') (hs : Sel hp h0 hr) (ha : appO H hr = some H') (hn : Nat.blt d n = true)
    (kk : ARun P all rest ⟨n, (d, V) :: tm, H'⟩ Q) : ARun P all (⟨some d, .call { callee := .value x, args := args.toArray, argTypes := ts }, ty, pos, af, none⟩ :: rest) ⟨n, tm, hp⟩ Q :=
  t_callb hb hx hl c co hs hn (fun r h' ⟨e1, e2⟩ => by subst e1; subst e2; rw [appO_eq ha]; exact kk)
end rules
section
variable {P : Program} {R : St → Prop} {k : List It} {σ : St}
/-- A loop that runs at most so many times. -/
def ARounds (P : Program) (R : St → Prop) (body : Code) (k : List It) : Nat → St → Prop
  | 0 => fun _ => False
  | n + 1 => fun σ => ATodo P R (.code body :: .stop (fun σ' => ImpX σ' (ARounds P R body k n)) :: k) σ
theorem ARounds.next {body : Code} {n : Nat} (h : ATodo P R (.code body :: .stop (fun σ' => ImpX σ' (ARounds P R body k n)) :: k) σ) : ARounds P R body k (n + 1) σ := h
theorem TD.stop_mono {I J : St → Prop} (h : ∀ σ, I σ → J σ) : ∀ (e : Exit) (σ : St), TD P R (.stop I :: k) e σ → TD P R (.stop J :: k) e σ
  | .normal, σ, g => h σ g
  | .exit _, _, g => g
  | .goto _, _, g => g
  | .ret, _, g => g
  | .panic _, _, g => g
  | .outgrown, _, g => g
theorem ATodo.loopN {body : Code} (m : Nat) (h : ARounds P R body k m σ) : ATodo P R (.code (.loop body) :: k) σ := by
  refine ATodo.loopx (fun m σ => ARounds P R body k m σ) m (ImpX.here h) (fun m σ hI => ?_)
  cases m with
  | zero => exact hI.elim
  | succ m =>
    intro w S a r
    refine wp_mono (hI w S a r) ?_
    rintro e a2 w2 ⟨σ2, S2, h2, hr2, he2⟩
    exact ⟨σ2, S2, TD.stop_mono (fun σ' hk => ⟨m, Nat.lt_succ_self m, hk⟩) e σ2 h2, hr2, he2⟩
end
end Go.Eng

/- The engine, part 61: guards in regions with tokens. No program in sight. -/
set_option linter.unusedVariables false
set_option linter.unusedSectionVars false
namespace Go.Eng
open Go
variable [GTab]
/-- The same is the same (a short name). -/
theorem J {α : Sort _} {a : α} : a = a := rfl
section rules
variable {P : Program} {all : Array Oper} {n : Nat} {B : Heap} {tk : List Tok} {dy : List Nat} {i : Nat} {rest : List Oper} {tm : List (Nat × AV)} {acc : (Nat → Bk) → List (Nat × AV)} {Q : (Nat → Bk) → List (Nat × AV) → Prop} {d : Nat} {ty : TypeId} {pos : String} {af : Array Edge} {op : Op}
/-- An operation whose guard lets it be done. -/
theorem AT.guard_yes {j : Nat} {want b : Bool} {s : Nat} (hj : (all[j]?).bind (·.dst) = some s) (hs : lk tm s = some (.bool b)) (hb : b = want)
    (k : AT P all n B tk dy i (⟨some d, op, ty, pos, af, none⟩ :: rest) tm acc Q) : AT P all n B tk dy i (⟨some d, op, ty, pos, af, some (j, want)⟩ :: rest) tm acc Q := by
  obtain ⟨D, tm', h1, h2⟩ := k
  cases h1 with
  | @cons _ _ _ _ _ _ D1 x V h hv hx kk =>
    refine ⟨(x, V) :: D1, tm', .cons (fun β => ?_) hv hx kk, fun β => ?_⟩
    · obtain ⟨g1, g2⟩ := h β
      refine ⟨g1, .inl ⟨⟨s, hj, .inl ⟨b, orE_l hs, by simp [hb]⟩⟩, ?_⟩⟩
      rcases g2 with ⟨_, g3⟩ | ⟨g3, _⟩
      · intro w S a s1 s2 s3 s4 K Q' hK
        exact g3 w S a s1 s2 s3 (fun t ht => s4 t (by simp only [looks, List.append_nil] at ht ⊢; exact List.mem_append_left _ ht)) K Q' hK
      · simp [Wanted] at g3
    · have := h2 β
      cases x <;> exact this
/-- One operation that turns new memory; its result is told without it. -/
theorem AT.runES {av : AV} {Ti H1 : (Nat → Bk) → Heap} {Pi H2 : Bk → Heap} (hrd : ∀ β, readT tk i β = []) (hti : ∀ β, tinT tk i β = Ti β) (hto : ∀ β b, toutT tk i (updB β i b) = Pi b) (h1 : ∀ β, appO (Ti β) B = some (H1 β)) (h2 : ∀ b, appO (Pi b) B = some (H2 b)) (hn : Nat.blt d n = true)
    (hrun : ∀ β, ARun P all [⟨some d, op, ty, pos, af, none⟩] ⟨n, rst (looks all ⟨some d, op, ty, pos, af, none⟩) (tm ++ acc β), H1 β⟩ (fun σ' => ∃ b tm1, σ' = ⟨n, tm1, H2 b⟩ ∧ lk tm1 d = some av))
    (k : AT P all n B tk dy (i + 1) rest ((d, av) :: tm) acc Q) : AT P all n B tk dy i (⟨some d, op, ty, pos, af, none⟩ :: rest) tm acc Q := by
  refine AT.sta rfl (fun β => ?_) k
  rw [hrd β, List.nil_append, hti β, show (fun b => toutT tk i (updB β i b)) = Pi from funext (hto β), ← lk_append]
  refine tstep_run rfl (fun d' hd' => by obtain rfl := Option.some.inj hd'; simpa using hn) (h1 β) h2 ?_ (fun e => by cases e)
  refine fun w S a r => wpList_mono ?_ _ _ _ (hrun β w S a r)
  rintro e a' w' ⟨he, σ', S', ⟨b, tm1, q1, q2⟩, hh⟩
  exact ⟨he, σ', S', ⟨b, tm1, q1, fun d' hd' => by obtain rfl := Option.some.inj hd'; exact q2⟩, hh⟩
end rules
section
variable {P : Program} {o : Oper} {σ : St}
theorem QV.intE {k : IntKind} {a b : Int} (h : a = b) (q : QV P o σ (.int k a)) : QV P o σ (.int k b) := h ▸ q
theorem QV.dT {p : Prop} [Decidable p] (hc : p) (h : QV P o σ (.bool (decide p))) : QV P o σ (.bool true) := by rw [decide_eq_true hc] at h; exact h
theorem QV.dF {p : Prop} [Decidable p] (hc : ¬ p) (h : QV P o σ (.bool (decide p))) : QV P o σ (.bool false) := by rw [decide_eq_false hc] at h; exact h
theorem QV.bT {b : Bool} (hc : b = true) (h : QV P o σ (.bool b)) : QV P o σ (.bool true) := hc ▸ h
theorem QV.bF {b : Bool} (hc : ¬ b = true) (h : QV P o σ (.bool b)) : QV P o σ (.bool false) := by rw [Bool.not_eq_true] at hc; rw [hc] at h; exact h
end
end Go.Eng

