/- The engine, part 19: structs are compared. No program in sight. -/
import Derived.Test.YtbcbhhbbejcnnaaEng18
import Derived.Laws.StructEq
set_option linter.unusedVariables false
namespace Go.Eng
open Go

def EqR (P : Program) (k : Nat) (t : TypeId) (v u : Value) (b : Bool) : Prop := ∀ d w, (Op.equalIn (d + k) t v u).run P w = .ok b w
theorem EqR.up {P : Program} {k : Nat} {t : TypeId} {v u : Value} {b : Bool} (h : EqR P k t v u b) (j : Nat) : EqR P (k + j) t v u b := fun d w => by
  rw [show d + (k + j) = (d + j) + k from by omega]; exact h _ w
theorem EqR.cast {P : Program} {k : Nat} {t : TypeId} {v u : Value} {b b' : Bool} (h : EqR P k t v u b) (e : b = b') : EqR P k t v u b' := by rw [← e]; exact h

inductive EqFs (P : Program) (k : Nat) (xs ys : Array Value) : List Field → Bool → Prop
  | nil : EqFs P k xs ys [] true
  | cons {f : Field} {fs : List Field} {px py : Value} {b b' : Bool} (hn : f.name ≠ "_") (hx : ∀ w, (part f.type xs f.offset).run P w = .ok px w) (hy : ∀ w, (part f.type ys f.offset).run P w = .ok py w) (he : EqR P k f.type px py b) (kk : EqFs P k xs ys fs b') : EqFs P k xs ys (f :: fs) (b && b')

theorem EqFs.run {P : Program} {k : Nat} {xs ys : Array Value} {fs : List Field} {b : Bool} (h : EqFs P k xs ys fs b) (d : Nat) (w : World) : (Op.eqFields (d + k) xs ys fs).run P w = .ok b w := by
  induction h with
  | nil => simp [Op.eqFields]
  | @cons f fs px py b b' hn hx hy he kk ih =>
    simp only [Op.eqFields, hn, ne_eq, not_false_eq_true, if_true, Sem.run_bind, hx, hy, he d w, Result.andThen_ok]
    cases b
    · simp
    · simpa using ih

theorem EqR.struct {P : Program} {k : Nat} {t : TypeId} {xs ys : Array Value} {fs : List Field} {b : Bool} (hu : P.underlying t = some (.struct fs.toArray)) (hp : P.stoodInHeld t = false) (h : EqFs P k xs ys fs b) : EqR P (k + 1) t (.agg xs) (.agg ys) b := by
  intro d w
  have hf : P.fieldsOf t = fs.toArray := by simp [Program.fieldsOf, hu]
  rw [show d + (k + 1) = (d + k) + 1 from rfl, run_equalIn_struct w (d + k) t xs ys (by rw [hf]; exact hu) hp, hf]
  exact h.run d w

theorem part_one {P : Program} {t : TypeId} {D : TypeDesc} [TUnder P t D] (hD : TypeDesc.isAggB D = false) {cs : Array Value} {off : Nat} {v : Value} (h : cs[off]? = some v) (w : World) : (part t cs off).run P w = .ok v w := by
  unfold part isAgg
  simp only [Sem.run_bind, run_underlying (TUnder.h (P := P) (t := t)), Result.andThen_ok]
  cases D <;> simp_all [TypeDesc.isAggB]
theorem part_agg {P : Program} {t : TypeId} {D : TypeDesc} {i : TypeInfo} [TUnder P t D] [TInfo P t i] (hD : TypeDesc.isAggB D = true) {cs : Array Value} {off n : Nat} (hn : i.size = n) (w : World) : (part t cs off).run P w = .ok (.agg (cs.extract off (off + n))) w := by
  subst hn
  unfold part isAgg
  simp only [Sem.run_bind, run_underlying (TUnder.h (P := P) (t := t)), Result.andThen_ok]
  cases D <;> simp_all [TypeDesc.isAggB, sizeOf, typeInfo, TInfo.h (P := P) (t := t)]

theorem AtA.get {w : World} {S : Nat → Prop} {cs : List AV} {vs : Array Value} (hl : cs.length = vs.size) (ha : AtA w S cs vs) {off : Nat} {c : AV} (hc : cs[off]? = some c) : ∃ v, vs[off]? = some v ∧ At w S c v := by
  have hlt := (List.getElem?_eq_some_iff.1 hc).1
  have : off < vs.size := by omega
  exact ⟨vs[off], by simp [this], ha off c _ hc (by simp [this])⟩
theorem AtA.sub {w : World} {S : Nat → Prop} {cs : List AV} {vs : Array Value} (hl : cs.length = vs.size) (ha : AtA w S cs vs) (off n : Nat) (h : off + n ≤ cs.length) : At w S (.agg ((cs.drop off).take n)) (.agg (vs.extract off (off + n))) := by
  refine .agg _ _ (by simp; omega) (fun i c v hc hv => ?_)
  simp only [List.getElem?_take, List.getElem?_drop] at hc
  split at hc
  · rename_i hi
    refine ha (off + i) c v hc ?_
    rw [Array.getElem?_extract] at hv
    split at hv
    · exact hv
    · cases hv
  · cases hc

class EqTy (P : Program) (t : TypeId) (k : outParam Nat) {α : Type} [DecidableEq α] (g : α → AV) : Prop where
  h : ∀ (x y : α) (w : World) (S : Nat → Prop) (v u : Value), At w S (g x) v → At w S (g y) u → EqR P k t v u (decide (x = y))
class EqGd (P : Program) (t : TypeId) : Prop where
  h : P.eqGuardType P.depth t = false

instance eqInt {P : Program} {t : TypeId} {k : IntKind} [TUnder P t (.int k)] : EqTy P t 1 (AV.int k) := ⟨fun x y w S v u hv hu d w' => by
  rw [hv.int_inv, hu.int_inv, Op.equalIn]
  simp [run_underlying (TUnder.h (P := P) (t := t))]
  rw [Bool.eq_iff_iff]; simp⟩
instance eqInt64 {P : Program} {t : TypeId} [TUnder P t (.int .i64)] : EqTy P t 1 I := eqInt (k := .i64)
instance eqBool {P : Program} {t : TypeId} [TUnder P t .bool] : EqTy P t 1 AV.bool := ⟨fun x y w S v u hv hu d w' => by
  rw [hv.bool_inv, hu.bool_inv, Op.equalIn]
  simp [run_underlying (TUnder.h (P := P) (t := t))]
  rw [Bool.eq_iff_iff]; simp⟩
instance eqStr {P : Program} {t : TypeId} [TUnder P t .string] : EqTy P t 1 AV.str := ⟨fun x y w S v u hv hu d w' => by
  rw [hv.str_inv, hu.str_inv, Op.equalIn]
  simp [run_underlying (TUnder.h (P := P) (t := t))]
  rw [Bool.eq_iff_iff]
  rw [beq_toListBytes, ByteArray.toList_eq, ByteArray.toList_eq]
  simp⟩

def andI (k : IntKind) (x y : Int) : Int := k.wrap ((BitVec.ofInt k.bits x &&& BitVec.ofInt k.bits y).toNat : Int)
def orI (k : IntKind) (x y : Int) : Int := k.wrap ((BitVec.ofInt k.bits x ||| BitVec.ofInt k.bits y).toNat : Int)
def xorI (k : IntKind) (x y : Int) : Int := k.wrap ((BitVec.ofInt k.bits x ^^^ BitVec.ofInt k.bits y).toNat : Int)
def andNotI (k : IntKind) (x y : Int) : Int := k.wrap ((BitVec.ofInt k.bits x &&& ~~~BitVec.ofInt k.bits y).toNat : Int)
def shlI (k : IntKind) (x y : Int) : Int := k.wrap (x * 2 ^ min y.toNat k.bits)
def shrI (k : IntKind) (x y : Int) : Int := x.fdiv (2 ^ min y.toNat k.bits)
def shlO (k : IntKind) (x y : Int) : Option Int := if y < 0 then none else some (shlI k x y)
def shrO (k : IntKind) (x y : Int) : Option Int := if y < 0 then none else some (shrI k x y)
section rules
variable {P : Program} {all : Array Oper} {rest : List Oper} {n : Nat} {tm : List (Nat × AV)} {hp : Heap} {Q : St → Prop} {d : Nat} {ty : TypeId} {pos : String} {af : Array Edge}
theorem t_teq {α : Type} [DecidableEq α] {g : α → AV} {X Y : α} {k : Nat} {xt yt : TypeId} {x y : Operand} {cs ds : List AV} [EqTy P xt k g] [EqGd P xt] (hk : Nat.ble k 10000 = true) (hx : evA tm x = some (.agg cs)) (hy : evA tm y = some (.agg ds)) (eX : g X = .agg cs) (eY : g Y = .agg ds) :
    QV P ⟨some d, .binOp .eql xt x y yt, ty, pos, af, none⟩ ⟨n, tm, hp⟩ (.bool (decide (X = Y))) := by
  intro w S a r
  have hv := evA_at (σ := ⟨n, tm, hp⟩) r hx
  have hu := evA_at (σ := ⟨n, tm, hp⟩) r hy
  have he := EqTy.h (P := P) (t := xt) (g := g) X Y w S _ _ (by rw [eX]; exact hv) (by rw [eY]; exact hu)
  obtain ⟨vs, e1, _, _⟩ := hv.agg_inv
  obtain ⟨us, e2, _, _⟩ := hu.agg_inv
  refine ⟨.bool (decide (X = Y)), fun w1 _ => ?_, .bool _⟩
  have h1 := run_eqGuard_agg (P := P) w1 .eql xt x y vs us EqGd.h
  rw [e1, e2] at he
  have h2 : (Op.equal xt (.agg vs) (.agg us)).run P w1 = .ok (decide (X = Y)) w1 := by
    have := he (10000 - k) w1
    rw [Nat.sub_add_cancel (Nat.le_of_ble_eq_true hk)] at this
    exact this
  have h3 : (binOp .eql xt (.agg vs) (.agg us)).run P w1 = .ok (.bool (decide (X = Y))) w1 := by
    rw [show binOp .eql xt (.agg vs) (.agg us) = (do pure (.bool (← Op.equal xt (.agg vs) (.agg us)))) from rfl]
    simp [h2]
  simp [execOp, e1, e2, h1, h3]
theorem t_tne {α : Type} [DecidableEq α] {g : α → AV} {X Y : α} {k : Nat} {xt yt : TypeId} {x y : Operand} {cs ds : List AV} [EqTy P xt k g] [EqGd P xt] (hk : Nat.ble k 10000 = true) (hx : evA tm x = some (.agg cs)) (hy : evA tm y = some (.agg ds)) (eX : g X = .agg cs) (eY : g Y = .agg ds) :
    QV P ⟨some d, .binOp .neq xt x y yt, ty, pos, af, none⟩ ⟨n, tm, hp⟩ (.bool (decide (X ≠ Y))) := by
  intro w S a r
  have hv := evA_at (σ := ⟨n, tm, hp⟩) r hx
  have hu := evA_at (σ := ⟨n, tm, hp⟩) r hy
  have he := EqTy.h (P := P) (t := xt) (g := g) X Y w S _ _ (by rw [eX]; exact hv) (by rw [eY]; exact hu)
  obtain ⟨vs, e1, _, _⟩ := hv.agg_inv
  obtain ⟨us, e2, _, _⟩ := hu.agg_inv
  refine ⟨.bool (decide (X ≠ Y)), fun w1 _ => ?_, .bool _⟩
  have h1 := run_eqGuard_agg (P := P) w1 .neq xt x y vs us EqGd.h
  rw [e1, e2] at he
  have h2 : (Op.equal xt (.agg vs) (.agg us)).run P w1 = .ok (decide (X = Y)) w1 := by
    have := he (10000 - k) w1
    rw [Nat.sub_add_cancel (Nat.le_of_ble_eq_true hk)] at this
    exact this
  have h3 : (binOp .neq xt (.agg vs) (.agg us)).run P w1 = .ok (.bool (decide (X ≠ Y))) w1 := by
    rw [show binOp .neq xt (.agg vs) (.agg us) = (do pure (.bool (!(← Op.equal xt (.agg vs) (.agg us))))) from rfl]
    simp [h2]
  simp [execOp, e1, e2, h1, h3]
theorem t_slss {xt yt : TypeId} {x y : Operand} {s t : List UInt8} (hx : evA tm x = some (.str s)) (hy : evA tm y = some (.str t)) : QV P ⟨some d, .binOp .lss xt x y yt, ty, pos, af, none⟩ ⟨n, tm, hp⟩ (.bool (Op.bytesLess s t)) := by
  refine fun w S a r => ⟨.bool (Op.bytesLess s t), fun w1 _ => ?_, .bool _⟩
  simp [execOp, (evA_at (σ := ⟨n, tm, hp⟩) r hx).str_inv, (evA_at (σ := ⟨n, tm, hp⟩) r hy).str_inv, eqGuard_at_string, binOp, Op.stringOp, ByteArray.toList_eq]
theorem t_sgeq {xt yt : TypeId} {x y : Operand} {s t : List UInt8} (hx : evA tm x = some (.str s)) (hy : evA tm y = some (.str t)) : QV P ⟨some d, .binOp .geq xt x y yt, ty, pos, af, none⟩ ⟨n, tm, hp⟩ (.bool (!Op.bytesLess s t)) := by
  refine fun w S a r => ⟨.bool (!Op.bytesLess s t), fun w1 _ => ?_, .bool _⟩
  simp [execOp, (evA_at (σ := ⟨n, tm, hp⟩) r hx).str_inv, (evA_at (σ := ⟨n, tm, hp⟩) r hy).str_inv, eqGuard_at_string, binOp, Op.stringOp, ByteArray.toList_eq]
theorem t_sleq {xt yt : TypeId} {x y : Operand} {s t : List UInt8} (hx : evA tm x = some (.str s)) (hy : evA tm y = some (.str t)) : QV P ⟨some d, .binOp .leq xt x y yt, ty, pos, af, none⟩ ⟨n, tm, hp⟩ (.bool (Op.bytesLess s t || s == t)) := by
  refine fun w S a r => ⟨.bool (Op.bytesLess s t || s == t), fun w1 _ => ?_, .bool _⟩
  simp [execOp, (evA_at (σ := ⟨n, tm, hp⟩) r hx).str_inv, (evA_at (σ := ⟨n, tm, hp⟩) r hy).str_inv, eqGuard_at_string, binOp, Op.stringOp, ByteArray.toList_eq]
theorem t_sgtr {xt yt : TypeId} {x y : Operand} {s t : List UInt8} (hx : evA tm x = some (.str s)) (hy : evA tm y = some (.str t)) : QV P ⟨some d, .binOp .gtr xt x y yt, ty, pos, af, none⟩ ⟨n, tm, hp⟩ (.bool (!(Op.bytesLess s t || s == t))) := by
  refine fun w S a r => ⟨.bool (!(Op.bytesLess s t || s == t)), fun w1 _ => ?_, .bool _⟩
  simp [execOp, (evA_at (σ := ⟨n, tm, hp⟩) r hx).str_inv, (evA_at (σ := ⟨n, tm, hp⟩) r hy).str_inv, eqGuard_at_string, binOp, Op.stringOp, ByteArray.toList_eq]
theorem t_and {k : IntKind} {xt yt : TypeId} {x y : Operand} {i j : Int} (hx : evA tm x = some (.int k i)) (hy : evA tm y = some (.int k j)) : QV P ⟨some d, .binOp .and xt x y yt, ty, pos, af, none⟩ ⟨n, tm, hp⟩ (.int k (andI k i j)) :=
  q_bin hx hy (v := .int k (andI k i j)) (fun w => by simp [binOp, Op.intBits, andI]) (fun w S => .int _ _)
theorem t_or {k : IntKind} {xt yt : TypeId} {x y : Operand} {i j : Int} (hx : evA tm x = some (.int k i)) (hy : evA tm y = some (.int k j)) : QV P ⟨some d, .binOp .or xt x y yt, ty, pos, af, none⟩ ⟨n, tm, hp⟩ (.int k (orI k i j)) :=
  q_bin hx hy (v := .int k (orI k i j)) (fun w => by simp [binOp, Op.intBits, orI]) (fun w S => .int _ _)
theorem t_xor {k : IntKind} {xt yt : TypeId} {x y : Operand} {i j : Int} (hx : evA tm x = some (.int k i)) (hy : evA tm y = some (.int k j)) : QV P ⟨some d, .binOp .xor xt x y yt, ty, pos, af, none⟩ ⟨n, tm, hp⟩ (.int k (xorI k i j)) :=
  q_bin hx hy (v := .int k (xorI k i j)) (fun w => by simp [binOp, Op.intBits, xorI]) (fun w S => .int _ _)
theorem t_andNot {k : IntKind} {xt yt : TypeId} {x y : Operand} {i j : Int} (hx : evA tm x = some (.int k i)) (hy : evA tm y = some (.int k j)) : QV P ⟨some d, .binOp .andNot xt x y yt, ty, pos, af, none⟩ ⟨n, tm, hp⟩ (.int k (andNotI k i j)) :=
  q_bin hx hy (v := .int k (andNotI k i j)) (fun w => by simp [binOp, Op.intBits, andNotI]) (fun w S => .int _ _)
theorem t_shl {k k' : IntKind} {xt yt : TypeId} {x y : Operand} {i j : Int} (hx : evA tm x = some (.int k i)) (hy : evA tm y = some (.int k' j)) (h0 : ¬ j < 0) : QV P ⟨some d, .binOp .shl xt x y yt, ty, pos, af, none⟩ ⟨n, tm, hp⟩ (.int k (shlI k i j)) := by
  refine fun w S a r => ⟨.int k (shlI k i j), fun w1 _ => ?_, .int _ _⟩
  simp [execOp, (evA_at (σ := ⟨n, tm, hp⟩) r hx).int_inv, (evA_at (σ := ⟨n, tm, hp⟩) r hy).int_inv, eqGuard_at_int, binOp, Op.shift, h0, shlI]
theorem t_shlS {k k' : IntKind} {xt yt : TypeId} {x y : Operand} {i j v : Int} (hx : evA tm x = some (.int k i)) (hy : evA tm y = some (.int k' j)) (h : shlO k i j = some v) : QV P ⟨some d, .binOp .shl xt x y yt, ty, pos, af, none⟩ ⟨n, tm, hp⟩ (.int k v) := by
  unfold shlO at h
  split at h
  · cases h
  · rw [← Option.some.inj h]; exact t_shl hx hy (by assumption)
theorem t_shr {k k' : IntKind} {xt yt : TypeId} {x y : Operand} {i j : Int} (hx : evA tm x = some (.int k i)) (hy : evA tm y = some (.int k' j)) (h0 : ¬ j < 0) : QV P ⟨some d, .binOp .shr xt x y yt, ty, pos, af, none⟩ ⟨n, tm, hp⟩ (.int k (shrI k i j)) := by
  refine fun w S a r => ⟨.int k (shrI k i j), fun w1 _ => ?_, .int _ _⟩
  simp [execOp, (evA_at (σ := ⟨n, tm, hp⟩) r hx).int_inv, (evA_at (σ := ⟨n, tm, hp⟩) r hy).int_inv, eqGuard_at_int, binOp, Op.shift, h0, shrI]
theorem t_shrS {k k' : IntKind} {xt yt : TypeId} {x y : Operand} {i j v : Int} (hx : evA tm x = some (.int k i)) (hy : evA tm y = some (.int k' j)) (h : shrO k i j = some v) : QV P ⟨some d, .binOp .shr xt x y yt, ty, pos, af, none⟩ ⟨n, tm, hp⟩ (.int k v) := by
  unfold shrO at h
  split at h
  · cases h
  · rw [← Option.some.inj h]; exact t_shr hx hy (by assumption)
end rules
end Go.Eng
