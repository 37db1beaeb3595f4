/- The engine, part 3: one rule for each operation that leaves memory alone. No program in sight. -/
import Derived.Test.YtbcbhhbbejcnnaaEng2
set_option linter.unusedVariables false
namespace Go.Eng
open Go

class TInfo (P : Program) (t : TypeId) (i : outParam TypeInfo) : Prop where
  h : P.info? t = some i
class TUnder (P : Program) (t : TypeId) (d : outParam TypeDesc) : Prop where
  h : P.underlying t = some d

section inv
variable {w : World} {S : Nat → Prop} {v : Value}
theorem At.int_inv {k : IntKind} {n : Int} (h : At w S (.int k n) v) : v = .int k n := by cases h; rfl
theorem At.bool_inv {b : Bool} (h : At w S (.bool b) v) : v = .bool b := by cases h; rfl
theorem At.str_inv {s : List UInt8} (h : At w S (.str s) v) : v = .string ⟨s.toArray⟩ := by cases h; rfl
theorem At.raw_inv {u : Value} (h : At w S (.raw u) v) : v = u := by cases h; rfl
theorem At.nil_inv (h : At w S .nil v) : v = .slice none 0 0 := by cases h; rfl
theorem At.agg_inv {cs : List AV} (h : At w S (.agg cs) v) : ∃ vs, v = .agg vs ∧ cs.length = vs.size ∧ AtA w S cs vs := by cases h with | agg _ vs hl h => exact ⟨vs, rfl, hl, h⟩
theorem At.tup_inv {cs : List AV} (h : At w S (.tup cs) v) : ∃ vs, v = .tuple vs ∧ cs.length = vs.size ∧ AtA w S cs vs := by cases h with | tup _ vs hl h => exact ⟨vs, rfl, hl, h⟩
theorem At.ptr_inv {b : Bk} {o : Nat} (h : At w S (.ptr b o) v) : ∃ n, b.blk = some n ∧ v = .pointer (some ⟨n, o, none⟩) := by cases h with | ptr _ _ n hb => exact ⟨n, hb, rfl⟩
theorem At.aptr_inv {sz : Nat} {b : Bk} {i o : Nat} (h : At w S (.aptr sz b i o) v) : ∃ n, b.blk = some n ∧ v = .pointer (some ⟨n, i * sz + o, none⟩) := by cases h with | aptr _ _ _ _ n hb => exact ⟨n, hb, rfl⟩
theorem At.func_inv {fn : Fn} {cs : List AV} (h : At w S (.func fn cs) v) : ∃ vs, v = .func fn #[] vs ∧ cs.length = vs.size ∧ AtA w S cs vs := by cases h with | func _ _ vs hl h => exact ⟨vs, rfl, hl, h⟩
theorem At.list_inv {sz : Nat} {xs : List AV} (h : At w S (.list sz xs) v) : ∃ (a : Option Addr) (cap : Nat) (vs : List Value), v = .slice a xs.length cap ∧ (∀ x ∈ xs, El sz x) ∧ (flat xs).length = vs.length ∧ (∀ (i : Nat) c u, (flat xs)[i]? = some c → vs[i]? = some u → At w S c u) ∧
    (∀ (i : Nat) u, vs[i]? = some u → ∃ ad, a = some ad ∧ ad.spot = none ∧ S ad.block ∧ w.cell? ⟨ad.block, ad.off + i, none⟩ = some u) ∧ xs.length ≤ cap := by
  cases h with | list _ _ a cap vs h1 h2 h3 h4 h5 => exact ⟨a, cap, vs, rfl, h1, h2, h3, h4, h5⟩
theorem At.rptr_inv {cs : List AV} (h : At w S (.rptr cs) v) : ∃ (ad : Addr) (vs : List Value), v = .pointer (some ad) ∧ cs.length = vs.length ∧ (∀ (i : Nat) c u, cs[i]? = some c → vs[i]? = some u → At w S c u) ∧ ad.spot = none ∧ S ad.block ∧
    (∀ (i : Nat) u, vs[i]? = some u → w.cell? ⟨ad.block, ad.off + i, none⟩ = some u) := by
  cases h with | rptr _ ad vs h1 h2 h3 h4 h5 => exact ⟨ad, vs, rfl, h1, h2, h3, h4, h5⟩
theorem At.sl_inv {sz : Nat} {b : Bk} {off len : Nat} (h : At w S (.sl sz b off len) v) : ∃ a cap, v = .slice a len cap ∧ ((b.blk = none ∧ off = 0 ∧ len = 0 ∧ a = none ∧ cap = 0) ∨
    (∃ n, b.blk = some n ∧ a = some ⟨n, off * sz, none⟩ ∧ len ≤ cap ∧ off + cap ≤ b.cap) ∨ (∃ n ad, b.blk = some n ∧ a = some ad ∧ len = 0 ∧ cap = 0)) := by
  cases h with
  | slph _ _ hb => exact ⟨none, 0, rfl, .inl ⟨hb, rfl, rfl, rfl, rfl⟩⟩
  | sl _ _ _ _ n cap hb h1 h2 => exact ⟨_, cap, rfl, .inr (.inl ⟨n, hb, rfl, h1, h2⟩)⟩
  | sl0 _ _ _ n ad hb => exact ⟨_, 0, rfl, .inr (.inr ⟨n, ad, hb, rfl, rfl, rfl⟩)⟩
end inv

section rules
variable {P : Program} {all : Array Oper} {rest : List Oper} {n : Nat} {tm : List (Nat × AV)} {hp : Heap} {Q : St → Prop} {d : Nat} {ty : TypeId} {pos : String} {af : Array Edge}

theorem q_move {x : Operand} {av : AV} (hx : evA tm x = some av) : QV P ⟨some d, .move x, ty, pos, af, none⟩ ⟨n, tm, hp⟩ (av) :=
  (fun w S a r => ⟨a.eval x, fun _ _ => rfl, evA_at (σ := ⟨n, tm, hp⟩) r hx⟩)

theorem q_assign {x : Operand} {av : AV} (hx : evA tm x = some av) : QV P ⟨some d, .assign x, ty, pos, af, none⟩ ⟨n, tm, hp⟩ (av) :=
  (fun w S a r => ⟨a.eval x, fun _ _ => rfl, evA_at (σ := ⟨n, tm, hp⟩) r hx⟩)

theorem q_pick_t {c x y : Operand} {av : AV} (hc : evA tm c = some (.bool true)) (hx : evA tm x = some av) : QV P ⟨some d, .pick c x y, ty, pos, af, none⟩ ⟨n, tm, hp⟩ (av) :=
  (fun w S a r => ⟨a.eval x, fun w1 _ => by have h := (evA_at (σ := ⟨n, tm, hp⟩) r hc).bool_inv; simp [execOp, h, asBool], evA_at (σ := ⟨n, tm, hp⟩) r hx⟩)

theorem q_pick_f {c x y : Operand} {av : AV} (hc : evA tm c = some (.bool false)) (hx : evA tm y = some av) : QV P ⟨some d, .pick c x y, ty, pos, af, none⟩ ⟨n, tm, hp⟩ (av) :=
  (fun w S a r => ⟨a.eval y, fun w1 _ => by have h := (evA_at (σ := ⟨n, tm, hp⟩) r hc).bool_inv; simp [execOp, h, asBool], evA_at (σ := ⟨n, tm, hp⟩) r hx⟩)

/-! integers -/
theorem q_bin {op : BinOp} {xt yt : TypeId} {x y : Operand} {k : IntKind} {i j : Int} {av : AV} {v : Value} (hx : evA tm x = some (.int k i)) (hy : evA tm y = some (.int k j))
    (hrun : ∀ w, (binOp op xt (.int k i) (.int k j)).run P w = .ok v w) (hat : ∀ w S, At w S av v) : QV P ⟨some d, .binOp op xt x y yt, ty, pos, af, none⟩ ⟨n, tm, hp⟩ av := by
  intro w S a r
  refine ⟨v, fun w' _ => ?_, hat w S⟩
  simp [execOp, (evA_at (σ := ⟨n, tm, hp⟩) r hx).int_inv, (evA_at (σ := ⟨n, tm, hp⟩) r hy).int_inv, eqGuard_at_int, hrun]

def fits64 (i : Int) : Prop := -9223372036854775808 ≤ i ∧ i ≤ 9223372036854775807

theorem wrap_fits {i : Int} (h : fits64 i) : IntKind.i64.wrap i = i := IntWalk.i64_in _ h

theorem q_add {xt yt : TypeId} {x y : Operand} {i j : Int} (hx : evA tm x = some (.int .i64 i)) (hy : evA tm y = some (.int .i64 j)) (hf : fits64 (i + j)) : QV P ⟨some d, .binOp .add xt x y yt, ty, pos, af, none⟩ ⟨n, tm, hp⟩ (.int .i64 (i + j)) :=
  q_bin hx hy (v := .int .i64 (i + j)) (fun w => by simp [binOp, Op.intArith, wrap_fits hf]) (fun w S => .int _ _)
theorem q_sub {xt yt : TypeId} {x y : Operand} {i j : Int} (hx : evA tm x = some (.int .i64 i)) (hy : evA tm y = some (.int .i64 j)) (hf : fits64 (i - j)) : QV P ⟨some d, .binOp .sub xt x y yt, ty, pos, af, none⟩ ⟨n, tm, hp⟩ (.int .i64 (i - j)) :=
  q_bin hx hy (v := .int .i64 (i - j)) (fun w => by simp [binOp, Op.intArith, wrap_fits hf]) (fun w S => .int _ _)
theorem q_mul {xt yt : TypeId} {x y : Operand} {i j : Int} (hx : evA tm x = some (.int .i64 i)) (hy : evA tm y = some (.int .i64 j)) (hf : fits64 (i * j)) : QV P ⟨some d, .binOp .mul xt x y yt, ty, pos, af, none⟩ ⟨n, tm, hp⟩ (.int .i64 (i * j)) :=
  q_bin hx hy (v := .int .i64 (i * j)) (fun w => by simp [binOp, Op.intArith, wrap_fits hf]) (fun w S => .int _ _)
theorem q_addw {xt yt : TypeId} {x y : Operand} {k : IntKind} {i j : Int} (hx : evA tm x = some (.int k i)) (hy : evA tm y = some (.int k j)) : QV P ⟨some d, .binOp .add xt x y yt, ty, pos, af, none⟩ ⟨n, tm, hp⟩ (.int k (k.wrap (i + j))) :=
  q_bin hx hy (v := _) (fun w => by simp [binOp, Op.intArith]) (fun w S => .int _ _)
theorem q_subw {xt yt : TypeId} {x y : Operand} {k : IntKind} {i j : Int} (hx : evA tm x = some (.int k i)) (hy : evA tm y = some (.int k j)) : QV P ⟨some d, .binOp .sub xt x y yt, ty, pos, af, none⟩ ⟨n, tm, hp⟩ (.int k (k.wrap (i - j))) :=
  q_bin hx hy (v := _) (fun w => by simp [binOp, Op.intArith]) (fun w S => .int _ _)
theorem q_mulw {xt yt : TypeId} {x y : Operand} {k : IntKind} {i j : Int} (hx : evA tm x = some (.int k i)) (hy : evA tm y = some (.int k j)) : QV P ⟨some d, .binOp .mul xt x y yt, ty, pos, af, none⟩ ⟨n, tm, hp⟩ (.int k (k.wrap (i * j))) :=
  q_bin hx hy (v := _) (fun w => by simp [binOp, Op.intArith]) (fun w S => .int _ _)

theorem q_quo {xt yt : TypeId} {x y : Operand} {i j : Int} (hx : evA tm x = some (.int .i64 i)) (hy : evA tm y = some (.int .i64 j)) (h0 : j ≠ 0) (hf : fits64 (i.tdiv j)) : QV P ⟨some d, .binOp .quo xt x y yt, ty, pos, af, none⟩ ⟨n, tm, hp⟩ (.int .i64 (i.tdiv j)) :=
  q_bin hx hy (v := .int .i64 (i.tdiv j)) (fun w => by simp [binOp, Op.intDiv, h0, wrap_fits hf]) (fun w S => .int _ _)
theorem q_quop {xt yt : TypeId} {x y : Operand} {i j : Int} (hx : evA tm x = some (.int .i64 i)) (hy : evA tm y = some (.int .i64 j)) (h0 : 0 < j) (hi : 0 ≤ i ∧ i ≤ 9223372036854775807) : QV P ⟨some d, .binOp .quo xt x y yt, ty, pos, af, none⟩ ⟨n, tm, hp⟩ (.int .i64 (i / j)) := by
  have e : i.tdiv j = i / j := Int.tdiv_eq_ediv_of_nonneg hi.1
  rw [← e]
  refine q_quo hx hy (by omega) ?_
  rw [e]
  have h1 : i / j ≤ i := Int.ediv_le_self _ hi.1
  have h2 : 0 ≤ i / j := Int.ediv_nonneg hi.1 (by omega)
  exact ⟨by omega, by omega⟩
theorem q_rem {xt yt : TypeId} {x y : Operand} {k : IntKind} {i j : Int} (hx : evA tm x = some (.int k i)) (hy : evA tm y = some (.int k j)) (h0 : j ≠ 0) : QV P ⟨some d, .binOp .rem xt x y yt, ty, pos, af, none⟩ ⟨n, tm, hp⟩ (.int k (i.tmod j)) :=
  q_bin hx hy (v := .int k (i.tmod j)) (fun w => by simp [binOp, Op.intDiv, h0]) (fun w S => .int _ _)
theorem q_remp {xt yt : TypeId} {x y : Operand} {k : IntKind} {i j : Int} (hx : evA tm x = some (.int k i)) (hy : evA tm y = some (.int k j)) (h0 : 0 < j) (hi : 0 ≤ i) : QV P ⟨some d, .binOp .rem xt x y yt, ty, pos, af, none⟩ ⟨n, tm, hp⟩ (.int k (i % j)) := by
  rw [← Int.tmod_eq_emod_of_nonneg hi]
  exact q_rem hx hy (by omega)

theorem q_lss {xt yt : TypeId} {x y : Operand} {k : IntKind} {i j : Int} (hx : evA tm x = some (.int k i)) (hy : evA tm y = some (.int k j)) : QV P ⟨some d, .binOp .lss xt x y yt, ty, pos, af, none⟩ ⟨n, tm, hp⟩ (.bool (decide (i < j))) :=
  q_bin hx hy (v := .bool (decide (i < j))) (fun w => by simp [binOp, Op.intCmp]) (fun w S => .bool _)
theorem q_leq {xt yt : TypeId} {x y : Operand} {k : IntKind} {i j : Int} (hx : evA tm x = some (.int k i)) (hy : evA tm y = some (.int k j)) : QV P ⟨some d, .binOp .leq xt x y yt, ty, pos, af, none⟩ ⟨n, tm, hp⟩ (.bool (decide (i ≤ j))) :=
  q_bin hx hy (v := .bool (decide (i ≤ j))) (fun w => by simp [binOp, Op.intCmp]) (fun w S => .bool _)
theorem q_gtr {xt yt : TypeId} {x y : Operand} {k : IntKind} {i j : Int} (hx : evA tm x = some (.int k i)) (hy : evA tm y = some (.int k j)) : QV P ⟨some d, .binOp .gtr xt x y yt, ty, pos, af, none⟩ ⟨n, tm, hp⟩ (.bool (decide (j < i))) :=
  q_bin hx hy (v := .bool (decide (j < i))) (fun w => by simp [binOp, Op.intCmp]) (fun w S => .bool _)
theorem q_geq {xt yt : TypeId} {x y : Operand} {k : IntKind} {i j : Int} (hx : evA tm x = some (.int k i)) (hy : evA tm y = some (.int k j)) : QV P ⟨some d, .binOp .geq xt x y yt, ty, pos, af, none⟩ ⟨n, tm, hp⟩ (.bool (decide (j ≤ i))) :=
  q_bin hx hy (v := .bool (decide (j ≤ i))) (fun w => by simp [binOp, Op.intCmp]) (fun w S => .bool _)
theorem q_eql {xt yt : TypeId} {x y : Operand} {k : IntKind} {i j : Int} (hx : evA tm x = some (.int k i)) (hy : evA tm y = some (.int k j)) : QV P ⟨some d, .binOp .eql xt x y yt, ty, pos, af, none⟩ ⟨n, tm, hp⟩ (.bool (decide (i = j))) :=
  q_bin hx hy (v := .bool (decide (i = j))) (fun w => by simp [binOp, Op.intCmp]; rfl) (fun w S => .bool _)
theorem q_neq {xt yt : TypeId} {x y : Operand} {k : IntKind} {i j : Int} (hx : evA tm x = some (.int k i)) (hy : evA tm y = some (.int k j)) : QV P ⟨some d, .binOp .neq xt x y yt, ty, pos, af, none⟩ ⟨n, tm, hp⟩ (.bool (decide (i ≠ j))) :=
  q_bin hx hy (v := .bool (decide (i ≠ j))) (fun w => by simp [binOp, Op.intCmp, bne]; rfl) (fun w S => .bool _)

/-! strings -/
theorem q_seq {xt yt : TypeId} {x y : Operand} {s t : List UInt8} (hx : evA tm x = some (.str s)) (hy : evA tm y = some (.str t)) : QV P ⟨some d, .binOp .eql xt x y yt, ty, pos, af, none⟩ ⟨n, tm, hp⟩ (.bool (decide (s = t))) := by
  refine fun w S a r => ⟨.bool (decide (s = t)), fun w1 _ => ?_, .bool _⟩
  simp [execOp, (evA_at (σ := ⟨n, tm, hp⟩) r hx).str_inv, (evA_at (σ := ⟨n, tm, hp⟩) r hy).str_inv, eqGuard_at_string, binOp, Op.stringOp]
  rw [Bool.eq_iff_iff]; simp
theorem q_sne {xt yt : TypeId} {x y : Operand} {s t : List UInt8} (hx : evA tm x = some (.str s)) (hy : evA tm y = some (.str t)) : QV P ⟨some d, .binOp .neq xt x y yt, ty, pos, af, none⟩ ⟨n, tm, hp⟩ (.bool (decide (s ≠ t))) := by
  refine fun w S a r => ⟨.bool (decide (s ≠ t)), fun w1 _ => ?_, .bool _⟩
  simp [execOp, (evA_at (σ := ⟨n, tm, hp⟩) r hx).str_inv, (evA_at (σ := ⟨n, tm, hp⟩) r hy).str_inv, eqGuard_at_string, binOp, Op.stringOp]
  rw [Bool.eq_iff_iff]; simp
/-! booleans -/
theorem run_equal_bool {P : Program} {t : TypeId} (h : P.underlying t = some .bool) (b c : Bool) (w : World) : (Op.equal t (.bool b) (.bool c)).run P w = .ok (b == c) w := by
  show (Op.equalIn (9999 + 1) t (.bool b) (.bool c)).run P w = _
  rw [Op.equalIn]
  simp [run_underlying h]
theorem run_binOp_eql_bool {P : Program} {t : TypeId} (h : P.underlying t = some .bool) (b c : Bool) (w : World) : (binOp .eql t (.bool b) (.bool c)).run P w = .ok (.bool (b == c)) w := by
  rw [show binOp .eql t (.bool b) (.bool c) = (do pure (.bool (← Op.equal t (.bool b) (.bool c)))) from rfl]
  simp [run_equal_bool h]
theorem run_binOp_neq_bool {P : Program} {t : TypeId} (h : P.underlying t = some .bool) (b c : Bool) (w : World) : (binOp .neq t (.bool b) (.bool c)).run P w = .ok (.bool (b != c)) w := by
  rw [show binOp .neq t (.bool b) (.bool c) = (do pure (.bool (!(← Op.equal t (.bool b) (.bool c))))) from rfl]
  simp [run_equal_bool h, bne]
theorem ba_size (s : List UInt8) : (⟨s.toArray⟩ : ByteArray).size = s.length := rfl

theorem q_not {xt : TypeId} {x : Operand} {b : Bool} (hx : evA tm x = some (.bool b)) : QV P ⟨some d, .unOp .not xt x, ty, pos, af, none⟩ ⟨n, tm, hp⟩ (.bool (!b)) :=
  (fun w S a r => ⟨.bool (!b), fun w1 _ => by simp [execOp, (evA_at (σ := ⟨n, tm, hp⟩) r hx).bool_inv, Op.unary], .bool _⟩)

theorem q_neg {xt : TypeId} {x : Operand} {i : Int} (hx : evA tm x = some (.int .i64 i)) (hf : fits64 (-i)) : QV P ⟨some d, .unOp .neg xt x, ty, pos, af, none⟩ ⟨n, tm, hp⟩ (.int .i64 (-i)) :=
  (fun w S a r => ⟨.int .i64 (-i), fun w1 _ => by simp [execOp, (evA_at (σ := ⟨n, tm, hp⟩) r hx).int_inv, Op.unary, Op.intArith, wrap_fits hf], .int _ _⟩)

theorem q_beq {xt yt : TypeId} {x y : Operand} {b c : Bool} [TUnder P xt .bool] (hx : evA tm x = some (.bool b)) (hy : evA tm y = some (.bool c)) : QV P ⟨some d, .binOp .eql xt x y yt, ty, pos, af, none⟩ ⟨n, tm, hp⟩ (.bool (b == c)) :=
  (fun w S a r => ⟨.bool (b == c), fun w1 _ => by simp [execOp, (evA_at (σ := ⟨n, tm, hp⟩) r hx).bool_inv, (evA_at (σ := ⟨n, tm, hp⟩) r hy).bool_inv, eqGuard_at_bool, run_binOp_eql_bool (TUnder.h (P := P) (t := xt))], .bool _⟩)

theorem q_bne {xt yt : TypeId} {x y : Operand} {b c : Bool} [TUnder P xt .bool] (hx : evA tm x = some (.bool b)) (hy : evA tm y = some (.bool c)) : QV P ⟨some d, .binOp .neq xt x y yt, ty, pos, af, none⟩ ⟨n, tm, hp⟩ (.bool (b != c)) :=
  (fun w S a r => ⟨.bool (b != c), fun w1 _ => by simp [execOp, (evA_at (σ := ⟨n, tm, hp⟩) r hx).bool_inv, (evA_at (σ := ⟨n, tm, hp⟩) r hy).bool_inv, eqGuard_at_bool, run_binOp_neq_bool (TUnder.h (P := P) (t := xt))], .bool _⟩)

/-! min, max of two -/
theorem q_max {x y : Operand} {ts : Array TypeId} {k : IntKind} {i j : Int} (hx : evA tm x = some (.int k i)) (hy : evA tm y = some (.int k j)) : QV P ⟨some d, .call { callee := .builtin .max, args := #[x, y], argTypes := ts }, ty, pos, af, none⟩ ⟨n, tm, hp⟩ (.int k (max i j)) :=
  (fun w S a r => ⟨.int k (max i j), fun w1 _ => by
    have e : (if j > i then j else i) = max i j := by rw [Int.max_def]; split <;> split <;> omega
    simp [execOp, (evA_at (σ := ⟨n, tm, hp⟩) r hx).int_inv, (evA_at (σ := ⟨n, tm, hp⟩) r hy).int_inv, resolve, invoke, builtin, Builtin.max_, Builtin.max2, ← e], .int _ _⟩)

theorem q_min {x y : Operand} {ts : Array TypeId} {k : IntKind} {i j : Int} (hx : evA tm x = some (.int k i)) (hy : evA tm y = some (.int k j)) : QV P ⟨some d, .call { callee := .builtin .min, args := #[x, y], argTypes := ts }, ty, pos, af, none⟩ ⟨n, tm, hp⟩ (.int k (min i j)) :=
  (fun w S a r => ⟨.int k (min i j), fun w1 _ => by
    have e : (if j < i then j else i) = min i j := by rw [Int.min_def]; split <;> split <;> omega
    simp [execOp, (evA_at (σ := ⟨n, tm, hp⟩) r hx).int_inv, (evA_at (σ := ⟨n, tm, hp⟩) r hy).int_inv, resolve, invoke, builtin, Builtin.min_, Builtin.min2, ← e], .int _ _⟩)

/-! len -/
theorem q_len_list {x : Operand} {t e : TypeId} {sz : Nat} {xs : List AV} [TUnder P t (.slice e)] (hx : evA tm x = some (.list sz xs)) : QV P ⟨some d, .call { callee := .builtin .len, args := #[x], argTypes := #[t] }, ty, pos, af, none⟩ ⟨n, tm, hp⟩ (.int .i64 (xs.length : Nat)) :=
  (fun w S a r => ⟨.int .i64 (xs.length : Nat), fun w1 _ => by
    obtain ⟨ad, cap, vs, h1, _⟩ := (evA_at (σ := ⟨n, tm, hp⟩) r hx).list_inv
    simp [execOp, h1, resolve, invoke, builtin, Builtin.len_, run_underlying (TUnder.h (P := P) (t := t)), goInt], .int _ _⟩)

theorem q_len_sl {x : Operand} {t e : TypeId} {sz off len : Nat} {b : Bk} [TUnder P t (.slice e)] (hx : evA tm x = some (.sl sz b off len)) : QV P ⟨some d, .call { callee := .builtin .len, args := #[x], argTypes := #[t] }, ty, pos, af, none⟩ ⟨n, tm, hp⟩ (.int .i64 (len : Nat)) :=
  (fun w S a r => ⟨.int .i64 (len : Nat), fun w1 _ => by
    obtain ⟨ad, cap, h1, _⟩ := (evA_at (σ := ⟨n, tm, hp⟩) r hx).sl_inv
    simp [execOp, h1, resolve, invoke, builtin, Builtin.len_, run_underlying (TUnder.h (P := P) (t := t)), goInt], .int _ _⟩)

theorem q_len_nil {x : Operand} {t e : TypeId} [TUnder P t (.slice e)] (hx : evA tm x = some .nil) : QV P ⟨some d, .call { callee := .builtin .len, args := #[x], argTypes := #[t] }, ty, pos, af, none⟩ ⟨n, tm, hp⟩ (.int .i64 0) :=
  (fun w S a r => ⟨.int .i64 0, fun w1 _ => by
    simp [execOp, (evA_at (σ := ⟨n, tm, hp⟩) r hx).nil_inv, resolve, invoke, builtin, Builtin.len_, run_underlying (TUnder.h (P := P) (t := t)), goInt], .int _ _⟩)

theorem q_len_str {x : Operand} {t : TypeId} {s : List UInt8} [TUnder P t .string] (hx : evA tm x = some (.str s)) : QV P ⟨some d, .call { callee := .builtin .len, args := #[x], argTypes := #[t] }, ty, pos, af, none⟩ ⟨n, tm, hp⟩ (.int .i64 (s.length : Nat)) :=
  (fun w S a r => ⟨.int .i64 (s.length : Nat), fun w1 _ => by
    simp [execOp, (evA_at (σ := ⟨n, tm, hp⟩) r hx).str_inv, resolve, invoke, builtin, Builtin.len_, run_underlying (TUnder.h (P := P) (t := t)), goInt, ba_size], .int _ _⟩)

/-! s[i] of a string -/
theorem q_index_str {x y : Operand} {t : TypeId} {s : List UInt8} {k : IntKind} {i : Int} {c : UInt8} [TUnder P t .string] (hx : evA tm x = some (.str s)) (hy : evA tm y = some (.int k i)) (h0 : 0 ≤ i) (hc : s[i.toNat]? = some c) : QV P ⟨some d, .index t x y, ty, pos, af, none⟩ ⟨n, tm, hp⟩ (.int .u8 (c.toNat : Nat)) :=
  (fun w S a r => ⟨.int .u8 (c.toNat : Nat), fun w1 _ => by
    have hc' : (⟨s.toArray⟩ : ByteArray)[i.toNat]? = some c := by
      obtain ⟨hl, he⟩ := List.getElem?_eq_some_iff.1 hc
      rw [getElem?_pos _ _ (by rw [ba_size]; exact hl)]
      simp only [Option.some.injEq]
      rw [← he]
      rfl
    simp [execOp, (evA_at (σ := ⟨n, tm, hp⟩) r hx).str_inv, (evA_at (σ := ⟨n, tm, hp⟩) r hy).int_inv, Instr.index, asIntOf, run_underlying (TUnder.h (P := P) (t := t)), h0, hc'], .int _ _⟩)

/-! tuples -/
theorem q_extract {x : Operand} {i : Nat} {vs : List AV} {av : AV} (hx : evA tm x = some (.tup vs)) (hi : vs[i]? = some av) : QV P ⟨some d, .extract x i, ty, pos, af, none⟩ ⟨n, tm, hp⟩ (av) :=
  (fun w S a r => by
    obtain ⟨us, h1, h2, h3⟩ := (evA_at (σ := ⟨n, tm, hp⟩) r hx).tup_inv
    have hlt : i < us.size := by rw [← h2]; exact (List.getElem?_eq_some_iff.1 hi).1
    have hu : us[i]? = some us[i] := by simp [hlt]
    exact ⟨us[i], fun _ _ => by simp [execOp, h1, Instr.extract, hu], h3 i av _ hi hu⟩)

/-! nil checks -/
theorem q_nilCheck_ptr {x : Operand} {b : Bk} {o : Nat} (hx : evA tm x = some (.ptr b o)) : QV P ⟨some d, .nilCheck x, ty, pos, af, none⟩ ⟨n, tm, hp⟩ (.ptr b o) :=
  (fun w S a r => by
    have h := evA_at (σ := ⟨n, tm, hp⟩) r hx
    obtain ⟨m, h1, h2⟩ := h.ptr_inv
    exact ⟨a.eval x, fun _ _ => by simp [execOp, h2], h⟩)

theorem q_nilCheck_rptr {x : Operand} {cs : List AV} (hx : evA tm x = some (.rptr cs)) : QV P ⟨some d, .nilCheck x, ty, pos, af, none⟩ ⟨n, tm, hp⟩ (.rptr cs) :=
  (fun w S a r => by
    have h := evA_at (σ := ⟨n, tm, hp⟩) r hx
    obtain ⟨ad, vs, h2, _⟩ := h.rptr_inv
    exact ⟨a.eval x, fun _ _ => by simp [execOp, h2], h⟩)

theorem q_nilCheck_aptr {x : Operand} {sz : Nat} {b : Bk} {i o : Nat} (hx : evA tm x = some (.aptr sz b i o)) : QV P ⟨some d, .nilCheck x, ty, pos, af, none⟩ ⟨n, tm, hp⟩ (.aptr sz b i o) :=
  (fun w S a r => by
    have h := evA_at (σ := ⟨n, tm, hp⟩) r hx
    obtain ⟨m, h1, h2⟩ := h.aptr_inv
    exact ⟨a.eval x, fun _ _ => by simp [execOp, h2], h⟩)

/-! closures -/
def evL (tm : List (Nat × AV)) : List Operand → Option (List AV)
  | [] => some []
  | x :: r => match evA tm x, evL tm r with
    | some a, some l => some (a :: l)
    | _, _ => none

theorem evL_at {w : World} {S : Nat → Prop} {σ : St} {a : Act} (r : StRel w S σ a) : ∀ {xs : List Operand} {l : List AV}, evL σ.tm xs = some l → l.length = xs.length ∧ ∀ (i : Nat) c v, l[i]? = some c → (xs.map a.eval)[i]? = some v → At w S c v
  | [], l, h => by simp [evL] at h; subst h; exact ⟨rfl, fun i c v hc => by simp at hc⟩
  | x :: xs, l, h => by
    simp only [evL] at h
    split at h
    · rename_i av l' ha hl
      obtain rfl := Option.some.inj h
      obtain ⟨h1, h2⟩ := evL_at r hl
      refine ⟨by simp [h1], fun i c v hc hv => ?_⟩
      match i with
      | 0 => simp at hc hv; subst hc; subst hv; exact evA_at r ha
      | i + 1 => simp at hc hv; exact h2 i c v hc (by simpa using hv)
    · cases h

theorem q_makeFunc {fn : Fn} {caps : List Operand} {l : List AV} (hl : evL tm caps = some l) : QV P ⟨some d, .makeFunc fn #[] caps.toArray, ty, pos, af, none⟩ ⟨n, tm, hp⟩ (.func fn l) :=
  (fun w S a r => by
    obtain ⟨h1, h2⟩ := evL_at (σ := ⟨n, tm, hp⟩) r hl
    exact ⟨.func fn #[] (caps.toArray.map a.eval), fun _ _ => by simp [execOp, Instr.makeFunc], .func _ _ _ (by simp [h1]) (fun i c v hc hv => h2 i c v hc (by simpa using hv))⟩)

end rules
end Go.Eng
