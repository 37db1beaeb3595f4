/- The engine, part 15: which operation stands next in a region that draws its order. No program in sight. Written by a program. -/
import Derived.Test.YtbcbhhbbejcnnaaEng14
set_option linter.unusedVariables false
namespace Go.Eng
open Go
section
variable {P : Program} {all : Array Oper} {rest : List Oper} {n : Nat} {hp : Heap} {tm : List (Nat × AV)} {Q : List (Nat × AV) → Prop} {dd : Option Nat} {ty : TypeId} {pos : String} {af : Array Edge}
theorem x_move {x : Operand} (h : AM P all n hp (⟨dd, .move x, ty, pos, af, none⟩ :: rest) tm Q) : AM P all n hp (⟨dd, .move x, ty, pos, af, none⟩ :: rest) tm Q := h
theorem x_assign {x : Operand} (h : AM P all n hp (⟨dd, .assign x, ty, pos, af, none⟩ :: rest) tm Q) : AM P all n hp (⟨dd, .assign x, ty, pos, af, none⟩ :: rest) tm Q := h
theorem x_pick {c x y : Operand} (h : AM P all n hp (⟨dd, .pick c x y, ty, pos, af, none⟩ :: rest) tm Q) : AM P all n hp (⟨dd, .pick c x y, ty, pos, af, none⟩ :: rest) tm Q := h
theorem x_load {t : TypeId} {x : Operand} (h : AM P all n hp (⟨dd, .load t x, ty, pos, af, none⟩ :: rest) tm Q) : AM P all n hp (⟨dd, .load t x, ty, pos, af, none⟩ :: rest) tm Q := h
theorem x_store {t : TypeId} {x y : Operand} (h : AM P all n hp (⟨dd, .store t x y, ty, pos, af, none⟩ :: rest) tm Q) : AM P all n hp (⟨dd, .store t x y, ty, pos, af, none⟩ :: rest) tm Q := h
theorem x_fieldAddr {s : TypeId} {x : Operand} {j : Nat} (h : AM P all n hp (⟨dd, .fieldAddr s x j, ty, pos, af, none⟩ :: rest) tm Q) : AM P all n hp (⟨dd, .fieldAddr s x j, ty, pos, af, none⟩ :: rest) tm Q := h
theorem x_field {s : TypeId} {x : Operand} {j : Nat} (h : AM P all n hp (⟨dd, .field s x j, ty, pos, af, none⟩ :: rest) tm Q) : AM P all n hp (⟨dd, .field s x j, ty, pos, af, none⟩ :: rest) tm Q := h
theorem x_indexAddr {t : TypeId} {x y : Operand} (h : AM P all n hp (⟨dd, .indexAddr t x y, ty, pos, af, none⟩ :: rest) tm Q) : AM P all n hp (⟨dd, .indexAddr t x y, ty, pos, af, none⟩ :: rest) tm Q := h
theorem x_index {t : TypeId} {x y : Operand} (h : AM P all n hp (⟨dd, .index t x y, ty, pos, af, none⟩ :: rest) tm Q) : AM P all n hp (⟨dd, .index t x y, ty, pos, af, none⟩ :: rest) tm Q := h
theorem x_unOp {o : UnOp} {t : TypeId} {x : Operand} (h : AM P all n hp (⟨dd, .unOp o t x, ty, pos, af, none⟩ :: rest) tm Q) : AM P all n hp (⟨dd, .unOp o t x, ty, pos, af, none⟩ :: rest) tm Q := h
theorem x_box {t : TypeId} {x : Operand} (h : AM P all n hp (⟨dd, .box t x, ty, pos, af, none⟩ :: rest) tm Q) : AM P all n hp (⟨dd, .box t x, ty, pos, af, none⟩ :: rest) tm Q := h
theorem x_alloc {t : TypeId} (h : AM P all n hp (⟨dd, .alloc t, ty, pos, af, none⟩ :: rest) tm Q) : AM P all n hp (⟨dd, .alloc t, ty, pos, af, none⟩ :: rest) tm Q := h
theorem x_build {t : TypeId} {ps : Array (Nat × Operand)} (h : AM P all n hp (⟨dd, .build t ps, ty, pos, af, none⟩ :: rest) tm Q) : AM P all n hp (⟨dd, .build t ps, ty, pos, af, none⟩ :: rest) tm Q := h
theorem x_buildSlice {t : TypeId} {ln : Nat} {ps : Array (Nat × Operand)} (h : AM P all n hp (⟨dd, .buildSlice t ln ps, ty, pos, af, none⟩ :: rest) tm Q) : AM P all n hp (⟨dd, .buildSlice t ln ps, ty, pos, af, none⟩ :: rest) tm Q := h
theorem x_extract {x : Operand} {i : Nat} (h : AM P all n hp (⟨dd, .extract x i, ty, pos, af, none⟩ :: rest) tm Q) : AM P all n hp (⟨dd, .extract x i, ty, pos, af, none⟩ :: rest) tm Q := h
theorem x_nilCheck {x : Operand} (h : AM P all n hp (⟨dd, .nilCheck x, ty, pos, af, none⟩ :: rest) tm Q) : AM P all n hp (⟨dd, .nilCheck x, ty, pos, af, none⟩ :: rest) tm Q := h
theorem x_makeFunc {fn : Fn} {f c : Array Operand} (h : AM P all n hp (⟨dd, .makeFunc fn f c, ty, pos, af, none⟩ :: rest) tm Q) : AM P all n hp (⟨dd, .makeFunc fn f c, ty, pos, af, none⟩ :: rest) tm Q := h
theorem x_slice {t : TypeId} {x : Operand} {lo hi m : Option Operand} (h : AM P all n hp (⟨dd, .slice t x lo hi m, ty, pos, af, none⟩ :: rest) tm Q) : AM P all n hp (⟨dd, .slice t x lo hi m, ty, pos, af, none⟩ :: rest) tm Q := h
theorem x_convert {s t : TypeId} {x : Operand} (h : AM P all n hp (⟨dd, .convert s t x, ty, pos, af, none⟩ :: rest) tm Q) : AM P all n hp (⟨dd, .convert s t x, ty, pos, af, none⟩ :: rest) tm Q := h
theorem x_makeSlice {t : TypeId} {x y : Operand} (h : AM P all n hp (⟨dd, .makeSlice t x y, ty, pos, af, none⟩ :: rest) tm Q) : AM P all n hp (⟨dd, .makeSlice t x y, ty, pos, af, none⟩ :: rest) tm Q := h
theorem x_makeMap {t : TypeId} {r : Option Operand} (h : AM P all n hp (⟨dd, .makeMap t r, ty, pos, af, none⟩ :: rest) tm Q) : AM P all n hp (⟨dd, .makeMap t r, ty, pos, af, none⟩ :: rest) tm Q := h
theorem x_lookup {t : TypeId} {x y : Operand} {ok : Bool} (h : AM P all n hp (⟨dd, .lookup t x y ok, ty, pos, af, none⟩ :: rest) tm Q) : AM P all n hp (⟨dd, .lookup t x y ok, ty, pos, af, none⟩ :: rest) tm Q := h
theorem x_mapUpdate {t : TypeId} {m k v : Operand} (h : AM P all n hp (⟨dd, .mapUpdate t m k v, ty, pos, af, none⟩ :: rest) tm Q) : AM P all n hp (⟨dd, .mapUpdate t m k v, ty, pos, af, none⟩ :: rest) tm Q := h
theorem x_callf {f : FuncId} {as : Array Operand} {ts : Array TypeId} (h : AM P all n hp (⟨dd, .call { callee := .value (.func f), args := as, argTypes := ts }, ty, pos, af, none⟩ :: rest) tm Q) : AM P all n hp (⟨dd, .call { callee := .value (.func f), args := as, argTypes := ts }, ty, pos, af, none⟩ :: rest) tm Q := h
theorem x_callv {t : Nat} {as : Array Operand} {ts : Array TypeId} (h : AM P all n hp (⟨dd, .call { callee := .value (.tmp t), args := as, argTypes := ts }, ty, pos, af, none⟩ :: rest) tm Q) : AM P all n hp (⟨dd, .call { callee := .value (.tmp t), args := as, argTypes := ts }, ty, pos, af, none⟩ :: rest) tm Q := h
theorem x_len {as : Array Operand} {ts : Array TypeId} (h : AM P all n hp (⟨dd, .call { callee := .builtin .len, args := as, argTypes := ts }, ty, pos, af, none⟩ :: rest) tm Q) : AM P all n hp (⟨dd, .call { callee := .builtin .len, args := as, argTypes := ts }, ty, pos, af, none⟩ :: rest) tm Q := h
theorem x_append {as : Array Operand} {ts : Array TypeId} (h : AM P all n hp (⟨dd, .call { callee := .builtin .append, args := as, argTypes := ts }, ty, pos, af, none⟩ :: rest) tm Q) : AM P all n hp (⟨dd, .call { callee := .builtin .append, args := as, argTypes := ts }, ty, pos, af, none⟩ :: rest) tm Q := h
theorem x_max {as : Array Operand} {ts : Array TypeId} (h : AM P all n hp (⟨dd, .call { callee := .builtin .max, args := as, argTypes := ts }, ty, pos, af, none⟩ :: rest) tm Q) : AM P all n hp (⟨dd, .call { callee := .builtin .max, args := as, argTypes := ts }, ty, pos, af, none⟩ :: rest) tm Q := h
theorem x_min {as : Array Operand} {ts : Array TypeId} (h : AM P all n hp (⟨dd, .call { callee := .builtin .min, args := as, argTypes := ts }, ty, pos, af, none⟩ :: rest) tm Q) : AM P all n hp (⟨dd, .call { callee := .builtin .min, args := as, argTypes := ts }, ty, pos, af, none⟩ :: rest) tm Q := h
theorem x_copy {as : Array Operand} {ts : Array TypeId} (h : AM P all n hp (⟨dd, .call { callee := .builtin .copy, args := as, argTypes := ts }, ty, pos, af, none⟩ :: rest) tm Q) : AM P all n hp (⟨dd, .call { callee := .builtin .copy, args := as, argTypes := ts }, ty, pos, af, none⟩ :: rest) tm Q := h
theorem x_delete {as : Array Operand} {ts : Array TypeId} (h : AM P all n hp (⟨dd, .call { callee := .builtin .delete, args := as, argTypes := ts }, ty, pos, af, none⟩ :: rest) tm Q) : AM P all n hp (⟨dd, .call { callee := .builtin .delete, args := as, argTypes := ts }, ty, pos, af, none⟩ :: rest) tm Q := h
theorem x_add {t u : TypeId} {x y : Operand} (h : AM P all n hp (⟨dd, .binOp .add t x y u, ty, pos, af, none⟩ :: rest) tm Q) : AM P all n hp (⟨dd, .binOp .add t x y u, ty, pos, af, none⟩ :: rest) tm Q := h
theorem x_sub {t u : TypeId} {x y : Operand} (h : AM P all n hp (⟨dd, .binOp .sub t x y u, ty, pos, af, none⟩ :: rest) tm Q) : AM P all n hp (⟨dd, .binOp .sub t x y u, ty, pos, af, none⟩ :: rest) tm Q := h
theorem x_mul {t u : TypeId} {x y : Operand} (h : AM P all n hp (⟨dd, .binOp .mul t x y u, ty, pos, af, none⟩ :: rest) tm Q) : AM P all n hp (⟨dd, .binOp .mul t x y u, ty, pos, af, none⟩ :: rest) tm Q := h
theorem x_quo {t u : TypeId} {x y : Operand} (h : AM P all n hp (⟨dd, .binOp .quo t x y u, ty, pos, af, none⟩ :: rest) tm Q) : AM P all n hp (⟨dd, .binOp .quo t x y u, ty, pos, af, none⟩ :: rest) tm Q := h
theorem x_rem {t u : TypeId} {x y : Operand} (h : AM P all n hp (⟨dd, .binOp .rem t x y u, ty, pos, af, none⟩ :: rest) tm Q) : AM P all n hp (⟨dd, .binOp .rem t x y u, ty, pos, af, none⟩ :: rest) tm Q := h
theorem x_and {t u : TypeId} {x y : Operand} (h : AM P all n hp (⟨dd, .binOp .and t x y u, ty, pos, af, none⟩ :: rest) tm Q) : AM P all n hp (⟨dd, .binOp .and t x y u, ty, pos, af, none⟩ :: rest) tm Q := h
theorem x_or {t u : TypeId} {x y : Operand} (h : AM P all n hp (⟨dd, .binOp .or t x y u, ty, pos, af, none⟩ :: rest) tm Q) : AM P all n hp (⟨dd, .binOp .or t x y u, ty, pos, af, none⟩ :: rest) tm Q := h
theorem x_xor {t u : TypeId} {x y : Operand} (h : AM P all n hp (⟨dd, .binOp .xor t x y u, ty, pos, af, none⟩ :: rest) tm Q) : AM P all n hp (⟨dd, .binOp .xor t x y u, ty, pos, af, none⟩ :: rest) tm Q := h
theorem x_shl {t u : TypeId} {x y : Operand} (h : AM P all n hp (⟨dd, .binOp .shl t x y u, ty, pos, af, none⟩ :: rest) tm Q) : AM P all n hp (⟨dd, .binOp .shl t x y u, ty, pos, af, none⟩ :: rest) tm Q := h
theorem x_shr {t u : TypeId} {x y : Operand} (h : AM P all n hp (⟨dd, .binOp .shr t x y u, ty, pos, af, none⟩ :: rest) tm Q) : AM P all n hp (⟨dd, .binOp .shr t x y u, ty, pos, af, none⟩ :: rest) tm Q := h
theorem x_andNot {t u : TypeId} {x y : Operand} (h : AM P all n hp (⟨dd, .binOp .andNot t x y u, ty, pos, af, none⟩ :: rest) tm Q) : AM P all n hp (⟨dd, .binOp .andNot t x y u, ty, pos, af, none⟩ :: rest) tm Q := h
theorem x_eql {t u : TypeId} {x y : Operand} (h : AM P all n hp (⟨dd, .binOp .eql t x y u, ty, pos, af, none⟩ :: rest) tm Q) : AM P all n hp (⟨dd, .binOp .eql t x y u, ty, pos, af, none⟩ :: rest) tm Q := h
theorem x_neq {t u : TypeId} {x y : Operand} (h : AM P all n hp (⟨dd, .binOp .neq t x y u, ty, pos, af, none⟩ :: rest) tm Q) : AM P all n hp (⟨dd, .binOp .neq t x y u, ty, pos, af, none⟩ :: rest) tm Q := h
theorem x_lss {t u : TypeId} {x y : Operand} (h : AM P all n hp (⟨dd, .binOp .lss t x y u, ty, pos, af, none⟩ :: rest) tm Q) : AM P all n hp (⟨dd, .binOp .lss t x y u, ty, pos, af, none⟩ :: rest) tm Q := h
theorem x_leq {t u : TypeId} {x y : Operand} (h : AM P all n hp (⟨dd, .binOp .leq t x y u, ty, pos, af, none⟩ :: rest) tm Q) : AM P all n hp (⟨dd, .binOp .leq t x y u, ty, pos, af, none⟩ :: rest) tm Q := h
theorem x_gtr {t u : TypeId} {x y : Operand} (h : AM P all n hp (⟨dd, .binOp .gtr t x y u, ty, pos, af, none⟩ :: rest) tm Q) : AM P all n hp (⟨dd, .binOp .gtr t x y u, ty, pos, af, none⟩ :: rest) tm Q := h
theorem x_geq {t u : TypeId} {x y : Operand} (h : AM P all n hp (⟨dd, .binOp .geq t x y u, ty, pos, af, none⟩ :: rest) tm Q) : AM P all n hp (⟨dd, .binOp .geq t x y u, ty, pos, af, none⟩ :: rest) tm Q := h
theorem x_guard {op : Op} {g : Nat × Bool} (h : AM P all n hp (⟨dd, op, ty, pos, af, some g⟩ :: rest) tm Q) : AM P all n hp (⟨dd, op, ty, pos, af, some g⟩ :: rest) tm Q := h
end
end Go.Eng
