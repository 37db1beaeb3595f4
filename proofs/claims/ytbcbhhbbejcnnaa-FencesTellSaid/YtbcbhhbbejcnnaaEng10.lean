/- The engine, part 10: which operation stands next (identities, to find the rule quickly). No program in sight. Written by a program. -/
import Derived.Test.YtbcbhhbbejcnnaaEng9
set_option linter.unusedVariables false
namespace Go.Eng
open Go
section
variable {P : Program} {all : Array Oper} {rest : List Oper} {σ : St} {Q : St → Prop} {dd : Option Nat} {ty : TypeId} {pos : String} {af : Array Edge}
theorem s_move {x : Operand} (h : ARun P all (⟨dd, .move x, ty, pos, af, none⟩ :: rest) σ Q) : ARun P all (⟨dd, .move x, ty, pos, af, none⟩ :: rest) σ Q := h
theorem s_assign {x : Operand} (h : ARun P all (⟨dd, .assign x, ty, pos, af, none⟩ :: rest) σ Q) : ARun P all (⟨dd, .assign x, ty, pos, af, none⟩ :: rest) σ Q := h
theorem s_pick {c x y : Operand} (h : ARun P all (⟨dd, .pick c x y, ty, pos, af, none⟩ :: rest) σ Q) : ARun P all (⟨dd, .pick c x y, ty, pos, af, none⟩ :: rest) σ Q := h
theorem s_load {t : TypeId} {x : Operand} (h : ARun P all (⟨dd, .load t x, ty, pos, af, none⟩ :: rest) σ Q) : ARun P all (⟨dd, .load t x, ty, pos, af, none⟩ :: rest) σ Q := h
theorem s_store {t : TypeId} {x y : Operand} (h : ARun P all (⟨dd, .store t x y, ty, pos, af, none⟩ :: rest) σ Q) : ARun P all (⟨dd, .store t x y, ty, pos, af, none⟩ :: rest) σ Q := h
theorem s_fieldAddr {s : TypeId} {x : Operand} {j : Nat} (h : ARun P all (⟨dd, .fieldAddr s x j, ty, pos, af, none⟩ :: rest) σ Q) : ARun P all (⟨dd, .fieldAddr s x j, ty, pos, af, none⟩ :: rest) σ Q := h
theorem s_field {s : TypeId} {x : Operand} {j : Nat} (h : ARun P all (⟨dd, .field s x j, ty, pos, af, none⟩ :: rest) σ Q) : ARun P all (⟨dd, .field s x j, ty, pos, af, none⟩ :: rest) σ Q := h
theorem s_indexAddr {t : TypeId} {x y : Operand} (h : ARun P all (⟨dd, .indexAddr t x y, ty, pos, af, none⟩ :: rest) σ Q) : ARun P all (⟨dd, .indexAddr t x y, ty, pos, af, none⟩ :: rest) σ Q := h
theorem s_index {t : TypeId} {x y : Operand} (h : ARun P all (⟨dd, .index t x y, ty, pos, af, none⟩ :: rest) σ Q) : ARun P all (⟨dd, .index t x y, ty, pos, af, none⟩ :: rest) σ Q := h
theorem s_unOp {o : UnOp} {t : TypeId} {x : Operand} (h : ARun P all (⟨dd, .unOp o t x, ty, pos, af, none⟩ :: rest) σ Q) : ARun P all (⟨dd, .unOp o t x, ty, pos, af, none⟩ :: rest) σ Q := h
theorem s_box {t : TypeId} {x : Operand} (h : ARun P all (⟨dd, .box t x, ty, pos, af, none⟩ :: rest) σ Q) : ARun P all (⟨dd, .box t x, ty, pos, af, none⟩ :: rest) σ Q := h
theorem s_alloc {t : TypeId} (h : ARun P all (⟨dd, .alloc t, ty, pos, af, none⟩ :: rest) σ Q) : ARun P all (⟨dd, .alloc t, ty, pos, af, none⟩ :: rest) σ Q := h
theorem s_build {t : TypeId} {ps : Array (Nat × Operand)} (h : ARun P all (⟨dd, .build t ps, ty, pos, af, none⟩ :: rest) σ Q) : ARun P all (⟨dd, .build t ps, ty, pos, af, none⟩ :: rest) σ Q := h
theorem s_buildSlice {t : TypeId} {n : Nat} {ps : Array (Nat × Operand)} (h : ARun P all (⟨dd, .buildSlice t n ps, ty, pos, af, none⟩ :: rest) σ Q) : ARun P all (⟨dd, .buildSlice t n ps, ty, pos, af, none⟩ :: rest) σ Q := h
theorem s_extract {x : Operand} {i : Nat} (h : ARun P all (⟨dd, .extract x i, ty, pos, af, none⟩ :: rest) σ Q) : ARun P all (⟨dd, .extract x i, ty, pos, af, none⟩ :: rest) σ Q := h
theorem s_nilCheck {x : Operand} (h : ARun P all (⟨dd, .nilCheck x, ty, pos, af, none⟩ :: rest) σ Q) : ARun P all (⟨dd, .nilCheck x, ty, pos, af, none⟩ :: rest) σ Q := h
theorem s_makeFunc {fn : Fn} {f c : Array Operand} (h : ARun P all (⟨dd, .makeFunc fn f c, ty, pos, af, none⟩ :: rest) σ Q) : ARun P all (⟨dd, .makeFunc fn f c, ty, pos, af, none⟩ :: rest) σ Q := h
theorem s_slice {t : TypeId} {x : Operand} {lo hi m : Option Operand} (h : ARun P all (⟨dd, .slice t x lo hi m, ty, pos, af, none⟩ :: rest) σ Q) : ARun P all (⟨dd, .slice t x lo hi m, ty, pos, af, none⟩ :: rest) σ Q := h
theorem s_convert {s t : TypeId} {x : Operand} (h : ARun P all (⟨dd, .convert s t x, ty, pos, af, none⟩ :: rest) σ Q) : ARun P all (⟨dd, .convert s t x, ty, pos, af, none⟩ :: rest) σ Q := h
theorem s_makeSlice {t : TypeId} {x y : Operand} (h : ARun P all (⟨dd, .makeSlice t x y, ty, pos, af, none⟩ :: rest) σ Q) : ARun P all (⟨dd, .makeSlice t x y, ty, pos, af, none⟩ :: rest) σ Q := h
theorem s_makeMap {t : TypeId} {r : Option Operand} (h : ARun P all (⟨dd, .makeMap t r, ty, pos, af, none⟩ :: rest) σ Q) : ARun P all (⟨dd, .makeMap t r, ty, pos, af, none⟩ :: rest) σ Q := h
theorem s_lookup {t : TypeId} {x y : Operand} {ok : Bool} (h : ARun P all (⟨dd, .lookup t x y ok, ty, pos, af, none⟩ :: rest) σ Q) : ARun P all (⟨dd, .lookup t x y ok, ty, pos, af, none⟩ :: rest) σ Q := h
theorem s_mapUpdate {t : TypeId} {m k v : Operand} (h : ARun P all (⟨dd, .mapUpdate t m k v, ty, pos, af, none⟩ :: rest) σ Q) : ARun P all (⟨dd, .mapUpdate t m k v, ty, pos, af, none⟩ :: rest) σ Q := h
theorem s_callf {f : FuncId} {as : Array Operand} {ts : Array TypeId} (h : ARun P all (⟨dd, .call { callee := .value (.func f), args := as, argTypes := ts }, ty, pos, af, none⟩ :: rest) σ Q) : ARun P all (⟨dd, .call { callee := .value (.func f), args := as, argTypes := ts }, ty, pos, af, none⟩ :: rest) σ Q := h
theorem s_callv {t : Nat} {as : Array Operand} {ts : Array TypeId} (h : ARun P all (⟨dd, .call { callee := .value (.tmp t), args := as, argTypes := ts }, ty, pos, af, none⟩ :: rest) σ Q) : ARun P all (⟨dd, .call { callee := .value (.tmp t), args := as, argTypes := ts }, ty, pos, af, none⟩ :: rest) σ Q := h
theorem s_len {as : Array Operand} {ts : Array TypeId} (h : ARun P all (⟨dd, .call { callee := .builtin .len, args := as, argTypes := ts }, ty, pos, af, none⟩ :: rest) σ Q) : ARun P all (⟨dd, .call { callee := .builtin .len, args := as, argTypes := ts }, ty, pos, af, none⟩ :: rest) σ Q := h
theorem s_append {as : Array Operand} {ts : Array TypeId} (h : ARun P all (⟨dd, .call { callee := .builtin .append, args := as, argTypes := ts }, ty, pos, af, none⟩ :: rest) σ Q) : ARun P all (⟨dd, .call { callee := .builtin .append, args := as, argTypes := ts }, ty, pos, af, none⟩ :: rest) σ Q := h
theorem s_max {as : Array Operand} {ts : Array TypeId} (h : ARun P all (⟨dd, .call { callee := .builtin .max, args := as, argTypes := ts }, ty, pos, af, none⟩ :: rest) σ Q) : ARun P all (⟨dd, .call { callee := .builtin .max, args := as, argTypes := ts }, ty, pos, af, none⟩ :: rest) σ Q := h
theorem s_min {as : Array Operand} {ts : Array TypeId} (h : ARun P all (⟨dd, .call { callee := .builtin .min, args := as, argTypes := ts }, ty, pos, af, none⟩ :: rest) σ Q) : ARun P all (⟨dd, .call { callee := .builtin .min, args := as, argTypes := ts }, ty, pos, af, none⟩ :: rest) σ Q := h
theorem s_copy {as : Array Operand} {ts : Array TypeId} (h : ARun P all (⟨dd, .call { callee := .builtin .copy, args := as, argTypes := ts }, ty, pos, af, none⟩ :: rest) σ Q) : ARun P all (⟨dd, .call { callee := .builtin .copy, args := as, argTypes := ts }, ty, pos, af, none⟩ :: rest) σ Q := h
theorem s_delete {as : Array Operand} {ts : Array TypeId} (h : ARun P all (⟨dd, .call { callee := .builtin .delete, args := as, argTypes := ts }, ty, pos, af, none⟩ :: rest) σ Q) : ARun P all (⟨dd, .call { callee := .builtin .delete, args := as, argTypes := ts }, ty, pos, af, none⟩ :: rest) σ Q := h
theorem s_add {t u : TypeId} {x y : Operand} (h : ARun P all (⟨dd, .binOp .add t x y u, ty, pos, af, none⟩ :: rest) σ Q) : ARun P all (⟨dd, .binOp .add t x y u, ty, pos, af, none⟩ :: rest) σ Q := h
theorem s_sub {t u : TypeId} {x y : Operand} (h : ARun P all (⟨dd, .binOp .sub t x y u, ty, pos, af, none⟩ :: rest) σ Q) : ARun P all (⟨dd, .binOp .sub t x y u, ty, pos, af, none⟩ :: rest) σ Q := h
theorem s_mul {t u : TypeId} {x y : Operand} (h : ARun P all (⟨dd, .binOp .mul t x y u, ty, pos, af, none⟩ :: rest) σ Q) : ARun P all (⟨dd, .binOp .mul t x y u, ty, pos, af, none⟩ :: rest) σ Q := h
theorem s_quo {t u : TypeId} {x y : Operand} (h : ARun P all (⟨dd, .binOp .quo t x y u, ty, pos, af, none⟩ :: rest) σ Q) : ARun P all (⟨dd, .binOp .quo t x y u, ty, pos, af, none⟩ :: rest) σ Q := h
theorem s_rem {t u : TypeId} {x y : Operand} (h : ARun P all (⟨dd, .binOp .rem t x y u, ty, pos, af, none⟩ :: rest) σ Q) : ARun P all (⟨dd, .binOp .rem t x y u, ty, pos, af, none⟩ :: rest) σ Q := h
theorem s_and {t u : TypeId} {x y : Operand} (h : ARun P all (⟨dd, .binOp .and t x y u, ty, pos, af, none⟩ :: rest) σ Q) : ARun P all (⟨dd, .binOp .and t x y u, ty, pos, af, none⟩ :: rest) σ Q := h
theorem s_or {t u : TypeId} {x y : Operand} (h : ARun P all (⟨dd, .binOp .or t x y u, ty, pos, af, none⟩ :: rest) σ Q) : ARun P all (⟨dd, .binOp .or t x y u, ty, pos, af, none⟩ :: rest) σ Q := h
theorem s_xor {t u : TypeId} {x y : Operand} (h : ARun P all (⟨dd, .binOp .xor t x y u, ty, pos, af, none⟩ :: rest) σ Q) : ARun P all (⟨dd, .binOp .xor t x y u, ty, pos, af, none⟩ :: rest) σ Q := h
theorem s_shl {t u : TypeId} {x y : Operand} (h : ARun P all (⟨dd, .binOp .shl t x y u, ty, pos, af, none⟩ :: rest) σ Q) : ARun P all (⟨dd, .binOp .shl t x y u, ty, pos, af, none⟩ :: rest) σ Q := h
theorem s_shr {t u : TypeId} {x y : Operand} (h : ARun P all (⟨dd, .binOp .shr t x y u, ty, pos, af, none⟩ :: rest) σ Q) : ARun P all (⟨dd, .binOp .shr t x y u, ty, pos, af, none⟩ :: rest) σ Q := h
theorem s_andNot {t u : TypeId} {x y : Operand} (h : ARun P all (⟨dd, .binOp .andNot t x y u, ty, pos, af, none⟩ :: rest) σ Q) : ARun P all (⟨dd, .binOp .andNot t x y u, ty, pos, af, none⟩ :: rest) σ Q := h
theorem s_eql {t u : TypeId} {x y : Operand} (h : ARun P all (⟨dd, .binOp .eql t x y u, ty, pos, af, none⟩ :: rest) σ Q) : ARun P all (⟨dd, .binOp .eql t x y u, ty, pos, af, none⟩ :: rest) σ Q := h
theorem s_neq {t u : TypeId} {x y : Operand} (h : ARun P all (⟨dd, .binOp .neq t x y u, ty, pos, af, none⟩ :: rest) σ Q) : ARun P all (⟨dd, .binOp .neq t x y u, ty, pos, af, none⟩ :: rest) σ Q := h
theorem s_lss {t u : TypeId} {x y : Operand} (h : ARun P all (⟨dd, .binOp .lss t x y u, ty, pos, af, none⟩ :: rest) σ Q) : ARun P all (⟨dd, .binOp .lss t x y u, ty, pos, af, none⟩ :: rest) σ Q := h
theorem s_leq {t u : TypeId} {x y : Operand} (h : ARun P all (⟨dd, .binOp .leq t x y u, ty, pos, af, none⟩ :: rest) σ Q) : ARun P all (⟨dd, .binOp .leq t x y u, ty, pos, af, none⟩ :: rest) σ Q := h
theorem s_gtr {t u : TypeId} {x y : Operand} (h : ARun P all (⟨dd, .binOp .gtr t x y u, ty, pos, af, none⟩ :: rest) σ Q) : ARun P all (⟨dd, .binOp .gtr t x y u, ty, pos, af, none⟩ :: rest) σ Q := h
theorem s_geq {t u : TypeId} {x y : Operand} (h : ARun P all (⟨dd, .binOp .geq t x y u, ty, pos, af, none⟩ :: rest) σ Q) : ARun P all (⟨dd, .binOp .geq t x y u, ty, pos, af, none⟩ :: rest) σ Q := h
theorem s_guard {op : Op} {g : Nat × Bool} (h : ARun P all (⟨dd, op, ty, pos, af, some g⟩ :: rest) σ Q) : ARun P all (⟨dd, op, ty, pos, af, some g⟩ :: rest) σ Q := h
theorem z_move {x : Operand} (h : AQ P all (⟨dd, .move x, ty, pos, af, none⟩ :: rest) σ Q) : AQ P all (⟨dd, .move x, ty, pos, af, none⟩ :: rest) σ Q := h
theorem z_assign {x : Operand} (h : AQ P all (⟨dd, .assign x, ty, pos, af, none⟩ :: rest) σ Q) : AQ P all (⟨dd, .assign x, ty, pos, af, none⟩ :: rest) σ Q := h
theorem z_pick {c x y : Operand} (h : AQ P all (⟨dd, .pick c x y, ty, pos, af, none⟩ :: rest) σ Q) : AQ P all (⟨dd, .pick c x y, ty, pos, af, none⟩ :: rest) σ Q := h
theorem z_load {t : TypeId} {x : Operand} (h : AQ P all (⟨dd, .load t x, ty, pos, af, none⟩ :: rest) σ Q) : AQ P all (⟨dd, .load t x, ty, pos, af, none⟩ :: rest) σ Q := h
theorem z_store {t : TypeId} {x y : Operand} (h : AQ P all (⟨dd, .store t x y, ty, pos, af, none⟩ :: rest) σ Q) : AQ P all (⟨dd, .store t x y, ty, pos, af, none⟩ :: rest) σ Q := h
theorem z_fieldAddr {s : TypeId} {x : Operand} {j : Nat} (h : AQ P all (⟨dd, .fieldAddr s x j, ty, pos, af, none⟩ :: rest) σ Q) : AQ P all (⟨dd, .fieldAddr s x j, ty, pos, af, none⟩ :: rest) σ Q := h
theorem z_field {s : TypeId} {x : Operand} {j : Nat} (h : AQ P all (⟨dd, .field s x j, ty, pos, af, none⟩ :: rest) σ Q) : AQ P all (⟨dd, .field s x j, ty, pos, af, none⟩ :: rest) σ Q := h
theorem z_indexAddr {t : TypeId} {x y : Operand} (h : AQ P all (⟨dd, .indexAddr t x y, ty, pos, af, none⟩ :: rest) σ Q) : AQ P all (⟨dd, .indexAddr t x y, ty, pos, af, none⟩ :: rest) σ Q := h
theorem z_index {t : TypeId} {x y : Operand} (h : AQ P all (⟨dd, .index t x y, ty, pos, af, none⟩ :: rest) σ Q) : AQ P all (⟨dd, .index t x y, ty, pos, af, none⟩ :: rest) σ Q := h
theorem z_unOp {o : UnOp} {t : TypeId} {x : Operand} (h : AQ P all (⟨dd, .unOp o t x, ty, pos, af, none⟩ :: rest) σ Q) : AQ P all (⟨dd, .unOp o t x, ty, pos, af, none⟩ :: rest) σ Q := h
theorem z_box {t : TypeId} {x : Operand} (h : AQ P all (⟨dd, .box t x, ty, pos, af, none⟩ :: rest) σ Q) : AQ P all (⟨dd, .box t x, ty, pos, af, none⟩ :: rest) σ Q := h
theorem z_alloc {t : TypeId} (h : AQ P all (⟨dd, .alloc t, ty, pos, af, none⟩ :: rest) σ Q) : AQ P all (⟨dd, .alloc t, ty, pos, af, none⟩ :: rest) σ Q := h
theorem z_build {t : TypeId} {ps : Array (Nat × Operand)} (h : AQ P all (⟨dd, .build t ps, ty, pos, af, none⟩ :: rest) σ Q) : AQ P all (⟨dd, .build t ps, ty, pos, af, none⟩ :: rest) σ Q := h
theorem z_buildSlice {t : TypeId} {n : Nat} {ps : Array (Nat × Operand)} (h : AQ P all (⟨dd, .buildSlice t n ps, ty, pos, af, none⟩ :: rest) σ Q) : AQ P all (⟨dd, .buildSlice t n ps, ty, pos, af, none⟩ :: rest) σ Q := h
theorem z_extract {x : Operand} {i : Nat} (h : AQ P all (⟨dd, .extract x i, ty, pos, af, none⟩ :: rest) σ Q) : AQ P all (⟨dd, .extract x i, ty, pos, af, none⟩ :: rest) σ Q := h
theorem z_nilCheck {x : Operand} (h : AQ P all (⟨dd, .nilCheck x, ty, pos, af, none⟩ :: rest) σ Q) : AQ P all (⟨dd, .nilCheck x, ty, pos, af, none⟩ :: rest) σ Q := h
theorem z_makeFunc {fn : Fn} {f c : Array Operand} (h : AQ P all (⟨dd, .makeFunc fn f c, ty, pos, af, none⟩ :: rest) σ Q) : AQ P all (⟨dd, .makeFunc fn f c, ty, pos, af, none⟩ :: rest) σ Q := h
theorem z_slice {t : TypeId} {x : Operand} {lo hi m : Option Operand} (h : AQ P all (⟨dd, .slice t x lo hi m, ty, pos, af, none⟩ :: rest) σ Q) : AQ P all (⟨dd, .slice t x lo hi m, ty, pos, af, none⟩ :: rest) σ Q := h
theorem z_convert {s t : TypeId} {x : Operand} (h : AQ P all (⟨dd, .convert s t x, ty, pos, af, none⟩ :: rest) σ Q) : AQ P all (⟨dd, .convert s t x, ty, pos, af, none⟩ :: rest) σ Q := h
theorem z_makeSlice {t : TypeId} {x y : Operand} (h : AQ P all (⟨dd, .makeSlice t x y, ty, pos, af, none⟩ :: rest) σ Q) : AQ P all (⟨dd, .makeSlice t x y, ty, pos, af, none⟩ :: rest) σ Q := h
theorem z_makeMap {t : TypeId} {r : Option Operand} (h : AQ P all (⟨dd, .makeMap t r, ty, pos, af, none⟩ :: rest) σ Q) : AQ P all (⟨dd, .makeMap t r, ty, pos, af, none⟩ :: rest) σ Q := h
theorem z_lookup {t : TypeId} {x y : Operand} {ok : Bool} (h : AQ P all (⟨dd, .lookup t x y ok, ty, pos, af, none⟩ :: rest) σ Q) : AQ P all (⟨dd, .lookup t x y ok, ty, pos, af, none⟩ :: rest) σ Q := h
theorem z_mapUpdate {t : TypeId} {m k v : Operand} (h : AQ P all (⟨dd, .mapUpdate t m k v, ty, pos, af, none⟩ :: rest) σ Q) : AQ P all (⟨dd, .mapUpdate t m k v, ty, pos, af, none⟩ :: rest) σ Q := h
theorem z_callf {f : FuncId} {as : Array Operand} {ts : Array TypeId} (h : AQ P all (⟨dd, .call { callee := .value (.func f), args := as, argTypes := ts }, ty, pos, af, none⟩ :: rest) σ Q) : AQ P all (⟨dd, .call { callee := .value (.func f), args := as, argTypes := ts }, ty, pos, af, none⟩ :: rest) σ Q := h
theorem z_callv {t : Nat} {as : Array Operand} {ts : Array TypeId} (h : AQ P all (⟨dd, .call { callee := .value (.tmp t), args := as, argTypes := ts }, ty, pos, af, none⟩ :: rest) σ Q) : AQ P all (⟨dd, .call { callee := .value (.tmp t), args := as, argTypes := ts }, ty, pos, af, none⟩ :: rest) σ Q := h
theorem z_len {as : Array Operand} {ts : Array TypeId} (h : AQ P all (⟨dd, .call { callee := .builtin .len, args := as, argTypes := ts }, ty, pos, af, none⟩ :: rest) σ Q) : AQ P all (⟨dd, .call { callee := .builtin .len, args := as, argTypes := ts }, ty, pos, af, none⟩ :: rest) σ Q := h
theorem z_append {as : Array Operand} {ts : Array TypeId} (h : AQ P all (⟨dd, .call { callee := .builtin .append, args := as, argTypes := ts }, ty, pos, af, none⟩ :: rest) σ Q) : AQ P all (⟨dd, .call { callee := .builtin .append, args := as, argTypes := ts }, ty, pos, af, none⟩ :: rest) σ Q := h
theorem z_max {as : Array Operand} {ts : Array TypeId} (h : AQ P all (⟨dd, .call { callee := .builtin .max, args := as, argTypes := ts }, ty, pos, af, none⟩ :: rest) σ Q) : AQ P all (⟨dd, .call { callee := .builtin .max, args := as, argTypes := ts }, ty, pos, af, none⟩ :: rest) σ Q := h
theorem z_min {as : Array Operand} {ts : Array TypeId} (h : AQ P all (⟨dd, .call { callee := .builtin .min, args := as, argTypes := ts }, ty, pos, af, none⟩ :: rest) σ Q) : AQ P all (⟨dd, .call { callee := .builtin .min, args := as, argTypes := ts }, ty, pos, af, none⟩ :: rest) σ Q := h
theorem z_copy {as : Array Operand} {ts : Array TypeId} (h : AQ P all (⟨dd, .call { callee := .builtin .copy, args := as, argTypes := ts }, ty, pos, af, none⟩ :: rest) σ Q) : AQ P all (⟨dd, .call { callee := .builtin .copy, args := as, argTypes := ts }, ty, pos, af, none⟩ :: rest) σ Q := h
theorem z_delete {as : Array Operand} {ts : Array TypeId} (h : AQ P all (⟨dd, .call { callee := .builtin .delete, args := as, argTypes := ts }, ty, pos, af, none⟩ :: rest) σ Q) : AQ P all (⟨dd, .call { callee := .builtin .delete, args := as, argTypes := ts }, ty, pos, af, none⟩ :: rest) σ Q := h
theorem z_add {t u : TypeId} {x y : Operand} (h : AQ P all (⟨dd, .binOp .add t x y u, ty, pos, af, none⟩ :: rest) σ Q) : AQ P all (⟨dd, .binOp .add t x y u, ty, pos, af, none⟩ :: rest) σ Q := h
theorem z_sub {t u : TypeId} {x y : Operand} (h : AQ P all (⟨dd, .binOp .sub t x y u, ty, pos, af, none⟩ :: rest) σ Q) : AQ P all (⟨dd, .binOp .sub t x y u, ty, pos, af, none⟩ :: rest) σ Q := h
theorem z_mul {t u : TypeId} {x y : Operand} (h : AQ P all (⟨dd, .binOp .mul t x y u, ty, pos, af, none⟩ :: rest) σ Q) : AQ P all (⟨dd, .binOp .mul t x y u, ty, pos, af, none⟩ :: rest) σ Q := h
theorem z_quo {t u : TypeId} {x y : Operand} (h : AQ P all (⟨dd, .binOp .quo t x y u, ty, pos, af, none⟩ :: rest) σ Q) : AQ P all (⟨dd, .binOp .quo t x y u, ty, pos, af, none⟩ :: rest) σ Q := h
theorem z_rem {t u : TypeId} {x y : Operand} (h : AQ P all (⟨dd, .binOp .rem t x y u, ty, pos, af, none⟩ :: rest) σ Q) : AQ P all (⟨dd, .binOp .rem t x y u, ty, pos, af, none⟩ :: rest) σ Q := h
theorem z_and {t u : TypeId} {x y : Operand} (h : AQ P all (⟨dd, .binOp .and t x y u, ty, pos, af, none⟩ :: rest) σ Q) : AQ P all (⟨dd, .binOp .and t x y u, ty, pos, af, none⟩ :: rest) σ Q := h
theorem z_or {t u : TypeId} {x y : Operand} (h : AQ P all (⟨dd, .binOp .or t x y u, ty, pos, af, none⟩ :: rest) σ Q) : AQ P all (⟨dd, .binOp .or t x y u, ty, pos, af, none⟩ :: rest) σ Q := h
theorem z_xor {t u : TypeId} {x y : Operand} (h : AQ P all (⟨dd, .binOp .xor t x y u, ty, pos, af, none⟩ :: rest) σ Q) : AQ P all (⟨dd, .binOp .xor t x y u, ty, pos, af, none⟩ :: rest) σ Q := h
theorem z_shl {t u : TypeId} {x y : Operand} (h : AQ P all (⟨dd, .binOp .shl t x y u, ty, pos, af, none⟩ :: rest) σ Q) : AQ P all (⟨dd, .binOp .shl t x y u, ty, pos, af, none⟩ :: rest) σ Q := h
theorem z_shr {t u : TypeId} {x y : Operand} (h : AQ P all (⟨dd, .binOp .shr t x y u, ty, pos, af, none⟩ :: rest) σ Q) : AQ P all (⟨dd, .binOp .shr t x y u, ty, pos, af, none⟩ :: rest) σ Q := h
theorem z_andNot {t u : TypeId} {x y : Operand} (h : AQ P all (⟨dd, .binOp .andNot t x y u, ty, pos, af, none⟩ :: rest) σ Q) : AQ P all (⟨dd, .binOp .andNot t x y u, ty, pos, af, none⟩ :: rest) σ Q := h
theorem z_eql {t u : TypeId} {x y : Operand} (h : AQ P all (⟨dd, .binOp .eql t x y u, ty, pos, af, none⟩ :: rest) σ Q) : AQ P all (⟨dd, .binOp .eql t x y u, ty, pos, af, none⟩ :: rest) σ Q := h
theorem z_neq {t u : TypeId} {x y : Operand} (h : AQ P all (⟨dd, .binOp .neq t x y u, ty, pos, af, none⟩ :: rest) σ Q) : AQ P all (⟨dd, .binOp .neq t x y u, ty, pos, af, none⟩ :: rest) σ Q := h
theorem z_lss {t u : TypeId} {x y : Operand} (h : AQ P all (⟨dd, .binOp .lss t x y u, ty, pos, af, none⟩ :: rest) σ Q) : AQ P all (⟨dd, .binOp .lss t x y u, ty, pos, af, none⟩ :: rest) σ Q := h
theorem z_leq {t u : TypeId} {x y : Operand} (h : AQ P all (⟨dd, .binOp .leq t x y u, ty, pos, af, none⟩ :: rest) σ Q) : AQ P all (⟨dd, .binOp .leq t x y u, ty, pos, af, none⟩ :: rest) σ Q := h
theorem z_gtr {t u : TypeId} {x y : Operand} (h : AQ P all (⟨dd, .binOp .gtr t x y u, ty, pos, af, none⟩ :: rest) σ Q) : AQ P all (⟨dd, .binOp .gtr t x y u, ty, pos, af, none⟩ :: rest) σ Q := h
theorem z_geq {t u : TypeId} {x y : Operand} (h : AQ P all (⟨dd, .binOp .geq t x y u, ty, pos, af, none⟩ :: rest) σ Q) : AQ P all (⟨dd, .binOp .geq t x y u, ty, pos, af, none⟩ :: rest) σ Q := h
theorem z_guard {op : Op} {g : Nat × Bool} (h : AQ P all (⟨dd, op, ty, pos, af, some g⟩ :: rest) σ Q) : AQ P all (⟨dd, op, ty, pos, af, some g⟩ :: rest) σ Q := h
theorem t_cond {R : St → Prop} {k : List It} {c : Operand} {x y : Code} (h : ATodo P R (.code (.cond c x y) :: k) σ) : ATodo P R (.code (.cond c x y) :: k) σ := h
end
end Go.Eng
