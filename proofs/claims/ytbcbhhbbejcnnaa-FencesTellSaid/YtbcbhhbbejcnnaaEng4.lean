/- The engine, part 4: rules for memory: boxes, fields, elements, loads, stores. No program in sight. -/
import Derived.Test.YtbcbhhbbejcnnaaEng3
set_option linter.unusedVariables false
namespace Go.Eng
open Go

inductive Fnd : Heap → Bk → Ob → Prop
  | here {b : Bk} {o : Ob} {h : Heap} : Fnd ((b, o) :: h) b o
  | next {e : Bk × Ob} {b : Bk} {o : Ob} {h : Heap} (k : Fnd h b o) : Fnd (e :: h) b o

theorem Fnd.mem {h : Heap} {b : Bk} {o : Ob} (f : Fnd h b o) : (b, o) ∈ h := by
  induction f with
  | here => simp
  | next _ ih => simp [ih]

/-- An entry gives way to another. -/
inductive Upd : Heap → Bk → Ob → Bk → Ob → Heap → Prop
  | here {b b' : Bk} {o o' : Ob} {h : Heap} : Upd ((b, o) :: h) b o b' o' ((b', o') :: h)
  | next {e : Bk × Ob} {b b' : Bk} {o o' : Ob} {h h' : Heap} (k : Upd h b o b' o' h') : Upd (e :: h) b o b' o' (e :: h')

/-- An entry goes. -/
inductive Del : Heap → Bk → Ob → Heap → Prop
  | here {b : Bk} {o : Ob} {h : Heap} : Del ((b, o) :: h) b o h
  | next {e : Bk × Ob} {b : Bk} {o : Ob} {h h' : Heap} (k : Del h b o h') : Del (e :: h) b o (e :: h')

theorem Upd.split {h h' : Heap} {b b' : Bk} {o o' : Ob} (u : Upd h b o b' o' h') : ∃ pre post, h = pre ++ (b, o) :: post ∧ h' = pre ++ (b', o') :: post := by
  induction u with
  | here => exact ⟨[], _, rfl, rfl⟩
  | next _ ih => obtain ⟨p, q, rfl, rfl⟩ := ih; exact ⟨_ :: p, q, rfl, rfl⟩

theorem Del.split {h h' : Heap} {b : Bk} {o : Ob} (u : Del h b o h') : ∃ pre post, h = pre ++ (b, o) :: post ∧ h' = pre ++ post := by
  induction u with
  | here => exact ⟨[], _, rfl, rfl⟩
  | next _ ih => obtain ⟨p, q, rfl, rfl⟩ := ih; exact ⟨_ :: p, q, rfl, rfl⟩

theorem Upd.fnd {h h' : Heap} {b b' : Bk} {o o' : Ob} (u : Upd h b o b' o' h') : Fnd h b o := by
  induction u with
  | here => exact .here
  | next _ ih => exact .next ih

theorem mem_mid {α : Type} {p q : List α} {x y : α} : y ∈ p ++ x :: q ↔ y = x ∨ y ∈ p ++ q := by
  simp only [List.mem_append, List.mem_cons]
  constructor
  · rintro (h | h | h)
    · exact .inr (.inl h)
    · exact .inl h
    · exact .inr (.inr h)
  · rintro (h | h | h)
    · exact .inr (.inl h)
    · exact .inl h
    · exact .inr (.inr h)

/-- New memory, and one block that may turn; draws. -/
def GB (w w' : World) (x : Option Nat) : Prop := w.grownBy w' x ∧ w.drawn ≤ w'.drawn
/-- An entry's memory turns, or it goes over to new memory; all else stands. -/
theorem upd_rel {w w' : World} {S : Nat → Prop} {hp hp' : Heap} {b b' : Bk} {o o' : Ob} (r : HRel w S hp) (u : Upd hp b o b' o' hp') (cc : GB w w' b.blk) (hf : ¬ o.isFro) (hf' : ¬ o'.isFro)
    (hh : Holds w' S b' o') (hb' : b'.blk = b.blk ∨ b'.blk = none ∨ ∃ m, b'.blk = some m ∧ w.heap.size ≤ m) :
    HRel w' S hp' ∧ Evo w S hp w' S hp' ∧ ∀ n, S n → S n ∧ w'.heap[n]? = w.heap[n]? := by
  obtain ⟨c, hd⟩ := cc
  obtain ⟨p, q, rfl, rfl⟩ := u.split
  have hin : (b, o) ∈ p ++ (b, o) :: q := by simp
  have nS : ∀ n, b.blk = some n → ¬ S n := fun n hn hs => hf ((r.sep _ hin n hn).1 hs)
  have keep : ∀ n, S n → S n ∧ w'.heap[n]? = w.heap[n]? := fun n hs => ⟨hs, c.block n (r.slt n hs) (fun e => nS n e.symm hs)⟩
  have hnd : (List.filterMap (fun x : Bk × Ob => x.1.blk) (p ++ (b, o) :: q)).Nodup := r.nodup
  have others : ∀ e ∈ p ++ q, ∀ n, e.1.blk = some n → n < w.heap.size ∧ b.blk ≠ some n := by
    intro e he n hn
    refine ⟨r.lt ⟨e, mem_mid.2 (.inr he), hn⟩, fun hb => ?_⟩
    rw [List.filterMap_append, List.filterMap_cons_some (f := fun x : Bk × Ob => x.1.blk) (a := (b, o)) (b := n) hb, List.nodup_append] at hnd
    rcases List.mem_append.1 he with h | h
    · exact hnd.2.2 n (List.mem_filterMap.2 ⟨e, h, hn⟩) n (by simp) rfl
    · exact (List.nodup_cons.1 hnd.2.1).1 (List.mem_filterMap.2 ⟨e, h, hn⟩)
  have hb'o : ∀ e ∈ p ++ q, ∀ n, e.1.blk = some n → b'.blk ≠ some n := by
    intro e he n hn hb
    obtain ⟨h1, h2⟩ := others e he n hn
    rcases hb' with h | h | ⟨m, h, hm⟩
    · exact h2 (h ▸ hb)
    · rw [h] at hb; cases hb
    · rw [h] at hb; have := Option.some.inj hb; omega
  refine ⟨⟨?_, ?_, ?_, fun n hs => Nat.lt_of_lt_of_le (r.slt n hs) c.size⟩, ⟨c.os, c.tape, c.output, c.size, keep, ?_, ?_, hd⟩, keep⟩
  · have base : (List.filterMap (fun x : Bk × Ob => x.1.blk) (p ++ q)).Nodup := hnd.sublist ((List.Sublist.append (List.Sublist.refl p) (List.sublist_cons_self _ _)).filterMap _)
    rw [List.filterMap_append] at base
    show (List.filterMap (fun x : Bk × Ob => x.1.blk) (p ++ (b', o') :: q)).Nodup
    cases hbb : b'.blk with
    | none => rw [List.filterMap_append, List.filterMap_cons_none (by simpa using hbb)]; exact base
    | some m =>
      rw [List.filterMap_append, List.filterMap_cons_some (by simpa using hbb)]
      rw [List.nodup_append] at base ⊢
      refine ⟨base.1, List.nodup_cons.2 ⟨fun hm => ?_, base.2.1⟩, fun x hx y hy hxy => ?_⟩
      · obtain ⟨e, he, hen⟩ := List.mem_filterMap.1 hm
        exact hb'o e (List.mem_append_right _ he) m hen hbb
      · subst hxy
        rcases List.mem_cons.1 hy with rfl | hy
        · obtain ⟨e, he, hen⟩ := List.mem_filterMap.1 hx
          exact hb'o e (List.mem_append_left _ he) _ hen hbb
        · exact base.2.2 x hx x hy rfl
  · intro e he
    rcases mem_mid.1 he with rfl | he
    · exact hh
    · exact (r.holds e (mem_mid.2 (.inr he))).mono keep (fun n hn => c.block n (others e he n hn).1 (fun h => (others e he n hn).2 h.symm))
  · intro e he n hn
    rcases mem_mid.1 he with rfl | he
    · have ns : ¬ S n := by
        rcases hb' with h | h | ⟨m, h, hm⟩
        · exact nS n (h ▸ hn)
        · rw [h] at hn; cases hn
        · intro hs; have := r.slt n hs; rw [h] at hn; have := Option.some.inj hn; omega
      exact ⟨fun hs => (ns hs).elim, fun h => (hf' h).elim⟩
    · exact r.sep e (mem_mid.2 (.inr he)) n hn
  · intro n hn hhas
    exact ⟨c.block n hn (fun h => hhas ⟨(b, o), hin, h.symm⟩), id⟩
  · rintro n ⟨e, he, hen⟩
    rcases mem_mid.1 he with rfl | he
    · rcases hb' with h | h | ⟨m, h, hm⟩
      · exact .inl ⟨(b, o), hin, h ▸ hen⟩
      · rw [h] at hen; cases hen
      · rw [h] at hen; have := Option.some.inj hen; exact .inr (by omega)
    · exact .inl ⟨e, mem_mid.2 (.inr he), hen⟩

/-- A new entry, in new memory or in none. -/
theorem add_rel {w w' : World} {S : Nat → Prop} {hp : Heap} {b : Bk} {o : Ob} (r : HRel w S hp) (e : Ext w w') (hf : ¬ o.isFro) (hh : Holds w' S b o) (hb : b.blk = none ∨ ∃ m, b.blk = some m ∧ w.heap.size ≤ m) :
    HRel w' S ((b, o) :: hp) ∧ Evo w S hp w' S ((b, o) :: hp) ∧ ∀ n, S n → S n ∧ w'.heap[n]? = w.heap[n]? := by
  have r' := r.ext e
  have keep : ∀ n, S n → S n ∧ w'.heap[n]? = w.heap[n]? := fun n hs => ⟨hs, e.same n (r.slt n hs)⟩
  have fresh : ∀ n, b.blk = some n → w.heap.size ≤ n := by
    intro n hn
    rcases hb with h | ⟨m, h, hm⟩
    · rw [h] at hn; cases hn
    · rw [h] at hn; have := Option.some.inj hn; omega
  refine ⟨⟨?_, ?_, ?_, r'.slt⟩, ⟨e.os, e.tape, e.output, e.size, keep, fun n hn _ => ⟨e.same n hn, id⟩, ?_, e.drawn⟩, keep⟩
  · show (List.filterMap (fun x : Bk × Ob => x.1.blk) ((b, o) :: hp)).Nodup
    cases hbb : b.blk with
    | none => rw [List.filterMap_cons_none (by simpa using hbb)]; exact r.nodup
    | some m =>
      rw [List.filterMap_cons_some (by simpa using hbb)]
      refine List.nodup_cons.2 ⟨fun hm => ?_, r.nodup⟩
      obtain ⟨x, hx, hxn⟩ := List.mem_filterMap.1 hm
      have := r.lt ⟨x, hx, hxn⟩
      have := fresh m hbb
      omega
  · intro x hx
    rcases List.mem_cons.1 hx with rfl | hx
    · exact hh
    · exact r'.holds x hx
  · intro x hx n hn
    rcases List.mem_cons.1 hx with rfl | hx
    · refine ⟨fun hs => ?_, fun h => (hf h).elim⟩
      have := r.slt n hs
      have := fresh n hn
      omega
    · exact r.sep x hx n hn
  · rintro n ⟨x, hx, hxn⟩
    rcases List.mem_cons.1 hx with rfl | hx
    · exact .inr (fresh n hxn)
    · exact .inl ⟨x, hx, hxn⟩

/-! ### the cells of a value -/
theorem cells_at {w : World} {S : Nat → Prop} {av : AV} {v : Value} (h : At w S av v) (h1 : ∀ c ∈ av.cells, c.one = true) : av.cells.length = v.cells.size ∧ AtA w S av.cells v.cells := by
  have single : ∀ (c : AV) (u : Value), At w S c u → AtA w S [c] #[u] := by
    intro c u hc i c' u' h1 h2
    match i with
    | 0 => simp at h1 h2; subst h1; subst h2; exact hc
    | i + 1 => simp at h1
  cases h with
  | agg cs vs hl h => exact ⟨hl, h⟩
  | raw v =>
    have : v.oneCell' = true := h1 (.raw v) (by simp [AV.cells])
    have hv : v.cells = #[v] := by cases v <;> first | rfl | (simp [Value.oneCell'] at this)
    rw [hv]
    exact ⟨rfl, single _ _ (.raw v)⟩
  | tup cs vs hl h => exact ⟨rfl, single _ _ (.tup cs vs hl h)⟩
  | int k n => exact ⟨rfl, single _ _ (.int k n)⟩
  | bool b => exact ⟨rfl, single _ _ (.bool b)⟩
  | str s => exact ⟨rfl, single _ _ (.str s)⟩
  | list sz xs a cap vs hsz hl h hm hc => exact ⟨rfl, single _ _ (.list sz xs a cap vs hsz hl h hm hc)⟩
  | nil => exact ⟨rfl, single _ _ .nil⟩
  | ptr b o n hb => exact ⟨rfl, single _ _ (.ptr b o n hb)⟩
  | slph sz b hb => exact ⟨rfl, single _ _ (.slph sz b hb)⟩
  | sl sz b off len n cap hb g1 g2 => exact ⟨rfl, single _ _ (.sl sz b off len n cap hb g1 g2)⟩
  | sl0 sz b off n ad hb => exact ⟨rfl, single _ _ (.sl0 sz b off n ad hb)⟩
  | rptr cs ad vs hl h hs hS hm => exact ⟨rfl, single _ _ (.rptr cs ad vs hl h hs hS hm)⟩
  | aptr sz b i o n hb => exact ⟨rfl, single _ _ (.aptr sz b i o n hb)⟩
  | mref b n hb => exact ⟨rfl, single _ _ (.mref b n hb)⟩
  | func fn cs vs hl h => exact ⟨rfl, single _ _ (.func fn cs vs hl h)⟩

theorem one_vals {w : World} {S : Nat → Prop} {cs : List AV} {vs : Array Value} (hl : cs.length = vs.size) (h : AtA w S cs vs) (h1 : ∀ c ∈ cs, c.one = true) : ∀ v ∈ vs.toList, v.oneCell' = true := by
  intro v hv
  obtain ⟨i, hi, he⟩ := List.mem_iff_getElem.1 hv
  have hi' : i < cs.length := by rw [hl]; simpa using hi
  have := h i cs[i] v (by simp [hi']) (by rw [← he]; simp at hi ⊢)
  exact this.one_ok (h1 _ (List.getElem_mem hi'))

def allOne : List AV → Bool
  | [] => true
  | c :: r => c.one && allOne r

theorem allOne_spec {cs : List AV} (h : allOne cs = true) : ∀ c ∈ cs, c.one = true := by
  induction cs with
  | nil => simp
  | cons x r ih =>
    simp only [allOne, Bool.and_eq_true] at h
    intro c hc
    rcases List.mem_cons.1 hc with rfl | hc
    · exact h.1
    · exact ih h.2 c hc

section rules
variable {P : Program} {all : Array Oper} {rest : List Oper} {n : Nat} {tm : List (Nat × AV)} {hp : Heap} {Q : St → Prop} {d : Nat} {ty : TypeId} {pos : String} {af : Array Edge}

/-- A new block for the rules: its address in the state. -/
theorem new_box {w : World} {S : Nat → Prop} {hp : Heap} (r : HRel w S hp) {cs : List AV} {vs : Array Value} (E : TypeId) (hl : cs.length = vs.size) (h : AtA w S cs vs) (h1 : ∀ c ∈ cs, c.one = true) :
    HRel (w.alloc (.cells vs E)) S ((⟨some w.heap.size, 0⟩, .cells cs) :: hp) ∧ Evo w S hp (w.alloc (.cells vs E)) S ((⟨some w.heap.size, 0⟩, .cells cs) :: hp) ∧ ∀ n, S n → S n ∧ (w.alloc (.cells vs E)).heap[n]? = w.heap[n]? := by
  have e := Ext.alloc w (.cells vs E)
  refine add_rel r e id ⟨h1, w.heap.size, vs, E, rfl, ?_, hl.symm, h.mono fun n hn => ⟨hn, e.same n (r.slt n hn)⟩⟩ (.inr ⟨_, rfl, Nat.le_refl _⟩)
  show (w.heap.push _)[w.heap.size]? = _
  simp

theorem r_box {x : Operand} {E : TypeId} {av : AV} (hx : evA tm x = some av) (h1 : allOne av.cells = true) (hn : Nat.blt d n = true)
    (kk : ∀ b : Bk, ARun P all rest ⟨n, (d, .ptr b 0) :: tm, (b, .cells av.cells) :: hp⟩ Q) : ARun P all (⟨some d, .box E x, ty, pos, af, none⟩ :: rest) ⟨n, tm, hp⟩ Q := by
  refine ARun.opx rfl fun w S a r => ?_
  have hv := evA_at (σ := ⟨n, tm, hp⟩) r hx
  obtain ⟨hl, hat⟩ := cells_at hv (allOne_spec h1)
  obtain ⟨g1, g2, g3⟩ := new_box r.hp E hl hat (allOne_spec h1)
  refine ⟨.pointer (some ⟨w.heap.size, 0, none⟩), w.alloc (.cells (a.eval x).cells E), S, _, ?_, (r.heap g3 g1).put hn (.ptr ⟨some w.heap.size, 0⟩ 0 _ rfl), g2, kk ⟨some w.heap.size, 0⟩⟩
  simp [execOp, Instr.box, newVar, newRow]

def zAV : Value → AV
  | .agg cs => .agg (cs.toList.map cst)
  | v => cst v

theorem zAV_cells_at (w : World) (S : Nat → Prop) (z : Value) (h1 : ∀ c ∈ (zAV z).cells, c.one = true) : (zAV z).cells.length = z.cells.size ∧ AtA w S (zAV z).cells z.cells := by
  by_cases hz : ∃ cs, z = .agg cs
  · obtain ⟨cs, rfl⟩ := hz
    refine ⟨by simp [zAV, AV.cells, Value.cells], ?_⟩
    intro i c v hc hv
    simp only [zAV, AV.cells, List.getElem?_map, Array.getElem?_toList] at hc
    simp only [Value.cells] at hv
    rw [hv] at hc
    simp at hc
    subst hc
    exact cst_at _ _ _
  · have hzc : zAV z = cst z := by
      cases z <;> first | rfl | (exact (hz ⟨_, rfl⟩).elim)
    rw [hzc] at h1 ⊢
    exact cells_at (cst_at w S z) h1

theorem r_alloc {E : TypeId} {i : TypeInfo} {z : Value} [TInfo P E i] (hz : i.zero = some z) (h1 : allOne (zAV z).cells = true) (hn : Nat.blt d n = true)
    (kk : ∀ b : Bk, ARun P all rest ⟨n, (d, .ptr b 0) :: tm, (b, .cells (zAV z).cells) :: hp⟩ Q) : ARun P all (⟨some d, .alloc E, ty, pos, af, none⟩ :: rest) ⟨n, tm, hp⟩ Q := by
  refine ARun.opx rfl fun w S a r => ?_
  obtain ⟨hl, hat⟩ := zAV_cells_at w S z (allOne_spec h1)
  obtain ⟨g1, g2, g3⟩ := new_box r.hp E hl hat (allOne_spec h1)
  refine ⟨.pointer (some ⟨w.heap.size, 0, none⟩), w.alloc (.cells z.cells E), S, _, ?_, (r.heap g3 g1).put hn (.ptr ⟨some w.heap.size, 0⟩ 0 _ rfl), g2, kk ⟨some w.heap.size, 0⟩⟩
  have hi := TInfo.h (P := P) (t := E)
  simp [execOp, Instr.alloc, newVar, newRow, zeroValue, typeInfo, hi, hz]

/-! ### addresses of fields -/
theorem add_at (m o k : Nat) : (⟨m, o, none⟩ : Addr).add k = ⟨m, o + k, none⟩ := Addr.add_lit m o k

theorem run_fieldAt {s : TypeId} {fs : Array Field} {j : Nat} {f : Field} {i : TypeInfo} (hs : P.underlying s = some (.struct fs)) (hj : fs[j]? = some f) (hi : P.info? f.type = some i) (h0 : i.size ≠ 0) (ad : Addr) (w : World) :
    (Instr.fieldAt s (.pointer (some ad)) j).run P w = .ok (.pointer (some (ad.add f.offset))) w := by
  simp [Instr.fieldAt, run_underlying hs, hj, Instr.sureAddr, fieldPlace, sizeOf, typeInfo, hi, h0]

class Fld (P : Program) (s : TypeId) (j : Nat) (off : outParam Nat) : Prop where
  h : ∃ fs f i, P.underlying s = some (.struct fs) ∧ fs[j]? = some f ∧ P.info? f.type = some i ∧ (Nat.beq i.size 0) = false ∧ f.offset = off

theorem q_field_ptr {x : Operand} {s : TypeId} {j : Nat} {off : Nat} {b : Bk} {o : Nat} [Fld P s j off]
    (hx : evA tm x = some (.ptr b o)) : QV P ⟨some d, .fieldAddr s x j, ty, pos, af, none⟩ ⟨n, tm, hp⟩ (.ptr b (o + off)) :=
  (fun w S a r => by
    obtain ⟨fs, f, i, hu, hj, hi, h0, rfl⟩ := Fld.h (P := P) (s := s) (j := j)
    obtain ⟨m, h1, h2⟩ := (evA_at (σ := ⟨n, tm, hp⟩) r hx).ptr_inv
    refine ⟨.pointer (some ⟨m, o + f.offset, none⟩), fun w1 _ => ?_, .ptr b _ m h1⟩
    have hr := run_fieldAt (P := P) hu hj hi (nbeq_f h0) ⟨m, o, none⟩ w1
    rw [add_at] at hr
    simp [execOp, h2, hr])

theorem q_field_aptr {x : Operand} {s : TypeId} {j : Nat} {off : Nat} {sz : Nat} {b : Bk} {q o : Nat} [Fld P s j off]
    (hx : evA tm x = some (.aptr sz b q o)) : QV P ⟨some d, .fieldAddr s x j, ty, pos, af, none⟩ ⟨n, tm, hp⟩ (.aptr sz b q (o + off)) :=
  (fun w S a r => by
    obtain ⟨fs, f, i, hu, hj, hi, h0, rfl⟩ := Fld.h (P := P) (s := s) (j := j)
    obtain ⟨m, h1, h2⟩ := (evA_at (σ := ⟨n, tm, hp⟩) r hx).aptr_inv
    refine ⟨.pointer (some ⟨m, q * sz + (o + f.offset), none⟩), fun w1 _ => ?_, .aptr sz b q _ m h1⟩
    have hr := run_fieldAt (P := P) hu hj hi (nbeq_f h0) ⟨m, q * sz + o, none⟩ w1
    rw [add_at, Nat.add_assoc] at hr
    simp [execOp, h2, hr])

theorem rptr_drop {w : World} {S : Nat → Prop} {cs : List AV} {ad : Addr} {vs : List Value} (k : Nat) (hl : cs.length = vs.length) (h : ∀ (i : Nat) c u, cs[i]? = some c → vs[i]? = some u → At w S c u) (hs : ad.spot = none) (hS : S ad.block)
    (hm : ∀ (i : Nat) u, vs[i]? = some u → w.cell? ⟨ad.block, ad.off + i, none⟩ = some u) : At w S (.rptr (cs.drop k)) (.pointer (some (ad.add k))) := by
  obtain ⟨bk, of, sp⟩ := ad
  simp only at hs hS hm
  subst hs
  rw [add_at]
  refine .rptr _ _ (vs.drop k) (by simp [hl]) (fun i c u hc hu => h (k + i) c u (by simpa using hc) (by simpa using hu)) rfl hS (fun i u hu => ?_)
  have := hm (k + i) u (by simpa using hu)
  simpa [Nat.add_assoc] using this

theorem q_field_rptr {x : Operand} {s : TypeId} {j : Nat} {off : Nat} {cs : List AV} [Fld P s j off]
    (hx : evA tm x = some (.rptr cs)) : QV P ⟨some d, .fieldAddr s x j, ty, pos, af, none⟩ ⟨n, tm, hp⟩ (.rptr (cs.drop off)) :=
  (fun w S a r => by
    obtain ⟨fs, f, i, hu, hj, hi, h0, rfl⟩ := Fld.h (P := P) (s := s) (j := j)
    obtain ⟨ad, vs, h2, h3, h4, h5, h6, h7⟩ := (evA_at (σ := ⟨n, tm, hp⟩) r hx).rptr_inv
    refine ⟨.pointer (some (ad.add f.offset)), fun w1 _ => ?_, rptr_drop f.offset h3 h4 h5 h6 h7⟩
    have hr := run_fieldAt (P := P) hu hj hi (nbeq_f h0) ad w1
    simp [execOp, h2, hr])

/-! ### loads -/
def TypeDesc.isAggB : TypeDesc → Bool
  | .struct _ => true
  | .array _ _ => true
  | _ => false

theorem run_loadVar_one {t : TypeId} {D : TypeDesc} (ht : P.underlying t = some D) (hD : TypeDesc.isAggB D = false) {ad : Addr} {v : Value} {w : World} (hc : w.cell? ad = some v) : (loadVar t ad).run P w = .ok v w := by
  have : (isAgg t).run P w = .ok false w := by
    simp only [isAgg, Sem.run_bind, run_underlying ht, Result.andThen_ok]
    cases D <;> first | rfl | (simp [TypeDesc.isAggB] at hD)
  simp [loadVar, this, hc]

theorem run_loadVar_agg {t : TypeId} {D : TypeDesc} {i : TypeInfo} (ht : P.underlying t = some D) (hD : TypeDesc.isAggB D = true) (hi : P.info? t = some i) {ad : Addr} {vs : List Value} {w : World} (hl : vs.length = i.size)
    (hc : ∀ (j : Nat) v, vs[j]? = some v → w.cell? (ad.add j) = some v) : (loadVar t ad).run P w = .ok (.agg vs.toArray) w := by
  have h1 : (isAgg t).run P w = .ok true w := by
    simp only [isAgg, Sem.run_bind, run_underlying ht, Result.andThen_ok]
    cases D <;> first | rfl | (simp [TypeDesc.isAggB] at hD)
  have h2 := run_loadCells_list (P := P) w ad vs hc
  rw [hl] at h2
  simp [loadVar, h1, sizeOf, typeInfo, hi, h2]

theorem heap_lt {w : World} {m : Nat} {ob : Obj} (h : w.heap[m]? = some ob) : m < w.heap.size := by
  rcases Nat.lt_or_ge m w.heap.size with h' | h'
  · exact h'
  · simp [Array.getElem?_eq_none h'] at h
theorem Ext.at {w w' : World} (e : Ext w w') {m : Nat} {ob : Obj} (h : w.heap[m]? = some ob) : w'.heap[m]? = some ob := by rw [e.same m (heap_lt h)]; exact h
theorem Ext.cell {w w' : World} (e : Ext w w') {m o : Nat} {v : Value} (h : w.cell? ⟨m, o, none⟩ = some v) : w'.cell? ⟨m, o, none⟩ = some v := by
  rw [cell_of_heap (e.same m (World.block_lt_of_cell? _ _ h))]; exact h

theorem box_cells {w : World} {S : Nat → Prop} {hp : Heap} (r : HRel w S hp) {b : Bk} {cs : List AV} (f : Fnd hp b (.cells cs)) : (∀ c ∈ cs, c.one = true) ∧ ∃ m vs E, b.blk = some m ∧ w.heap[m]? = some (.cells vs E (0, 0)) ∧ vs.size = cs.length ∧ AtA w S cs vs :=
  r.holds _ f.mem

theorem cell_at {w : World} {m : Nat} {vs : Array Value} {E : TypeId} (h : w.heap[m]? = some (.cells vs E (0, 0))) (o : Nat) : w.cell? ⟨m, o, none⟩ = vs[o]? := cell_of_row w m o vs E (0, 0) h

theorem q_load_ptr {t : TypeId} {D : TypeDesc} {x : Operand} {b : Bk} {o : Nat} {cs : List AV} {av : AV} [TUnder P t D] (hD : TypeDesc.isAggB D = false) (hx : evA tm x = some (.ptr b o)) (f : Fnd hp b (.cells cs)) (ho : cs[o]? = some av) : QV P ⟨some d, .load t x, ty, pos, af, none⟩ ⟨n, tm, hp⟩ (av) :=
  (fun w S a r => by
    obtain ⟨m, h1, h2⟩ := (evA_at (σ := ⟨n, tm, hp⟩) r hx).ptr_inv
    obtain ⟨_, m', vs, E, g1, g2, g3, g4⟩ := box_cells r.hp f
    obtain rfl : m' = m := by rw [g1] at h1; exact Option.some.inj h1
    have hlt : o < vs.size := by rw [g3]; exact (List.getElem?_eq_some_iff.1 ho).1
    have hv : vs[o]? = some vs[o] := by simp [hlt]
    refine ⟨vs[o], fun w1 ex => ?_, g4 o av _ ho hv⟩
    have := run_loadVar_one (P := P) (TUnder.h (P := P) (t := t)) hD (w := w1) (ad := ⟨m', o, none⟩) (v := vs[o]) (by rw [cell_at (ex.at g2), hv])
    simp [execOp, h2, Instr.loadAt, Instr.sureAddr, this])

theorem q_load_ptr_all {t : TypeId} {D : TypeDesc} {i : TypeInfo} {x : Operand} {b : Bk} {cs : List AV} [TUnder P t D] [TInfo P t i] (hD : TypeDesc.isAggB D = true) (hx : evA tm x = some (.ptr b 0)) (f : Fnd hp b (.cells cs)) (ho : Nat.beq cs.length i.size = true) : QV P ⟨some d, .load t x, ty, pos, af, none⟩ ⟨n, tm, hp⟩ (.agg cs) :=
  (fun w S a r => by
    obtain ⟨m, h1, h2⟩ := (evA_at (σ := ⟨n, tm, hp⟩) r hx).ptr_inv
    obtain ⟨_, m', vs, E, g1, g2, g3, g4⟩ := box_cells r.hp f
    obtain rfl : m' = m := by rw [g1] at h1; exact Option.some.inj h1
    have hlen : vs.toList.length = i.size := by simp [g3]; exact Nat.eq_of_beq_eq_true ho
    refine ⟨.agg vs, fun w1 ex => ?_, .agg cs vs g3.symm g4⟩
    have := run_loadVar_agg (P := P) (TUnder.h (P := P) (t := t)) hD (TInfo.h (P := P) (t := t)) (w := w1) (ad := ⟨m', 0, none⟩) (vs := vs.toList) hlen (fun j v hv => by rw [add_at, cell_at (ex.at g2)]; simpa using hv)
    simp [execOp, h2, Instr.loadAt, Instr.sureAddr, this])

theorem q_load_ptr_part {t : TypeId} {D : TypeDesc} {i : TypeInfo} {x : Operand} {b : Bk} {o : Nat} {cs : List AV} [TUnder P t D] [TInfo P t i] (hD : TypeDesc.isAggB D = true) (hx : evA tm x = some (.ptr b o)) (f : Fnd hp b (.cells cs)) (ho : Nat.ble (o + i.size) cs.length = true) : QV P ⟨some d, .load t x, ty, pos, af, none⟩ ⟨n, tm, hp⟩ (.agg ((cs.drop o).take i.size)) :=
  (fun w S a r => by
    obtain ⟨m, h1, h2⟩ := (evA_at (σ := ⟨n, tm, hp⟩) r hx).ptr_inv
    obtain ⟨_, m', vs, E, g1, g2, g3, g4⟩ := box_cells r.hp f
    obtain rfl : m' = m := by rw [g1] at h1; exact Option.some.inj h1
    have hle : o + i.size ≤ cs.length := Nat.le_of_ble_eq_true ho
    have hlen : ((vs.toList.drop o).take i.size).length = i.size := by simp [g3]; omega
    refine ⟨.agg ((vs.toList.drop o).take i.size).toArray, fun w1 ex => ?_, .agg _ _ (by simp [g3]) (fun j c v hc hv => ?_)⟩
    · have := run_loadVar_agg (P := P) (TUnder.h (P := P) (t := t)) hD (TInfo.h (P := P) (t := t)) (w := w1) (ad := ⟨m', o, none⟩) (vs := (vs.toList.drop o).take i.size) hlen (fun j v hv => by
        rw [add_at, cell_at (ex.at g2)]
        simp only [List.getElem?_take, List.getElem?_drop] at hv
        split at hv
        · simpa using hv
        · cases hv)
      simp [execOp, h2, Instr.loadAt, Instr.sureAddr, this]
    · simp only [List.getElem?_toArray, List.getElem?_take, List.getElem?_drop] at hc hv
      split at hv
      · rename_i hlt; rw [if_pos hlt] at hc; exact g4 (o + j) c v hc (by simpa using hv)
      · cases hv)

theorem q_load_rptr {t : TypeId} {D : TypeDesc} {x : Operand} {cs : List AV} {av : AV} [TUnder P t D] (hD : TypeDesc.isAggB D = false) (hx : evA tm x = some (.rptr cs)) (ho : cs[0]? = some av) : QV P ⟨some d, .load t x, ty, pos, af, none⟩ ⟨n, tm, hp⟩ (av) :=
  (fun w S a r => by
    obtain ⟨ad, vs, h2, h3, h4, h5, h6, h7⟩ := (evA_at (σ := ⟨n, tm, hp⟩) r hx).rptr_inv
    have hlt : 0 < vs.length := by rw [← h3]; exact (List.getElem?_eq_some_iff.1 ho).1
    have hv : vs[0]? = some vs[0] := by simp [hlt]
    refine ⟨vs[0], fun w1 ex => ?_, h4 0 av _ ho hv⟩
    have hc := ex.cell (h7 0 _ hv)
    have he : (⟨ad.block, ad.off + 0, none⟩ : Addr) = ad := by cases ad; simp at h5; simp [h5]
    rw [he] at hc
    have := run_loadVar_one (P := P) (TUnder.h (P := P) (t := t)) hD hc
    simp [execOp, h2, Instr.loadAt, Instr.sureAddr, this])

theorem q_load_rptr_agg {t : TypeId} {D : TypeDesc} {i : TypeInfo} {x : Operand} {cs : List AV} [TUnder P t D] [TInfo P t i] (hD : TypeDesc.isAggB D = true) (hx : evA tm x = some (.rptr cs)) (ho : Nat.beq cs.length i.size = true) : QV P ⟨some d, .load t x, ty, pos, af, none⟩ ⟨n, tm, hp⟩ (.agg cs) :=
  (fun w S a r => by
    obtain ⟨ad, vs, h2, h3, h4, h5, h6, h7⟩ := (evA_at (σ := ⟨n, tm, hp⟩) r hx).rptr_inv
    refine ⟨.agg vs.toArray, fun w1 ex => ?_, .agg cs _ (by simp [h3]) (fun j c v hc hv => h4 j c v hc (by simpa using hv))⟩
    have := run_loadVar_agg (P := P) (TUnder.h (P := P) (t := t)) hD (TInfo.h (P := P) (t := t)) (w := w1) (ad := ad) (vs := vs) (by rw [← h3]; exact Nat.eq_of_beq_eq_true ho) (fun j v hv => by
      obtain ⟨bk, of, sp⟩ := ad
      simp only at h5; subst h5
      rw [add_at]; exact ex.cell (h7 j v hv))
    simp [execOp, h2, Instr.loadAt, Instr.sureAddr, this])

theorem q_load_rptr_part {t : TypeId} {D : TypeDesc} {i : TypeInfo} {x : Operand} {cs : List AV} [TUnder P t D] [TInfo P t i] (hD : TypeDesc.isAggB D = true) (hx : evA tm x = some (.rptr cs)) (ho : Nat.ble i.size cs.length = true) : QV P ⟨some d, .load t x, ty, pos, af, none⟩ ⟨n, tm, hp⟩ (.agg (cs.take i.size)) :=
  (fun w S a r => by
    obtain ⟨ad, vs, h2, h3, h4, h5, h6, h7⟩ := (evA_at (σ := ⟨n, tm, hp⟩) r hx).rptr_inv
    have hle : i.size ≤ cs.length := Nat.le_of_ble_eq_true ho
    have tk : ∀ {α : Type} (l : List α) (k j : Nat) (y : α), (l.take k)[j]? = some y → l[j]? = some y := by
      intro α l k j y h
      rw [List.getElem?_take] at h
      split at h
      · exact h
      · cases h
    refine ⟨.agg (vs.take i.size).toArray, fun w1 ex => ?_, .agg _ _ (by simp [h3]) (fun j c v hc hv => h4 j c v (tk _ _ _ _ hc) (tk _ _ _ _ (by simpa using hv)))⟩
    have := run_loadVar_agg (P := P) (TUnder.h (P := P) (t := t)) hD (TInfo.h (P := P) (t := t)) (w := w1) (ad := ad) (vs := vs.take i.size) (by simp; omega) (fun j v hv => by
      obtain ⟨bk, of, sp⟩ := ad
      simp only at h5; subst h5
      rw [add_at]; exact ex.cell (h7 j v (tk _ _ _ _ hv)))
    simp [execOp, h2, Instr.loadAt, Instr.sureAddr, this])

/-! ### stores into a box -/
def splice (cs : List AV) (o : Nat) (new : List AV) : List AV := cs.take o ++ new ++ cs.drop (o + new.length)

theorem AtA_splice {w : World} {S : Nat → Prop} {cs new : List AV} {vs nvs : Array Value} (o : Nat) (hl : vs.size = cs.length) (h : AtA w S cs vs) (hl' : new.length = nvs.size) (h' : AtA w S new nvs) (ho : o + new.length ≤ cs.length) :
    AtA w S (splice cs o new) (vs.toList.take o ++ nvs.toList ++ vs.toList.drop (o + nvs.toList.length)).toArray := by
  intro i c v hc hv
  simp only [splice, List.getElem?_toArray] at hc hv
  have l1 : (cs.take o).length = o := by simp; omega
  have l2 : (vs.toList.take o).length = o := by simp; omega
  have l3 : nvs.toList.length = new.length := by simp [hl']
  rw [List.append_assoc] at hc hv
  by_cases h1 : i < o
  · rw [List.getElem?_append_left (by omega)] at hc hv
    rw [List.getElem?_take, if_pos h1] at hc hv
    exact h i c v hc (by simpa using hv)
  · rw [List.getElem?_append_right (by omega)] at hc hv
    rw [l1] at hc
    rw [l2] at hv
    by_cases h2 : i - o < new.length
    · rw [List.getElem?_append_left (by omega)] at hc hv
      exact h' (i - o) c v hc (by simpa using hv)
    · rw [List.getElem?_append_right (by omega)] at hc hv
      rw [l3] at hv
      rw [List.getElem?_drop] at hc hv
      rw [show o + new.length + (i - o - new.length) = i from by omega] at hc
      rw [show o + new.length + (i - o - new.length) = i from by omega] at hv
      exact h i c v hc (by simpa using hv)

theorem r_store_ptr {t : TypeId} {i : TypeInfo} {x y : Operand} {b : Bk} {o : Nat} {cs : List AV} {av : AV} {hp' : Heap} [TInfo P t i] (hx : evA tm x = some (.ptr b o)) (hy : evA tm y = some av) (h1 : allOne av.cells = true) (hsz : Nat.beq av.cells.length i.size = true)
    (u : Upd hp b (.cells cs) b (.cells (splice cs o av.cells)) hp') (ho : Nat.ble (o + av.cells.length) cs.length = true) (kk : ARun P all rest ⟨n, tm, hp'⟩ Q) : ARun P all (⟨none, .store t x y, ty, pos, af, none⟩ :: rest) ⟨n, tm, hp⟩ Q := by
  refine ARun.act rfl rfl (σ' := ⟨n, tm, hp'⟩) (fun w S a r => ?_) kk
  obtain ⟨m, e1, e2⟩ := (evA_at (σ := ⟨n, tm, hp⟩) r hx).ptr_inv
  obtain ⟨g0, m', vs, E, g1, g2, g3, g4⟩ := box_cells r.hp u.fnd
  obtain rfl : m' = m := by rw [g1] at e1; exact Option.some.inj e1
  have hv := evA_at (σ := ⟨n, tm, hp⟩) r hy
  obtain ⟨hl, hat⟩ := cells_at hv (allOne_spec h1)
  have hle : o + av.cells.length ≤ cs.length := Nat.le_of_ble_eq_true ho
  have hone := one_vals hl hat (allOne_spec h1)
  have hst := run_storeCells_at (P := P) m' o E (a.eval y).cells.toList 0 vs w g2 (by simp; omega) hone
  simp only [Nat.add_zero] at hst
  have hsize : (a.eval y).cells.size = i.size := by rw [← hl]; exact Nat.eq_of_beq_eq_true hsz
  have hspl := fun (w' : World) (ha : AtA w' S cs vs) (hb : AtA w' S av.cells (a.eval y).cells) => AtA_splice o g3 ha hl hb hle
  have hspl2 : (vs.toList.take o ++ (a.eval y).cells.toList ++ vs.toList.drop (o + (a.eval y).cells.toList.length)).toArray.size = (splice cs o av.cells).length := by
    simp [splice]; omega
  generalize (vs.toList.take o ++ (a.eval y).cells.toList ++ vs.toList.drop (o + (a.eval y).cells.toList.length)).toArray = vs' at hst hspl hspl2
  have c : GB w (w.setRow m' vs') b.blk := ⟨⟨rfl, rfl, rfl, by simp, fun k hk hne => setRow_other w m' k _ (fun e => hne (by rw [e1, e]))⟩, Nat.le_refl _⟩
  have k1 : ∀ n, S n → S n ∧ (w.setRow m' vs').heap[n]? = w.heap[n]? := by
    intro k hk
    refine ⟨hk, setRow_other w m' k _ (fun e => ?_)⟩
    subst e
    exact (r.hp.sep _ u.fnd.mem k e1).1 hk
  have hh := upd_rel r.hp u c id id ⟨?_, m', vs', E, e1, setRow_heap w m' vs _ E _ g2, hspl2, hspl _ (g4.mono k1) (hat.mono k1)⟩ (.inl rfl)
  · refine ⟨w.setRow m' vs', S, ?_, r.heap hh.2.2 hh.1, hh.2.1⟩
    simp [execOp, e2, Instr.storeAt, Instr.sureAddr, storeVar, sizeOf, typeInfo, TInfo.h (P := P) (t := t), hsize, hst]
  · intro c hc
    simp only [splice, List.mem_append] at hc
    rcases hc with (hc | hc) | hc
    · exact g0 c (List.mem_of_mem_take hc)
    · exact allOne_spec h1 c hc
    · exact g0 c (List.mem_of_mem_drop hc)

end rules
end Go.Eng
