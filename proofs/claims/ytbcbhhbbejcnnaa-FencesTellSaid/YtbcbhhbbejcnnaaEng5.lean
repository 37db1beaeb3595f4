/- The engine, part 5: rules for slices: elements, literals, append; calls. No program in sight. -/
import Derived.Test.YtbcbhhbbejcnnaaEng4
set_option linter.unusedVariables false
namespace Go.Eng
open Go

/-! ### elements of slices -/
def getI (xs : List AV) (i : Int) : Option AV := if 0 ≤ i then xs[i.toNat]? else none

theorem getI_nat {α : Type} (f : α → AV) (ys : List α) (k : Nat) (y : α) (h : ys[k]? = some y) : getI (ys.map f) (k : Int) = some (f y) := by
  simp [getI, h]

theorem getI_spec {xs : List AV} {i : Int} {x : AV} (h : getI xs i = some x) : 0 ≤ i ∧ i < xs.length ∧ xs[i.toNat]? = some x := by
  unfold getI at h
  split at h
  · rename_i h0
    have := (List.getElem?_eq_some_iff.1 h).1
    exact ⟨h0, by omega, h⟩
  · cases h

theorem run_indexAt {P : Program} {t e : TypeId} {i : TypeInfo} (ht : P.underlying t = some (.slice e)) (hi : P.info? e = some i) (ad : Addr) (len cap : Nat) (k : IntKind) (j : Int) (h0 : 0 ≤ j) (h1 : j < len) (w : World) :
    (Instr.indexAt t (.slice (some ad) len cap) (.int k j)).run P w = .ok (.pointer (some (ad.add (j.toNat * i.size)))) w := by
  simp [Instr.indexAt, asIntOf, run_underlying ht, h0, h1, sizeOf, typeInfo, hi]

section rules
variable {P : Program} {all : Array Oper} {rest : List Oper} {n : Nat} {tm : List (Nat × AV)} {hp : Heap} {Q : St → Prop} {d : Nat} {ty : TypeId} {pos : String} {af : Array Edge}

theorem q_index_list {t e : TypeId} {i : TypeInfo} {x y : Operand} {xs : List AV} {k : IntKind} {j : Int} {av : AV} {sz : Nat} [TUnder P t (.slice e)] [TInfo P e i] (hx : evA tm x = some (.list sz xs)) (hsz : Nat.beq i.size sz = true) (hy : evA tm y = some (.int k j))
    (hg : getI xs j = some av) (h0 : Nat.blt 0 sz = true) : QV P ⟨some d, .indexAddr t x y, ty, pos, af, none⟩ ⟨n, tm, hp⟩ (.rptr av.cells) :=
  (fun w S a r => by
    obtain rfl : i.size = sz := Nat.eq_of_beq_eq_true hsz
    obtain ⟨g0, g1, g2⟩ := getI_spec hg
    obtain ⟨oa, cap, vs, e1, e2, e3, e4, e5, e6⟩ := (evA_at (σ := ⟨n, tm, hp⟩) r hx).list_inv
    have hpos : 0 < i.size := by simpa using h0
    have hav : av ∈ xs := List.mem_of_getElem? g2
    have hfl := flat_length e2
    have hjl : j.toNat < xs.length := by omega
    have hmul : (j.toNat + 1) * i.size ≤ xs.length * i.size := Nat.mul_le_mul_right _ (by omega)
    rw [Nat.add_mul, Nat.one_mul] at hmul
    have hb : j.toNat * i.size < vs.length := by rw [← e3, hfl]; omega
    obtain ⟨ad, rfl, hsp, hS, _⟩ := e5 (j.toNat * i.size) _ (List.getElem?_eq_getElem hb)
    obtain ⟨bk, of, sp⟩ := ad
    simp only at hsp hS
    subst hsp
    refine ⟨.pointer (some ⟨bk, of + j.toNat * i.size, none⟩), fun w1 _ => ?_, .rptr _ _ ((vs.drop (j.toNat * i.size)).take i.size) ?_ ?_ rfl hS ?_⟩
    · have := run_indexAt (P := P) (TUnder.h (P := P) (t := t)) (TInfo.h (P := P) (t := e)) ⟨bk, of, none⟩ xs.length cap k j g0 g1 w1
      rw [add_at] at this
      simp [execOp, e1, (evA_at (σ := ⟨n, tm, hp⟩) r hy).int_inv, this]
    · rw [(e2 av hav).1]; simp; omega
    · intro q c u hc hu
      have hq : q < i.size := by rw [← (e2 av hav).1]; exact (List.getElem?_eq_some_iff.1 hc).1
      have hf := flat_get e2 g2 q hq
      rw [hc] at hf
      rw [List.getElem?_take, if_pos hq, List.getElem?_drop] at hu
      exact e4 _ c u hf hu
    · intro q u hu
      rw [List.getElem?_take] at hu
      split at hu
      · rw [List.getElem?_drop] at hu
        obtain ⟨ad', h1, h2, h3, h4⟩ := e5 _ u hu
        obtain rfl := Option.some.inj h1
        simpa [Nat.add_assoc] using h4
      · cases hu)

theorem q_index_sl {t e : TypeId} {i : TypeInfo} {x y : Operand} {k : IntKind} {j : Int} {sz off len : Nat} {b : Bk} [TUnder P t (.slice e)] [TInfo P e i] (hx : evA tm x = some (.sl sz b off len)) (hsz : Nat.beq i.size sz = true) (hy : evA tm y = some (.int k j))
    (h0 : 0 ≤ j ∧ j < (len : Int)) : QV P ⟨some d, .indexAddr t x y, ty, pos, af, none⟩ ⟨n, tm, hp⟩ (.aptr sz b (off + j.toNat) 0) :=
  (fun w S a r => by
    obtain rfl : i.size = sz := Nat.eq_of_beq_eq_true hsz
    obtain ⟨oa, cap, e1, e2⟩ := (evA_at (σ := ⟨n, tm, hp⟩) r hx).sl_inv
    rcases e2 with ⟨_, _, hl, _⟩ | ⟨m, hb, rfl, h1, h2⟩ | ⟨m, ad, hb, _, hl, _⟩
    · omega
    · refine ⟨.pointer (some ⟨m, (off + j.toNat) * i.size + 0, none⟩), fun w1 _ => ?_, .aptr _ _ _ _ m hb⟩
      have := run_indexAt (P := P) (TUnder.h (P := P) (t := t)) (TInfo.h (P := P) (t := e)) ⟨m, off * i.size, none⟩ len cap k j h0.1 h0.2 w1
      rw [add_at, ← Nat.add_mul] at this
      simp [execOp, e1, (evA_at (σ := ⟨n, tm, hp⟩) r hy).int_inv, this]
    · omega)

/-- The memory of an array that the state holds. -/
theorem arr_cells {w : World} {S : Nat → Prop} {hp : Heap} (r : HRel w S hp) {b : Bk} {sz : Nat} {xs : List AV} (f : Fnd hp b (.arr sz xs) ∨ Fnd hp b (.fro sz xs)) : (∀ x ∈ xs, El sz x) ∧ xs.length ≤ b.cap ∧
    ((b.blk = none ∧ b.cap = 0) ∨ ∃ m vs E, b.blk = some m ∧ w.heap[m]? = some (.cells vs E (0, 0)) ∧ vs.size = b.cap * sz ∧ AtA w S (flat xs) vs) := by
  rcases f with f | f <;> exact r.holds _ f.mem

theorem q_load_aptr {t : TypeId} {D : TypeDesc} {x : Operand} {b : Bk} {sz q o : Nat} {xs : List AV} {el av : AV} [TUnder P t D] (hD : TypeDesc.isAggB D = false) (hx : evA tm x = some (.aptr sz b q o)) (f : Fnd hp b (.arr sz xs) ∨ Fnd hp b (.fro sz xs))
    (hq : xs[q]? = some el) (ho : el.cells[o]? = some av) : QV P ⟨some d, .load t x, ty, pos, af, none⟩ ⟨n, tm, hp⟩ (av) :=
  (fun w S a r => by
    obtain ⟨m, h1, h2⟩ := (evA_at (σ := ⟨n, tm, hp⟩) r hx).aptr_inv
    obtain ⟨g0, g1, ⟨g2, _⟩ | ⟨m', vs, E, g2, g3, g4, g5⟩⟩ := arr_cells r.hp f
    · rw [g2] at h1; cases h1
    · obtain rfl : m' = m := by rw [g2] at h1; exact Option.some.inj h1
      have hel := g0 el (List.mem_of_getElem? hq)
      have hos : o < sz := by rw [← hel.1]; exact (List.getElem?_eq_some_iff.1 ho).1
      have hqx : q < xs.length := (List.getElem?_eq_some_iff.1 hq).1
      have hf := flat_get g0 hq o hos
      rw [ho] at hf
      have hmul : (q + 1) * sz ≤ b.cap * sz := Nat.mul_le_mul_right _ (by omega)
      rw [Nat.add_mul, Nat.one_mul] at hmul
      have hlt : q * sz + o < vs.size := by omega
      have hv : vs[q * sz + o]? = some vs[q * sz + o] := by simp [hlt]
      refine ⟨vs[q * sz + o], fun w1 ex => ?_, g5 _ av _ hf hv⟩
      have := run_loadVar_one (P := P) (TUnder.h (P := P) (t := t)) hD (w := w1) (ad := ⟨m', q * sz + o, none⟩) (v := vs[q * sz + o]) (by rw [cell_at (ex.at g3), hv])
      simp [execOp, h2, Instr.loadAt, Instr.sureAddr, this])

theorem q_load_aptr_agg {t : TypeId} {D : TypeDesc} {i : TypeInfo} {x : Operand} {b : Bk} {sz q : Nat} {xs cs : List AV} [TUnder P t D] [TInfo P t i] (hD : TypeDesc.isAggB D = true) (hx : evA tm x = some (.aptr sz b q 0)) (f : Fnd hp b (.arr sz xs) ∨ Fnd hp b (.fro sz xs)) (hsz : Nat.beq i.size sz = true)
    (hq : xs[q]? = some (.agg cs)) : QV P ⟨some d, .load t x, ty, pos, af, none⟩ ⟨n, tm, hp⟩ (.agg cs) :=
  (fun w S a r => by
    obtain ⟨m, h1, h2⟩ := (evA_at (σ := ⟨n, tm, hp⟩) r hx).aptr_inv
    obtain ⟨g0, g1, ⟨g2, _⟩ | ⟨m', vs, E, g2, g3, g4, g5⟩⟩ := arr_cells r.hp f
    · rw [g2] at h1; cases h1
    · obtain rfl : m' = m := by rw [g2] at h1; exact Option.some.inj h1
      have hel := g0 (.agg cs) (List.mem_of_getElem? hq)
      have hcl : cs.length = sz := hel.1
      have hi : i.size = sz := Nat.eq_of_beq_eq_true hsz
      have hqx : q < xs.length := (List.getElem?_eq_some_iff.1 hq).1
      have hmul : (q + 1) * sz ≤ b.cap * sz := Nat.mul_le_mul_right _ (by omega)
      rw [Nat.add_mul, Nat.one_mul] at hmul
      have hlen : ((vs.toList.drop (q * sz)).take sz).length = i.size := by simp; omega
      refine ⟨.agg ((vs.toList.drop (q * sz)).take sz).toArray, fun w1 ex => ?_, .agg _ _ (by simp; omega) (fun j c v hc hv => ?_)⟩
      · have := run_loadVar_agg (P := P) (TUnder.h (P := P) (t := t)) hD (TInfo.h (P := P) (t := t)) (w := w1) (ad := ⟨m', q * sz + 0, none⟩) (vs := (vs.toList.drop (q * sz)).take sz) hlen (fun j v hv => by
          rw [add_at, cell_at (ex.at g3)]
          simp only [List.getElem?_take, List.getElem?_drop] at hv
          split at hv
          · simpa using hv
          · cases hv)
        simp only [Nat.add_zero] at this
        simp [execOp, h2, Instr.loadAt, Instr.sureAddr, this]
      · simp only [List.getElem?_toArray, List.getElem?_take, List.getElem?_drop] at hv
        split at hv
        · rename_i hlt
          have hf := flat_get g0 hq j hlt
          rw [show (AV.agg cs).cells = cs from rfl, hc] at hf
          exact g5 _ c v hf (by simpa using hv)
        · cases hv)

/-! ### literals: 'T{..}', '[]T{..}' -/
theorem fold_set (off : Nat) : ∀ (l : List Value) (j : Nat) (cs : Array Value), off + j + l.length ≤ cs.size →
    (l.zipIdx j).foldl (fun (cs : Array Value) (p : Value × Nat) => cs.setIfInBounds (off + p.2) p.1) cs = (cs.toList.take (off + j) ++ l ++ cs.toList.drop (off + j + l.length)).toArray
  | [], j, cs, h => by simp
  | v :: l, j, cs, h => by
    simp only [List.length_cons] at h
    rw [List.zipIdx_cons, List.foldl_cons, fold_set off l (j + 1) _ (by simp; omega)]
    have hlt : off + j < cs.size := by omega
    apply Array.ext'
    simp only [Array.toList_setIfInBounds]
    rw [show off + (j + 1) = (off + j) + 1 from by omega]
    rw [List.take_add_one, List.take_set_of_le (Nat.le_refl _), List.drop_set_of_lt (by omega)]
    simp [hlt, List.append_assoc]
    rw [show off + j + 1 + l.length = off + j + (l.length + 1) from by omega]

theorem fill_step {place : Nat → Option (Nat × Nat)} {cells : Array Value} {i off size : Nat} {v : Value} {rest : List (Nat × Value)} (hp : place i = some (off, size)) (hs : v.cells.size = size) (ho : off + size ≤ cells.size) :
    Instr.fill place cells ((i, v) :: rest) = Instr.fill place (cells.toList.take off ++ v.cells.toList ++ cells.toList.drop (off + v.cells.toList.length)).toArray rest := by
  rw [Instr.fill, hp]
  simp only
  rw [if_neg (by simp [hs]; omega)]
  congr 1
  have := fold_set off v.cells.toList 0 cells (by simp [hs]; omega)
  simp only [Nat.add_zero] at this
  rw [← this, ← Array.toList_zipIdx, Array.foldl_toList]

def fillA (pl : List (Nat × Nat)) : List AV → List (Nat × AV) → Option (List AV)
  | cells, [] => some cells
  | cells, (i, v) :: rest => match pl[i]? with
    | none => none
    | some (off, size) => match Nat.beq v.cells.length size && Nat.ble (off + v.cells.length) cells.length && allOne v.cells with
      | true => fillA pl (splice cells off v.cells) rest
      | false => none

def evP (tm : List (Nat × AV)) : List (Nat × Operand) → Option (List (Nat × AV))
  | [] => some []
  | (i, x) :: r => match evA tm x, evP tm r with
    | some a, some l => some ((i, a) :: l)
    | _, _ => none

theorem fillA_run {w : World} {S : Nat → Prop} {σ : St} {a : Act} (r : StRel w S σ a) (pl : List (Nat × Nat)) : ∀ (parts : List (Nat × Operand)) (l : List (Nat × AV)) (cells cells' : List AV) (vs : Array Value), evP σ.tm parts = some l → fillA pl cells l = some cells' →
    cells.length = vs.size → AtA w S cells vs → (∀ c ∈ cells, c.one = true) → ∃ vs', Instr.fill (pl.toArray[·]?) vs (parts.map fun p => (p.1, a.eval p.2)) = some vs' ∧ cells'.length = vs'.size ∧ AtA w S cells' vs' ∧ ∀ c ∈ cells', c.one = true
  | [], l, cells, cells', vs, h1, h2, h3, h4, h5 => by
    simp only [evP, Option.some.injEq] at h1
    subst h1
    simp only [fillA, Option.some.injEq] at h2
    subst h2
    exact ⟨vs, rfl, h3, h4, h5⟩
  | (i, x) :: parts, l, cells, cells', vs, h1, h2, h3, h4, h5 => by
    simp only [evP] at h1
    split at h1
    · rename_i av l' ha hl
      obtain rfl := Option.some.inj h1
      simp only [fillA] at h2
      split at h2
      · cases h2
      · rename_i off size hpl
        split at h2
        · rename_i hc
          simp only [Bool.and_eq_true] at hc
          obtain ⟨⟨c1, c2⟩, c3⟩ := hc
          have c1 := Nat.eq_of_beq_eq_true c1
          have c2 := Nat.le_of_ble_eq_true c2
          obtain ⟨hl1, hl2⟩ := cells_at (evA_at r ha) (allOne_spec c3)
          have hsp := AtA_splice off h3.symm h4 hl1 hl2 c2
          obtain ⟨vs', g1, g2, g3, g4⟩ := fillA_run r pl parts l' (splice cells off av.cells) cells' _ hl h2 (by simp [splice]; omega) hsp (by
            intro c hc
            simp only [splice, List.mem_append] at hc
            rcases hc with (hc | hc) | hc
            · exact h5 c (List.mem_of_mem_take hc)
            · exact allOne_spec c3 c hc
            · exact h5 c (List.mem_of_mem_drop hc))
          refine ⟨vs', ?_, g2, g3, g4⟩
          rw [List.map_cons, fill_step (off := off) (size := size) (by simpa using hpl) (by rw [← hl1]; exact c1) (by omega)]
          exact g1
        · cases h2
    · cases h1

def placesOf (P : Program) : List Field → Option (List (Nat × Nat))
  | [] => some []
  | f :: r => match P.info? f.type, placesOf P r with
    | some i, some l => some ((f.offset, i.size) :: l)
    | _, _ => none

theorem run_places {P : Program} : ∀ (fs : List Field) (pl : List (Nat × Nat)) (w : World), placesOf P fs = some pl → (fs.mapM (fun f => do pure (f.offset, ← sizeOf f.type)) : Sem (List (Nat × Nat))).run P w = .ok pl w
  | [], pl, w, h => by simp [placesOf] at h; subst h; simp
  | f :: fs, pl, w, h => by
    simp only [placesOf] at h
    split at h
    · rename_i i l hi hl
      obtain rfl := Option.some.inj h
      have ih := run_places fs l w hl
      simp only [List.mapM_cons, Sem.run_bind, sizeOf, typeInfo, hi, run_program, Result.andThen_ok, Sem.run_pure] at ih ⊢
      rw [ih]
      simp
    · cases h

class Places (P : Program) (t : TypeId) (pl : outParam (List (Nat × Nat))) : Prop where
  h : ∃ fs, P.underlying t = some (.struct fs) ∧ placesOf P fs.toList = some pl

theorem q_build {t : TypeId} {i : TypeInfo} {z : Value} {parts : List (Nat × Operand)} {l : List (Nat × AV)} {cs : List AV} {pl : List (Nat × Nat)} [TInfo P t i] [Places P t pl] (hz : i.zero = some z) (hl : evP tm parts = some l) (h1 : allOne (zAV z).cells = true)
    (hc : fillA pl (zAV z).cells l = some cs) : QV P ⟨some d, .build t parts.toArray, ty, pos, af, none⟩ ⟨n, tm, hp⟩ (.agg cs) :=
  (fun w S a r => by
    obtain ⟨z1, z2⟩ := zAV_cells_at w S z (allOne_spec h1)
    obtain ⟨vs, g1, g2, g3, g4⟩ := fillA_run (σ := ⟨n, tm, hp⟩) r pl parts l _ _ _ hl hc z1 z2 (allOne_spec h1)
    refine ⟨.agg vs, fun w1 _ => ?_, .agg _ _ g2 g3⟩
    obtain ⟨fs, hu, hpl⟩ := Places.h (P := P) (t := t)
    have hpr := run_places fs.toList pl w1 hpl
    have hpa : (fs.mapM (fun f => do pure (f.offset, ← sizeOf f.type)) : Sem (Array (Nat × Nat))).run P w1 = .ok pl.toArray w1 := by
      have : (fs.mapM (fun f => do pure (f.offset, ← sizeOf f.type)) : Sem (Array (Nat × Nat))) = Functor.map List.toArray (fs.toList.mapM (fun f => do pure (f.offset, ← sizeOf f.type))) := by
        rw [← List.mapM_toArray]
      rw [this, Sem.run_map, hpr]
      rfl
    simp only [execOp, Instr.build, Sem.run_bind, zeroValue, typeInfo, run_program, Result.andThen_ok, TInfo.h (P := P) (t := t), hz, Sem.run_pure, run_underlying hu, hpa]
    have : ((parts.toArray.map fun p => (p.1, a.eval p.2))).toList = parts.map fun p => (p.1, a.eval p.2) := by simp
    simp only [this, g1, Sem.run_pure, Result.andThen_ok])

end rules
end Go.Eng
