/- The engine, part 6: rules for slice literals and append. No program in sight. -/
import Derived.Test.YtbcbhhbbejcnnaaEng5
set_option linter.unusedVariables false
namespace Go.Eng
open Go

/-! ### slice literals -/
def elB (sz : Nat) (x : AV) : Bool := Nat.beq x.cells.length sz && allOne x.cells
def allEl (sz : Nat) : List AV → Bool
  | [] => true
  | x :: r => elB sz x && allEl sz r

theorem elB_spec {sz : Nat} {x : AV} (h : elB sz x = true) : El sz x := by
  simp only [elB, Bool.and_eq_true] at h
  exact ⟨Nat.eq_of_beq_eq_true h.1, allOne_spec h.2⟩
theorem allEl_spec {sz : Nat} : ∀ {xs : List AV}, allEl sz xs = true → ∀ x ∈ xs, El sz x
  | [], _, x, hx => by simp at hx
  | y :: r, h, x, hx => by
    simp only [allEl, Bool.and_eq_true] at h
    rcases List.mem_cons.1 hx with rfl | hx
    · exact elB_spec h.1
    · exact allEl_spec h.2 x hx

def evS (tm : List (Nat × AV)) : List (Nat × Operand) → Nat → Option (List AV)
  | [], _ => some []
  | (i, x) :: r, k => match Nat.beq i k, evA tm x, evS tm r (k + 1) with
    | true, some a, some l => some (a :: l)
    | _, _, _ => none

/-- The cells of values, one behind the other. -/
theorem AtA_cons {w : World} {S : Nat → Prop} {cs ds : List AV} {us vs : List Value} (hl : cs.length = us.length) (h1 : AtA w S cs us.toArray) (h2 : AtA w S ds vs.toArray) : AtA w S (cs ++ ds) (us ++ vs).toArray := by
  intro i c v hc hv
  simp only [List.getElem?_toArray] at hv
  by_cases hi : i < cs.length
  · rw [List.getElem?_append_left hi] at hc
    rw [List.getElem?_append_left (by omega)] at hv
    exact h1 i c v hc (by simpa using hv)
  · rw [List.getElem?_append_right (by omega)] at hc
    rw [List.getElem?_append_right (by omega), ← hl] at hv
    exact h2 _ c v hc (by simpa using hv)

theorem fill_seq {w : World} {S : Nat → Prop} {σ : St} {a : Act} (r : StRel w S σ a) (size : Nat) : ∀ (parts : List (Nat × Operand)) (k : Nat) (xs : List AV) (cells : Array Value), evS σ.tm parts k = some xs → (∀ x ∈ xs, El size x) → cells.size = (k + parts.length) * size →
    ∃ vs : List Value, Instr.fill (fun i => some (i * size, size)) cells (parts.map fun p => (p.1, a.eval p.2)) = some (cells.toList.take (k * size) ++ vs).toArray ∧ vs.length = xs.length * size ∧ xs.length = parts.length ∧ AtA w S (flat xs) vs.toArray
  | [], k, xs, cells, h1, h2, h3 => by
    simp only [evS, Option.some.injEq] at h1
    subst h1
    refine ⟨[], ?_, by simp, rfl, fun i c v hc => by simp [flat] at hc⟩
    simp only [List.length_nil, Nat.add_zero] at h3
    simp only [Instr.fill, List.map_nil, ← h3, Option.some.injEq, List.append_nil]
    rw [List.take_of_length_le (by simp)]
  | (i, x) :: parts, k, xs, cells, h1, h2, h3 => by
    simp only [evS] at h1
    split at h1
    · rename_i av l hi ha hl
      obtain rfl : i = k := Nat.eq_of_beq_eq_true hi
      obtain rfl := Option.some.inj h1
      have hel := h2 av (by simp)
      obtain ⟨c1, c2⟩ := cells_at (evA_at r ha) hel.2
      simp only [List.length_cons] at h3
      have hsz : (a.eval x).cells.size = size := by rw [← c1]; exact hel.1
      have e1 : (i + (parts.length + 1)) * size = i * size + size + parts.length * size := by rw [Nat.add_mul, Nat.add_mul, Nat.one_mul]; omega
      have hle : i * size + size ≤ cells.size := by rw [h3, e1]; omega
      obtain ⟨vs, g1, g2, g3, g4⟩ := fill_seq r size parts (i + 1) l (cells.toList.take (i * size) ++ (a.eval x).cells.toList ++ cells.toList.drop (i * size + (a.eval x).cells.toList.length)).toArray hl (fun y hy => h2 y (by simp [hy])) (by
        simp [hsz]; rw [show i + 1 + parts.length = i + (parts.length + 1) from by omega, e1]; omega)
      refine ⟨(a.eval x).cells.toList ++ vs, ?_, ?_, by simp [g3], ?_⟩
      · rw [List.map_cons, fill_step (off := i * size) (size := size) rfl hsz hle, g1]
        congr 2
        have l1 : (cells.toList.take (i * size)).length = i * size := by simp; omega
        have l2 : (a.eval x).cells.toList.length = size := by simp [hsz]
        rw [← List.append_assoc]
        congr 1
        rw [show (i + 1) * size = (cells.toList.take (i * size) ++ (a.eval x).cells.toList).length from by rw [List.length_append, l1, l2, Nat.add_mul, Nat.one_mul]]
        exact List.take_left
      · simp [g2, hsz, Nat.add_mul]; omega
      · rw [flat_cons]
        exact AtA_cons (by simpa using c1) (by simpa using c2) g4
    · cases h1

section rules
variable {P : Program} {all : Array Oper} {rest : List Oper} {n : Nat} {tm : List (Nat × AV)} {hp : Heap} {Q : St → Prop} {d : Nat} {ty : TypeId} {pos : String} {af : Array Edge}

theorem run_newRow {P : Program} (w : World) (E : TypeId) (vs : Array Value) : (newRow E vs).run P w = .ok ⟨w.heap.size, 0, none⟩ (w.alloc (.cells vs E)) := by simp [newRow]

theorem r_buildSlice {t e : TypeId} {i : TypeInfo} {z : Value} {len : Nat} {parts : List (Nat × Operand)} {xs : List AV} [TUnder P t (.slice e)] [TInfo P e i] (hz : i.zero = some z) (hl : evS tm parts 0 = some xs) (hlen : Nat.beq parts.length len = true) (hel : allEl i.size xs = true)
    (h24 : Nat.ble (len * i.size) 16777216 = true) (hn : Nat.blt d n = true) (kk : ∀ b : Bk, ARun P all rest ⟨n, (d, .sl i.size b 0 len) :: tm, (b, .arr i.size xs) :: hp⟩ Q) : ARun P all (⟨some d, .buildSlice t len parts.toArray, ty, pos, af, none⟩ :: rest) ⟨n, tm, hp⟩ Q := by
  refine ARun.opx rfl fun w S a r => ?_
  obtain rfl : parts.length = len := Nat.eq_of_beq_eq_true hlen
  have h24 := Nat.le_of_ble_eq_true h24
  obtain ⟨zz, hzz⟩ : ∃ zz : Array Value, zz = if parts.length * i.size = 0 then #[] else z.cells := ⟨_, rfl⟩
  obtain ⟨vs, g1, g2, g3, g4⟩ := fill_seq (σ := ⟨n, tm, hp⟩) r i.size parts 0 xs ((Array.range (parts.length * i.size)).map (zz[· % zz.size]!)) hl (allEl_spec hel) (by simp)
  simp only [Nat.zero_mul, List.take_zero, List.nil_append] at g1
  have e0 := Ext.alloc w (.cells vs.toArray e)
  have hh : Holds (w.alloc (.cells vs.toArray e)) S ⟨some w.heap.size, parts.length⟩ (.arr i.size xs) := by
    refine ⟨allEl_spec hel, by simp [g3], .inr ⟨w.heap.size, vs.toArray, e, rfl, ?_, by simp [g2, g3], g4.mono fun m hm => ⟨hm, e0.same m (r.hp.slt m hm)⟩⟩⟩
    show (w.heap.push _)[w.heap.size]? = _
    simp
  obtain ⟨k1, k2, k3⟩ := add_rel r.hp e0 id hh (.inr ⟨_, rfl, Nat.le_refl _⟩)
  refine ⟨.slice (some ⟨w.heap.size, 0, none⟩) parts.length parts.length, w.alloc (.cells vs.toArray e), S, _, ?_, (r.heap k3 k1).put hn ?_, k2, kk ⟨some w.heap.size, parts.length⟩⟩
  · have hm : ((parts.toArray.map fun p => (p.1, a.eval p.2))).toList = parts.map fun p => (p.1, a.eval p.2) := by simp
    simp only [execOp, Instr.buildSlice, Sem.run_bind, run_underlying (TUnder.h (P := P) (t := t)), Result.andThen_ok, sizeOf, typeInfo, run_program, TInfo.h (P := P) (t := e), Sem.run_pure]
    rw [if_neg (by omega)]
    by_cases h0 : parts.length * i.size = 0
    · rw [if_pos h0] at hzz ⊢
      subst hzz
      simp only [Sem.run_bind, Result.andThen_ok, Sem.run_pure, hm, g1, run_newRow]
    · rw [if_neg h0] at hzz ⊢
      subst hzz
      simp only [Sem.run_bind, Result.andThen_ok, Sem.run_pure, zeroValue, typeInfo, run_program, TInfo.h (P := P) (t := e), hz, hm, g1, run_newRow]
  · have := At.sl (w := w.alloc (.cells vs.toArray e)) (S := S) i.size ⟨some w.heap.size, parts.length⟩ 0 parts.length w.heap.size parts.length rfl (Nat.le_refl _) (by simp)
    simpa using this

/-! ### append -/
def SrcV (w : World) (S : Nat → Prop) (sz : Nat) (ys : List AV) (v : Value) : Prop :=
  (∀ y ∈ ys, El sz y) ∧ ∃ (a : Option Addr) (c : Nat) (nvs : List Value), v = .slice a ys.length c ∧ nvs.length = ys.length * sz ∧ AtA w S (flat ys) nvs.toArray ∧ ∀ (i : Nat) u, nvs[i]? = some u → ∃ ad, a = some ad ∧ w.cell? (ad.add i) = some u

/-- What a slice value reads as, in the state. -/
inductive Src (hp : Heap) (sz : Nat) : AV → List AV → Prop
  | nil : Src hp sz .nil []
  | list (ys : List AV) : Src hp sz (.list sz ys) ys
  | whole (b : Bk) (len : Nat) (xs : List AV) (f : Fnd hp b (.arr sz xs) ∨ Fnd hp b (.fro sz xs)) (h : len = xs.length) : Src hp sz (.sl sz b 0 len) xs
  | part (b : Bk) (off len : Nat) (xs : List AV) (f : Fnd hp b (.arr sz xs) ∨ Fnd hp b (.fro sz xs)) (h : off + len ≤ xs.length) : Src hp sz (.sl sz b off len) ((xs.drop off).take len)

theorem flat_drop {sz : Nat} : ∀ (xs : List AV) (k : Nat), (∀ x ∈ xs, El sz x) → flat (xs.drop k) = (flat xs).drop (k * sz)
  | xs, 0, _ => by simp
  | [], k + 1, _ => by simp [flat]
  | x :: xs, k + 1, h => by
    rw [List.drop_succ_cons, flat_drop xs k (fun y hy => h y (by simp [hy])), flat_cons, Nat.add_mul, Nat.one_mul, Nat.add_comm (k * sz), ← List.drop_drop]
    rw [List.drop_left' ((h x (by simp)).1)]

theorem flat_take {sz : Nat} : ∀ (xs : List AV) (k : Nat), (∀ x ∈ xs, El sz x) → flat (xs.take k) = (flat xs).take (k * sz)
  | xs, 0, _ => by simp [flat]
  | [], k + 1, _ => by simp [flat]
  | x :: xs, k + 1, h => by
    rw [List.take_succ_cons, flat_cons, flat_take xs k (fun y hy => h y (by simp [hy])), flat_cons, Nat.add_mul, Nat.one_mul, Nat.add_comm (k * sz)]
    have hx := (h x (by simp)).1
    rw [List.take_append, List.take_of_length_le (l := x.cells) (by omega), hx, Nat.add_sub_cancel_left]

theorem srcV_part {w : World} {S : Nat → Prop} {hp : Heap} (r : HRel w S hp) {b : Bk} {sz off len : Nat} {xs : List AV} {v : Value} (f : Fnd hp b (.arr sz xs) ∨ Fnd hp b (.fro sz xs)) (hle : off + len ≤ xs.length) (h : At w S (.sl sz b off len) v) :
    SrcV w S sz ((xs.drop off).take len) v := by
  obtain ⟨g0, g1, g2⟩ := arr_cells r f
  have hmem : ∀ y ∈ (xs.drop off).take len, El sz y := fun y hy => g0 y (List.mem_of_mem_drop (List.mem_of_mem_take hy))
  have hlen : ((xs.drop off).take len).length = len := by simp; omega
  obtain ⟨oa, cap, e1, e2⟩ := h.sl_inv
  refine ⟨hmem, ?_⟩
  rw [hlen, e1]
  rcases e2 with ⟨_, _, hl, ha, hc⟩ | ⟨m, hb, ha, h1, h2⟩ | ⟨m, ad, hb, ha, hl, hc⟩
  · subst hl
    exact ⟨oa, cap, [], rfl, by simp, fun i c v hc hv => by simp at hv, fun i u hu => by simp at hu⟩
  · rcases g2 with ⟨g2, _⟩ | ⟨m', vs, E, g2, g3, g4, g5⟩
    · rw [g2] at hb; cases hb
    · obtain rfl : m' = m := by rw [g2] at hb; exact Option.some.inj hb
      subst ha
      have hb1 : (off + len) * sz ≤ b.cap * sz := Nat.mul_le_mul_right _ (by omega)
      rw [Nat.add_mul] at hb1
      refine ⟨_, cap, (vs.toList.drop (off * sz)).take (len * sz), rfl, by simp; omega, ?_, ?_⟩
      · rw [flat_take _ _ (fun y hy => g0 y (List.mem_of_mem_drop hy)), flat_drop _ _ g0]
        intro i c v hc hv
        simp only [List.getElem?_toArray, List.getElem?_take, List.getElem?_drop] at hc hv
        split at hv
        · rename_i hlt
          rw [if_pos hlt] at hc
          exact g5 _ c v hc (by simpa using hv)
        · cases hv
      · intro i u hu
        refine ⟨_, rfl, ?_⟩
        rw [add_at, cell_at g3]
        simp only [List.getElem?_take, List.getElem?_drop] at hu
        split at hu
        · simpa using hu
        · cases hu
  · subst hl
    exact ⟨oa, cap, [], rfl, by simp, fun i c v hc hv => by simp at hv, fun i u hu => by simp at hu⟩

theorem Src.at {w : World} {S : Nat → Prop} {hp : Heap} {sz : Nat} {av : AV} {ys : List AV} {v : Value} (s : Src hp sz av ys) (r : HRel w S hp) (h : At w S av v) : SrcV w S sz ys v := by
  cases s with
  | nil => exact ⟨by simp, none, 0, [], h.nil_inv, by simp, fun i c v hc hv => by simp at hv, fun i u hu => by simp at hu⟩
  | list ys =>
    obtain ⟨a, cap, vs, e1, e2, e3, e4, e5, e6⟩ := h.list_inv
    refine ⟨e2, a, cap, vs, e1, by rw [← e3, flat_length e2], fun i c v hc hv => e4 i c v hc (by simpa using hv), fun i u hu => ?_⟩
    obtain ⟨ad, h1, h2, h3, h4⟩ := e5 i u hu
    refine ⟨ad, h1, ?_⟩
    obtain ⟨bk, of, sp⟩ := ad
    simp only at h2; subst h2
    rw [add_at]; exact h4
  | whole b len xs f hl =>
    subst hl
    have := srcV_part r (off := 0) (len := ys.length) f (by omega) h
    simpa using this
  | part b off len xs f hle => exact srcV_part r f hle h

theorem run_append_none {P : Program} {t e : TypeId} {i : TypeInfo} (ht : P.underlying t = some (.slice e)) (hi : P.info? e = some i) (ob a : Option Addr) (sLen sCap c : Nat) (h : sLen ≤ sCap) (w : World) :
    (Builtin.append_ #[t, t] ty #[.slice ob sLen sCap, .slice a 0 c]).run P w = .ok (.slice ob sLen sCap) w := by
  cases a <;> cases ob <;> simp [Builtin.append_, run_underlying ht, sizeOf, typeInfo, hi, Builtin.lenOf, h, Builtin.firstCells, loadCells, loadCellsFrom, storeCells]

theorem run_append_in {P : Program} {t e E : TypeId} {i : TypeInfo} {w : World} (ht : P.underlying t = some (.slice e)) (hi : P.info? e = some i) (g sLen sCap : Nat) (cur : Array Value) (hg : w.heap[g]? = some (.cells cur E (0, 0)))
    (a : Addr) (m c : Nat) (news : List Value) (hl : news.length = m * i.size) (hnews : ∀ (j : Nat) u, news[j]? = some u → w.cell? (a.add j) = some u) (h1 : ∀ u ∈ news, u.oneCell' = true)
    (hroom : sLen + m ≤ sCap) (hfit : sLen * i.size + news.length ≤ cur.size) :
    (Builtin.append_ #[t, t] ty #[.slice (some ⟨g, 0, none⟩) sLen sCap, .slice (some a) m c]).run P w =
      .ok (.slice (some ⟨g, 0, none⟩) (sLen + m) sCap) (w.setRow g (cur.toList.take (sLen * i.size) ++ news ++ cur.toList.drop (sLen * i.size + news.length)).toArray) := by
  have hf := run_firstCells_some (P := P) w i.size m a m c news hl hnews
  have hst := run_storeCells_at P g (sLen * i.size) E news 0 cur w hg (by simpa using hfit) h1
  simp only [Nat.add_zero] at hst
  simp [Builtin.append_, run_underlying ht, sizeOf, typeInfo, hi, Builtin.lenOf, hroom, hf, Addr.add_lit, hst]

theorem append_run {w : World} {S : Nat → Prop} {hp : Heap} {t e : TypeId} {i : TypeInfo} {z : Value} {b : Bk} {xs ys : List AV} {v1 v2 : Value} (r : HRel w S hp) (ht : P.underlying t = some (.slice e)) (hi : P.info? e = some i) (hz : i.zero = some z) (hzs : z.cells.size = i.size) (h0 : 0 < i.size)
    (f : Fnd hp b (.arr i.size xs)) (hv1 : At w S (.sl i.size b 0 xs.length) v1) (hs : SrcV w S i.size ys v2) (hb : (xs.length + ys.length) * i.bytes ≤ 140737488355328) (h63 : xs.length + ys.length ≤ 9223372036854775807) :
    ∃ v' w' b', (Builtin.append_ #[t, t] ty #[v1, v2]).run P w = .ok v' w' ∧ At w' S (.sl i.size b' 0 (xs.length + ys.length)) v' ∧ GB w w' b.blk ∧ Holds w' S b' (.arr i.size (xs ++ ys)) ∧
      (b'.blk = b.blk ∨ b'.blk = none ∨ ∃ m, b'.blk = some m ∧ w.heap.size ≤ m) := by
  obtain ⟨k0, a, c, nvs, rfl, k1, k2, k3⟩ := hs
  have hold := r.holds _ f.mem
  obtain ⟨g0, g1, g2⟩ := arr_cells r (.inl f)
  obtain ⟨oa, cap, rfl, e2⟩ := hv1.sl_inv
  by_cases hy : ys = []
  · subst hy
    have hle : xs.length ≤ cap := by
      rcases e2 with ⟨_, _, hl, _, _⟩ | ⟨m, hb', ha, h1, h2⟩ | ⟨m, ad, hb', ha, hl, hc⟩ <;> omega
    refine ⟨_, w, b, run_append_none ht hi oa a xs.length cap c hle w, by simpa using hv1, ⟨⟨rfl, rfl, rfl, Nat.le_refl _, fun _ _ _ => rfl⟩, Nat.le_refl _⟩, by simpa using hold, .inl rfl⟩
  · have hm : 0 < ys.length := List.length_pos_iff.2 hy
    have hnl : 0 < nvs.length := by rw [k1]; exact Nat.mul_pos hm h0
    obtain ⟨ad, rfl, _⟩ := k3 0 nvs[0] (by simp [hnl])
    have k3' : ∀ (j : Nat) u, nvs[j]? = some u → w.cell? (ad.add j) = some u := fun j u hu => by
      obtain ⟨ad', h1, h2⟩ := k3 j u hu
      obtain rfl := Option.some.inj h1
      exact h2
    have hone : ∀ u ∈ nvs, u.oneCell' = true := one_vals (cs := flat ys) (vs := nvs.toArray) (by simp [k1, flat_length k0]) k2 (flat_one k0)
    have elx : ∀ x ∈ xs ++ ys, El i.size x := fun x hx => by rcases List.mem_append.1 hx with h | h; exact g0 x h; exact k0 x h
    /- a new block -/
    have grown : ∀ (old : Nat) (olds : List Value) (wr : Option Nat), olds.length = xs.length * i.size → AtA w S (flat xs) olds.toArray →
        At (w.drew.alloc (.cells (olds.toArray ++ nvs.toArray ++ Builtin.zeroCells z.cells (grownCap w (xs.length + ys.length) old e - (xs.length + ys.length))) e)) S (.sl i.size ⟨some w.heap.size, grownCap w (xs.length + ys.length) old e⟩ 0 (xs.length + ys.length))
          (.slice (some ⟨w.heap.size, 0, none⟩) (xs.length + ys.length) (grownCap w (xs.length + ys.length) old e)) ∧
        GB w (w.drew.alloc (.cells (olds.toArray ++ nvs.toArray ++ Builtin.zeroCells z.cells (grownCap w (xs.length + ys.length) old e - (xs.length + ys.length))) e)) wr ∧
        Holds (w.drew.alloc (.cells (olds.toArray ++ nvs.toArray ++ Builtin.zeroCells z.cells (grownCap w (xs.length + ys.length) old e - (xs.length + ys.length))) e)) S ⟨some w.heap.size, grownCap w (xs.length + ys.length) old e⟩ (.arr i.size (xs ++ ys)) := by
      intro old olds wr ho1 ho2
      have hge := grownCap_ge w (xs.length + ys.length) old e
      have ex : Ext w (w.drew.alloc (.cells (olds.toArray ++ nvs.toArray ++ Builtin.zeroCells z.cells (grownCap w (xs.length + ys.length) old e - (xs.length + ys.length))) e)) := (Ext.draws w _ (Nat.le_succ _)).trans (Ext.alloc w.drew _)
      generalize grownCap w (xs.length + ys.length) old e = cp at *
      refine ⟨?_, ⟨⟨ex.os, ex.tape, ex.output, ex.size, fun k hk _ => ex.same k hk⟩, ex.drawn⟩, elx, by simpa using hge, .inr ⟨w.heap.size, olds.toArray ++ nvs.toArray ++ Builtin.zeroCells z.cells (cp - (xs.length + ys.length)), e, rfl, ?_, ?_, ?_⟩⟩
      · have := At.sl (w := w.drew.alloc (.cells (olds.toArray ++ nvs.toArray ++ Builtin.zeroCells z.cells (cp - (xs.length + ys.length))) e)) (S := S) i.size ⟨some w.heap.size, cp⟩ 0 (xs.length + ys.length) w.heap.size cp rfl hge (by simp)
        simpa using this
      · show (w.heap.push _)[w.heap.size]? = _
        simp
      · simp only [Array.size_append, List.size_toArray, size_zeroCells, hzs, ho1, k1]
        rw [← Nat.add_mul, ← Nat.add_mul]
        congr 1
        omega
      · rw [flat_append]
        have h2 : AtA w S (flat xs ++ flat ys) (olds ++ nvs).toArray := AtA_cons (by rw [flat_length g0, ho1]) ho2 k2
        intro j c' u hc hu
        have hj : j < (olds ++ nvs).length := by
          have := (List.getElem?_eq_some_iff.1 hc).1
          simp only [List.length_append, flat_length g0, flat_length k0] at this
          simp only [List.length_append, ho1, k1]
          exact this
        have hu' : (olds ++ nvs).toArray[j]? = some u := by
          rw [Array.getElem?_append_left (by simpa using hj)] at hu
          simpa using hu
        exact (h2 j c' u hc hu').mono fun m hm' => ⟨hm', ex.same m (r.slt m hm')⟩
    rcases e2 with ⟨hbn, _, hl, rfl, rfl⟩ | ⟨m, hbm, rfl, h1, h2⟩ | ⟨m, ad', hbm, rfl, hl, rfl⟩
    · have hx : xs = [] := List.eq_nil_of_length_eq_zero hl
      subst hx
      have hr := run_append_nil (P := P) (ty := ty) w t e i z ht hi hz ad ys.length c nvs k1 k3' hm (by simp at h63; omega) (by simp only [List.length_nil, Nat.zero_add] at hb; omega)
      obtain ⟨q1, q2, q3⟩ := grown 0 [] b.blk (by simp) (fun j c' u hc => by simp [flat] at hc)
      simp only [List.length_nil, Nat.zero_add, Array.empty_append] at q1 q2 q3 ⊢
      exact ⟨_, _, _, hr, q1, q2, q3, .inr (.inr ⟨_, rfl, Nat.le_refl _⟩)⟩
    · rcases g2 with ⟨g2, _⟩ | ⟨m', vs, E, g2, g3, g4, g5⟩
      · rw [g2] at hbm; cases hbm
      · obtain rfl : m' = m := by rw [g2] at hbm; exact Option.some.inj hbm
        simp only [Nat.zero_mul, Nat.zero_add] at *
        by_cases hroom : xs.length + ys.length ≤ cap
        · have hmul : (xs.length + ys.length) * i.size ≤ b.cap * i.size := Nat.mul_le_mul_right _ (by omega)
          have hfit : xs.length * i.size + nvs.length ≤ vs.size := by rw [k1, ← Nat.add_mul, g4]; exact hmul
          have hr := run_append_in (P := P) (ty := ty) ht hi m' xs.length cap vs g3 ad ys.length c nvs k1 k3' hone hroom hfit
          have nS : ¬ S m' := fun hs => (r.sep _ f.mem m' hbm).1 hs
          have ex : ∀ k, S k → S k ∧ (w.setRow m' (vs.toList.take (xs.length * i.size) ++ nvs ++ vs.toList.drop (xs.length * i.size + nvs.length)).toArray).heap[k]? = w.heap[k]? := fun k hk => ⟨hk, setRow_other w m' k _ (fun e => nS (e ▸ hk))⟩
          refine ⟨_, _, b, hr, ?_, ⟨⟨rfl, rfl, rfl, by simp, fun k _ hk => setRow_other w m' k _ (fun e => hk (by rw [hbm, e]))⟩, Nat.le_refl _⟩, ⟨elx, by simp; omega, .inr ⟨m', (vs.toList.take (xs.length * i.size) ++ nvs ++ vs.toList.drop (xs.length * i.size + nvs.length)).toArray, E, hbm, setRow_heap w m' vs _ E _ g3, ?_, ?_⟩⟩, .inl rfl⟩
          · have := At.sl (w := w.setRow m' (vs.toList.take (xs.length * i.size) ++ nvs ++ vs.toList.drop (xs.length * i.size + nvs.length)).toArray) (S := S) i.size b 0 (xs.length + ys.length) m' cap hbm hroom (by omega)
            simpa using this
          · simp; omega
          · rw [flat_append]
            have hA : AtA w S (flat xs ++ flat ys) (vs.toList.take (xs.length * i.size) ++ nvs).toArray := AtA_cons (by simp [flat_length g0]; omega) (fun j c' u hc hu => by
              simp only [List.getElem?_toArray, List.getElem?_take] at hu
              split at hu
              · exact g5 j c' u hc (by simpa using hu)
              · cases hu) k2
            intro j c' u hc hu
            have hj : j < (vs.toList.take (xs.length * i.size) ++ nvs).length := by
              have := (List.getElem?_eq_some_iff.1 hc).1
              simp only [List.length_append, flat_length g0, flat_length k0] at this
              simp; omega
            simp only [List.getElem?_toArray] at hu
            rw [List.getElem?_append_left hj] at hu
            exact (hA j c' u hc (by simpa using hu)).mono ex
        · have hr := run_append_grow (P := P) (ty := ty) w t e i z ht hi hz ⟨m', 0, none⟩ xs.length cap (vs.toList.take (xs.length * i.size)) (by
            have := Nat.mul_le_mul_right i.size g1
            simp; omega) (fun j u hu => by
              rw [add_at, Nat.zero_add, cell_at g3]
              rw [List.getElem?_take] at hu
              split at hu
              · simpa using hu
              · cases hu) ad ys.length c nvs k1 k3' (by omega) (by omega) (growslice_fits (by omega) hb)
          obtain ⟨q1, q2, q3⟩ := grown cap (vs.toList.take (xs.length * i.size)) b.blk (by
            have := Nat.mul_le_mul_right i.size g1
            simp; omega) (fun j c' u hc hu => by
              simp only [List.getElem?_toArray, List.getElem?_take] at hu
              split at hu
              · exact g5 j c' u hc (by simpa using hu)
              · cases hu)
          exact ⟨_, _, _, hr, q1, q2, q3, .inr (.inr ⟨_, rfl, Nat.le_refl _⟩)⟩
    · have hx : xs = [] := List.eq_nil_of_length_eq_zero hl
      subst hx
      have hr := run_append_grow (P := P) (ty := ty) w t e i z ht hi hz ad' 0 0 [] (by simp) (fun j u hu => by simp at hu) ad ys.length c nvs k1 k3' (by omega) (by simp at h63; omega) (growslice_fits (by omega) (by simpa using hb))
      obtain ⟨q1, q2, q3⟩ := grown 0 [] b.blk (by simp) (fun j c' u hc => by simp [flat] at hc)
      simp only [List.length_nil, Nat.zero_add] at q1 q2 q3 hr ⊢
      exact ⟨_, _, _, hr, q1, q2, q3, .inr (.inr ⟨_, rfl, Nat.le_refl _⟩)⟩

theorem r_append {t e : TypeId} {i : TypeInfo} {z : Value} {x y : Operand} {src : AV} {b : Bk} {len sz : Nat} {xs ys : List AV} {hp' : Bk → Heap} [TUnder P t (.slice e)] [TInfo P e i] (hx : evA tm x = some (.sl sz b 0 len)) (hy : evA tm y = some src) (hz : i.zero = some z)
    (hzs : Nat.beq z.cells.size i.size = true) (hsz : Nat.beq i.size sz = true) (h0 : Nat.blt 0 sz = true) (hn : Nat.blt d n = true) (hs : Src hp sz src ys) (u : ∀ b', Upd hp b (.arr sz xs) b' (.arr sz (xs ++ ys)) (hp' b')) (hlen : len = xs.length)
    (hb : (xs.length + ys.length) * i.bytes ≤ 140737488355328) (h63 : xs.length + ys.length ≤ 9223372036854775807)
    (kk : ∀ b' : Bk, ARun P all rest ⟨n, (d, .sl sz b' 0 (len + ys.length)) :: tm, hp' b'⟩ Q) : ARun P all (⟨some d, .call { callee := .builtin .append, args := #[x, y], argTypes := #[t, t] }, ty, pos, af, none⟩ :: rest) ⟨n, tm, hp⟩ Q := by
  refine ARun.opx rfl fun w S a r => ?_
  subst hlen
  obtain rfl : i.size = sz := Nat.eq_of_beq_eq_true hsz
  obtain ⟨v', w', b', g1, g2, g3, g4, g5⟩ := append_run (P := P) (ty := ty) r.hp (TUnder.h (P := P) (t := t)) (TInfo.h (P := P) (t := e)) hz (Nat.eq_of_beq_eq_true hzs) (by simpa using h0) (u b).fnd (evA_at (σ := ⟨n, tm, hp⟩) r hx) (hs.at r.hp (evA_at (σ := ⟨n, tm, hp⟩) r hy)) hb h63
  obtain ⟨k1, k2, k3⟩ := upd_rel r.hp (u b') g3 id id g4 g5
  refine ⟨v', w', S, _, ?_, (r.heap k3 k1).put hn g2, k2, kk b'⟩
  simp [execOp, resolve, invoke, builtin, g1]

end rules
end Go.Eng
