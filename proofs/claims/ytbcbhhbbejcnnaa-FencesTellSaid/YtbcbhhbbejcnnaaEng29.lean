/- The engine, part 29: parts of arrays of ours: their elements, clear. No program in sight. -/
import Derived.Test.YtbcbhhbbejcnnaaEng28
set_option linter.unusedVariables false
set_option linter.unusedSimpArgs false
namespace Go.Eng
open Go

/-- An element of a part: of the array as it is now. -/
def idxS {α : Type} (xs : List α) (L : Int) (n : Nat) (j : Int) : Option α := if 0 ≤ L ∧ 0 ≤ j ∧ j < n then idx xs (L + j) else none
theorem idxS_some {α : Type} {xs : List α} {L : Int} {n : Nat} {j : Int} {x : α} (h : idxS xs L n j = some x) : (0 ≤ L ∧ 0 ≤ j ∧ j < n) ∧ idx xs (L + j) = some x := by
  unfold idxS at h
  split at h
  · rename_i hc; exact ⟨hc, h⟩
  · cases h
/-- A part made zero. -/
def clr {α : Type} (xs : List α) (L : Int) (n : Nat) (z : α) : List α := xs.take L.toNat ++ List.replicate n z ++ xs.drop (L.toNat + n)
theorem clr_len {α : Type} {xs v : List α} {L H : Int} {z : α} (h : slc xs L H = some v) : (clr xs L v.length z).length = xs.length := by
  obtain ⟨⟨h0, h1, h2⟩, _⟩ := slc_some h
  have := (slc_len h).1
  unfold clr
  simp only [List.length_append, List.length_take, List.length_replicate, List.length_drop]
  omega
section rules
variable {P : Program} {all : Array Oper} {rest : List Oper} {n : Nat} {tm : List (Nat × AV)} {hp : Heap} {Q : St → Prop} {d : Nat} {ty : TypeId} {pos : String} {af : Array Edge}
theorem t_index_sub {α : Type} {Xs : List α} {el : α} {t e : TypeId} {i : TypeInfo} {x y : Operand} {k : IntKind} {j L : Int} {sz m : Nat} {b : Bk} [TUnder P t (.slice e)] [TInfo P e i] (hx : evA tm x = some (.sl sz b L.toNat m)) (hsz : Nat.beq i.size sz = true) (hy : evA tm y = some (.int k j))
    (hv : idxS Xs L m j = some el) : QV P ⟨some d, .indexAddr t x y, ty, pos, af, none⟩ ⟨n, tm, hp⟩ (.aptr sz b (L + j).toNat 0) := by
  obtain ⟨⟨h0, h1, h2⟩, h3⟩ := idxS_some hv
  have h := q_index_sl (P := P) (d := d) (ty := ty) (pos := pos) (af := af) (n := n) (tm := tm) (hp := hp) (t := t) (e := e) hx hsz hy ⟨h1, h2⟩
  rw [show (L + j).toNat = L.toNat + j.toNat by omega]
  exact h
theorem t_len_sub {x : Operand} {t e : TypeId} {sz off len : Nat} {b : Bk} [TUnder P t (.slice e)] (hx : evA tm x = some (.sl sz b off len)) : QV P ⟨some d, .call { callee := .builtin .len, args := #[x], argTypes := #[t] }, ty, pos, af, none⟩ ⟨n, tm, hp⟩ (.int .i64 (len : Nat)) := q_len_sl hx

theorem q_cap_nil {x : Operand} {t e : TypeId} [TUnder P t (.slice e)] (hx : evA tm x = some .nil) : QV P ⟨some d, .call { callee := .builtin .cap, args := #[x], argTypes := #[t] }, ty, pos, af, none⟩ ⟨n, tm, hp⟩ (.int .i64 0) :=
  (fun w S a r => ⟨.int .i64 0, fun w1 _ => by
    simp [execOp, (evA_at (σ := ⟨n, tm, hp⟩) r hx).nil_inv, resolve, invoke, builtin, Builtin.cap_, run_underlying (TUnder.h (P := P) (t := t)), goInt], .int _ _⟩)
theorem t_slice_nil {α : Type} {V : List α} {t e : TypeId} {i : TypeInfo} {x : Operand} {lo hi : Option Operand} {l h : Option Int} {L H : Int} [TUnder P t (.slice e)] [TInfo P e i] (hx : evA tm x = some .nil) (hl : Bnd tm lo l) (hh : Bnd tm hi h) (eL : lowB l = L) (eH : highB 0 h = H) (hv : slc ([] : List α) L H = some V) :
    QV P ⟨some d, .slice t x lo hi none, ty, pos, af, none⟩ ⟨n, tm, hp⟩ .nil := by
  obtain ⟨⟨h0, h1, h2⟩, _⟩ := slc_some hv
  simp only [List.length_nil] at h2
  subst eL; subst eH
  intro w S a r
  have e1 := (evA_at (σ := ⟨n, tm, hp⟩) r hx).nil_inv
  refine ⟨.slice none 0 0, fun w1 _ => ?_, .nil⟩
  have hb := run_bounds (P := P) (σ := ⟨n, tm, hp⟩) r hl hh true 0 0 h0 h1 (by simpa using h2) (Nat.le_refl _) w1
  have hl0 : (lowB l).toNat = 0 := by omega
  have hh0 : (highB 0 h).toNat = 0 := by omega
  rw [hl0, hh0] at hb
  simp [execOp, Instr.sliceAt, run_underlying (TUnder.h (P := P) (t := t)), Instr.slice, e1, hb, sizeOf, typeInfo, TInfo.h (P := P) (t := e)]
theorem zeroCells_get {z : Array Value} {N sz : Nat} (hzs : z.size = sz) (hpos : 0 < sz) {j : Nat} {v : Value} (hv : (Builtin.zeroCells z N)[j]? = some v) : z[j % sz]? = some v := by
  unfold Builtin.zeroCells at hv
  simp only [Array.getElem?_map, Option.map_eq_some_iff] at hv
  obtain ⟨q, hq, rfl⟩ := hv
  have : q = j := by
    rw [Array.getElem?_eq_some_iff] at hq
    obtain ⟨k1, k2⟩ := hq
    simpa using k2.symm
  subst this
  rw [hzs]
  have hlt : q % sz < z.size := by rw [hzs]; exact Nat.mod_lt _ hpos
  simp [hlt]
/-- append(nil, make(.., n)...): so many zeros. -/
theorem t_appendZ {α : Type} {g : α → AV} {Z : α} {Zs : List α} {t u e : TypeId} {i : TypeInfo} {z : Value} {x y : Operand} {l : Int} {sz : Nat} {ki : IntKind} [TUnder P t (.slice e)] [TUnder P u (.int ki)] [TInfo P e i] (hx : evA tm x = some .nil) (hy : evA tm y = some (.int .i64 l)) (hz : i.zero = some z) (hzx : zAV z = g Z)
    (hsz : i.size = sz) (hel : elB sz (g Z) = true) (hpos : Nat.blt 0 sz = true) (hn : Nat.blt d n = true) (hby : Nat.ble i.bytes 65536 = true) (hv : mkS Z l l = some Zs)
    (kk : ∀ b' : Bk, ARun P all rest ⟨n, (d, .sl sz b' 0 Zs.length) :: tm, (b', .arr sz (Zs.map g)) :: hp⟩ Q) : ARun P all (⟨some d, .call { callee := .builtin .append, args := #[x, y], argTypes := #[t, u] }, ty, pos, af, none⟩ :: rest) ⟨n, tm, hp⟩ Q := by
  subst hsz
  have hpos : 0 < i.size := Nat.lt_of_lt_of_le (Nat.lt_of_succ_le (Nat.le_of_ble_eq_true hpos)) (Nat.le_refl _)
  have hby := Nat.le_of_ble_eq_true hby
  have hE := elB_spec hel
  unfold mkS at hv
  split at hv
  · rename_i hc
    obtain rfl := Option.some.inj hv
    obtain ⟨c0, _, c2⟩ := hc
    refine ARun.opx rfl fun w S a r => ?_
    have e1 := (evA_at (σ := ⟨n, tm, hp⟩) r hx).nil_inv
    have e2 := (evA_at (σ := ⟨n, tm, hp⟩) r hy).int_inv
    have w1 : IntKind.i64.wrap l = l := wrap_fits ⟨by omega, by omega⟩
    have hmul : l * (i.bytes : Int) ≤ 1000000000 * 65536 := Int.mul_le_mul c2 (by omega) (by omega) (by omega)
    have f1 : ¬ l < 0 := by omega
    have f2 : ¬ (281474976710656 < l * (i.bytes : Int)) := by omega
    have hmap : (List.replicate l.toNat Z).map g = List.replicate l.toNat (g Z) := by simp
    by_cases h0 : l = 0
    · subst h0
      obtain ⟨a1, a2, a3⟩ := add_rel (b := ⟨none, 0⟩) (o := .arr i.size []) r.hp (Ext.refl w) id ⟨by simp, by simp, .inl ⟨rfl, rfl⟩⟩ (.inl rfl)
      refine ⟨.slice none 0 0, w, S, _, ?_, (r.heap a3 a1).put hn (.slph _ _ rfl), a2, kk ⟨none, 0⟩⟩
      simp [execOp, resolve, invoke, builtin, e1, e2, Builtin.append_, run_underlying (TUnder.h (P := P) (t := t)), run_underlying (TUnder.h (P := P) (t := u)), sizeOf, typeInfo, TInfo.h (P := P) (t := e), asInt, asIntOf, w1]
    · obtain ⟨N, hN⟩ : ∃ N : Nat, N = l.toNat := ⟨_, rfl⟩
      have hN0 : 0 < N := by omega
      have hlN : l = (N : Int) := by omega
      obtain ⟨zl, zat⟩ := zAV_cells_at w S z (by rw [hzx]; exact hE.2)
      rw [hzx] at zl zat
      have hzs : z.cells.size = i.size := by rw [← zl]; exact hE.1
      have h48 : N * i.bytes ≤ 1000000000 * 65536 := Nat.mul_le_mul (by omega) hby
      have h48' : ¬ (281474976710656 < Builtin.nextslicecap N 0 * i.bytes) := by rw [nextslicecap_zero hN0]; omega
      have h63' : ¬ (9223372036854775807 < (N : Int)) := by omega
      have hne : N ≠ 0 := by omega
      have hne2 : ¬ (N = 0 ∨ i.size = 0) := by omega
      have hge := grownCap_ge w N 0 e
      obtain ⟨vs, hvs⟩ : ∃ vs : Array Value, vs = Builtin.zeroCells z.cells N ++ Builtin.zeroCells z.cells (grownCap w N 0 e - N) := ⟨_, rfl⟩
      have ex : Ext w (w.drew.alloc (.cells vs e)) := (Ext.draws w _ (Nat.le_succ _)).trans (Ext.alloc w.drew _)
      have hEr : ∀ y ∈ List.replicate N (g Z), El i.size y := fun y hy => by rw [List.eq_of_mem_replicate hy]; exact hE
      have hzc : (Builtin.zeroCells z.cells N).size = N * i.size := by rw [size_zeroCells, hzs]
      have hh : Holds (w.drew.alloc (.cells vs e)) S ⟨some w.heap.size, grownCap w N 0 e⟩ (.arr i.size ((List.replicate l.toNat Z).map g)) := by
        rw [hmap, ← hN]
        refine ⟨hEr, by simpa using hge, .inr ⟨w.heap.size, vs, e, rfl, ?_, ?_, fun j c v hc hv => ?_⟩⟩
        · show (w.heap.push _)[w.heap.size]? = _
          simp
        · rw [hvs, Array.size_append, size_zeroCells, size_zeroCells, hzs, ← Nat.add_mul]
          show (N + (grownCap w N 0 e - N)) * i.size = grownCap w N 0 e * i.size
          rw [show N + (grownCap w N 0 e - N) = grownCap w N 0 e by omega]
        · have hj : j < N * i.size := by
            have := (List.getElem?_eq_some_iff.1 hc).1
            rw [flat_length hEr] at this; simpa using this
          rw [flat_rep hE.1 N j hj] at hc
          rw [hvs, Array.getElem?_append_left (by rw [hzc]; exact hj)] at hv
          exact (zat _ _ _ hc (zeroCells_get hzs hpos hv)).mono fun m hm => ⟨hm, ex.same m (r.hp.slt m hm)⟩
      obtain ⟨k1, k2, k3⟩ := add_rel r.hp ex id hh (.inr ⟨_, rfl, Nat.le_refl _⟩)
      refine ⟨.slice (some ⟨w.heap.size, 0, none⟩) N (grownCap w N 0 e), w.drew.alloc (.cells vs e), S, _, ?_, (r.heap k3 k1).put hn ?_, k2, kk ⟨some w.heap.size, grownCap w N 0 e⟩⟩
      · have f2' : ¬ (281474976710656 < (N : Int) * (i.bytes : Int)) := by rw [← hlN]; exact f2
        have f1' : ¬ ((N : Int) < 0) := by omega
        have w1' : IntKind.i64.wrap (N : Int) = N := by rw [← hlN]; exact w1
        rw [hvs]
        simp [execOp, resolve, invoke, builtin, e1, e2, Builtin.append_, run_underlying (TUnder.h (P := P) (t := t)), run_underlying (TUnder.h (P := P) (t := u)), sizeOf, typeInfo, TInfo.h (P := P) (t := e), asInt, asIntOf, hlN, w1', f1', f2', hne, hne2, h63', h48', Question.forced, run_firstCells_none, zeroValue, hz, newRow, grownCap]
        intro hzero
        exact absurd (Nat.mul_eq_zero.1 hzero) (by omega)
      · have := At.sl (w := w.drew.alloc (.cells vs e)) (S := S) i.size ⟨some w.heap.size, grownCap w N 0 e⟩ 0 N w.heap.size (grownCap w N 0 e) rfl hge (by simp)
        simp only [List.length_replicate, ← hN]
        simpa using this
  · cases hv
theorem r_clear {t e : TypeId} {i : TypeInfo} {z : Value} {x : Operand} {b : Bk} {L N sz : Nat} {xs : List AV} {zx : AV} {hp' : Heap} [TUnder P t (.slice e)] [TInfo P e i] (hx : evA tm x = some (.sl sz b L N)) (hz : i.zero = some z) (hzx : zAV z = zx) (hsz : Nat.beq i.size sz = true) (hel : elB sz zx = true) (hpos : Nat.blt 0 sz = true) (hL : L + N ≤ xs.length)
    (u : Upd hp b (.arr sz xs) b (.arr sz (xs.take L ++ List.replicate N zx ++ xs.drop (L + N))) hp') (kk : ARun P all rest ⟨n, tm, hp'⟩ Q) :
    ARun P all (⟨none, .call { callee := .builtin .clear, args := #[x], argTypes := #[t] }, ty, pos, af, none⟩ :: rest) ⟨n, tm, hp⟩ Q := by
  have hsz := Nat.eq_of_beq_eq_true hsz
  have hpos : 0 < sz := Nat.lt_of_lt_of_le (Nat.lt_of_succ_le (Nat.le_of_ble_eq_true hpos)) (Nat.le_refl _)
  have hE := elB_spec hel
  refine ARun.opx rfl fun w S a r => ?_
  obtain ⟨oa, cap, e1, e2⟩ := (evA_at (σ := ⟨n, tm, hp⟩) r hx).sl_inv
  rcases Nat.eq_zero_or_pos N with h0 | h0
  · subst h0
    have hsame : xs.take L ++ List.replicate 0 zx ++ xs.drop (L + 0) = xs := by simp
    rw [hsame] at u
    obtain ⟨p, q, hq1, hq2⟩ := u.split
    obtain rfl : hp' = hp := by rw [hq1, hq2]
    refine ⟨.tuple #[], w, S, ⟨n, tm, hp'⟩, ?_, r, Evo.refl _ _ _, kk⟩
    cases oa <;> simp [execOp, e1, resolve, invoke, builtin, Builtin.clear_, run_underlying (TUnder.h (P := P) (t := t))]
  · rcases e2 with ⟨_, _, hl, _, _⟩ | ⟨m, hb, rfl, h1, h2⟩ | ⟨_, _, _, _, hl, _⟩
    · omega
    · obtain ⟨g0, g1, ⟨g2, _⟩ | ⟨m', vs, E, g2, g3, g4, g5⟩⟩ := arr_cells r.hp (.inl u.fnd)
      · rw [g2] at hb; cases hb
      obtain rfl : m' = m := by rw [g2] at hb; exact Option.some.inj hb
      obtain ⟨zl, zat⟩ := zAV_cells_at w S z (by rw [hzx]; exact hE.2)
      rw [hzx] at zl zat
      have hzs : z.cells.size = sz := by rw [← zl]; exact hE.1
      have hEr : ∀ y ∈ List.replicate N zx, El sz y := fun y hy => by rw [List.eq_of_mem_replicate hy]; exact hE
      have hzc : (Builtin.zeroCells z.cells N).size = N * sz := by rw [size_zeroCells, hzs]
      have hnl : (flat (List.replicate N zx)).length = (Builtin.zeroCells z.cells N).size := by rw [flat_length hEr, hzc]; simp
      have hnat : AtA w S (flat (List.replicate N zx)) (Builtin.zeroCells z.cells N) := by
        intro j c v hc hv
        have hj : j < N * sz := by
          have := (List.getElem?_eq_some_iff.1 hc).1
          rw [flat_length hEr] at this; simpa using this
        rw [flat_rep hE.1 N j hj] at hc
        refine zat (j % sz) c v hc ?_
        unfold Builtin.zeroCells at hv
        simp only [Array.getElem?_map, Option.map_eq_some_iff] at hv
        obtain ⟨q, hq, rfl⟩ := hv
        have : q = j := by
          rw [Array.getElem?_eq_some_iff] at hq
          obtain ⟨k1, k2⟩ := hq
          simpa using k2.symm
        subst this
        rw [hzs]
        have hlt : q % sz < z.cells.size := by rw [hzs]; exact Nat.mod_lt _ hpos
        simp [hlt]
      have hone := one_vals hnl hnat (fun c hc => by
        unfold flat at hc
        rw [List.mem_flatMap] at hc
        obtain ⟨y, hy, hcy⟩ := hc
        exact (hEr y hy).2 c hcy)
      have hfl := flat_length g0
      have hmul : (L + N) * sz ≤ xs.length * sz := Nat.mul_le_mul_right _ hL
      have hmul2 : xs.length * sz ≤ b.cap * sz := Nat.mul_le_mul_right _ g1
      rw [Nat.add_mul] at hmul
      have hst := run_storeCells_at (P := P) m' (L * sz) E (Builtin.zeroCells z.cells N).toList 0 vs w g3 (by simp [hzc]; omega) hone
      simp only [Nat.add_zero] at hst
      have hflat : flat (xs.take L ++ List.replicate N zx ++ xs.drop (L + N)) = (flat xs).take (L * sz) ++ flat (List.replicate N zx) ++ (flat xs).drop (L * sz + (flat (List.replicate N zx)).length) := by
        rw [flat_append, flat_append, flat_take xs L g0, flat_drop xs (L + N) g0, hnl, hzc, Nat.add_mul]
      have hmid := fun (w' : World) (ha : AtA w' S (flat xs) vs) (hb : AtA w' S (flat (List.replicate N zx)) (Builtin.zeroCells z.cells N)) => AtA_mid (L * sz) (by rw [hfl, g4]; exact hmul2) ha hnl hb (by rw [hnl, hzc, hfl]; omega)
      have hsz2 : (vs.toList.take (L * sz) ++ (Builtin.zeroCells z.cells N).toList ++ vs.toList.drop (L * sz + (Builtin.zeroCells z.cells N).toList.length)).toArray.size = b.cap * sz := by
        simp [hzc]; omega
      generalize (vs.toList.take (L * sz) ++ (Builtin.zeroCells z.cells N).toList ++ vs.toList.drop (L * sz + (Builtin.zeroCells z.cells N).toList.length)).toArray = vs' at hst hmid hsz2
      have c : GB w (w.setRow m' vs') b.blk := ⟨⟨rfl, rfl, rfl, by simp, fun k hk hne => setRow_other w m' k _ (fun e => hne (by rw [g2, e]))⟩, Nat.le_refl _⟩
      have k1 : ∀ n, S n → S n ∧ (w.setRow m' vs').heap[n]? = w.heap[n]? := by
        intro k hk
        refine ⟨hk, setRow_other w m' k _ (fun e => ?_)⟩
        subst e
        exact (r.hp.sep _ u.fnd.mem k g2).1 hk
      have hh := upd_rel r.hp u c id id ⟨fun y hy => ?_, by simp; omega, .inr ⟨m', vs', E, g2, setRow_heap w m' vs _ E _ g3, hsz2, by rw [hflat]; exact hmid _ (g5.mono k1) (hnat.mono k1)⟩⟩ (.inl rfl)
      · refine ⟨.tuple #[], w.setRow m' vs', S, ⟨n, tm, hp'⟩, ?_, r.heap hh.2.2 hh.1, hh.2.1, kk⟩
        obtain ⟨N', rfl⟩ : ∃ k, N = k + 1 := ⟨N - 1, by omega⟩
        simp [execOp, e1, resolve, invoke, builtin, Builtin.clear_, run_underlying (TUnder.h (P := P) (t := t)), zeroValue, typeInfo, TInfo.h (P := P) (t := e), hz, hst]
      · rcases List.mem_append.1 hy with h | h
        · rcases List.mem_append.1 h with h | h
          · exact g0 y (List.mem_of_mem_take h)
          · exact hEr y h
        · exact g0 y (List.mem_of_mem_drop h)
    · omega
theorem t_clear {α : Type} {g : α → AV} {Z : α} {Xs V : List α} {H : Int} {t e : TypeId} {i : TypeInfo} {z : Value} {x : Operand} {b : Bk} {L : Int} {sz : Nat} {hp' : Heap} [TUnder P t (.slice e)] [TInfo P e i] (hx : evA tm x = some (.sl sz b L.toNat V.length)) (hz : i.zero = some z) (hzx : zAV z = g Z) (hsz : Nat.beq i.size sz = true) (hel : elB sz (g Z) = true) (hpos : Nat.blt 0 sz = true) (hv : slc Xs L H = some V)
    (u : Upd hp b (.arr sz (Xs.map g)) b (.arr sz ((clr Xs L V.length Z).map g)) hp') (kk : ARun P all rest ⟨n, tm, hp'⟩ Q) :
    ARun P all (⟨none, .call { callee := .builtin .clear, args := #[x], argTypes := #[t] }, ty, pos, af, none⟩ :: rest) ⟨n, tm, hp⟩ Q := by
  obtain ⟨⟨h0, h1, h2⟩, _⟩ := slc_some hv
  have hlen := (slc_len hv).1
  refine r_clear (xs := Xs.map g) hx hz hzx hsz hel hpos (by simp; omega) ?_ kk
  have : (clr Xs L V.length Z).map g = (Xs.map g).take L.toNat ++ List.replicate V.length (g Z) ++ (Xs.map g).drop (L.toNat + V.length) := by
    unfold clr
    simp
  rw [← this]
  exact u
end rules
end Go.Eng
