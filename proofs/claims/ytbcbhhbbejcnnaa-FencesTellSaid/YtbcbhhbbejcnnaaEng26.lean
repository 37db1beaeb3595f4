/- The engine, part 26: parts of arrays that are ours. No program in sight. -/
import Derived.Test.YtbcbhhbbejcnnaaEng25
set_option linter.unusedVariables false
namespace Go.Eng
open Go
theorem upd_take {w : World} {S : Nat → Prop} {hp hp' : Heap} {b : Bk} {sz k : Nat} {xs : List AV} (r : HRel w S hp) (u : Upd hp b (.arr sz xs) b (.arr sz (xs.take k)) hp') : HRel w S hp' ∧ Evo w S hp w S hp' := by
  obtain ⟨pre, post, e1, e2⟩ := u.split
  subst e1; subst e2
  have hblk : ∀ n, Has (pre ++ (b, Ob.arr sz (xs.take k)) :: post) n ↔ Has (pre ++ (b, Ob.arr sz xs) :: post) n := by
    intro n
    constructor <;> rintro ⟨x, hx, hb⟩ <;> rcases mem_mid.1 hx with rfl | hx
    · exact ⟨(b, .arr sz xs), mem_mid.2 (.inl rfl), hb⟩
    · exact ⟨x, mem_mid.2 (.inr hx), hb⟩
    · exact ⟨(b, .arr sz (xs.take k)), mem_mid.2 (.inl rfl), hb⟩
    · exact ⟨x, mem_mid.2 (.inr hx), hb⟩
  refine ⟨⟨?_, ?_, ?_, r.slt⟩, ⟨rfl, rfl, rfl, Nat.le_refl _, fun n hn => ⟨hn, rfl⟩, fun n _ _ => ⟨rfl, id⟩, fun n hn => .inl ((hblk n).1 hn), Nat.le_refl _⟩⟩
  · have := r.nodup
    simpa [List.filterMap_append, List.filterMap_cons] using this
  · intro x hx
    rcases mem_mid.1 hx with rfl | hx
    · obtain ⟨h0, h1, h2⟩ := r.holds (b, .arr sz xs) (mem_mid.2 (.inl rfl))
      refine ⟨fun x hx => h0 x (List.mem_of_mem_take hx), Nat.le_trans (by simp only [List.length_take]; omega) h1, h2.imp id ?_⟩
      rintro ⟨n, vs, E, g1, g2, g3, g4⟩
      refine ⟨n, vs, E, g1, g2, g3, fun i c v hc hv => ?_⟩
      have hp : ∃ t, flat xs = flat (xs.take k) ++ t := ⟨flat (xs.drop k), by
        show xs.flatMap AV.cells = (xs.take k).flatMap AV.cells ++ (xs.drop k).flatMap AV.cells
        rw [← List.flatMap_append, List.take_append_drop]⟩
      obtain ⟨t, ht⟩ := hp
      refine g4 i c v ?_ hv
      rw [ht, List.getElem?_append_left (List.getElem?_eq_some_iff.1 hc).1]
      exact hc
    · exact r.holds x (mem_mid.2 (.inr hx))
  · intro x hx n hn
    rcases mem_mid.1 hx with rfl | hx
    · have := r.sep (b, .arr sz xs) (mem_mid.2 (.inl rfl)) n hn
      exact ⟨fun h => (this.1 h).elim, fun h => h.elim⟩
    · exact r.sep x (mem_mid.2 (.inr hx)) n hn
/-- An array is told of as far as some element. -/
theorem ImpX.take {n k : Nat} {tm : List (Nat × AV)} {hp hp' : Heap} {T : St → Prop} {b : Bk} {sz : Nat} {xs : List AV} (u : Upd hp b (.arr sz xs) b (.arr sz (xs.take k)) hp') (kk : ImpX ⟨n, tm, hp'⟩ T) : ImpX ⟨n, tm, hp⟩ T := by
  refine ImpX.step (σ1 := ⟨n, tm, hp'⟩) (fun w S a r => ?_) kk
  obtain ⟨g1, g2⟩ := upd_take r.hp u
  exact ⟨_, S, rfl, ⟨r.size, r.defers, r.tm, g1⟩, g2⟩
section rules
variable {P : Program} {all : Array Oper} {rest : List Oper} {n : Nat} {tm : List (Nat × AV)} {hp : Heap} {Q : St → Prop} {d : Nat} {ty : TypeId} {pos : String} {af : Array Edge}
/-- To the first elements of an array something is added, which may be a part of it. -/
theorem r_appendK {t e : TypeId} {i : TypeInfo} {z : Value} {x y : Operand} {src : AV} {b : Bk} {k sz : Nat} {xs ys : List AV} {hp1 : Heap} {hp' : Bk → Heap} [TUnder P t (.slice e)] [TInfo P e i] (hx : evA tm x = some (.sl sz b 0 k)) (hy : evA tm y = some src) (hz : i.zero = some z)
    (hzs : Nat.beq z.cells.size i.size = true) (hsz : Nat.beq i.size sz = true) (h0 : Nat.blt 0 sz = true) (hn : Nat.blt d n = true) (hs : Src hp sz src ys) (hk : k ≤ xs.length) (u1 : Upd hp b (.arr sz xs) b (.arr sz (xs.take k)) hp1) (u : ∀ b', Upd hp1 b (.arr sz (xs.take k)) b' (.arr sz (xs.take k ++ ys)) (hp' b'))
    (hb : (k + ys.length) * i.bytes ≤ 140737488355328) (h63 : k + ys.length ≤ 9223372036854775807)
    (kk : ∀ b' : Bk, ARun P all rest ⟨n, (d, .sl sz b' 0 (k + ys.length)) :: tm, hp' b'⟩ Q) : ARun P all (⟨some d, .call { callee := .builtin .append, args := #[x, y], argTypes := #[t, t] }, ty, pos, af, none⟩ :: rest) ⟨n, tm, hp⟩ Q := by
  refine ARun.opx rfl fun w S a r => ?_
  obtain rfl : i.size = sz := Nat.eq_of_beq_eq_true hsz
  have hl : (xs.take k).length = k := by simp; omega
  obtain ⟨q1, q2⟩ := upd_take r.hp u1
  obtain ⟨v', w', b', g1, g2, g3, g4, g5⟩ := append_run (P := P) (ty := ty) q1 (TUnder.h (P := P) (t := t)) (TInfo.h (P := P) (t := e)) hz (Nat.eq_of_beq_eq_true hzs) (by simpa using h0) (u b).fnd (by rw [hl]; exact evA_at (σ := ⟨n, tm, hp⟩) r hx) (hs.at r.hp (evA_at (σ := ⟨n, tm, hp⟩) r hy)) (by rw [hl]; exact hb) (by rw [hl]; exact h63)
  obtain ⟨k1, k2, k3⟩ := upd_rel q1 (u b') g3 id id g4 g5
  rw [hl] at g2
  refine ⟨v', w', S, _, ?_, (r.heap k3 k1).put hn g2, q2.trans k2, kk b'⟩
  simp [execOp, resolve, invoke, builtin, g1]
theorem slc_len {α : Type} {Xs V : List α} {L H : Int} (h : slc Xs L H = some V) : V.length = H.toNat - L.toNat ∧ L.toNat + V.length ≤ Xs.length ∧ V = (Xs.drop L.toNat).take V.length := by
  obtain ⟨⟨h0, h1, h2⟩, rfl⟩ := slc_some h
  have : ((Xs.drop L.toNat).take (H.toNat - L.toNat)).length = H.toNat - L.toNat := by simp; omega
  refine ⟨this, by rw [this]; omega, by rw [this]⟩
/-- A part of an array that is ours. -/
theorem t_slice_sl {α : Type} {Xs Zs : List α} {t e : TypeId} {i : TypeInfo} {x : Operand} {lo hi : Option Operand} {l h : Option Int} {sz : Nat} {b : Bk} {L H : Int} [TUnder P t (.slice e)] [TInfo P e i] (hx : evA tm x = some (.sl sz b 0 Xs.length)) (hsz : Nat.beq i.size sz = true) (hl : Bnd tm lo l) (hh : Bnd tm hi h)
    (eL : lowB l = L) (eH : highB Xs.length h = H) (hv : slc Xs L H = some Zs) : QV P ⟨some d, .slice t x lo hi none, ty, pos, af, none⟩ ⟨n, tm, hp⟩ (.sl sz b L.toNat Zs.length) := by
  obtain ⟨⟨h0, h1, h2⟩, _⟩ := slc_some hv
  have hlen := (slc_len hv).1
  subst eL; subst eH
  have := q_slice_sl (P := P) (d := d) (ty := ty) (pos := pos) (af := af) (n := n) (tm := tm) (hp := hp) (t := t) (e := e) hx hsz hl hh h0 h1 h2
  rw [Nat.zero_add] at this
  rw [hlen]; exact this
theorem ImpX.takeT {α : Type} {g : α → AV} {Xs V : List α} {H : Int} {T : St → Prop} {b : Bk} {sz : Nat} {hp' : Heap} (hv : slc Xs 0 H = some V) (u : Upd hp b (.arr sz (Xs.map g)) b (.arr sz (V.map g)) hp') (kk : ImpX ⟨n, tm, hp'⟩ T) : ImpX ⟨n, tm, hp⟩ T := by
  refine ImpX.take (k := V.length) (xs := Xs.map g) (b := b) (sz := sz) ?_ kk
  rw [← List.map_take]
  have := (slc_len hv).2.2
  simp only [Int.toNat_zero, List.drop_zero] at this
  rw [← this]; exact u
theorem Src.partT {α : Type} {g : α → AV} {Xs V : List α} {L H : Int} {b : Bk} {sz : Nat} (hv : slc Xs L H = some V) (f : Fnd hp b (.arr sz (Xs.map g))) : Src hp sz (.sl sz b L.toNat V.length) (V.map g) := by
  obtain ⟨h1, h2, h3⟩ := slc_len hv
  have := Src.part (hp := hp) (sz := sz) b L.toNat V.length (Xs.map g) (.inl f) (by simpa using h2)
  rw [← List.map_drop, ← List.map_take, ← h3] at this
  exact this
theorem t_appendK {α : Type} {g : α → AV} {Xs V Ys Zs : List α} {H : Int} {t e : TypeId} {i : TypeInfo} {z : Value} {x y : Operand} {src : AV} {b : Bk} {sz : Nat} {hp1 : Heap} {hp' : Bk → Heap} [TUnder P t (.slice e)] [TInfo P e i] (hx : evA tm x = some (.sl sz b 0 V.length)) (hy : evA tm y = some src) (hz : i.zero = some z)
    (hzs : Nat.beq z.cells.size i.size = true) (hsz : Nat.beq i.size sz = true) (h0 : Nat.blt 0 sz = true) (hn : Nat.blt d n = true) (hby : Nat.ble i.bytes 65536 = true) (hk : slc Xs 0 H = some V) (hs : Src hp sz src (Ys.map g)) (hv : app V Ys = some Zs) (u1 : Upd hp b (.arr sz (Xs.map g)) b (.arr sz (V.map g)) hp1) (u : ∀ b', Upd hp1 b (.arr sz (V.map g)) b' (.arr sz (Zs.map g)) (hp' b'))
    (kk : ∀ b' : Bk, ARun P all rest ⟨n, (d, .sl sz b' 0 Zs.length) :: tm, hp' b'⟩ Q) : ARun P all (⟨some d, .call { callee := .builtin .append, args := #[x, y], argTypes := #[t, t] }, ty, pos, af, none⟩ :: rest) ⟨n, tm, hp⟩ Q := by
  obtain ⟨hb, rfl⟩ := app_some hv
  obtain ⟨h1, h2, h3⟩ := slc_len hk
  simp only [Int.toNat_zero, List.drop_zero] at h3
  have ht : (Xs.map g).take V.length = V.map g := by rw [← List.map_take, ← h3]
  have hby' : i.bytes ≤ 65536 := by simpa using hby
  refine r_appendK (k := V.length) (xs := Xs.map g) (ys := Ys.map g) (hp1 := hp1) (hp' := hp') hx hy hz hzs hsz h0 hn hs (by simp; omega) (by rw [ht]; exact u1) (by rw [ht, ← List.map_append]; exact u) ?_ (by simp; omega) (fun b' => ?_)
  · have : (V.length + (Ys.map g).length) * i.bytes ≤ 1000000000 * 65536 := Nat.mul_le_mul (by simpa using hb) hby'
    omega
  · have := kk b'
    simpa using this
end rules
end Go.Eng
