/- The engine, part 9: slice literals as data; cutting slices and strings; conversions of integers. No program in sight. -/
import Derived.Test.YtbcbhhbbejcnnaaEng8
set_option linter.unusedVariables false
namespace Go.Eng
open Go

theorem evS_length {tm : List (Nat × AV)} : ∀ {parts : List (Nat × Operand)} {k : Nat} {xs : List AV}, evS tm parts k = some xs → xs.length = parts.length
  | [], k, xs, h => by simp [evS] at h; subst h; rfl
  | (i, x) :: parts, k, xs, h => by
    simp only [evS] at h
    split at h
    · rename_i a l h1 h2 h3
      obtain rfl := Option.some.inj h
      simp [evS_length h3]
    · cases h

section rules
variable {P : Program} {all : Array Oper} {rest : List Oper} {n : Nat} {tm : List (Nat × AV)} {hp : Heap} {Q : St → Prop} {d : Nat} {ty : TypeId} {pos : String} {af : Array Edge}

theorem r_buildSliceL {t e : TypeId} {i : TypeInfo} {z : Value} {len : Nat} {parts : List (Nat × Operand)} {xs : List AV} [TUnder P t (.slice e)] [TInfo P e i] (hz : i.zero = some z) (hl : evS tm parts 0 = some xs) (hlen : Nat.beq parts.length len = true) (hel : allEl i.size xs = true)
    (h24 : Nat.ble (len * i.size) 16777216 = true) (hn : Nat.blt d n = true) (kk : ARun P all rest ⟨n, (d, .list i.size xs) :: tm, hp⟩ Q) : ARun P all (⟨some d, .buildSlice t len parts.toArray, ty, pos, af, none⟩ :: rest) ⟨n, tm, hp⟩ Q := by
  refine r_buildSlice hz hl hlen hel h24 hn (fun b => ARun.ghost (ImpX.freeze .here (ImpX.co (s := d) (av := .sl i.size b 0 len) (by simp [lk]) (.fro i.size b len xs .here ?_) ?_)))
  · rw [evS_length hl]; exact (Nat.eq_of_beq_eq_true hlen).symm
  · refine ImpX.step (σ1 := ⟨n, (d, .list i.size xs) :: tm, hp⟩) (fun w S a r => ⟨_, S, rfl, r.less ⟨rfl, fun s av h => ?_, List.sublist_cons_self _ _⟩, Evo.less (Evo.refl w S _) fun _ hm => hm.sub (List.sublist_cons_self _ _)⟩) (ImpX.here kk)
    simp only [lk] at h ⊢
    split at h
    · exact h
    · exact h

/-! ### cutting strings -/
/-- A bound of a cut: none, or an integer of the state. -/
inductive Bnd (tm : List (Nat × AV)) : Option Operand → Option Int → Prop
  | none : Bnd tm none none
  | some (x : Operand) (k : IntKind) (i : Int) (h : evA tm x = some (.int k i)) : Bnd tm (some x) (some i)

def lowB : Option Int → Int
  | none => 0
  | some i => i
def highB (len : Nat) : Option Int → Int
  | none => len
  | some i => i

theorem run_bounds {w : World} {S : Nat → Prop} {σ : St} {a : Act} (r : StRel w S σ a) {lo hi : Option Operand} {l h : Option Int} (hl : Bnd σ.tm lo l) (hh : Bnd σ.tm hi h) (isS : Bool) (len cap : Nat) (h0 : 0 ≤ lowB l) (h1 : lowB l ≤ highB len h) (h2 : highB len h ≤ len) (hc : len ≤ cap) (w' : World) :
    (Instr.sliceBounds isS len cap (lo.map a.eval) (hi.map a.eval) none).run P w' = .ok ((lowB l).toNat, (highB len h).toNat, cap) w' := by
  cases hl with
  | none =>
    cases hh with
    | none => simp [Instr.sliceBounds, lowB, highB]
    | some x k i hx =>
      simp only [lowB, highB] at *
      have : i ≤ (cap : Int) := by omega
      simp [Instr.sliceBounds, Instr.sliceBound, (evA_at r hx).int_inv, asIntOf, h1, this]
  | some x k i hx =>
    cases hh with
    | none =>
      simp only [lowB, highB] at *
      simp [Instr.sliceBounds, Instr.sliceBound, (evA_at r hx).int_inv, asIntOf, h0, h1]
    | some y k' i' hy =>
      simp only [lowB, highB] at *
      have e1 : i' ≤ (cap : Int) := by omega
      have e2 : 0 ≤ i' := by omega
      have e3 : i ≤ (i'.toNat : Int) := by omega
      simp [Instr.sliceBounds, Instr.sliceBound, (evA_at r hx).int_inv, (evA_at r hy).int_inv, asIntOf, h0, e1, e2]
      intro hlt
      omega

theorem extract_list (s : List UInt8) (l h : Nat) : (⟨s.toArray⟩ : ByteArray).extract l h = ⟨((s.drop l).take (h - l)).toArray⟩ := by
  have e := ByteArray.data_extract (a := (⟨s.toArray⟩ : ByteArray)) (b := l) (e := h)
  cases hx : (⟨s.toArray⟩ : ByteArray).extract l h with
  | mk da =>
    rw [hx] at e
    simp only at e
    rw [e]
    congr 1
    apply Array.ext'
    simp

theorem q_slice_str {t : TypeId} {x : Operand} {lo hi : Option Operand} {l h : Option Int} {s : List UInt8} [TUnder P t .string] (hx : evA tm x = some (.str s)) (hl : Bnd tm lo l) (hh : Bnd tm hi h) (h0 : 0 ≤ lowB l) (h1 : lowB l ≤ highB s.length h) (h2 : highB s.length h ≤ s.length) :
    QV P ⟨some d, .slice t x lo hi none, ty, pos, af, none⟩ ⟨n, tm, hp⟩ (.str ((s.drop (lowB l).toNat).take ((highB s.length h).toNat - (lowB l).toNat))) := by
  intro w S a r
  refine ⟨.string ((⟨s.toArray⟩ : ByteArray).extract (lowB l).toNat (highB s.length h).toNat), fun w1 _ => ?_, by rw [extract_list]; exact .str _⟩
  have hb := run_bounds (P := P) (σ := ⟨n, tm, hp⟩) r hl hh false s.length s.length h0 h1 h2 (Nat.le_refl _) w1
  simp [execOp, Instr.sliceAt, run_underlying (TUnder.h (P := P) (t := t)), Instr.slice, (evA_at (σ := ⟨n, tm, hp⟩) r hx).str_inv, ba_size, hb]

/-! ### cutting slices -/
theorem q_slice_list {t e : TypeId} {i : TypeInfo} {x : Operand} {lo hi : Option Operand} {l h : Option Int} {sz : Nat} {xs : List AV} [TUnder P t (.slice e)] [TInfo P e i] (hx : evA tm x = some (.list sz xs)) (hsz : Nat.beq i.size sz = true) (hl : Bnd tm lo l) (hh : Bnd tm hi h) (h0 : 0 ≤ lowB l) (h1 : lowB l ≤ highB xs.length h) (h2 : highB xs.length h ≤ xs.length) :
    QV P ⟨some d, .slice t x lo hi none, ty, pos, af, none⟩ ⟨n, tm, hp⟩ (.list sz ((xs.drop (lowB l).toNat).take ((highB xs.length h).toNat - (lowB l).toNat))) := by
  intro w S a r
  obtain rfl : i.size = sz := Nat.eq_of_beq_eq_true hsz
  obtain ⟨oa, cap, vs, e1, e2, e3, e4, e5, e6⟩ := (evA_at (σ := ⟨n, tm, hp⟩) r hx).list_inv
  have hlen : ((xs.drop (lowB l).toNat).take ((highB xs.length h).toNat - (lowB l).toNat)).length = (highB xs.length h).toNat - (lowB l).toNat := by simp; omega
  refine ⟨.slice (if cap = (lowB l).toNat then oa else oa.map (·.add ((lowB l).toNat * i.size))) ((highB xs.length h).toNat - (lowB l).toNat) (cap - (lowB l).toNat), fun w1 _ => ?_, ?_⟩
  · have hb := run_bounds (P := P) (σ := ⟨n, tm, hp⟩) r hl hh true xs.length cap h0 h1 h2 e6 w1
    simp [execOp, Instr.sliceAt, run_underlying (TUnder.h (P := P) (t := t)), Instr.slice, e1, hb, sizeOf, typeInfo, TInfo.h (P := P) (t := e)]
  · have hm : ∀ y ∈ (xs.drop (lowB l).toNat).take ((highB xs.length h).toNat - (lowB l).toNat), El i.size y := fun y hy => e2 y (List.mem_of_mem_drop (List.mem_of_mem_take hy))
    have hfl : flat ((xs.drop (lowB l).toNat).take ((highB xs.length h).toNat - (lowB l).toNat)) = ((flat xs).drop ((lowB l).toNat * i.size)).take (((highB xs.length h).toNat - (lowB l).toNat) * i.size) := by
      rw [flat_take _ _ (fun y hy => e2 y (List.mem_of_mem_drop hy)), flat_drop _ _ e2]
    have := At.list (w := w) (S := S) i.size ((xs.drop (lowB l).toNat).take ((highB xs.length h).toNat - (lowB l).toNat)) (if cap = (lowB l).toNat then oa else oa.map (·.add ((lowB l).toNat * i.size))) (cap - (lowB l).toNat)
      ((vs.drop ((lowB l).toNat * i.size)).take (((highB xs.length h).toNat - (lowB l).toNat) * i.size)) hm (by rw [hfl]; simp [e3]) (fun j c u hc hu => ?_) (fun j u hu => ?_) (by rw [hlen]; omega)
    · rw [hlen] at this; exact this
    · rw [hfl] at hc
      simp only [List.getElem?_take, List.getElem?_drop] at hc hu
      split at hu
      · rename_i hlt; rw [if_pos hlt] at hc; exact e4 _ c u hc hu
      · cases hu
    · simp only [List.getElem?_take, List.getElem?_drop] at hu
      split at hu
      · rename_i hlt
        obtain ⟨ad, rfl, g1, g2, g3⟩ := e5 _ u hu
        have hpos : 0 < (highB xs.length h).toNat - (lowB l).toNat := by
          rcases Nat.eq_zero_or_pos ((highB xs.length h).toNat - (lowB l).toNat) with hz | hz
          · rw [hz] at hlt; simp at hlt
          · exact hz
        rw [if_neg (by omega)]
        obtain ⟨bk, of, sp⟩ := ad
        simp only at g1 g2; subst g1
        refine ⟨⟨bk, of + (lowB l).toNat * i.size, none⟩, by simp [add_at], rfl, g2, ?_⟩
        simpa [Nat.add_assoc] using g3
      · cases hu

theorem q_slice_sl {t e : TypeId} {i : TypeInfo} {x : Operand} {lo hi : Option Operand} {l h : Option Int} {sz off len : Nat} {b : Bk} [TUnder P t (.slice e)] [TInfo P e i] (hx : evA tm x = some (.sl sz b off len)) (hsz : Nat.beq i.size sz = true) (hl : Bnd tm lo l) (hh : Bnd tm hi h) (h0 : 0 ≤ lowB l) (h1 : lowB l ≤ highB len h) (h2 : highB len h ≤ len) :
    QV P ⟨some d, .slice t x lo hi none, ty, pos, af, none⟩ ⟨n, tm, hp⟩ (.sl sz b (off + (lowB l).toNat) ((highB len h).toNat - (lowB l).toNat)) := by
  intro w S a r
  obtain rfl : i.size = sz := Nat.eq_of_beq_eq_true hsz
  obtain ⟨oa, cap, e1, e2⟩ := (evA_at (σ := ⟨n, tm, hp⟩) r hx).sl_inv
  have hcap : len ≤ cap := by rcases e2 with ⟨_, _, hl, _, _⟩ | ⟨m, hb, _, g1, g2⟩ | ⟨m, ad, hb, _, hl, _⟩ <;> omega
  refine ⟨.slice (if cap = (lowB l).toNat then oa else oa.map (·.add ((lowB l).toNat * i.size))) ((highB len h).toNat - (lowB l).toNat) (cap - (lowB l).toNat), fun w1 _ => ?_, ?_⟩
  · have hb := run_bounds (P := P) (σ := ⟨n, tm, hp⟩) r hl hh true len cap h0 h1 h2 hcap w1
    simp [execOp, Instr.sliceAt, run_underlying (TUnder.h (P := P) (t := t)), Instr.slice, e1, hb, sizeOf, typeInfo, TInfo.h (P := P) (t := e)]
  · rcases e2 with ⟨hb, ho, hln, rfl, hcp⟩ | ⟨m, hb, rfl, g1, g2⟩ | ⟨m, ad, hb, rfl, hln, hcp⟩
    · have hl0 : (lowB l).toNat = 0 := by omega
      have hh0 : (highB len h).toNat = 0 := by omega
      rw [hl0, hh0, ho, hcp]
      exact .slph i.size b hb
    · by_cases hcl : cap = (lowB l).toNat
      · rw [if_pos hcl]
        have hz : (highB len h).toNat - (lowB l).toNat = 0 := by omega
        rw [hz, show cap - (lowB l).toNat = 0 from by omega]
        exact .sl0 i.size b _ m _ hb
      · rw [if_neg hcl]
        have := At.sl (w := w) (S := S) i.size b (off + (lowB l).toNat) ((highB len h).toNat - (lowB l).toNat) m (cap - (lowB l).toNat) hb (by omega) (by omega)
        rw [Nat.add_mul] at this
        simpa [add_at] using this
    · have hl0 : (lowB l).toNat = 0 := by omega
      have hh0 : (highB len h).toNat = 0 := by omega
      rw [hl0, hh0, hcp, if_pos rfl]
      exact .sl0 i.size b _ m ad hb

/-! ### conversions between integer types -/
theorem q_conv_int {src dst : TypeId} {D : TypeDesc} {x : Operand} {k k' : IntKind} {i : Int} [TUnder P src D] [TUnder P dst (.int k')] (hx : evA tm x = some (.int k i)) : QV P ⟨some d, .convert src dst x, ty, pos, af, none⟩ ⟨n, tm, hp⟩ (.int k' (k'.wrap i)) := by
  intro w S a r
  refine ⟨.int k' (k'.wrap i), fun w1 _ => ?_, .int _ _⟩
  simp only [execOp, convert, (evA_at (σ := ⟨n, tm, hp⟩) r hx).int_inv, Sem.run_bind, run_underlying (TUnder.h (P := P) (t := src)), run_underlying (TUnder.h (P := P) (t := dst)), Result.andThen_ok]
  cases D <;> simp [Conv.intToInt]

end rules
end Go.Eng
