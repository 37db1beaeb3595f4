/- The engine: abstract values, the symbolic heap, one rule for each operation. No program in sight. -/
import Derived.Test.YtnopmjdjgangdaaGreatDoorEngA
/- The engine, part 9: slice literals as data; cutting slices and strings; conversions of integers. No program in sight. -/
set_option linter.unusedVariables false
set_option linter.unusedSectionVars false
namespace Go.Eng
open Go
variable [GTab]

theorem evS_length {tm : List (Nat × AV)} : ∀ {parts : List (Nat × Operand)} {k : Nat} {xs : List AV}, evS tm parts k = some xs → xs.length = parts.length
  | [], k, xs, h => by simp [evS] at h; subst h; rfl
  | (i, x) :: parts, k, xs, h => by
    simp only [evS] at h
    split at h
    · rename_i a l h1 h2 h3
      obtain rfl := Option.some.inj h
      simp [evS_length h3]
    · cases h

section rules
variable {P : Program} {all : Array Oper} {rest : List Oper} {n : Nat} {tm : List (Nat × AV)} {hp : Heap} {Q : St → Prop} {d : Nat} {ty : TypeId} {pos : String} {af : Array Edge}

theorem r_buildSliceL {t e : TypeId} {i : TypeInfo} {z : Value} {len : Nat} {parts : List (Nat × Operand)} {xs : List AV} [TUnder P t (.slice e)] [TInfo P e i] (hz : i.zero = some z) (hl : evS tm parts 0 = some xs) (hlen : Nat.beq parts.length len = true) (hel : allEl i.size xs = true)
    (h24 : Nat.ble (len * i.size) 16777216 = true) (hn : Nat.blt d n = true) (kk : ARun P all rest ⟨n, (d, .list i.size xs) :: tm, hp⟩ Q) : ARun P all (⟨some d, .buildSlice t len parts.toArray, ty, pos, af, none⟩ :: rest) ⟨n, tm, hp⟩ Q := by
  refine r_buildSlice hz hl hlen hel h24 hn (fun b => ARun.ghost (ImpX.freeze .here (ImpX.co (s := d) (av := .sl i.size b 0 len) (by simp [lk]) (.fro i.size b len xs .here ?_) ?_)))
  · rw [evS_length hl]; exact (Nat.eq_of_beq_eq_true hlen).symm
  · refine ImpX.step (σ1 := ⟨n, (d, .list i.size xs) :: tm, hp⟩) (fun w S a r => ⟨_, S, rfl, r.less ⟨rfl, fun s av h => ?_, List.sublist_cons_self _ _⟩, Evo.less (Evo.refl w S _) fun _ hm => hm.sub (List.sublist_cons_self _ _)⟩) (ImpX.here kk)
    simp only [lk] at h ⊢
    split at h
    · exact h
    · exact h

/-! ### cutting strings -/
/-- A bound of a cut: none, or an integer of the state. -/
inductive Bnd (tm : List (Nat × AV)) : Option Operand → Option Int → Prop
  | none : Bnd tm none none
  | some (x : Operand) (k : IntKind) (i : Int) (h : evA tm x = some (.int k i)) : Bnd tm (some x) (some i)

def lowB : Option Int → Int
  | none => 0
  | some i => i
def highB (len : Nat) : Option Int → Int
  | none => len
  | some i => i

theorem run_bounds {w : World} {S : Nat → Prop} {σ : St} {a : Act} (r : StRel w S σ a) {lo hi : Option Operand} {l h : Option Int} (hl : Bnd σ.tm lo l) (hh : Bnd σ.tm hi h) (isS : Bool) (len cap : Nat) (h0 : 0 ≤ lowB l) (h1 : lowB l ≤ highB len h) (h2 : highB len h ≤ len) (hc : len ≤ cap) (w' : World) :
    (Instr.sliceBounds isS len cap (lo.map a.eval) (hi.map a.eval) none).run P w' = .ok ((lowB l).toNat, (highB len h).toNat, cap) w' := by
  cases hl with
  | none =>
    cases hh with
    | none => simp [Instr.sliceBounds, lowB, highB]
    | some x k i hx =>
      simp only [lowB, highB] at *
      have : i ≤ (cap : Int) := by omega
      simp [Instr.sliceBounds, Instr.sliceBound, (evA_at r hx).int_inv, asIntOf, h1, this]
  | some x k i hx =>
    cases hh with
    | none =>
      simp only [lowB, highB] at *
      simp [Instr.sliceBounds, Instr.sliceBound, (evA_at r hx).int_inv, asIntOf, h0, h1]
    | some y k' i' hy =>
      simp only [lowB, highB] at *
      have e1 : i' ≤ (cap : Int) := by omega
      have e2 : 0 ≤ i' := by omega
      have e3 : i ≤ (i'.toNat : Int) := by omega
      simp [Instr.sliceBounds, Instr.sliceBound, (evA_at r hx).int_inv, (evA_at r hy).int_inv, asIntOf, h0, e1, e2]
      intro hlt
      omega

theorem extract_list (s : List UInt8) (l h : Nat) : (⟨s.toArray⟩ : ByteArray).extract l h = ⟨((s.drop l).take (h - l)).toArray⟩ := by
  have e := ByteArray.data_extract (a := (⟨s.toArray⟩ : ByteArray)) (b := l) (e := h)
  cases hx : (⟨s.toArray⟩ : ByteArray).extract l h with
  | mk da =>
    rw [hx] at e
    simp only at e
    rw [e]
    congr 1
    apply Array.ext'
    simp

theorem q_slice_str {t : TypeId} {x : Operand} {lo hi : Option Operand} {l h : Option Int} {s : List UInt8} [TUnder P t .string] (hx : evA tm x = some (.str s)) (hl : Bnd tm lo l) (hh : Bnd tm hi h) (h0 : 0 ≤ lowB l) (h1 : lowB l ≤ highB s.length h) (h2 : highB s.length h ≤ s.length) :
    QV P ⟨some d, .slice t x lo hi none, ty, pos, af, none⟩ ⟨n, tm, hp⟩ (.str ((s.drop (lowB l).toNat).take ((highB s.length h).toNat - (lowB l).toNat))) := by
  intro w S a r
  refine ⟨.string ((⟨s.toArray⟩ : ByteArray).extract (lowB l).toNat (highB s.length h).toNat), fun w1 _ => ?_, by rw [extract_list]; exact .str _⟩
  have hb := run_bounds (P := P) (σ := ⟨n, tm, hp⟩) r hl hh false s.length s.length h0 h1 h2 (Nat.le_refl _) w1
  simp [execOp, Instr.sliceAt, run_underlying (TUnder.h (P := P) (t := t)), Instr.slice, (evA_at (σ := ⟨n, tm, hp⟩) r hx).str_inv, ba_size, hb]

/-! ### cutting slices -/
theorem q_slice_list {t e : TypeId} {i : TypeInfo} {x : Operand} {lo hi : Option Operand} {l h : Option Int} {sz : Nat} {xs : List AV} [TUnder P t (.slice e)] [TInfo P e i] (hx : evA tm x = some (.list sz xs)) (hsz : Nat.beq i.size sz = true) (hl : Bnd tm lo l) (hh : Bnd tm hi h) (h0 : 0 ≤ lowB l) (h1 : lowB l ≤ highB xs.length h) (h2 : highB xs.length h ≤ xs.length) :
    QV P ⟨some d, .slice t x lo hi none, ty, pos, af, none⟩ ⟨n, tm, hp⟩ (.list sz ((xs.drop (lowB l).toNat).take ((highB xs.length h).toNat - (lowB l).toNat))) := by
  intro w S a r
  obtain rfl : i.size = sz := Nat.eq_of_beq_eq_true hsz
  obtain ⟨oa, cap, vs, e1, e2, e3, e4, e5, e6⟩ := (evA_at (σ := ⟨n, tm, hp⟩) r hx).list_inv
  have hlen : ((xs.drop (lowB l).toNat).take ((highB xs.length h).toNat - (lowB l).toNat)).length = (highB xs.length h).toNat - (lowB l).toNat := by simp; omega
  refine ⟨.slice (if cap = (lowB l).toNat then oa else oa.map (·.add ((lowB l).toNat * i.size))) ((highB xs.length h).toNat - (lowB l).toNat) (cap - (lowB l).toNat), fun w1 _ => ?_, ?_⟩
  · have hb := run_bounds (P := P) (σ := ⟨n, tm, hp⟩) r hl hh true xs.length cap h0 h1 h2 e6 w1
    simp [execOp, Instr.sliceAt, run_underlying (TUnder.h (P := P) (t := t)), Instr.slice, e1, hb, sizeOf, typeInfo, TInfo.h (P := P) (t := e)]
  · have hm : ∀ y ∈ (xs.drop (lowB l).toNat).take ((highB xs.length h).toNat - (lowB l).toNat), El i.size y := fun y hy => e2 y (List.mem_of_mem_drop (List.mem_of_mem_take hy))
    have hfl : flat ((xs.drop (lowB l).toNat).take ((highB xs.length h).toNat - (lowB l).toNat)) = ((flat xs).drop ((lowB l).toNat * i.size)).take (((highB xs.length h).toNat - (lowB l).toNat) * i.size) := by
      rw [flat_take _ _ (fun y hy => e2 y (List.mem_of_mem_drop hy)), flat_drop _ _ e2]
    have := At.list (w := w) (S := S) i.size ((xs.drop (lowB l).toNat).take ((highB xs.length h).toNat - (lowB l).toNat)) (if cap = (lowB l).toNat then oa else oa.map (·.add ((lowB l).toNat * i.size))) (cap - (lowB l).toNat)
      ((vs.drop ((lowB l).toNat * i.size)).take (((highB xs.length h).toNat - (lowB l).toNat) * i.size)) hm (by rw [hfl]; simp [e3]) (fun j c u hc hu => ?_) (fun j u hu => ?_) (by rw [hlen]; omega)
    · rw [hlen] at this; exact this
    · rw [hfl] at hc
      simp only [List.getElem?_take, List.getElem?_drop] at hc hu
      split at hu
      · rename_i hlt; rw [if_pos hlt] at hc; exact e4 _ c u hc hu
      · cases hu
    · simp only [List.getElem?_take, List.getElem?_drop] at hu
      split at hu
      · rename_i hlt
        obtain ⟨ad, rfl, g1, g2, g3⟩ := e5 _ u hu
        have hpos : 0 < (highB xs.length h).toNat - (lowB l).toNat := by
          rcases Nat.eq_zero_or_pos ((highB xs.length h).toNat - (lowB l).toNat) with hz | hz
          · rw [hz] at hlt; simp at hlt
          · exact hz
        rw [if_neg (by omega)]
        obtain ⟨bk, of, sp⟩ := ad
        simp only at g1 g2; subst g1
        refine ⟨⟨bk, of + (lowB l).toNat * i.size, none⟩, by simp [add_at], rfl, g2, ?_⟩
        simpa [Nat.add_assoc] using g3
      · cases hu

theorem q_slice_sl {t e : TypeId} {i : TypeInfo} {x : Operand} {lo hi : Option Operand} {l h : Option Int} {sz off len : Nat} {b : Bk} [TUnder P t (.slice e)] [TInfo P e i] (hx : evA tm x = some (.sl sz b off len)) (hsz : Nat.beq i.size sz = true) (hl : Bnd tm lo l) (hh : Bnd tm hi h) (h0 : 0 ≤ lowB l) (h1 : lowB l ≤ highB len h) (h2 : highB len h ≤ len) :
    QV P ⟨some d, .slice t x lo hi none, ty, pos, af, none⟩ ⟨n, tm, hp⟩ (.sl sz b (off + (lowB l).toNat) ((highB len h).toNat - (lowB l).toNat)) := by
  intro w S a r
  obtain rfl : i.size = sz := Nat.eq_of_beq_eq_true hsz
  obtain ⟨oa, cap, e1, e2⟩ := (evA_at (σ := ⟨n, tm, hp⟩) r hx).sl_inv
  have hcap : len ≤ cap := by rcases e2 with ⟨_, _, hl, _, _⟩ | ⟨m, hb, _, g1, g2⟩ | ⟨m, ad, hb, _, hl, _⟩ <;> omega
  refine ⟨.slice (if cap = (lowB l).toNat then oa else oa.map (·.add ((lowB l).toNat * i.size))) ((highB len h).toNat - (lowB l).toNat) (cap - (lowB l).toNat), fun w1 _ => ?_, ?_⟩
  · have hb := run_bounds (P := P) (σ := ⟨n, tm, hp⟩) r hl hh true len cap h0 h1 h2 hcap w1
    simp [execOp, Instr.sliceAt, run_underlying (TUnder.h (P := P) (t := t)), Instr.slice, e1, hb, sizeOf, typeInfo, TInfo.h (P := P) (t := e)]
  · rcases e2 with ⟨hb, ho, hln, rfl, hcp⟩ | ⟨m, hb, rfl, g1, g2⟩ | ⟨m, ad, hb, rfl, hln, hcp⟩
    · have hl0 : (lowB l).toNat = 0 := by omega
      have hh0 : (highB len h).toNat = 0 := by omega
      rw [hl0, hh0, ho, hcp]
      exact .slph i.size b hb
    · by_cases hcl : cap = (lowB l).toNat
      · rw [if_pos hcl]
        have hz : (highB len h).toNat - (lowB l).toNat = 0 := by omega
        rw [hz, show cap - (lowB l).toNat = 0 from by omega]
        exact .sl0 i.size b _ m _ hb
      · rw [if_neg hcl]
        have := At.sl (w := w) (S := S) i.size b (off + (lowB l).toNat) ((highB len h).toNat - (lowB l).toNat) m (cap - (lowB l).toNat) hb (by omega) (by omega)
        rw [Nat.add_mul] at this
        simpa [add_at] using this
    · have hl0 : (lowB l).toNat = 0 := by omega
      have hh0 : (highB len h).toNat = 0 := by omega
      rw [hl0, hh0, hcp, if_pos rfl]
      exact .sl0 i.size b _ m ad hb

/-! ### conversions between integer types -/
theorem q_conv_int {src dst : TypeId} {D : TypeDesc} {x : Operand} {k k' : IntKind} {i : Int} [TUnder P src D] [TUnder P dst (.int k')] (hx : evA tm x = some (.int k i)) : QV P ⟨some d, .convert src dst x, ty, pos, af, none⟩ ⟨n, tm, hp⟩ (.int k' (k'.wrap i)) := by
  intro w S a r
  refine ⟨.int k' (k'.wrap i), fun w1 _ => ?_, .int _ _⟩
  simp only [execOp, convert, (evA_at (σ := ⟨n, tm, hp⟩) r hx).int_inv, Sem.run_bind, run_underlying (TUnder.h (P := P) (t := src)), run_underlying (TUnder.h (P := P) (t := dst)), Result.andThen_ok]
  cases D <;> simp [Conv.intToInt]

end rules
end Go.Eng

/- The engine, part 10: which operation stands next (identities, to find the rule quickly). No program in sight. Written by a program. -/
set_option linter.unusedVariables false
set_option linter.unusedSectionVars false
namespace Go.Eng
open Go
variable [GTab]
section
variable {P : Program} {all : Array Oper} {rest : List Oper} {σ : St} {Q : St → Prop} {dd : Option Nat} {ty : TypeId} {pos : String} {af : Array Edge}
end
end Go.Eng

/- The engine, part 11: stores into arrays; calls of functions whose result is told; results in memory. No program in sight. -/
set_option linter.unusedVariables false
set_option linter.unusedSectionVars false
namespace Go.Eng
open Go
variable [GTab]

theorem flat_set {sz : Nat} {x y : AV} : ∀ {xs : List AV} {q : Nat}, (∀ x ∈ xs, El sz x) → El sz y → xs[q]? = some x → flat (xs.set q y) = (flat xs).take (q * sz) ++ y.cells ++ (flat xs).drop (q * sz + sz)
  | [], q, _, _, h => by simp at h
  | z :: xs, 0, hs, hy, h => by
    have hz := (hs z (by simp)).1
    rw [List.set_cons_zero, flat_cons, flat_cons]
    simp only [Nat.zero_mul, List.take_zero, List.nil_append, Nat.zero_add]
    rw [List.drop_left' hz]
  | z :: xs, q + 1, hs, hy, h => by
    have hz := (hs z (by simp)).1
    simp only [List.getElem?_cons_succ] at h
    rw [List.set_cons_succ, flat_cons, flat_cons, flat_set (fun a ha => hs a (by simp [ha])) hy h]
    have e1 : (q + 1) * sz = sz + q * sz := by rw [Nat.add_mul, Nat.one_mul]; omega
    rw [e1, List.take_append, List.take_of_length_le (l := z.cells) (by omega), hz, Nat.add_sub_cancel_left, List.drop_append, List.drop_of_length_le (l := z.cells) (by omega), hz]
    rw [show sz + q * sz + sz - sz = q * sz + sz from by omega]
    simp [List.append_assoc]

/-- Cells that are replaced in the middle of cells that read as told. -/
theorem AtA_mid {w : World} {S : Nat → Prop} {cs new : List AV} {vs nvs : Array Value} (o : Nat) (hl : cs.length ≤ vs.size) (h : AtA w S cs vs) (hl' : new.length = nvs.size) (h' : AtA w S new nvs) (ho : o + new.length ≤ cs.length) :
    AtA w S (cs.take o ++ new ++ cs.drop (o + new.length)) (vs.toList.take o ++ nvs.toList ++ vs.toList.drop (o + nvs.toList.length)).toArray := by
  intro i c v hc hv
  simp only [List.getElem?_toArray] at hc hv
  have l1 : (cs.take o).length = o := by simp; omega
  have l2 : (vs.toList.take o).length = o := by simp; omega
  have l3 : nvs.toList.length = new.length := by simp [hl']
  rw [List.append_assoc] at hc hv
  by_cases h1 : i < o
  · rw [List.getElem?_append_left (by omega)] at hc hv
    rw [List.getElem?_take, if_pos h1] at hc hv
    exact h i c v hc (by simpa using hv)
  · rw [List.getElem?_append_right (by omega)] at hc hv
    rw [l1] at hc
    rw [l2] at hv
    by_cases h2 : i - o < new.length
    · rw [List.getElem?_append_left (by omega)] at hc hv
      exact h' (i - o) c v hc (by simpa using hv)
    · rw [List.getElem?_append_right (by omega)] at hc hv
      rw [l3] at hv
      rw [List.getElem?_drop] at hc hv
      rw [show o + new.length + (i - o - new.length) = i from by omega] at hc hv
      exact h i c v hc (by simpa using hv)

section rules
variable {P : Program} {all : Array Oper} {rest : List Oper} {n : Nat} {tm : List (Nat × AV)} {hp : Heap} {Q : St → Prop} {d : Nat} {ty : TypeId} {pos : String} {af : Array Edge}

theorem CoL.refl (l : List AV) : CoL hp l l := by
  induction l with
  | nil => exact .nil
  | cons a l ih => exact .cons (.refl a) ih
theorem CoBL.refl (l : List AV) : CoBL hp l l := by
  induction l with
  | nil => exact .nil
  | cons a l ih => exact .cons (.co (.refl a)) ih

/-- A function that makes nothing that stays and returns this value. -/
def Pu (P : Program) (f : FuncId) (args : List AV) (R : AV) : Prop := ACall P f args [] (fun r _ => r = R)

theorem r_callp {f : FuncId} {args : List Operand} {ts : Array TypeId} {l l' : List AV} {R : AV} [IsFn P f] (hl : evL tm args = some l) (c : Pu P f l' R) (co : CoL hp l l') (hn : Nat.blt d n = true)
    (kk : ARun P all rest ⟨n, (d, R) :: tm, hp⟩ Q) : ARun P all (⟨some d, .call { callee := .value (.func f), args := args.toArray, argTypes := ts }, ty, pos, af, none⟩ :: rest) ⟨n, tm, hp⟩ Q := by
  refine r_call0 hl c co hn (fun r h' hr => ?_)
  subst hr
  exact ARun.weaken (σ' := ⟨n, (d, r) :: tm, hp⟩) ⟨rfl, fun _ _ h => h, List.sublist_append_right _ _⟩ kk

theorem r_callpB {f : FuncId} {args : List Operand} {ts : Array TypeId} {l l' : List AV} {R : AV} [IsFn P f] (hl : evL tm args = some l) (c : Pu P f l' R) (co : CoBL hp l l') (hn : Nat.blt d n = true) (hR : R.noL = true)
    (kk : ARun P all rest ⟨n, (d, R) :: tm, hp⟩ Q) : ARun P all (⟨some d, .call { callee := .value (.func f), args := args.toArray, argTypes := ts }, ty, pos, af, none⟩ :: rest) ⟨n, tm, hp⟩ Q :=
  r_callB hl c co hn (fun r h' hr => by subst hr; exact ⟨hR, kk⟩)

theorem AQ.callp {f : FuncId} {args : List Operand} {ts : Array TypeId} {l l' : List AV} {R : AV} {V : Value} [IsFn P f] (hl : evL tm args = some l) (c : Pu P f l' R) (co : CoBL hp l l') (hn : Nat.blt d n = true) (hV : exV R = some V)
    (k : AQ P all rest ⟨n, (d, R) :: tm, hp⟩ Q) : AQ P all (⟨some d, .call { callee := .value (.func f), args := args.toArray, argTypes := ts }, ty, pos, af, none⟩ :: rest) ⟨n, tm, hp⟩ Q :=
  AQ.call hl c co hn (fun r h' hr => hr) hV k

/-- A call of a function value with no part of our heap. -/
theorem r_callvp {f : FuncId} {x : Operand} {args : List Operand} {ts : Array TypeId} {caps l l' : List AV} {R : AV} [IsFn P f] (hx : evA tm x = some (.func (.func f) caps)) (hl : evL tm args = some l) (c : Pu P f l' R) (co : CoL hp (l ++ caps) l') (hn : Nat.blt d n = true)
    (kk : ARun P all rest ⟨n, (d, R) :: tm, hp⟩ Q) : ARun P all (⟨some d, .call { callee := .value x, args := args.toArray, argTypes := ts }, ty, pos, af, none⟩ :: rest) ⟨n, tm, hp⟩ Q := by
  refine r_callv hx hl c co (List.Perm.refl _) hn (fun r h' hr => ?_)
  subst hr
  exact ARun.weaken (σ' := ⟨n, (d, r) :: tm, hp⟩) ⟨rfl, fun _ _ h => h, List.sublist_append_right _ _⟩ kk
end rules

inductive RV (P : Program) (σ : St) : ResultVar → AV → Prop
  | tmp (t : Nat) (av : AV) (h : lk σ.tm t = some av) : RV P σ (.tmp t) av
  | all (p ty : Nat) (b : Bk) (cs : List AV) (D : TypeDesc) (i : TypeInfo) (h : lk σ.tm p = some (.ptr b 0)) (f : Fnd σ.hp b (.cells cs)) (hu : P.underlying ty = some D) (hi : P.info? ty = some i) (hD : TypeDesc.isAggB D = true) (hs : Nat.beq cs.length i.size = true) : RV P σ (.cell p ty) (.agg cs)
  | one (p ty : Nat) (b : Bk) (cs : List AV) (av : AV) (D : TypeDesc) (h : lk σ.tm p = some (.ptr b 0)) (f : Fnd σ.hp b (.cells cs)) (hu : P.underlying ty = some D) (hD : TypeDesc.isAggB D = false) (hs : cs[0]? = some av) : RV P σ (.cell p ty) av

def rvRun (tmps : Array Value) : ResultVar → Sem Value
  | .tmp t => pure (tmps.getD t undef)
  | .cell a t => do loadVar t (← asAddr (tmps.getD a undef))

theorem RV.run {P : Program} {σ : St} {rv : ResultVar} {av : AV} (h : RV P σ rv av) {w : World} {S : Nat → Prop} {a : Act} (r : StRel w S σ a) : ∃ v, (rvRun a.tmps rv).run P w = .ok v w ∧ At w S av v := by
  cases h with
  | tmp t av h =>
    obtain ⟨v, h1, h2⟩ := r.tm t _ h
    exact ⟨v, by simp [rvRun, h1], h2⟩
  | all p ty b cs D i h f hu hi hD hs =>
    obtain ⟨v, h1, h2⟩ := r.tm p _ h
    obtain ⟨m, e1, rfl⟩ := h2.ptr_inv
    obtain ⟨_, m', vs, E, g1, g2, g3, g4⟩ := box_cells r.hp f
    obtain rfl : m' = m := by rw [g1] at e1; exact Option.some.inj e1
    have hlen : vs.toList.length = i.size := by simp [g3]; exact Nat.eq_of_beq_eq_true hs
    refine ⟨.agg vs, ?_, .agg cs vs g3.symm g4⟩
    have := run_loadVar_agg (P := P) hu hD hi (w := w) (ad := ⟨m', 0, none⟩) (vs := vs.toList) hlen (fun j v hv => by rw [add_at, cell_at g2]; simpa using hv)
    simp [rvRun, h1, asAddr, this]
  | one p ty b cs av D h f hu hD hs =>
    obtain ⟨v, h1, h2⟩ := r.tm p _ h
    obtain ⟨m, e1, rfl⟩ := h2.ptr_inv
    obtain ⟨_, m', vs, E, g1, g2, g3, g4⟩ := box_cells r.hp f
    obtain rfl : m' = m := by rw [g1] at e1; exact Option.some.inj e1
    have hlt : 0 < vs.size := by rw [g3]; exact (List.getElem?_eq_some_iff.1 hs).1
    have hv : vs[0]? = some vs[0] := by simp [hlt]
    refine ⟨vs[0], ?_, g4 0 av _ hs hv⟩
    have := run_loadVar_one (P := P) hu hD (w := w) (ad := ⟨m', 0, none⟩) (v := vs[0]) (by rw [cell_at g2, hv])
    simp [rvRun, h1, asAddr, this]

/-- What a function hands back, of whatever kind its results are. -/
inductive Rs (P : Program) (σ : St) : List ResultVar → List AV → Prop
  | nil : Rs P σ [] []
  | cons {v : ResultVar} {l : List ResultVar} {a : AV} {as : List AV} (h : RV P σ v a) (k : Rs P σ l as) : Rs P σ (v :: l) (a :: as)

def oneOr : List AV → AV
  | [a] => a
  | as => .tup as

theorem Rs.run {P : Program} {σ : St} {w : World} {S : Nat → Prop} {a : Act} (r : StRel w S σ a) : ∀ {l : List ResultVar} {as : List AV}, Rs P σ l as → ∃ vs, (l.mapM (rvRun a.tmps)).run P w = .ok vs w ∧ as.length = vs.length ∧ ∀ (i : Nat) c v, as[i]? = some c → vs[i]? = some v → At w S c v
  | [], _, .nil => ⟨[], by simp, rfl, fun i c v hc => by simp at hc⟩
  | x :: l, _, .cons (a := av) (as := as) h k => by
    obtain ⟨v, h1, h2⟩ := h.run r
    obtain ⟨vs, g1, g2, g3⟩ := Rs.run r k
    refine ⟨v :: vs, by simp [h1, g1], by simp [g2], fun i c u hc hu => ?_⟩
    match i with
    | 0 => simp at hc hu; subst hc; subst hu; exact h2
    | i + 1 => exact g3 i c u (by simpa using hc) (by simpa using hu)

theorem results_run {P : Program} {fn : Func} {l : List ResultVar} {σ : St} {as : List AV} (hf : fn.results = l.toArray) (h : Rs P σ l as) {w : World} {S : Nat → Prop} {a : Act} (r : StRel w S σ a) : ∃ v, (results fn a.tmps).run P w = .ok v w ∧ At w S (oneOr as) v := by
  obtain ⟨vs, g1, g2, g3⟩ := h.run r
  have hm : results fn a.tmps = (do let vs ← Functor.map List.toArray (l.mapM (rvRun a.tmps)); pure (if h : vs.size = 1 then vs[0] else .tuple vs)) := by
    have hfun : (fun (x : ResultVar) => (match x with | .tmp t => pure (a.tmps.getD t undef) | .cell p t => do loadVar t (← asAddr (a.tmps.getD p undef)) : Sem Value)) = rvRun a.tmps := by
      funext x
      cases x <;> rfl
    unfold results
    rw [hf, List.mapM_toArray]
    rw [← hfun]
    rfl
  refine ⟨if h : vs.toArray.size = 1 then vs.toArray[0] else .tuple vs.toArray, ?_, ?_⟩
  · rw [hm, Sem.run_bind, Sem.run_map, g1]
    rfl
  · clear h hm g1
    match as, vs, g2, g3 with
    | [], [], _, _ => simp [oneOr]; exact .tup [] _ rfl (fun i c v hc => by simp at hc)
    | [x], [v], _, g3 => simp [oneOr]; exact g3 0 x v rfl rfl
    | x :: y :: as, v :: u :: vs, hl, g3 => simp [oneOr]; exact .tup _ _ (by simpa using hl) (fun i c v hc hv => g3 i c v hc (by simpa using hv))

theorem ACall.bodyR {P : Program} {f : FuncId} {fn : Func} {c : Code} {args : List AV} {h : Heap} {Q : AV → Heap → Prop} {n : Nat} {l : List ResultVar} (hf : P.funcs[f]? = some fn) (hb : fn.body = some c) (hn : fn.ntmps = n) (hres : fn.results = l.toArray)
    (hle : Nat.ble args.length n = true) (kk : ATodo P (fun σ => ImpX σ (fun σ' => ∃ as, Rs P σ' l as ∧ Q (oneOr as) σ'.hp)) [.code c] ⟨n, tm0 args 0, h⟩) : ACall P f args h Q := by
  intro w S vs hr hl ha
  refine calls_of_wp hf hb ?_
  have r0 : StRel w S ⟨n, tm0 args 0, h⟩ { tmps := vs ++ Array.replicate (fn.ntmps - vs.size) undef, defers := [] } := by
    have := Nat.le_of_ble_eq_true hle
    refine ⟨by simp [hn]; omega, rfl, fun s av hs => ?_, hr⟩
    obtain ⟨_, h2⟩ := lk_tm0 args 0 s av hs
    simp only [Nat.sub_zero] at h2
    have hlt : s < args.length := (List.getElem?_eq_some_iff.1 h2).1
    have hlt' : s < vs.size := by omega
    refine ⟨vs[s], by simp [Array.getElem?_append, hlt'], ha s av _ h2 (by simp [hlt'])⟩
  refine wp_mono (kk w S _ r0) ?_
  rintro e a' w' ⟨σ', S', h1, h2, h3⟩
  have fin : ImpX σ' (fun σ'' => ∃ as, Rs P σ'' l as ∧ Q (oneOr as) σ''.hp) → a'.defers = [] ∧ ∃ v, (results fn a'.tmps).run P w' = .ok v w' ∧ ∃ v' r h' S', (Ending.returned v : Ending) = .returned v' ∧ Q r h' ∧ At w' S' r v' ∧ HRel w' S' h' ∧ Evo w S h w' S' h' := by
    intro hi
    obtain ⟨σ2, S2, ⟨as, hrs, hq⟩, g2, g3⟩ := hi w' S' a' h2
    obtain ⟨v, hv1, hv2⟩ := results_run hres hrs g2
    exact ⟨g2.defers, v, hv1, v, oneOr as, σ2.hp, S2, rfl, hq, hv2, g2.hp, h3.trans g3⟩
  cases e with
  | normal => exact fin h1
  | ret => exact fin h1
  | exit id => exact h1.elim
  | goto l => exact h1.elim
  | panic c => exact h1.elim
  | outgrown => exact h1.elim

end Go.Eng

/- The engine, part 12: the usual forms of contracts. No program in sight. -/
set_option linter.unusedVariables false
set_option linter.unusedSectionVars false
namespace Go.Eng
open Go
variable [GTab]

/-- Some entries of a heap, in any order. -/
inductive HS : Heap → Heap → Prop
  | nil {h : Heap} : HS h []
  | cons {h h1 t : Heap} {b : Bk} {o : Ob} (u : Del h b o h1) (k : HS h1 t) : HS h ((b, o) :: t)

theorem HS.perm {h t : Heap} (s : HS h t) : ∃ r, h.Perm (t ++ r) := by
  induction s with
  | nil => exact ⟨_, List.Perm.refl _⟩
  | cons u k ih =>
    obtain ⟨r, hr⟩ := ih
    exact ⟨r, u.perm.trans (List.Perm.cons _ hr)⟩

theorem ImpX.lessP {n : Nat} {tm tm' : List (Nat × AV)} {hp hp' : Heap} {T : St → Prop} (h : AllIn tm tm') (hs : HS hp hp') (k : ImpX ⟨n, tm', hp'⟩ T) : ImpX ⟨n, tm, hp⟩ T := by
  obtain ⟨r, hr⟩ := hs.perm
  refine ImpX.step (σ1 := ⟨n, tm', hp'⟩) (fun w S a rel => ⟨_, S, rfl, ⟨rel.size, rel.defers, fun s av hh => rel.tm s av (h.lk s av hh), (rel.hp.perm hr).sub (List.sublist_append_left _ _)⟩, Evo.less (Evo.refl w S hp) fun m hm => ?_⟩) k
  obtain ⟨e, he, hb⟩ := hm
  exact ⟨e, hr.mem_iff.2 (List.mem_append_left _ he), hb⟩

/-- An int. -/
abbrev I (n : Int) : AV := .int .i64 n

section rules
variable {P : Program} {all : Array Oper} {rest : List Oper} {n : Nat} {tm : List (Nat × AV)} {hp : Heap} {Q : St → Prop} {d : Nat} {ty : TypeId} {pos : String} {af : Array Edge}

end rules

section rules
variable {P : Program} {all : Array Oper} {rest : List Oper} {n : Nat} {tm : List (Nat × AV)} {hp : Heap} {Q : St → Prop} {d : Nat} {ty : TypeId} {pos : String} {af : Array Edge}
theorem r_append2 {t e : TypeId} {i : TypeInfo} {z : Value} {x y : Operand} {src : AV} {b : Bk} {len sz : Nat} {xs ys : List AV} {hp' : Bk → Heap} [TUnder P t (.slice e)] [TInfo P e i] (hx : evA tm x = some (.sl sz b 0 len)) (hy : evA tm y = some src) (hz : i.zero = some z)
    (hzs : Nat.beq z.cells.size i.size = true) (hsz : Nat.beq i.size sz = true) (h0 : Nat.blt 0 sz = true) (hn : Nat.blt d n = true) (hby : Nat.ble i.bytes 65536 = true) (hs : Src hp sz src ys) (u : ∀ b', Upd hp b (.arr sz xs) b' (.arr sz (xs ++ ys)) (hp' b')) (hlen : len = xs.length)
    (hb : xs.length + ys.length ≤ 1000000000)
    (kk : ∀ b' : Bk, ARun P all rest ⟨n, (d, .sl sz b' 0 (len + ys.length)) :: tm, hp' b'⟩ Q) : ARun P all (⟨some d, .call { callee := .builtin .append, args := #[x, y], argTypes := #[t, t] }, ty, pos, af, none⟩ :: rest) ⟨n, tm, hp⟩ Q := by
  refine r_append hx hy hz hzs hsz h0 hn hs u hlen ?_ (by omega) kk
  have h1 := Nat.le_of_ble_eq_true hby
  have := Nat.mul_le_mul hb h1
  omega
end rules

/-! ### the same rules, with lists written out -/
/-- A list, written out. -/
def normL : List AV → Option (List AV)
  | [] => some []
  | x :: r => match normL r with
    | some l => some (x :: l)
    | none => none
theorem normL_eq : ∀ {l l' : List AV}, normL l = some l' → l = l'
  | [], l', h => by simp [normL] at h; exact h.symm
  | x :: r, l', h => by
    simp only [normL] at h
    split at h
    · rename_i l hl
      obtain rfl := Option.some.inj h
      rw [normL_eq hl]
    · cases h
def tm0O : List AV → Nat → Option (List (Nat × AV))
  | [], _ => some []
  | x :: r, i => match tm0O r (i + 1) with
    | some l => some ((i, x) :: l)
    | none => none
theorem tm0O_eq : ∀ {l : List AV} {i : Nat} {l' : List (Nat × AV)}, tm0O l i = some l' → tm0 l i = l'
  | [], i, l', h => by simp [tm0O] at h; simpa [tm0] using h
  | x :: r, i, l', h => by
    simp only [tm0O] at h
    split at h
    · rename_i l hl
      obtain rfl := Option.some.inj h
      rw [tm0, tm0O_eq hl]
    · cases h
class TSz (P : Program) (t : TypeId) (sz : outParam Nat) : Prop where
  h : ∃ i, P.info? t = some i ∧ i.size = sz

theorem ACall.bodyN {P : Program} {f : FuncId} {fn : Func} {c : Code} {args : List AV} {h : Heap} {Q : AV → Heap → Prop} {n : Nat} {l : List ResultVar} {tm : List (Nat × AV)} (hf : P.funcs[f]? = some fn) (hb : fn.body = some c) (hn : fn.ntmps = n) (hres : fn.results = l.toArray)
    (htm : tm0O args 0 = some tm) (hle : Nat.ble args.length n = true) (kk : ATodo P (fun σ => ImpX σ (fun σ' => ∃ rs, Rs P σ' l rs ∧ Q (oneOr rs) σ'.hp)) [.code c] ⟨n, tm, h⟩) : ACall P f args h Q :=
  ACall.bodyR hf hb hn hres hle (by rw [tm0O_eq htm]; exact kk)

section rules
variable {P : Program} {all : Array Oper} {rest : List Oper} {n : Nat} {tm : List (Nat × AV)} {hp : Heap} {Q : St → Prop} {d : Nat} {ty : TypeId} {pos : String} {af : Array Edge}

theorem n_box {x : Operand} {E : TypeId} {av : AV} {cs : List AV} (hx : evA tm x = some av) (hc : normL av.cells = some cs) (h1 : allOne cs = true) (hn : Nat.blt d n = true)
    (kk : ∀ b : Bk, ARun P all rest ⟨n, (d, .ptr b 0) :: tm, (b, .cells cs) :: hp⟩ Q) : ARun P all (⟨some d, .box E x, ty, pos, af, none⟩ :: rest) ⟨n, tm, hp⟩ Q := by
  obtain rfl := normL_eq hc
  exact r_box hx h1 hn kk
theorem n_alloc {E : TypeId} {i : TypeInfo} {z : Value} {cs : List AV} [TInfo P E i] (hz : i.zero = some z) (hc : normL (zAV z).cells = some cs) (h1 : allOne cs = true) (hn : Nat.blt d n = true)
    (kk : ∀ b : Bk, ARun P all rest ⟨n, (d, .ptr b 0) :: tm, (b, .cells cs) :: hp⟩ Q) : ARun P all (⟨some d, .alloc E, ty, pos, af, none⟩ :: rest) ⟨n, tm, hp⟩ Q := by
  obtain rfl := normL_eq hc
  exact r_alloc hz h1 hn kk
theorem n_field_ptr {x : Operand} {s : TypeId} {j off : Nat} {b : Bk} {o o' : Nat} [Fld P s j off] (hx : evA tm x = some (.ptr b o)) (ho : o + off = o') : QV P ⟨some d, .fieldAddr s x j, ty, pos, af, none⟩ ⟨n, tm, hp⟩ (.ptr b o') := by
  subst ho
  exact q_field_ptr hx
theorem n_field_rptr {x : Operand} {s : TypeId} {j off : Nat} {cs cs' : List AV} [Fld P s j off] (hx : evA tm x = some (.rptr cs)) (hc : normL (cs.drop off) = some cs') : QV P ⟨some d, .fieldAddr s x j, ty, pos, af, none⟩ ⟨n, tm, hp⟩ (.rptr cs') := by
  obtain rfl := normL_eq hc
  exact q_field_rptr hx
theorem n_load_ptr_part {t : TypeId} {D : TypeDesc} {i : TypeInfo} {x : Operand} {b : Bk} {o : Nat} {cs cs' : List AV} [TUnder P t D] [TInfo P t i] (hD : TypeDesc.isAggB D = true) (hx : evA tm x = some (.ptr b o)) (f : Fnd hp b (.cells cs)) (ho : Nat.ble (o + i.size) cs.length = true) (hc : normL ((cs.drop o).take i.size) = some cs') :
    QV P ⟨some d, .load t x, ty, pos, af, none⟩ ⟨n, tm, hp⟩ (.agg cs') := by
  obtain rfl := normL_eq hc
  exact q_load_ptr_part hD hx f ho
theorem n_build {t : TypeId} {i : TypeInfo} {z : Value} {parts : List (Nat × Operand)} {l : List (Nat × AV)} {cs cs' : List AV} {pl : List (Nat × Nat)} [TInfo P t i] [Places P t pl] (hz : i.zero = some z) (hl : evP tm parts = some l) (h1 : allOne (zAV z).cells = true)
    (hc : fillA pl (zAV z).cells l = some cs) (hcs : normL cs = some cs') : QV P ⟨some d, .build t parts.toArray, ty, pos, af, none⟩ ⟨n, tm, hp⟩ (.agg cs') := by
  obtain rfl := normL_eq hcs
  exact q_build hz hl h1 hc
theorem n_store_ptr {t : TypeId} {i : TypeInfo} {x y : Operand} {b : Bk} {o : Nat} {cs cs' : List AV} {av : AV} {hp' : Heap} [TInfo P t i] (hx : evA tm x = some (.ptr b o)) (hy : evA tm y = some av) (h1 : allOne av.cells = true) (hsz : Nat.beq av.cells.length i.size = true)
    (u : Upd hp b (.cells cs) b (.cells cs') hp') (hc : normL (splice cs o av.cells) = some cs') (ho : Nat.ble (o + av.cells.length) cs.length = true) (kk : ARun P all rest ⟨n, tm, hp'⟩ Q) : ARun P all (⟨none, .store t x y, ty, pos, af, none⟩ :: rest) ⟨n, tm, hp⟩ Q := by
  obtain rfl := normL_eq hc
  exact r_store_ptr hx hy h1 hsz u ho kk
theorem n_buildSliceL {t e : TypeId} {i : TypeInfo} {z : Value} {len sz : Nat} {parts : List (Nat × Operand)} {xs : List AV} [TUnder P t (.slice e)] [TInfo P e i] [TSz P e sz] (hz : i.zero = some z) (hl : evS tm parts 0 = some xs) (hlen : Nat.beq parts.length len = true) (hel : allEl i.size xs = true)
    (h24 : Nat.ble (len * i.size) 16777216 = true) (hn : Nat.blt d n = true) (kk : ARun P all rest ⟨n, (d, .list sz xs) :: tm, hp⟩ Q) : ARun P all (⟨some d, .buildSlice t len parts.toArray, ty, pos, af, none⟩ :: rest) ⟨n, tm, hp⟩ Q := by
  obtain ⟨i', h1, h2⟩ := TSz.h (P := P) (t := e)
  obtain rfl : i' = i := by rw [TInfo.h (P := P) (t := e)] at h1; exact (Option.some.inj h1).symm
  subst h2
  exact r_buildSliceL hz hl hlen hel h24 hn kk
theorem n_buildSlice {t e : TypeId} {i : TypeInfo} {z : Value} {len sz : Nat} {parts : List (Nat × Operand)} {xs : List AV} [TUnder P t (.slice e)] [TInfo P e i] [TSz P e sz] (hz : i.zero = some z) (hl : evS tm parts 0 = some xs) (hlen : Nat.beq parts.length len = true) (hel : allEl i.size xs = true)
    (h24 : Nat.ble (len * i.size) 16777216 = true) (hn : Nat.blt d n = true) (kk : ∀ b : Bk, ARun P all rest ⟨n, (d, .sl sz b 0 len) :: tm, (b, .arr sz xs) :: hp⟩ Q) : ARun P all (⟨some d, .buildSlice t len parts.toArray, ty, pos, af, none⟩ :: rest) ⟨n, tm, hp⟩ Q := by
  obtain ⟨i', h1, h2⟩ := TSz.h (P := P) (t := e)
  obtain rfl : i' = i := by rw [TInfo.h (P := P) (t := e)] at h1; exact (Option.some.inj h1).symm
  subst h2
  exact r_buildSlice hz hl hlen hel h24 hn kk
end rules

end Go.Eng

/- The engine, part 13: regions that draw their order: operations that only look or make new memory commute; what stands behind them goes in order. No program in sight. -/
set_option linter.unusedVariables false
set_option linter.unusedSectionVars false
namespace Go.Eng
open Go
variable [GTab]

/-- New blocks alone; what is immutable stays so, and of the old blocks none becomes so. -/
structure Grow (w : World) (S : Nat → Prop) (w' : World) (S' : Nat → Prop) : Prop where
  ext : Ext w w'
  up : ∀ n, S n → S' n
  down : ∀ n, n < w.heap.size → S' n → S n
  slt : ∀ n, S' n → n < w'.heap.size

theorem Grow.refl {w : World} {S : Nat → Prop} (h : ∀ n, S n → n < w.heap.size) : Grow w S w S := ⟨Ext.refl w, fun _ h => h, fun _ _ h => h, h⟩
theorem Grow.trans {a b c : World} {S T U : Nat → Prop} (h : Grow a S b T) (k : Grow b T c U) : Grow a S c U :=
  ⟨h.ext.trans k.ext, fun n hn => k.up n (h.up n hn), fun n hn hs => h.down n hn (k.down n (Nat.lt_of_lt_of_le hn h.ext.size) hs), k.slt⟩
theorem Grow.keep {w w' : World} {S S' : Nat → Prop} (g : Grow w S w' S') (h : ∀ n, S n → n < w.heap.size) : ∀ n, S n → S' n ∧ w'.heap[n]? = w.heap[n]? := fun n hn => ⟨g.up n hn, g.ext.same n (h n hn)⟩
theorem HRel.grow {w w' : World} {S S' : Nat → Prop} {h : Heap} (r : HRel w S h) (g : Grow w S w' S') : HRel w' S' h where
  nodup := r.nodup
  holds e he := (r.holds e he).mono (g.keep r.slt) (fun n hn => g.ext.same n (r.lt ⟨e, he, hn⟩))
  sep e he n hn := by
    rw [← r.sep e he n hn]
    exact ⟨g.down n (r.lt ⟨e, he, hn⟩), g.up n⟩
  slt := g.slt
  glob t o ho := ⟨(g.keep r.slt t (r.glob t o ho).1).1, gkeep (g.keep r.slt t (r.glob t o ho).1).2 (r.glob t o ho).2⟩
theorem Grow.evo {w w' : World} {S S' : Nat → Prop} (g : Grow w S w' S') (h : ∀ n, S n → n < w.heap.size) (hp : Heap) : Evo w S hp w' S' hp :=
  ⟨g.ext.os, g.ext.tape, g.ext.output, g.ext.size, g.keep h, fun n hn _ => ⟨g.ext.same n hn, g.down n hn⟩, fun _ hn => .inl hn, g.ext.drawn⟩

/-- What an operation looks at: its operands, and the slot of its guard. -/
def looks (all : Array Oper) (o : Oper) : List Nat :=
  (o.op.operands.toList.filterMap fun | .tmp t => some t | _ => none) ++ (match o.guard with | some (g, _) => ((all[g]?).bind (·.dst)).toList | none => [])

abbrev Env := Nat → Option AV

def RelE (w : World) (S : Nat → Prop) (ls : List Nat) (e : Env) (a : Act) : Prop := ∀ s ∈ ls, ∀ av, e s = some av → ∃ v, a.tmps[s]? = some v ∧ At w S av v

/-- An operation that only looks, or makes new memory: what it yields, where all that it looks at is as told. -/
def MV (P : Program) (all : Array Oper) (n : Nat) (o : Oper) (e : Env) (hp : Heap) (av : AV) : Prop :=
  ∀ w S a, a.tmps.size = n → a.defers = [] → HRel w S hp → RelE w S (looks all o) e a → ∀ (K : Act → World → Prop) (Q : Exit → Act → World → Prop),
    (∀ v w' S', Grow w S w' S' → At w' S' av v → K (a.put o.dst v) w') → o.wp P a w K Q

def eput (e : Env) (d : Option Nat) (av : AV) : Env := match d with
  | some d => fun s => if d = s then some av else e s
  | none => e

/-- The outcome of a guard in an environment: carried out or passed over. -/
def Wanted (all : Array Oper) (o : Oper) (e : Env) (b : Bool) : Prop :=
  match o.guard with
  | none => b = true
  | some (j, want) => ∃ s, (all[j]?).bind (·.dst) = some s ∧ ((∃ c, e s = some (.bool c) ∧ b = (c == want)) ∨ (e s = some (.raw undef) ∧ b = false))

inductive AMf (P : Program) (all : Array Oper) (n : Nat) (hp : Heap) : List Oper → Env → Env → Prop
  | nil (e : Env) : AMf P all n hp [] e e
  | run {o : Oper} {l : List Oper} {e e' : Env} {av : AV} (hg : Wanted all o e true) (h : MV P all n o e hp av) (hd : ∀ d, o.dst = some d → d < n) (k : AMf P all n hp l (eput e o.dst av) e') : AMf P all n hp (o :: l) e e'
  | pass {o : Oper} {l : List Oper} {e e' : Env} (hg : Wanted all o e false) (hd : ∀ d, o.dst = some d → d < n) (k : AMf P all n hp l (eput e o.dst (.raw undef)) e') : AMf P all n hp (o :: l) e e'

/-- One step, whichever. -/
def MStep (P : Program) (all : Array Oper) (n : Nat) (hp : Heap) (o : Oper) (e : Env) (av : AV) : Prop :=
  (∀ d, o.dst = some d → d < n) ∧ ((Wanted all o e true ∧ MV P all n o e hp av) ∨ (Wanted all o e false ∧ av = .raw undef))

/-- The environments along the text. -/
theorem AMf.unroll {P : Program} {all : Array Oper} {n : Nat} {hp : Heap} {l : List Oper} {e e' : Env} (h : AMf P all n hp l e e') :
    ∃ (avs : Nat → AV) (en : Nat → Env), en 0 = e ∧ en l.length = e' ∧ ∀ i o, l[i]? = some o → MStep P all n hp o (en i) (avs i) ∧ en (i + 1) = eput (en i) o.dst (avs i) := by
  induction h with
  | nil e => exact ⟨fun _ => .nil, fun _ => e, rfl, rfl, fun i o h => by simp at h⟩
  | @run o l e e' av hg hm hd k ih =>
    obtain ⟨avs, en, h0, h1, h2⟩ := ih
    refine ⟨fun i => match i with | 0 => av | i + 1 => avs i, fun i => match i with | 0 => e | i + 1 => en i, rfl, h1, fun i o' ho => ?_⟩
    match i with
    | 0 => simp at ho; subst ho; exact ⟨⟨hd, .inl ⟨hg, hm⟩⟩, h0⟩
    | i + 1 => exact h2 i o' (by simpa using ho)
  | @pass o l e e' hg hd k ih =>
    obtain ⟨avs, en, h0, h1, h2⟩ := ih
    refine ⟨fun i => match i with | 0 => .raw undef | i + 1 => avs i, fun i => match i with | 0 => e | i + 1 => en i, rfl, h1, fun i o' ho => ?_⟩
    match i with
    | 0 => simp at ho; subst ho; exact ⟨⟨hd, .inr ⟨hg, rfl⟩⟩, h0⟩
    | i + 1 => exact h2 i o' (by simpa using ho)

/-! ### the checks on a region -/
/-- Operation j waits for operation i. -/
def waits (o : Oper) (i : Nat) : Bool := o.after.toList.any fun e => Region.binds .any e && Nat.beq e.on i

def clash (all : Array Oper) (oi oj : Oper) : Bool :=
  match oi.dst, oj.dst with
  | some d, some d' => (looks all oj).contains d || (looks all oi).contains d' || Nat.beq d d'
  | some d, none => (looks all oj).contains d
  | none, some d' => (looks all oi).contains d'
  | none, none => false

/-- Operation j waits for operation i, perhaps by others. -/
inductive Anc (all : Array Oper) : Nat → Nat → Prop
  | one {j i : Nat} {oj : Oper} (hj : all[j]? = some oj) (hw : waits oj i = true) : Anc all j i
  | step {j k i : Nat} {oj : Oper} (hj : all[j]? = some oj) (hw : waits oj k = true) (h : Anc all k i) : Anc all j i

def ancOne (acc : List Nat) : List Edge → Nat → Nat
  | [], m => m
  | e :: r, m => ancOne acc r (match Region.binds .any e with
    | true => m ||| (1 <<< e.on) ||| acc.getD e.on 0
    | false => m)
def ancsL : List Oper → List Nat → List Nat
  | [], acc => acc
  | o :: r, acc => ancsL r (acc ++ [ancOne acc o.after.toList 0])
def ancs (all : Array Oper) : List Nat := ancsL all.toList []

theorem ancOne_spec {acc : List Nat} {i : Nat} : ∀ (es : List Edge) (m : Nat), (ancOne acc es m).testBit i = true → m.testBit i = true ∨ ∃ e ∈ es, Region.binds .any e = true ∧ (e.on = i ∨ (acc.getD e.on 0).testBit i = true)
  | [], m, h => .inl h
  | e :: r, m, h => by
    simp only [ancOne] at h
    rcases ancOne_spec r _ h with h | ⟨e', he, hb, hh⟩
    · split at h
      · rename_i hb
        rw [Nat.testBit_or, Nat.testBit_or, Bool.or_eq_true, Bool.or_eq_true] at h
        rcases h with (h | h) | h
        · exact .inl h
        · refine .inr ⟨e, by simp, hb, .inl ?_⟩
          rw [Nat.one_shiftLeft, Nat.testBit_two_pow] at h
          simpa using h
        · exact .inr ⟨e, by simp, hb, .inr h⟩
      · exact .inl h
    · exact .inr ⟨e', by simp [he], hb, hh⟩

theorem ancsL_spec {all : Array Oper} : ∀ (l : List Oper) (acc : List Nat) (pre : List Oper), all.toList = pre ++ l → acc.length = pre.length → (∀ j i, (acc.getD j 0).testBit i = true → Anc all j i) → ∀ j i, ((ancsL l acc).getD j 0).testBit i = true → Anc all j i
  | [], acc, pre, _, _, h => h
  | o :: r, acc, pre, hl, hlen, h => by
    refine ancsL_spec r _ (pre ++ [o]) (by simpa using hl) (by simp [hlen]) (fun j i hb => ?_)
    rcases Nat.lt_or_ge j acc.length with hj | hj
    · refine h j i ?_
      rw [List.getD_eq_getElem?_getD, List.getElem?_append_left hj] at hb
      rw [List.getD_eq_getElem?_getD]
      exact hb
    · by_cases hje : j = acc.length
      · rw [List.getD_eq_getElem?_getD, List.getElem?_append_right hj, hje] at hb
        simp only [Nat.sub_self, List.getElem?_cons_zero, Option.getD_some] at hb
        have hoj : all[j]? = some o := by
          rw [← Array.getElem?_toList, hl, List.getElem?_append_right (by omega), hje, hlen]; simp
        rcases ancOne_spec _ _ hb with hz | ⟨e, he, hbd, hh⟩
        · simp at hz
        · have hw : waits o e.on = true := by
            simp only [waits, List.any_eq_true, Bool.and_eq_true]
            exact ⟨e, he, hbd, by simp⟩
          rcases hh with hh | hh
          · subst hh; exact .one hoj hw
          · exact .step hoj hw (h _ _ hh)
      · rw [List.getD_eq_getElem?_getD, List.getElem?_append_right hj, List.getElem?_eq_none (by simp; omega)] at hb
        simp at hb

theorem ancs_spec {all : Array Oper} {j i : Nat} (h : ((ancs all).getD j 0).testBit i = true) : Anc all j i :=
  ancsL_spec all.toList [] [] (by simp) rfl (fun j i h => by simp at h) j i h

/-- Of each two of the first m operations that clash the later waits for the earlier; each operation from m on waits for all before it; who is waited for stands before. -/
def monoB (all : Array Oper) (m : Nat) (A : List Nat) : Bool :=
  (List.range all.size).all fun j => match all[j]? with
    | none => true
    | some oj => (oj.after.all fun e => !Region.binds .any e || Nat.blt e.on j) && (List.range j).all fun i => match all[i]? with
      | none => true
      | some oi => if Nat.blt j m then !clash all oi oj || (A.getD j 0).testBit i else (A.getD j 0).testBit i
def MonoB (all : Array Oper) (m : Nat) : Prop := ∃ A, ancs all = A ∧ monoB all m A = true

theorem monoB_spec {all : Array Oper} {m : Nat} (h : MonoB all m) {i j : Nat} {oi oj : Oper} (hj : all[j]? = some oj) (hi : all[i]? = some oi) (hij : i < j) : (j < m → clash all oi oj = true → Anc all j i) ∧ (m ≤ j → Anc all j i) := by
  obtain ⟨A, hA, h⟩ := h
  subst hA
  have hjs : j < all.size := (Array.getElem?_eq_some_iff.1 hj).1
  simp only [monoB, List.all_eq_true, List.mem_range] at h
  have h1 := h j hjs
  rw [hj] at h1
  simp only [Bool.and_eq_true, List.all_eq_true, List.mem_range] at h1
  have h2 := h1.2 i hij
  rw [hi] at h2
  simp only at h2
  refine ⟨fun hm hc => ?_, fun hm => ?_⟩
  · rw [if_pos (by simpa using hm)] at h2
    exact ancs_spec (by simpa [hc] using h2)
  · rw [if_neg (by simp; omega)] at h2
    exact ancs_spec h2

theorem monoB_edge {all : Array Oper} {m : Nat} (h : MonoB all m) {j : Nat} {oj : Oper} (hj : all[j]? = some oj) {e : Edge} (he : e ∈ oj.after) (hb : Region.binds .any e = true)   : e.on < j := by
  obtain ⟨A, hA, h⟩ := h
  have hjs : j < all.size := (Array.getElem?_eq_some_iff.1 hj).1
  simp only [monoB, List.all_eq_true, List.mem_range] at h
  have h1 := h j hjs
  rw [hj] at h1
  simp only [Bool.and_eq_true, Array.all_eq_true_iff_forall_mem] at h1
  have := h1.1 e he
  simpa [hb] using this

theorem ready_waits {all : Array Oper} {listed : Array Bool} {i j : Nat} {oj : Oper} (hj : all[j]? = some oj) (hr : j ∈ Region.ready .any all listed) (hw : waits oj i = true) : listed.getD i false = true := by
  simp only [Region.ready, List.mem_filter, List.mem_range, hj, Option.map_some, Option.getD_some, Bool.and_eq_true, Array.all_eq_true_iff_forall_mem] at hr
  simp only [waits, List.any_eq_true, Bool.and_eq_true] at hw
  obtain ⟨e, he, hb, hon⟩ := hw
  have := hr.2.2 e (by simpa using he)
  rw [hb] at this
  obtain rfl : e.on = i := Nat.eq_of_beq_eq_true hon
  simpa using this

def Closed (all : Array Oper) (listed : Array Bool) : Prop := ∀ k i o, listed.getD k false = true → all[k]? = some o → waits o i = true → listed.getD i false = true
theorem Closed.anc {all : Array Oper} {listed : Array Bool} (c : Closed all listed) {j i : Nat} (h : Anc all j i) (hl : listed.getD j false = true) : listed.getD i false = true := by
  induction h with
  | one hj hw => exact c _ _ _ hl hj hw
  | step hj hw _ ih => exact ih (c _ _ _ hl hj hw)
theorem Closed.ready {all : Array Oper} {listed : Array Bool} (c : Closed all listed) {j i : Nat} (h : Anc all j i) (hr : j ∈ Region.ready .any all listed) : listed.getD i false = true := by
  cases h with
  | one hj hw => exact ready_waits hj hr hw
  | step hj hw h => exact c.anc h (ready_waits hj hr hw)
theorem ready_not {all : Array Oper} {listed : Array Bool} {j : Nat} (hr : j ∈ Region.ready .any all listed) : j < all.size ∧ listed.getD j true = false := by
  simp only [Region.ready, List.mem_filter, List.mem_range, Bool.and_eq_true] at hr
  exact ⟨hr.1, by simpa using hr.2.1⟩

/-- Nothing is ready: all are listed. -/
theorem ready_nil {all : Array Oper} {m : Nat} (h : MonoB all m) {listed : Array Bool} (hl : listed.size = all.size) (hr : Region.ready .any all listed = []) : ∀ i, i < all.size → listed.getD i false = true := by
  intro i
  induction i using Nat.strongRecOn with
  | _ i ih =>
    intro hi
    cases hv : listed.getD i false with
    | true => rfl
    | false =>
      exfalso
      have : i ∈ Region.ready .any all listed := by
        simp only [Region.ready, List.mem_filter, List.mem_range, Bool.and_eq_true]
        have hli : i < listed.size := by omega
        refine ⟨hi, ?_, ?_⟩
        · simp [hli] at hv ⊢; exact hv
        · have hoi : all[i]? = some all[i] := by simp [hi]
          rw [hoi]
          simp only [Option.map_some, Option.getD_some, Array.all_eq_true_iff_forall_mem]
          intro e he
          cases hb : Region.binds .any e with
          | false => simp
          | true =>
            have hlt := monoB_edge h hoi he hb
            simp [ih e.on hlt (by omega)]
      rw [hr] at this
      simp at this

/-! ### any order of the head -/
section order
variable {P : Program} {all : Array Oper} {n m : Nat} {hp : Heap}

/-- What the slots hold when just the listed ones of the first k operations have been carried out. -/
def cur (all : Array Oper) (avs : Nat → AV) (e : Env) (listed : Array Bool) : Nat → Env
  | 0 => e
  | k + 1 => if listed.getD k false then eput (cur all avs e listed k) ((all[k]?).bind (·.dst)) (avs k) else cur all avs e listed k

theorem eput_ne {e : Env} {d : Option Nat} {av : AV} {s : Nat} (h : d ≠ some s) : eput e d av s = e s := by
  cases d with
  | none => rfl
  | some d => simp only [eput]; rw [if_neg (fun e => h (by rw [e]))]
theorem eput_eq {e : Env} {av : AV} {s : Nat} : eput e (some s) av s = some av := by simp [eput]

theorem clash_look {oi oj : Oper} {s : Nat} (hd : oi.dst = some s) (hs : s ∈ looks all oj) : clash all oi oj = true := by
  unfold clash
  rw [hd]
  cases hj : oj.dst <;> simp [hs]
theorem clash_look' {oi oj : Oper} {s : Nat} (hd : oj.dst = some s) (hs : s ∈ looks all oi) : clash all oi oj = true := by
  unfold clash
  rw [hd]
  cases hi : oi.dst <;> simp [hs]
theorem clash_dst {oi oj : Oper} {s : Nat} (hi : oi.dst = some s) (hj : oj.dst = some s) : clash all oi oj = true := by
  unfold clash
  rw [hi, hj]
  simp

/-- The listed ones: of the head alone, and whoever is waited for is listed. -/
structure LOk (all : Array Oper) (m : Nat) (listed : Array Bool) : Prop where
  size : listed.size = all.size
  head : ∀ k, listed.getD k false = true → k < m
  closed : ∀ k i o, listed.getD k false = true → all[k]? = some o → waits o i = true → listed.getD i false = true

theorem getD_tf {listed : Array Bool} {i : Nat} (h : listed.getD i true = false) : listed.getD i false = false := by
  by_cases hi : i < listed.size
  · simp [hi] at h ⊢; exact h
  · simp [hi]

variable {avs : Nat → AV} {en : Nat → Env} {e : Env}

theorem cur_look (hB : MonoB all m) {listed : Array Bool} (L : LOk all m listed) (h0 : en 0 = e) (hs : ∀ i o, i < m → all[i]? = some o → en (i + 1) = eput (en i) o.dst (avs i)) (hm : m ≤ all.size)
    {i : Nat} {o : Oper} (ho : all[i]? = some o) (him : i < m) (hni : listed.getD i false = false) (hr : ∀ j, Anc all i j → listed.getD j false = true) {s : Nat} (hsl : s ∈ looks all o) : ∀ k, k ≤ all.size → cur all avs e listed k s = en (min k i) s := by
  intro k
  induction k with
  | zero => intro _; simp [cur, h0]
  | succ k ih =>
    intro hk
    have ihk := ih (by omega)
    have hok : all[k]? = some all[k] := by simp [show k < all.size by omega]
    simp only [cur, hok, Option.bind_some]
    rcases Nat.lt_trichotomy k i with hlt | heq | hgt
    · rw [Nat.min_eq_left (by omega)] at ihk
      rw [Nat.min_eq_left (by omega), hs k _ (by omega) hok]
      by_cases hd : (all[k]).dst = some s
      · have hl : listed.getD k false = true := hr k ((monoB_spec hB ho hok hlt).1 him (clash_look hd hsl))
        rw [if_pos hl, hd, eput_eq, eput_eq]
      · rw [eput_ne hd]
        split
        · rw [eput_ne hd]; exact ihk
        · exact ihk
    · subst heq
      rw [hni]
      simp only [Bool.false_eq_true, if_false]
      rw [Nat.min_eq_right (by omega)]
      rw [Nat.min_eq_right (by omega)] at ihk
      exact ihk
    · rw [Nat.min_eq_right (by omega)] at ihk
      rw [Nat.min_eq_right (by omega)]
      by_cases hl : listed.getD k false = true
      · by_cases hd : (all[k]).dst = some s
        · exfalso
          have hw := (monoB_spec hB hok ho hgt).1 (L.head k hl) (clash_look' hd hsl)
          have := Closed.anc L.closed hw hl
          rw [hni] at this; cases this
        · rw [if_pos hl, eput_ne hd]; exact ihk
      · rw [if_neg hl]; exact ihk

theorem getD_set {listed : Array Bool} {i k : Nat} (hi : i < listed.size) : (listed.setIfInBounds i true).getD k false = (if k = i then true else listed.getD k false) := by
  by_cases hk : k < listed.size
  · simp [hk, Array.getElem_setIfInBounds]
    by_cases h : k = i
    · simp [h]
    · have h' : ¬ i = k := fun e => h e.symm
      simp [h, h']
  · have : k ≠ i := by omega
    simp [hk, this]

theorem cur_set (hB : MonoB all m) {listed : Array Bool} (L : LOk all m listed) {i : Nat} {o : Oper} (ho : all[i]? = some o) (him : i < m) (hni : listed.getD i false = false) (s : Nat) :
    ∀ k, k ≤ all.size → cur all avs e (listed.setIfInBounds i true) k s = (if i < k then eput (cur all avs e listed k) o.dst (avs i) s else cur all avs e listed k s) := by
  have hi : i < listed.size := by rw [L.size]; exact (Array.getElem?_eq_some_iff.1 ho).1
  intro k
  induction k with
  | zero => intro _; simp [cur]
  | succ k ih =>
    intro hk
    have ihk := ih (by omega)
    have hok : all[k]? = some all[k] := by simp [show k < all.size by omega]
    simp only [cur, hok, Option.bind_some, getD_set hi]
    rcases Nat.lt_trichotomy k i with hlt | heq | hgt
    · rw [if_neg (by omega)] at ihk
      have e1 : (if k = i then true else listed.getD k false) = listed.getD k false := if_neg (by omega)
      rw [e1, if_neg (show ¬ i < k + 1 by omega)]
      by_cases hl : listed.getD k false = true
      · rw [if_pos hl, if_pos hl]
        by_cases hd : (all[k]).dst = some s
        · rw [hd, eput_eq, eput_eq]
        · rw [eput_ne hd, eput_ne hd]; exact ihk
      · rw [if_neg hl, if_neg hl]; exact ihk
    · subst heq
      rw [if_neg (by omega)] at ihk
      have e1 : (if k = k then true else listed.getD k false) = true := if_pos rfl
      rw [e1, if_pos (show k < k + 1 by omega), if_pos rfl, hni, if_neg Bool.false_ne_true]
      obtain rfl : all[k] = o := by rw [hok] at ho; exact Option.some.inj ho
      by_cases hd : (all[k]).dst = some s
      · rw [hd, eput_eq, eput_eq]
      · rw [eput_ne hd, eput_ne hd]; exact ihk
    · rw [if_pos hgt] at ihk
      have e1 : (if k = i then true else listed.getD k false) = listed.getD k false := if_neg (by omega)
      rw [e1, if_pos (show i < k + 1 by omega)]
      by_cases hl : listed.getD k false = true
      · rw [if_pos hl, if_pos hl]
        by_cases hd : (all[k]).dst = some s
        · by_cases hdi : o.dst = some s
          · exfalso
            have hw := (monoB_spec hB hok ho hgt).1 (L.head k hl) (clash_dst hdi hd)
            have := Closed.anc L.closed hw hl
            rw [hni] at this; cases this
          · rw [hd, eput_eq, eput_ne hdi, eput_eq]
        · by_cases hdi : o.dst = some s
          · rw [eput_ne hd, ihk, hdi, eput_eq, eput_eq]
          · rw [eput_ne hd, ihk, eput_ne hdi, eput_ne hdi, eput_ne hd]
      · rw [if_neg hl, if_neg hl]; exact ihk

/-- Behind the head: one operation at a time, in the text's order. -/
theorem any_tail (hB : MonoB all m) {Q : Exit → Act → World → Prop} : ∀ (fuel k : Nat) (listed : Array Bool) (a : Act) (w : World), m ≤ k → k + fuel = all.size → listed.size = all.size → (∀ i, i < k → listed.getD i false = true) → (∀ i, k ≤ i → listed.getD i false = false) →
    wpList P all Q (all.toList.drop k) a w → wpAny P .any all Q fuel listed a w := by
  intro fuel
  induction fuel with
  | zero =>
    intro k listed a w hm hk hsz h1 h2 h
    have hnil : all.toList.drop k = [] := List.drop_eq_nil_of_le (by simp; omega)
    rw [hnil] at h
    refine ⟨?_, h⟩
    refine List.eq_nil_iff_forall_not_mem.2 fun i hi => ?_
    obtain ⟨hi1, hi2⟩ := ready_not hi
    have := h1 i (by omega)
    rw [getD_tf hi2] at this
    cases this
  | succ fuel ih =>
    intro k listed a w hm hk hsz h1 h2 h
    have hks : k < all.size := by omega
    have hok : all[k]? = some all[k] := by simp [hks]
    refine ⟨fun hr => ?_, fun i hi => ?_⟩
    · have := ready_nil hB hsz hr k hks
      rw [h2 k (Nat.le_refl _)] at this
      cases this
    · obtain ⟨hi1, hi2⟩ := ready_not hi
      have hoi : all[i]? = some all[i] := by simp [hi1]
      obtain rfl : i = k := by
        rcases Nat.lt_trichotomy i k with hlt | heq | hgt
        · have := h1 i hlt; rw [getD_tf hi2] at this; cases this
        · exact heq
        · have hcl : Closed all listed := fun k' i' o hk' ho' hw' => by
            have hlt : k' < k := by
              rcases Nat.lt_or_ge k' k with h | h
              · exact h
              · rw [h2 k' h] at hk'; cases hk'
            simp only [waits, List.any_eq_true, Bool.and_eq_true] at hw'
            obtain ⟨e', he', hb', hon'⟩ := hw'
            have := monoB_edge hB ho' (by simpa using he') hb'
            obtain rfl : e'.on = i' := Nat.eq_of_beq_eq_true hon'
            exact h1 _ (by omega)
          have := hcl.ready ((monoB_spec hB hoi hok hgt).2 (by omega)) hi
          rw [h2 k (Nat.le_refl _)] at this; cases this
      have hdrop : all.toList.drop i = all[i] :: all.toList.drop (i + 1) := by
        rw [List.drop_eq_getElem_cons (by simpa using hks)]
        simp
      rw [hdrop] at h
      unfold wpList at h
      simp only [wpOp, hok]
      have next : ∀ a w, wpList P all Q (all.toList.drop (i + 1)) a w → wpAny P .any all Q fuel (listed.setIfInBounds i true) a w := fun a w hh => by
        have hil : i < listed.size := by omega
        refine ih (i + 1) (listed.setIfInBounds i true) a w (by omega) (by omega) (by simpa using hsz) (fun j hj => ?_) (fun j hj => ?_) hh
        · rw [getD_set hil]; split
          · rfl
          · exact h1 j (by omega)
        · rw [getD_set hil, if_neg (by omega)]; exact h2 j (by omega)
      split at h
      · rename_i hw
        rw [if_pos hw]
        exact h.imp (fun hh => Oper.wp_mono next hh) id
      · rename_i hw
        rw [if_neg hw]
        exact next _ _ h

theorem wanted_of {o : Oper} {e : Env} {b : Bool} {w : World} {S : Nat → Prop} {a : Act} (hw : Wanted all o e b) (r : RelE w S (looks all o) e a) : Region.wanted o (yielded all a.tmps) = b := by
  unfold Wanted at hw
  unfold Region.wanted
  cases hg : o.guard with
  | none => rw [hg] at hw; simp only at hw; rw [hw]
  | some g =>
    obtain ⟨j, want⟩ := g
    rw [hg] at hw
    simp only at hw
    obtain ⟨s, h1, ⟨c, h2, h3⟩ | ⟨h2, h3⟩⟩ := hw
    · obtain ⟨v, g1, g2⟩ := r s (by simp [looks, hg, h1]) _ h2
      cases g2
      rw [h3]
      cases c <;> cases want <;> simp [yielded, h1, g1]
    · obtain ⟨v, g1, g2⟩ := r s (by simp [looks, hg, h1]) _ h2
      cases g2
      rw [h3]
      simp [yielded, h1, g1, undef]

def EnvOk (w : World) (S : Nat → Prop) (e : Env) (a : Act) : Prop := ∀ s av, e s = some av → ∃ v, a.tmps[s]? = some v ∧ At w S av v

theorem any_head (hB : MonoB all m) (hm : m ≤ all.size) {Q : Exit → Act → World → Prop} (h0 : en 0 = e) (hs : ∀ i o, i < m → all[i]? = some o → MStep P all n hp o (en i) (avs i) ∧ en (i + 1) = eput (en i) o.dst (avs i)) {w0 : World} {S0 : Nat → Prop}
    (fin : ∀ a w S, a.tmps.size = n → a.defers = [] → HRel w S hp → Grow w0 S0 w S → EnvOk w S (en m) a → wpList P all Q (all.toList.drop m) a w) :
    ∀ (fuel : Nat) (listed : Array Bool) (a : Act) (w : World) (S : Nat → Prop), LOk all m listed → (listed.toList.count true) + fuel = all.size → a.tmps.size = n → a.defers = [] → HRel w S hp → Grow w0 S0 w S → EnvOk w S (cur all avs e listed all.size) a →
      wpAny P .any all Q fuel listed a w := by
  have hs2 : ∀ i o, i < m → all[i]? = some o → en (i + 1) = eput (en i) o.dst (avs i) := fun i o h1 h2 => (hs i o h1 h2).2
  have done : ∀ (fuel : Nat) (listed : Array Bool) (a : Act) (w : World) (S : Nat → Prop), LOk all m listed → (listed.toList.count true) + fuel = all.size → a.tmps.size = n → a.defers = [] → HRel w S hp → Grow w0 S0 w S → EnvOk w S (cur all avs e listed all.size) a →
      (∀ i, i < m → listed.getD i false = true) → wpAny P .any all Q fuel listed a w := by
    intro fuel listed a w S L hc hsz hdf hr hg hen hall
    have hno : ∀ i, m ≤ i → listed.getD i false = false := fun i hi => by
      cases hv : listed.getD i false with
      | false => rfl
      | true => have := L.head i hv; omega
    have hcount : listed.toList.count true = m := by
      have : listed.toList = List.replicate m true ++ List.replicate (all.size - m) false := by
        apply List.ext_getElem?
        intro i
        rcases Nat.lt_or_ge i m with hi | hi
        · have hil : i < listed.size := by rw [L.size]; omega
          rw [List.getElem?_append_left (by simpa using hi)]
          have := hall i hi
          simp [hil] at this
          simp [hil, hi, this]
        · rw [List.getElem?_append_right (by simpa using hi)]
          rcases Nat.lt_or_ge i listed.size with hil | hil
          · have := hno i hi
            simp [hil] at this
            have h2 : i - m < all.size - m := by rw [L.size] at hil; omega
            simp [hil, h2, this]
          · have h2 : ¬ i - m < all.size - m := by rw [L.size] at hil; omega
            simp [List.getElem?_eq_none (l := listed.toList) (by simpa using hil), h2]
      rw [this, List.count_append, List.count_replicate, List.count_replicate]
      simp
    have hcur : cur all avs e listed all.size = en m := by
      have key : ∀ k, k ≤ all.size → cur all avs e listed k = en (min k m) := by
        intro k
        induction k with
        | zero => intro _; simp [cur, h0]
        | succ k ih =>
          intro hk
          have hok : all[k]? = some all[k] := by simp [show k < all.size by omega]
          simp only [cur, hok, Option.bind_some, ih (by omega)]
          rcases Nat.lt_or_ge k m with h | h
          · rw [if_pos (hall k h), Nat.min_eq_left (by omega), Nat.min_eq_left (by omega), hs2 k _ h hok]
          · rw [if_neg (by rw [hno k h]; simp), Nat.min_eq_right (by omega), Nat.min_eq_right (by omega)]
      rw [key all.size (Nat.le_refl _), Nat.min_eq_right hm]
    rw [hcur] at hen
    exact any_tail hB fuel m listed a w (Nat.le_refl _) (by omega) L.size hall hno (fin a w S hsz hdf hr hg hen)
  intro fuel
  induction fuel with
  | zero =>
    intro listed a w S L hc hsz hdf hr hg hen
    refine done 0 listed a w S L hc hsz hdf hr hg hen (fun i hi => ?_)
    have hcnt : listed.toList.count true = listed.toList.length := by rw [Array.length_toList, L.size]; omega
    have hall := List.count_eq_length.1 hcnt
    have hil : i < listed.size := by rw [L.size]; omega
    have := hall listed[i] (by simp)
    simp [hil]; exact this.symm
  | succ fuel ih =>
    intro listed a w S L hc hsz hdf hr hg hen
    by_cases hall : ∀ i, i < m → listed.getD i false = true
    · exact done _ listed a w S L hc hsz hdf hr hg hen hall
    · refine ⟨fun hrd => (hall fun i hi => ready_nil hB L.size hrd i (by omega)).elim, fun i hi => ?_⟩
      obtain ⟨hi1, hi2⟩ := ready_not hi
      have hni := getD_tf hi2
      have hoi : all[i]? = some all[i] := by simp [hi1]
      have him : i < m := by
        rcases Nat.lt_or_ge i m with h | h
        · exact h
        · refine (hall fun j hj => ?_).elim
          have hoj : all[j]? = some all[j] := by simp [show j < all.size by omega]
          exact Closed.ready L.closed ((monoB_spec hB hoi hoj (by omega)).2 h) hi
      have hil : i < listed.size := by rw [L.size]; exact hi1
      obtain ⟨⟨hdn, hstep⟩, _⟩ := hs i _ him hoi
      have hrel : RelE w S (looks all all[i]) (en i) a := by
        intro s hsl av hav
        have hc := cur_look (avs := avs) (en := en) (e := e) hB L h0 hs2 hm hoi him hni (fun j hj => Closed.ready L.closed hj hi) hsl all.size (Nat.le_refl _)
        rw [Nat.min_eq_right (by omega)] at hc
        exact hen s av (by rw [hc]; exact hav)
      have L' : LOk all m (listed.setIfInBounds i true) := by
        refine ⟨by simpa using L.size, fun k hk => ?_, fun k j o hk hok hw => ?_⟩
        · rw [getD_set hil] at hk
          split at hk
          · omega
          · exact L.head k hk
        · rw [getD_set hil] at hk
          rw [getD_set hil]
          split
          · rfl
          · split at hk
            · rename_i hki
              subst hki
              obtain rfl : all[k] = o := by rw [hoi] at hok; exact Option.some.inj hok
              exact ready_waits hoi hi hw
            · exact L.closed k j o hk hok hw
      have hcnt : (listed.setIfInBounds i true).toList.count true + fuel = all.size := by
        have hlist : listed[i] = false := by simpa [hil] using hni
        have : (listed.setIfInBounds i true).toList = listed.toList.set i true := by simp
        rw [this, List.count_set (by simpa using hil)]
        have hl2 : listed.toList[i]'(by simpa using hil) = false := by simpa using hlist
        rw [hl2]
        have e1 : (if (false == true) = true then 1 else 0) = 0 := rfl
        have e2 : (if (true == true) = true then 1 else 0) = 1 := rfl
        rw [e1, e2]
        omega
      have upd : ∀ (v : Value) (w' : World) (S' : Nat → Prop), Grow w S w' S' → At w' S' (avs i) v → EnvOk w' S' (cur all avs e (listed.setIfInBounds i true) all.size) (a.put (all[i]).dst v) := by
        intro v w' S' hgr hat s av hav
        rw [cur_set (avs := avs) (e := e) hB L hoi him hni s all.size (Nat.le_refl _), if_pos (by omega)] at hav
        by_cases hd : (all[i]).dst = some s
        · rw [hd, eput_eq] at hav
          obtain rfl := Option.some.inj hav
          have hsn := hdn s hd
          exact ⟨v, by rw [hd]; simp [Act.put, hsz, hsn], hat⟩
        · rw [eput_ne hd] at hav
          obtain ⟨u, h1, h2⟩ := hen s av hav
          refine ⟨u, ?_, h2.mono (hgr.keep hr.slt)⟩
          cases hdd : (all[i]).dst with
          | none => simpa [Act.put] using h1
          | some d' =>
            have hne : d' ≠ s := fun e => hd (by rw [hdd, e])
            simp [Act.put, hne, h1]
      have psz : ∀ v, (a.put (all[i]).dst v).tmps.size = n := fun v => by cases (all[i]).dst <;> simp [Act.put, hsz]
      have pdf : ∀ v, (a.put (all[i]).dst v).defers = [] := fun v => by cases (all[i]).dst <;> simp [Act.put, hdf]
      simp only [wpOp, hoi]
      rcases hstep with ⟨hw, hmv⟩ | ⟨hw, hav⟩
      · rw [if_pos (wanted_of hw hrel)]
        refine .inl (hmv w S a hsz hdf hr hrel _ _ (fun v w' S' hgr hat => ?_))
        exact ih _ _ _ S' L' hcnt (psz v) (pdf v) (hr.grow hgr) (hg.trans hgr) (upd v w' S' hgr hat)
      · rw [if_neg (by rw [wanted_of hw hrel]; simp)]
        refine ih _ _ _ S L' hcnt (psz _) (pdf _) hr hg (upd _ w S (Grow.refl hr.slt) ?_)
        rw [hav]; exact .raw _
end order

end Go.Eng

/- The engine, part 14: the rules for regions that draw their order. No program in sight. -/
set_option linter.unusedVariables false
set_option linter.unusedSectionVars false
namespace Go.Eng
open Go
variable [GTab]

theorem lk_cons (d : Nat) (av : AV) (tm : List (Nat × AV)) : lk ((d, av) :: tm) = eput (lk tm) (some d) av := by
  funext s
  simp only [lk, eput]
  by_cases h : d = s
  · subst h; simp
  · rw [nbeq_f' h, if_neg h]

/-- The slots that are looked at. -/
def rst : List Nat → List (Nat × AV) → List (Nat × AV)
  | [], _ => []
  | s :: r, tm => match lk tm s with
    | some av => (s, av) :: rst r tm
    | none => rst r tm

theorem lk_rst : ∀ {ls : List Nat} {tm : List (Nat × AV)} {s : Nat} {av : AV}, lk (rst ls tm) s = some av → s ∈ ls ∧ lk tm s = some av
  | [], tm, s, av, h => by simp [rst, lk] at h
  | k :: ls, tm, s, av, h => by
    simp only [rst] at h
    split at h
    · rename_i av' hk
      simp only [lk] at h
      split at h
      · rename_i hb
        obtain rfl : k = s := by simpa using hb
        obtain rfl := Option.some.inj h
        exact ⟨by simp, hk⟩
      · obtain ⟨h1, h2⟩ := lk_rst h
        exact ⟨by simp [h1], h2⟩
    · obtain ⟨h1, h2⟩ := lk_rst h
      exact ⟨by simp [h1], h2⟩

theorem strel_rst {w : World} {S : Nat → Prop} {a : Act} {n : Nat} {hp : Heap} {ls : List Nat} {tm : List (Nat × AV)} (h1 : a.tmps.size = n) (h2 : a.defers = []) (h3 : HRel w S hp) (h4 : RelE w S ls (lk tm) a) : StRel w S ⟨n, rst ls tm, hp⟩ a :=
  ⟨h1, h2, fun s av h => h4 s (lk_rst h).1 av (lk_rst h).2, h3⟩

def AM (P : Program) (all : Array Oper) (n : Nat) (hp : Heap) (l : List Oper) (tm : List (Nat × AV)) (Q : List (Nat × AV) → Prop) : Prop := ∃ tm', AMf P all n hp l (lk tm) (lk tm') ∧ Q tm'

section rules
variable {P : Program} {all : Array Oper} {rest : List Oper} {n : Nat} {tm : List (Nat × AV)} {hp : Heap} {Q : List (Nat × AV) → Prop} {d : Nat} {ty : TypeId} {pos : String} {af : Array Edge} {op : Op}

theorem AM.nil (h : Q tm) : AM P all n hp [] tm Q := ⟨tm, .nil _, h⟩

theorem AM.mv {av : AV} (h : MV P all n ⟨some d, op, ty, pos, af, none⟩ (lk tm) hp av) (hn : Nat.blt d n = true) (k : AM P all n hp rest ((d, av) :: tm) Q) : AM P all n hp (⟨some d, op, ty, pos, af, none⟩ :: rest) tm Q := by
  obtain ⟨tm', k1, k2⟩ := k
  refine ⟨tm', .run rfl h (fun d' hd => ?_) (by rw [lk_cons] at k1; exact k1), k2⟩
  obtain rfl := Option.some.inj hd
  simpa using hn

theorem AM.qv {av : AV} (q : QV P ⟨some d, op, ty, pos, af, none⟩ ⟨n, rst (looks all ⟨some d, op, ty, pos, af, none⟩) tm, hp⟩ av) (hn : Nat.blt d n = true) (k : AM P all n hp rest ((d, av) :: tm) Q) : AM P all n hp (⟨some d, op, ty, pos, af, none⟩ :: rest) tm Q := by
  refine AM.mv (fun w S a h1 h2 h3 h4 K Q' hK => ?_) hn k
  obtain ⟨v, g1, g2⟩ := q w S a (strel_rst h1 h2 h3 h4)
  show Oper.upon P _ a K Q' _
  rw [g1 w (Ext.refl w)]
  exact hK v w S (Grow.refl h3.slt) g2

theorem AM.guard_yes {j : Nat} {want b : Bool} {s : Nat} (hj : (all[j]?).bind (·.dst) = some s) (hs : lk tm s = some (.bool b)) (hb : b = want)
    (k : AM P all n hp (⟨some d, op, ty, pos, af, none⟩ :: rest) tm Q) : AM P all n hp (⟨some d, op, ty, pos, af, some (j, want)⟩ :: rest) tm Q := by
  obtain ⟨tm', k1, k2⟩ := k
  refine ⟨tm', ?_, k2⟩
  cases k1 with
  | run hg h hd k =>
    refine .run ⟨s, hj, .inl ⟨b, hs, by simp [hb]⟩⟩ ?_ hd k
    intro w S a h1 h2 h3 h4 K Q' hK
    exact h w S a h1 h2 h3 (fun t ht => h4 t (by simp only [looks, List.append_nil] at ht ⊢; exact List.mem_append_left _ ht)) K Q' hK
  | pass hg hd k => simp [Wanted] at hg
theorem AM.guard_no {j : Nat} {want b : Bool} {s : Nat} (hj : (all[j]?).bind (·.dst) = some s) (hs : lk tm s = some (.bool b)) (hb : b = !want) (hn : Nat.blt d n = true)
    (k : AM P all n hp rest ((d, .raw undef) :: tm) Q) : AM P all n hp (⟨some d, op, ty, pos, af, some (j, want)⟩ :: rest) tm Q := by
  obtain ⟨tm', k1, k2⟩ := k
  refine ⟨tm', .pass ⟨s, hj, .inl ⟨b, hs, ?_⟩⟩ (fun d' hd => ?_) (by rw [lk_cons] at k1; exact k1), k2⟩
  · rw [hb]; cases want <;> rfl
  · obtain rfl := Option.some.inj hd
    simpa using hn
/-- The operation that a guard asks about was itself passed over. -/
theorem AM.guard_und {j : Nat} {want : Bool} {s : Nat} (hj : (all[j]?).bind (·.dst) = some s) (hs : lk tm s = some (.raw undef)) (hn : Nat.blt d n = true)
    (k : AM P all n hp rest ((d, .raw undef) :: tm) Q) : AM P all n hp (⟨some d, op, ty, pos, af, some (j, want)⟩ :: rest) tm Q := by
  obtain ⟨tm', k1, k2⟩ := k
  refine ⟨tm', .pass ⟨s, hj, .inr ⟨hs, rfl⟩⟩ (fun d' hd => ?_) (by rw [lk_cons] at k1; exact k1), k2⟩
  obtain rfl := Option.some.inj hd
  simpa using hn
theorem AM.lit {l : List Oper} {s : Nat} {b c : Bool} (hs : lk tm s = some (.bool b)) (hb : b = c) (k : AM P all n hp l ((s, .bool c) :: tm) Q) : AM P all n hp l tm Q := by
  subst hb
  obtain ⟨tm', k1, k2⟩ := k
  have : lk ((s, .bool b) :: tm) = lk tm := by
    rw [lk_cons]
    funext t
    simp only [eput]
    split
    · rename_i h; subst h; exact hs.symm
    · rfl
  rw [this] at k1
  exact ⟨tm', k1, k2⟩
theorem AM.guard {j s : Nat} {want b : Bool} (hj : (all[j]?).bind (·.dst) = some s) (hs : lk tm s = some (.bool b)) (hn : Nat.blt d n = true) (h1 : b = want → AM P all n hp (⟨some d, op, ty, pos, af, none⟩ :: rest) ((s, .bool want) :: tm) Q)
    (h2 : b = !want → AM P all n hp rest ((d, .raw undef) :: (s, .bool (!want)) :: tm) Q) : AM P all n hp (⟨some d, op, ty, pos, af, some (j, want)⟩ :: rest) tm Q := by
  by_cases hb : b = want
  · exact AM.lit hs hb (AM.guard_yes hj (by simp [lk]) rfl (h1 hb))
  · have hb' : b = !want := by cases b <;> cases want <;> simp_all
    exact AM.lit hs hb' (AM.guard_no hj (b := !want) (by simp [lk]) rfl hn (h2 hb'))
theorem AM.guard_dt {j s : Nat} {p : Prop} [Decidable p] (hj : (all[j]?).bind (·.dst) = some s) (hs : lk tm s = some (.bool (decide p))) (hn : Nat.blt d n = true) (h1 : p → AM P all n hp (⟨some d, op, ty, pos, af, none⟩ :: rest) ((s, .bool true) :: tm) Q)
    (h2 : ¬ p → AM P all n hp rest ((d, .raw undef) :: (s, .bool false) :: tm) Q) : AM P all n hp (⟨some d, op, ty, pos, af, some (j, true)⟩ :: rest) tm Q :=
  AM.guard hj hs hn (fun h => h1 (of_decide_eq_true h)) (fun h => h2 (of_decide_eq_false h))
theorem AM.guard_df {j s : Nat} {p : Prop} [Decidable p] (hj : (all[j]?).bind (·.dst) = some s) (hs : lk tm s = some (.bool (decide p))) (hn : Nat.blt d n = true) (h1 : ¬ p → AM P all n hp (⟨some d, op, ty, pos, af, none⟩ :: rest) ((s, .bool false) :: tm) Q)
    (h2 : p → AM P all n hp rest ((d, .raw undef) :: (s, .bool true) :: tm) Q) : AM P all n hp (⟨some d, op, ty, pos, af, some (j, false)⟩ :: rest) tm Q :=
  AM.guard hj hs hn (fun h => h1 (of_decide_eq_false h)) (fun h => h2 (of_decide_eq_true h))

/-- A call whose result is told. -/
theorem AM.callp {f : FuncId} {args : List Operand} {ts : Array TypeId} {l l' : List AV} {R : AV} [IsFn P f] (hl : evL (rst (looks all ⟨some d, .call { callee := .value (.func f), args := args.toArray, argTypes := ts }, ty, pos, af, none⟩) tm) args = some l) (c : Pu P f l' R) (co : CoL hp l l') (hn : Nat.blt d n = true)
    (k : AM P all n hp rest ((d, R) :: tm) Q) : AM P all n hp (⟨some d, .call { callee := .value (.func f), args := args.toArray, argTypes := ts }, ty, pos, af, none⟩ :: rest) tm Q := by
  refine AM.mv (fun w S a h1 h2 h3 h4 K Q' hK => ?_) hn k
  have r := strel_rst h1 h2 h3 h4
  show Oper.upon P _ a K Q' _
  rw [run_exec_call]
  obtain ⟨g1, g2⟩ := evL_vals r hl
  obtain ⟨g3, g4⟩ := CoL.at r.hp co g1 g2
  refine (c w S _ (hrel_nil h3.slt h3.glob) (by simpa using g3) g4).mono ?_
  rintro e w' ⟨v, rr, h', S', rfl, rfl, k3, k4, k5⟩
  exact hK v w' S' ⟨k5.toExt, fun m hm => (k5.keep m hm).1, fun m hm hs => (k5.other m hm (fun ⟨x, hx, _⟩ => by simp at hx)).2 hs, k4.slt⟩ k3

/-- A slice literal, as data. -/
theorem AM.buildSliceL {t e : TypeId} {i : TypeInfo} {z : Value} {len sz : Nat} {parts : List (Nat × Operand)} {xs : List AV} [TUnder P t (.slice e)] [TInfo P e i] [TSz P e sz] (hz : i.zero = some z)
    (hl : evS (rst (looks all ⟨some d, .buildSlice t len parts.toArray, ty, pos, af, none⟩) tm) parts 0 = some xs) (hlen : Nat.beq parts.length len = true) (hel : allEl i.size xs = true) (h24 : Nat.ble (len * i.size) 16777216 = true) (hn : Nat.blt d n = true)
    (k : AM P all n hp rest ((d, .list sz xs) :: tm) Q) : AM P all n hp (⟨some d, .buildSlice t len parts.toArray, ty, pos, af, none⟩ :: rest) tm Q := by
  obtain ⟨i', hi1, hi2⟩ := TSz.h (P := P) (t := e)
  obtain rfl : i' = i := by rw [TInfo.h (P := P) (t := e)] at hi1; exact (Option.some.inj hi1).symm
  subst hi2
  refine AM.mv (fun w S a h1 h2 h3 h4 K Q' hK => ?_) hn k
  have r := strel_rst h1 h2 h3 h4
  obtain rfl : parts.length = len := Nat.eq_of_beq_eq_true hlen
  have h24 := Nat.le_of_ble_eq_true h24
  obtain ⟨zz, hzz⟩ : ∃ zz : Array Value, zz = if parts.length * i'.size = 0 then #[] else z.cells := ⟨_, rfl⟩
  obtain ⟨vs, g1, g2, g3, g4⟩ := fill_seq r i'.size parts 0 xs ((Array.range (parts.length * i'.size)).map (zz[· % zz.size]!)) hl (allEl_spec hel) (by simp)
  simp only [Nat.zero_mul, List.take_zero, List.nil_append] at g1
  have e0 := Ext.alloc w (.cells vs.toArray e)
  have hrun : (execOp a.eval ⟨some d, .buildSlice t parts.length parts.toArray, ty, pos, af, none⟩).run P w = .ok (.value (.slice (some ⟨w.heap.size, 0, none⟩) parts.length parts.length)) (w.alloc (.cells vs.toArray e)) := by
    have hm : ((parts.toArray.map fun p => (p.1, a.eval p.2))).toList = parts.map fun p => (p.1, a.eval p.2) := by simp
    simp only [execOp, Instr.buildSlice, Sem.run_bind, run_underlying (TUnder.h (P := P) (t := t)), Result.andThen_ok, sizeOf, typeInfo, run_program, TInfo.h (P := P) (t := e), Sem.run_pure]
    rw [if_neg (by omega)]
    by_cases h0 : parts.length * i'.size = 0
    · rw [if_pos h0] at hzz ⊢
      subst hzz
      simp only [Sem.run_bind, Result.andThen_ok, Sem.run_pure, hm, g1, run_newRow]
    · rw [if_neg h0] at hzz ⊢
      subst hzz
      simp only [Sem.run_bind, Result.andThen_ok, Sem.run_pure, zeroValue, typeInfo, run_program, TInfo.h (P := P) (t := e), hz, hm, g1, run_newRow]
  show Oper.upon P _ a K Q' _
  rw [hrun]
  have hnew : (w.alloc (.cells vs.toArray e)).heap[w.heap.size]? = some (.cells vs.toArray e (0, 0)) := by
    show (w.heap.push _)[w.heap.size]? = _
    simp
  refine hK _ _ (fun m => S m ∨ m = w.heap.size) ⟨e0, fun m hm => .inl hm, fun m hm hs => hs.elim id (fun h => by omega), fun m hm => ?_⟩ ?_
  · rcases hm with hm | hm
    · exact Nat.lt_of_lt_of_le (h3.slt m hm) e0.size
    · subst hm; simp
  · have := At.list (w := w.alloc (.cells vs.toArray e)) (S := fun m => S m ∨ m = w.heap.size) i'.size xs (some ⟨w.heap.size, 0, none⟩) parts.length vs (allEl_spec hel) (by rw [flat_length (allEl_spec hel), g2]) (fun j c u hc hu => ?_) (fun j u hu => ?_) (by omega)
    · rw [g3] at this; exact this
    · exact (g4 j c u hc (by simpa using hu)).mono fun m hm => ⟨.inl hm, e0.same m (h3.slt m hm)⟩
    · refine ⟨_, rfl, rfl, .inr rfl, ?_⟩
      rw [cell_at hnew]
      simpa using hu
end rules

def splO : Nat → List Oper → Option (List Oper × List Oper)
  | 0, l => some ([], l)
  | m + 1, o :: l => match splO m l with
    | some (a, b) => some (o :: a, b)
    | none => none
  | _ + 1, [] => none
theorem splO_spec : ∀ {m : Nat} {l a b : List Oper}, splO m l = some (a, b) → l = a ++ b ∧ a.length = m
  | 0, l, a, b, h => by simp [splO] at h; obtain ⟨rfl, rfl⟩ := h; exact ⟨rfl, rfl⟩
  | m + 1, [], a, b, h => by simp [splO] at h
  | m + 1, o :: l, a, b, h => by
    simp only [splO] at h
    split at h
    · rename_i a' b' h'
      simp only [Option.some.injEq, Prod.mk.injEq] at h
      obtain ⟨rfl, rfl⟩ := h
      obtain ⟨h1, h2⟩ := splO_spec h'
      exact ⟨by rw [h1]; rfl, by simp [h2]⟩
    · cases h

theorem ATodo.regionM {P : Program} {R : St → Prop} {k : List It} {id n : Nat} {tm : List (Nat × AV)} {hp : Heap} {l hd tl : List Oper} (m : Nat) (hm : P.follows .mixedOrders = true) (hs : splO m l = some (hd, tl)) {A : List Nat} (hA : ancs l.toArray = A) (hB0 : monoB l.toArray m A = true)
    (h : AM P l.toArray n hp hd tm (fun tm' => ARun P l.toArray tl ⟨n, tm', hp⟩ (ATodo P R k))) : ATodo P R (.code (.region id l.toArray true) :: k) ⟨n, tm, hp⟩ := by
  have hB : MonoB l.toArray m := ⟨A, hA, hB0⟩
  intro w S a r
  obtain ⟨hl, hml⟩ := splO_spec hs
  obtain ⟨tm', hA, hrun⟩ := h
  obtain ⟨avs, en, e0, e1, e2⟩ := hA.unroll
  have hsz : m ≤ l.toArray.size := by simp [hl, hml]
  refine wp_region_any hm ?_
  have hdraw : Ext w { w with drawn := w.drawn + 1 } := Ext.draws w _ (Nat.le_succ _)
  have g0 : Grow w S { w with drawn := w.drawn + 1 } S := ⟨hdraw, fun _ h => h, fun _ _ h => h, fun n hn => r.hp.slt n hn⟩
  have hc0 : ∀ k, cur l.toArray avs (lk tm) (Array.replicate l.toArray.size false) k = lk tm := by
    intro k
    induction k with
    | zero => rfl
    | succ k ih =>
      simp only [cur, ih]
      rw [if_neg]
      rcases Nat.lt_or_ge k l.toArray.size with h | h
      · simp at h; simp [h]
      · simp at h; simp [Nat.not_lt.2 h]
  have hf : ∀ k, (Array.replicate l.toArray.size false).getD k false = false := by
    intro k
    rcases Nat.lt_or_ge k l.toArray.size with h | h
    · simp at h; simp [h]
    · simp at h; simp [Nat.not_lt.2 h]
  refine any_head (P := P) (all := l.toArray) (n := n) (m := m) (hp := hp) (avs := avs) (en := en) (e := lk tm) hB hsz e0 (fun i o hi ho => e2 i o ?_) (w0 := w) (S0 := S) (fun a' w' S' h1 h2 h3 h4 h5 => ?_) l.toArray.size (Array.replicate l.toArray.size false) a _ S
    ⟨by simp, (fun k hk => by rw [hf k] at hk; cases hk), (fun k i o hk => by rw [hf k] at hk; cases hk)⟩ (by simp [List.count_replicate]) r.size r.defers (r.hp.ext hdraw) g0 (by rw [hc0]; exact (r.ext hdraw).tm)
  · have : l[i]? = some o := by simpa using ho
    rw [hl, List.getElem?_append_left (by omega)] at this
    exact this
  · have htl : l.toArray.toList.drop m = tl := by
      simp only [hl, ← hml]
      exact List.drop_left
    rw [htl]
    have hmm : en m = lk tm' := by rw [← hml]; exact e1
    rw [hmm] at h5
    refine wpList_mono ?_ _ _ _ (hrun.go (h := hp) (w := w) (S := S) ⟨h1, h2, h5, h3⟩ (h4.evo r.hp.slt hp))
    rintro ex a2 w2 ⟨rfl, σ2, S2, q1, q2, q3⟩
    exact ⟨σ2, S2, q1, q2, q3⟩

end Go.Eng

/- The engine, part 15: which operation stands next in a region that draws its order. No program in sight. Written by a program. -/
set_option linter.unusedVariables false
set_option linter.unusedSectionVars false
namespace Go.Eng
open Go
variable [GTab]
section
variable {P : Program} {all : Array Oper} {rest : List Oper} {n : Nat} {hp : Heap} {tm : List (Nat × AV)} {Q : List (Nat × AV) → Prop} {dd : Option Nat} {ty : TypeId} {pos : String} {af : Array Edge}
end
end Go.Eng

/- The engine, part 16: plain computations that stand for code: bind, tests, loops, joins; rules over typed lists. No program in sight. -/
set_option linter.unusedVariables false
set_option linter.unusedSectionVars false
namespace Go.Eng
open Go
variable [GTab]

/-! ### plain computations -/
theorem bnd {α β : Type} {o : Option α} {f : α → Option β} {r : β} (h : o.bind f = some r) : ∃ v, o = some v ∧ f v = some r := by
  cases o with
  | none => cases h
  | some v => exact ⟨v, rfl, h⟩
theorem iteT {α : Type} {p : Prop} [Decidable p] {a b x : α} (hp : p) (h : (if p then a else b) = x) : a = x := by rw [if_pos hp] at h; exact h
theorem iteF {α : Type} {p : Prop} [Decidable p] {a b x : α} (hp : ¬ p) (h : (if p then a else b) = x) : b = x := by rw [if_neg hp] at h; exact h
theorem iteFb {α : Type} {p : Bool} {a b x : α} (hp : p = false) (h : (if p = true then a else b) = x) : b = x := by rw [if_neg (by simp [hp])] at h; exact h

def iterN {X A : Type} (f : X → Option (X ⊕ A)) : Nat → X → Option A
  | 0, _ => none
  | n + 1, x => match f x with
    | none => none
    | some (.inl y) => iterN f n y
    | some (.inr a) => some a

theorem iterN_up {X A : Type} {f : X → Option (X ⊕ A)} {a : A} : ∀ {n : Nat} {x : X}, iterN f n x = some a → iterN f (n + 1) x = some a
  | 0, x, h => by cases h
  | n + 1, x, h => by
    unfold iterN at h ⊢
    split at h
    · cases h
    · exact iterN_up h
    · exact h
theorem iterN_le {X A : Type} {f : X → Option (X ⊕ A)} {a : A} {x : X} {n : Nat} (h : iterN f n x = some a) : ∀ m, iterN f (n + m) x = some a
  | 0 => h
  | m + 1 => iterN_up (iterN_le h m)
theorem iterN_one {X A : Type} {f : X → Option (X ⊕ A)} {a b : A} {x : X} {n m : Nat} (h : iterN f n x = some a) (k : iterN f m x = some b) : a = b := by
  have h1 := iterN_le h m
  have h2 := iterN_le k n
  rw [Nat.add_comm] at h2
  rw [h1] at h2
  exact Option.some.inj h2

open Classical in
/-- The answer of a loop: a step goes on with another state, or ends with an answer. -/
noncomputable def iter {X A : Type} (f : X → Option (X ⊕ A)) (x : X) : Option A :=
  if h : ∃ a n, iterN f n x = some a then some h.choose else none

theorem iter_some {X A : Type} {f : X → Option (X ⊕ A)} {x : X} {a : A} : iter f x = some a ↔ ∃ n, iterN f n x = some a := by
  unfold iter
  constructor
  · intro h
    split at h
    · rename_i hx
      obtain ⟨n, hn⟩ := hx.choose_spec
      exact ⟨n, by rw [hn]; exact h⟩
    · cases h
  · rintro ⟨n, hn⟩
    have hx : ∃ a n, iterN f n x = some a := ⟨a, n, hn⟩
    rw [dif_pos hx]
    obtain ⟨m, hm⟩ := hx.choose_spec
    rw [iterN_one hm hn]

def after {X A : Type} (k : X → Option A) : X ⊕ A → Option A
  | .inl y => k y
  | .inr a => some a

theorem iter_eq {X A : Type} (f : X → Option (X ⊕ A)) (x : X) : iter f x = (f x).bind (after (iter f)) := by
  apply Option.ext
  intro a
  rw [iter_some]
  constructor
  · rintro ⟨n, hn⟩
    match n with
    | 0 => cases hn
    | n + 1 =>
      unfold iterN at hn
      split at hn
      · cases hn
      · rename_i y hy; rw [hy]; exact iter_some.2 ⟨n, hn⟩
      · rename_i b hb; rw [hb]; exact hn
  · intro h
    obtain ⟨s, hs, h⟩ := bnd h
    cases s with
    | inl y =>
      obtain ⟨n, hn⟩ := iter_some.1 h
      exact ⟨n + 1, by unfold iterN; rw [hs]; exact hn⟩
    | inr b => exact ⟨1, by unfold iterN; rw [hs]; exact h⟩

theorem outL {X A : Type} {o : Option A} {s : X ⊕ A} {a : A} (h : o.map .inr = some s) (hA : ∀ a', s = .inr a' → a' = a) : o = some a := by
  cases o with
  | none => cases h
  | some b =>
    have := Option.some.inj h
    rw [hA b this.symm]

@[simp] theorem after_inl {X A : Type} (k : X → Option A) (y : X) : after k (.inl y) = k y := rfl
@[simp] theorem after_inr {X A : Type} (k : X → Option A) (a : A) : after k (.inr a) = some a := rfl
theorem map_inr_after {X A : Type} (o : Option A) (k : X → Option A) : (o.map Sum.inr).bind (after k) = o := by cases o <;> rfl

/-! ### operations that may fail, on lists -/
def idx {α : Type} (xs : List α) (i : Int) : Option α := if 0 ≤ i then xs[i.toNat]? else none
def app {α : Type} (xs ys : List α) : Option (List α) := if xs.length + ys.length ≤ 1000000000 then some (xs ++ ys) else none
def slc {α : Type} (xs : List α) (l h : Int) : Option (List α) := if 0 ≤ l ∧ l ≤ h ∧ h ≤ xs.length then some ((xs.drop l.toNat).take (h.toNat - l.toNat)) else none
abbrev w64 (i : Int) : Int := IntKind.i64.wrap i
def quo (a b : Int) : Option Int := if b = 0 then none else some (w64 (a.tdiv b))
def rem (a b : Int) : Option Int := if b = 0 then none else some (a.tmod b)

theorem idx_getI {α : Type} {e : α → AV} {xs : List α} {i : Int} {x : α} (h : idx xs i = some x) : getI (xs.map e) i = some (e x) := by
  unfold idx at h; unfold getI
  split at h
  · rename_i h0; rw [if_pos h0, List.getElem?_map, h]; rfl
  · cases h
theorem idx_some {α : Type} {xs : List α} {i : Int} {x : α} (h : idx xs i = some x) : 0 ≤ i ∧ i < xs.length ∧ xs[i.toNat]? = some x := by
  unfold idx at h
  split at h
  · rename_i h0
    have := (List.getElem?_eq_some_iff.1 h).1
    exact ⟨h0, by omega, h⟩
  · cases h
theorem app_some {α : Type} {xs ys zs : List α} (h : app xs ys = some zs) : xs.length + ys.length ≤ 1000000000 ∧ zs = xs ++ ys := by
  unfold app at h
  split at h
  · exact ⟨by assumption, (Option.some.inj h).symm⟩
  · cases h
theorem slc_some {α : Type} {xs zs : List α} {l h : Int} (hh : slc xs l h = some zs) : (0 ≤ l ∧ l ≤ h ∧ h ≤ xs.length) ∧ zs = (xs.drop l.toNat).take (h.toNat - l.toNat) := by
  unfold slc at hh
  split at hh
  · exact ⟨by assumption, (Option.some.inj hh).symm⟩
  · cases hh
theorem quo_some {a b c : Int} (h : quo a b = some c) : b ≠ 0 ∧ c = w64 (a.tdiv b) := by
  unfold quo at h
  split at h
  · cases h
  · exact ⟨by assumption, (Option.some.inj h).symm⟩
theorem rem_some {a b c : Int} (h : rem a b = some c) : b ≠ 0 ∧ c = a.tmod b := by
  unfold rem at h
  split at h
  · cases h
  · exact ⟨by assumption, (Option.some.inj h).symm⟩

/-! ### joins and loops -/
section
variable {P : Program} {R : St → Prop} {k : List It} {σ : St}
theorem ATodo.cut {c : Code} (I : St → Prop) (h : ATodo P R (.code c :: .stop (fun σ' => ImpX σ' I) :: k) σ) (hk : ∀ σ', I σ' → ATodo P R k σ') : ATodo P R (.code c :: k) σ := by
  intro w S a r
  refine wp_mono (h w S a r) ?_
  rintro e a' w' ⟨σ', S', h1, h2, h3⟩
  cases e with
  | normal =>
    obtain ⟨σ'', S'', hI, hr, he⟩ := h1 w' S' a' h2
    exact ⟨σ'', S'', hk σ'' hI, hr, h3.trans he⟩
  | exit id => exact ⟨σ', S', h1, h2, h3⟩
  | goto l => exact ⟨σ', S', h1, h2, h3⟩
  | ret => exact ⟨σ', S', h1, h2, h3⟩
  | panic c => exact ⟨σ', S', h1, h2, h3⟩
  | outgrown => exact ⟨σ', S', h1, h2, h3⟩

theorem ATodo.loopI {body : Code} {X A : Type} (f : X → Option (X ⊕ A)) (mk : X → St → Prop) {a : A} {x0 : X} (h : iter f x0 = some a) (h0 : ImpX σ (mk x0))
    (hs : ∀ x s σ (J : St → Prop), mk x σ → f x = some s → (∀ y σ', s = .inl y → ImpX σ' (mk y) → J σ') → (∀ a', s = .inr a' → a' = a) → ATodo P R (.code body :: .stop J :: k) σ) :
    ATodo P R (.code (.loop body) :: k) σ := by
  obtain ⟨m, hm⟩ := iter_some.1 h
  refine ATodo.loopx (fun m σ => ∃ x, iterN f m x = some a ∧ mk x σ) m (h0.mono fun σ' hσ => ⟨x0, hm, hσ⟩) ?_
  rintro m σ1 ⟨x, hx, hmk⟩
  match m with
  | 0 => cases hx
  | m + 1 =>
    unfold iterN at hx
    split at hx
    · cases hx
    · rename_i y hy
      refine hs x _ σ1 _ hmk hy (fun y' σ' e hi => ⟨m, by omega, hi.mono fun σ'' hk => ⟨y', ?_, hk⟩⟩) (fun a' e => by cases e)
      have := Sum.inl.inj e
      rw [← this]; exact hx
    · rename_i b hb
      refine hs x _ σ1 _ hmk hb (fun y' σ' e _ => by cases e) (fun a' e => ?_)
      rw [← Sum.inr.inj e]; exact Option.some.inj hx
end

/-! ### calls over a part of the heap -/
inductive Sel : Heap → Heap → Heap → Prop
  | nil {h : Heap} : Sel h [] h
  | cons {h h1 t r : Heap} {b : Bk} {o : Ob} (u : Del h b o h1) (k : Sel h1 t r) : Sel h ((b, o) :: t) r
theorem Sel.perm {h t r : Heap} (s : Sel h t r) : h.Perm (t ++ r) := by
  induction s with
  | nil => exact List.Perm.refl _
  | cons u k ih => exact u.perm.trans (List.Perm.cons _ ih)

section rules
variable {P : Program} {all : Array Oper} {rest : List Oper} {n : Nat} {tm : List (Nat × AV)} {hp : Heap} {Q : St → Prop} {d : Nat} {ty : TypeId} {pos : String} {af : Array Edge}

theorem t_call {f : FuncId} {args : List Operand} {ts : Array TypeId} {l l' : List AV} {h0 hr : Heap} {Qc : AV → Heap → Prop} [IsFn P f] (hl : evL tm args = some l) (c : ACall P f l' h0 Qc) (co : CoL hp l l') (hs : Sel hp h0 hr) (hn : Nat.blt d n = true)
    (kk : ∀ r h', Qc r h' → ARun P all rest ⟨n, (d, r) :: tm, h' ++ hr⟩ Q) : ARun P all (⟨some d, .call { callee := .value (.func f), args := args.toArray, argTypes := ts }, ty, pos, af, none⟩ :: rest) ⟨n, tm, hp⟩ Q :=
  r_call hl c co hs.perm hn kk
theorem t_callv {f : FuncId} {x : Operand} {args : List Operand} {ts : Array TypeId} {caps l l' lc : List AV} {h0 hr : Heap} {Qc : AV → Heap → Prop} [IsFn P f] (hx : evA tm x = some (.func (.func f) caps)) (hl : evL tm args = some l) (hlc : normL (l ++ caps) = some lc) (c : ACall P f l' h0 Qc) (co : CoL hp lc l') (hs : Sel hp h0 hr) (hn : Nat.blt d n = true)
    (kk : ∀ r h', Qc r h' → ARun P all rest ⟨n, (d, r) :: tm, h' ++ hr⟩ Q) : ARun P all (⟨some d, .call { callee := .value x, args := args.toArray, argTypes := ts }, ty, pos, af, none⟩ :: rest) ⟨n, tm, hp⟩ Q :=
  r_callv hx hl c (by rw [normL_eq hlc]; exact co) hs.perm hn kk

/-! ### typed lists -/
theorem t_index {α : Type} {g : α → AV} {Xs : List α} {el : α} {t e : TypeId} {i : TypeInfo} {x y : Operand} {k : IntKind} {j : Int} {cs : List AV} {sz : Nat} [TUnder P t (.slice e)] [TInfo P e i] (hx : evA tm x = some (.list sz (Xs.map g))) (hsz : Nat.beq i.size sz = true) (hy : evA tm y = some (.int k j))
    (hv : idx Xs j = some el) (h0 : Nat.blt 0 sz = true) (hc : normL (g el).cells = some cs) : QV P ⟨some d, .indexAddr t x y, ty, pos, af, none⟩ ⟨n, tm, hp⟩ (.rptr cs) := by
  rw [← normL_eq hc]
  exact q_index_list hx hsz hy (idx_getI hv) h0
theorem t_len {α : Type} {g : α → AV} {Xs : List α} {x : Operand} {t e : TypeId} {sz : Nat} [TUnder P t (.slice e)] (hx : evA tm x = some (.list sz (Xs.map g))) : QV P ⟨some d, .call { callee := .builtin .len, args := #[x], argTypes := #[t] }, ty, pos, af, none⟩ ⟨n, tm, hp⟩ (.int .i64 (Xs.length : Nat)) := by
  have h := q_len_list (P := P) (d := d) (ty := ty) (pos := pos) (af := af) (n := n) (tm := tm) (hp := hp) (t := t) (e := e) hx
  rw [List.length_map] at h
  exact h
theorem t_quo {k : IntKind} {xt yt : TypeId} {x y : Operand} {i j : Int} (hx : evA tm x = some (.int k i)) (hy : evA tm y = some (.int k j)) (h0 : j ≠ 0) : QV P ⟨some d, .binOp .quo xt x y yt, ty, pos, af, none⟩ ⟨n, tm, hp⟩ (.int k (k.wrap (i.tdiv j))) :=
  q_bin hx hy (v := .int k (k.wrap (i.tdiv j))) (fun w => by simp [binOp, Op.intDiv, h0]) (fun w S => .int _ _)
theorem t_quoS {xt yt : TypeId} {x y : Operand} {i j r : Int} (hx : evA tm x = some (.int .i64 i)) (hy : evA tm y = some (.int .i64 j)) (h : quo i j = some r) : QV P ⟨some d, .binOp .quo xt x y yt, ty, pos, af, none⟩ ⟨n, tm, hp⟩ (.int .i64 r) := by
  obtain ⟨h0, rfl⟩ := quo_some h
  exact t_quo hx hy h0
theorem t_remS {k : IntKind} {xt yt : TypeId} {x y : Operand} {i j r : Int} (hx : evA tm x = some (.int k i)) (hy : evA tm y = some (.int k j)) (h : rem i j = some r) : QV P ⟨some d, .binOp .rem xt x y yt, ty, pos, af, none⟩ ⟨n, tm, hp⟩ (.int k r) := by
  obtain ⟨h0, rfl⟩ := rem_some h
  exact q_rem hx hy h0
theorem t_index_str {x y : Operand} {t : TypeId} {s : List UInt8} {k : IntKind} {i : Int} {c : UInt8} [TUnder P t .string] (hx : evA tm x = some (.str s)) (hy : evA tm y = some (.int k i)) (hc : idx s i = some c) : QV P ⟨some d, .index t x y, ty, pos, af, none⟩ ⟨n, tm, hp⟩ (.int .u8 (c.toNat : Int)) :=
  let ⟨h0, _, h⟩ := idx_some hc
  q_index_str hx hy h0 h

theorem t_append {α : Type} {g : α → AV} {Xs Ys Zs : List α} {t e : TypeId} {i : TypeInfo} {z : Value} {x y : Operand} {src : AV} {b : Bk} {len sz : Nat} {hp' : Bk → Heap} [TUnder P t (.slice e)] [TInfo P e i] (hx : evA tm x = some (.sl sz b 0 len)) (hy : evA tm y = some src) (hz : i.zero = some z)
    (hzs : Nat.beq z.cells.size i.size = true) (hsz : Nat.beq i.size sz = true) (h0 : Nat.blt 0 sz = true) (hn : Nat.blt d n = true) (hby : Nat.ble i.bytes 65536 = true) (hs : Src hp sz src (Ys.map g)) (hv : app Xs Ys = some Zs) (u : ∀ b', Upd hp b (.arr sz (Xs.map g)) b' (.arr sz (Zs.map g)) (hp' b')) (hlen : len = Xs.length)
    (kk : ∀ b' : Bk, ARun P all rest ⟨n, (d, .sl sz b' 0 Zs.length) :: tm, hp' b'⟩ Q) : ARun P all (⟨some d, .call { callee := .builtin .append, args := #[x, y], argTypes := #[t, t] }, ty, pos, af, none⟩ :: rest) ⟨n, tm, hp⟩ Q := by
  obtain ⟨hb, rfl⟩ := app_some hv
  subst hlen
  refine r_append2 (xs := Xs.map g) (ys := Ys.map g) (hp' := hp') hx hy hz hzs hsz h0 hn hby hs (by simpa using u) (by simp) (by simpa using hb) (fun b' => ?_)
  have := kk b'
  simpa using this
end rules

end Go.Eng

