/- The engine, part 25: bytes and strings. No program in sight. -/
import Derived.Test.YtbcbhhbbejcnnaaEng24
import Derived.Laws.BytesArg
set_option linter.unusedVariables false
namespace Go.Eng
open Go
/-- How deep a function that calls itself is followed. -/
def depth : Nat := 100000
/-- The string of some bytes. -/
def strB (l : List Int) : Str := l.map (fun n => UInt8.ofNat n.toNat)
theorem flat_u8 : ∀ l : List Int, flat (l.map (AV.int .u8)) = l.map (AV.int .u8)
  | [] => rfl
  | x :: l => by
    show (AV.int .u8 x).cells ++ flat (l.map (AV.int .u8)) = _
    rw [flat_u8 l]; rfl
section rules
variable {P : Program} {all : Array Oper} {rest : List Oper} {n : Nat} {tm : List (Nat × AV)} {hp : Heap} {Q : St → Prop} {d : Nat} {ty : TypeId} {pos : String} {af : Array Edge}
theorem q_conv_bs {src dst e : TypeId} {x : Operand} {av : AV} {l : List Int} [TUnder P src (.slice e)] [TUnder P e (.int .u8)] [TUnder P dst .string] (hx : evA tm x = some av) (co : CoB hp av (.list 1 (l.map (AV.int .u8)))) : QV P ⟨some d, .convert src dst x, ty, pos, af, none⟩ ⟨n, tm, hp⟩ (.str (strB l)) := by
  intro w S a r
  obtain ⟨v, hv, hat⟩ : ∃ v, a.eval x = v ∧ At w S av v := ⟨_, rfl, evA_at (σ := ⟨n, tm, hp⟩) r hx⟩
  obtain ⟨oa, cap, vs, e1, e2, e3, e4, e5, e6⟩ := (co.at r.hp hat).list_inv
  rw [flat_u8] at e3 e4
  have hvs : vs = l.map (Value.int .u8) := by
    apply List.ext_getElem?
    intro i
    rcases Nat.lt_or_ge i vs.length with h | h
    · have hl : i < l.length := by simpa [← e3] using h
      have := e4 i (.int .u8 l[i]) vs[i] (by simp [hl]) (by simp [h])
      have := this.int_inv
      simp [h, hl, this]
    · have hl : l.length ≤ i := by simpa [← e3] using h
      simp [h, hl]
  refine ⟨.string ⟨(strB l).toArray⟩, fun w1 ex => ?_, .str _⟩
  have hconv : (convert src dst (.slice oa l.length cap)).run P w1 = .ok (.string ⟨(strB l).toArray⟩) w1 := by
    cases l with
    | nil =>
      cases oa with
      | none => rw [run_convert_bytes_nil w1 src e TUnder.h TUnder.h _ _ dst TUnder.h]; rfl
      | some ad =>
        obtain ⟨b, off, sp⟩ := ad
        rw [run_convert_bytes_string w1 src dst e _ _ _ TUnder.h TUnder.h TUnder.h]
        simp [Conv.bytesToString, loadCells, loadCellsFrom, strB]
        rfl
    | cons y l =>
      obtain ⟨ad, h1, h2, h3, h4⟩ := e5 0 (.int .u8 y) (by rw [hvs]; rfl)
      obtain ⟨b, off, sp⟩ := ad
      obtain rfl : sp = none := h2
      rw [h1]
      exact run_convert_bytes_arg w1 src e TUnder.h TUnder.h b off _ cap (y :: l) rfl (fun i hi => by
        obtain ⟨ad, g1, g2, g3, g4⟩ := e5 i (.int .u8 (y :: l)[i]) (by rw [hvs, List.getElem?_map, List.getElem?_eq_getElem hi]; rfl)
        rw [h1] at g1
        obtain rfl := Option.some.inj g1
        have := ex.cell g4
        rw [this, List.getD, List.getElem?_eq_getElem hi]; rfl) dst TUnder.h
  simp only [List.length_map] at e1
  simp [execOp, hv, e1, hconv]
/-- A call of a function value that looks into what stays ours. -/
theorem r_callvpB {f : FuncId} {x : Operand} {args : List Operand} {ts : Array TypeId} {caps l l' : List AV} {R : AV} [IsFn P f] (hx : evA tm x = some (.func (.func f) caps)) (hl : evL tm args = some l) (c : Pu P f l' R) (co : CoBL hp (l ++ caps) l') (hn : Nat.blt d n = true) (hR : R.noL = true)
    (kk : ARun P all rest ⟨n, (d, R) :: tm, hp⟩ Q) : ARun P all (⟨some d, .call { callee := .value x, args := args.toArray, argTypes := ts }, ty, pos, af, none⟩ :: rest) ⟨n, tm, hp⟩ Q := by
  refine ARun.callx rfl fun w S a r => ?_
  obtain ⟨cv, e1, e2, e3⟩ := (evA_at (σ := ⟨n, tm, hp⟩) r hx).func_inv
  refine ⟨f, _, run_exec_callv a w e1, ?_⟩
  obtain ⟨g1, g2⟩ := evL_vals (σ := ⟨n, tm, hp⟩) r hl
  obtain ⟨g3, g4⟩ := CoBL.at r.hp co (vs := args.map a.eval ++ cv.toList) (by simp [g1, e2]) (AtA_cons g1 g2 (by simpa using e3))
  refine (c w (SB S hp) _ (hrel_nil fun m hm => hm.elim (r.hp.slt m) fun h => r.hp.lt h) (by simpa using g3) g4).mono ?_
  rintro e w' ⟨v, rr, h', S', rfl, hq, h3, h4, h5⟩
  subst hq
  have ex := h5.toExt
  exact ⟨v, S, ⟨n, (d, rr) :: tm, hp⟩, rfl, (r.ext ex).put hn (noL_at h3 hR), Evo.ext r.hp.slt ex, kk⟩
end rules
end Go.Eng
