/- The engine, part 11: stores into arrays; calls of functions whose result is told; results in memory. No program in sight. -/
import Derived.Test.YtbcbhhbbejcnnaaEng10
set_option linter.unusedVariables false
namespace Go.Eng
open Go

theorem flat_set {sz : Nat} {x y : AV} : ∀ {xs : List AV} {q : Nat}, (∀ x ∈ xs, El sz x) → El sz y → xs[q]? = some x → flat (xs.set q y) = (flat xs).take (q * sz) ++ y.cells ++ (flat xs).drop (q * sz + sz)
  | [], q, _, _, h => by simp at h
  | z :: xs, 0, hs, hy, h => by
    have hz := (hs z (by simp)).1
    rw [List.set_cons_zero, flat_cons, flat_cons]
    simp only [Nat.zero_mul, List.take_zero, List.nil_append, Nat.zero_add]
    rw [List.drop_left' hz]
  | z :: xs, q + 1, hs, hy, h => by
    have hz := (hs z (by simp)).1
    simp only [List.getElem?_cons_succ] at h
    rw [List.set_cons_succ, flat_cons, flat_cons, flat_set (fun a ha => hs a (by simp [ha])) hy h]
    have e1 : (q + 1) * sz = sz + q * sz := by rw [Nat.add_mul, Nat.one_mul]; omega
    rw [e1, List.take_append, List.take_of_length_le (l := z.cells) (by omega), hz, Nat.add_sub_cancel_left, List.drop_append, List.drop_of_length_le (l := z.cells) (by omega), hz]
    rw [show sz + q * sz + sz - sz = q * sz + sz from by omega]
    simp [List.append_assoc]

/-- Cells that are replaced in the middle of cells that read as told. -/
theorem AtA_mid {w : World} {S : Nat → Prop} {cs new : List AV} {vs nvs : Array Value} (o : Nat) (hl : cs.length ≤ vs.size) (h : AtA w S cs vs) (hl' : new.length = nvs.size) (h' : AtA w S new nvs) (ho : o + new.length ≤ cs.length) :
    AtA w S (cs.take o ++ new ++ cs.drop (o + new.length)) (vs.toList.take o ++ nvs.toList ++ vs.toList.drop (o + nvs.toList.length)).toArray := by
  intro i c v hc hv
  simp only [List.getElem?_toArray] at hc hv
  have l1 : (cs.take o).length = o := by simp; omega
  have l2 : (vs.toList.take o).length = o := by simp; omega
  have l3 : nvs.toList.length = new.length := by simp [hl']
  rw [List.append_assoc] at hc hv
  by_cases h1 : i < o
  · rw [List.getElem?_append_left (by omega)] at hc hv
    rw [List.getElem?_take, if_pos h1] at hc hv
    exact h i c v hc (by simpa using hv)
  · rw [List.getElem?_append_right (by omega)] at hc hv
    rw [l1] at hc
    rw [l2] at hv
    by_cases h2 : i - o < new.length
    · rw [List.getElem?_append_left (by omega)] at hc hv
      exact h' (i - o) c v hc (by simpa using hv)
    · rw [List.getElem?_append_right (by omega)] at hc hv
      rw [l3] at hv
      rw [List.getElem?_drop] at hc hv
      rw [show o + new.length + (i - o - new.length) = i from by omega] at hc hv
      exact h i c v hc (by simpa using hv)

/-- An element with some of its cells replaced. -/
def setEl (x : AV) (o : Nat) (new : List AV) : AV :=
  match x with
  | .agg cs => .agg (splice cs o new)
  | _ => match new with
    | [v] => v
    | _ => x

section rules
variable {P : Program} {all : Array Oper} {rest : List Oper} {n : Nat} {tm : List (Nat × AV)} {hp : Heap} {Q : St → Prop} {d : Nat} {ty : TypeId} {pos : String} {af : Array Edge}

/-- A store into an element of an array (a struct's cells). -/
theorem r_store_aptr {t : TypeId} {i : TypeInfo} {x y : Operand} {b : Bk} {sz q o : Nat} {xs cs : List AV} {av : AV} {hp' : Heap} [TInfo P t i] (hx : evA tm x = some (.aptr sz b q o)) (hy : evA tm y = some av) (h1 : allOne av.cells = true) (hsz : Nat.beq av.cells.length i.size = true)
    (u : Upd hp b (.arr sz xs) b (.arr sz (xs.set q (.agg (splice cs o av.cells)))) hp') (hq : xs[q]? = some (.agg cs)) (ho : Nat.ble (o + av.cells.length) cs.length = true) (kk : ARun P all rest ⟨n, tm, hp'⟩ Q) : ARun P all (⟨none, .store t x y, ty, pos, af, none⟩ :: rest) ⟨n, tm, hp⟩ Q := by
  refine ARun.act rfl rfl (σ' := ⟨n, tm, hp'⟩) (fun w S a r => ?_) kk
  obtain ⟨m, e1, e2⟩ := (evA_at (σ := ⟨n, tm, hp⟩) r hx).aptr_inv
  obtain ⟨g0, g1, ⟨g2, _⟩ | ⟨m', vs, E, g2, g3, g4, g5⟩⟩ := arr_cells r.hp (.inl u.fnd)
  · rw [g2] at e1; cases e1
  obtain rfl : m' = m := by rw [g2] at e1; exact Option.some.inj e1
  have hv := evA_at (σ := ⟨n, tm, hp⟩) r hy
  obtain ⟨hl, hat⟩ := cells_at hv (allOne_spec h1)
  have h1' := allOne_spec h1
  have hsz := Nat.eq_of_beq_eq_true hsz
  have ho := Nat.le_of_ble_eq_true ho
  clear h1 hv hy
  generalize av.cells = nc at *
  have hle : o + nc.length ≤ cs.length := ho
  have hel := g0 (.agg cs) (List.mem_of_getElem? hq)
  have hcl : cs.length = sz := hel.1
  have hqx : q < xs.length := (List.getElem?_eq_some_iff.1 hq).1
  have hmul : (q + 1) * sz ≤ xs.length * sz := Nat.mul_le_mul_right _ (by omega)
  have hmul2 : xs.length * sz ≤ b.cap * sz := Nat.mul_le_mul_right _ g1
  rw [Nat.add_mul, Nat.one_mul] at hmul
  have hone := one_vals hl hat h1'
  have hst := run_storeCells_at (P := P) m' (q * sz + o) E (a.eval y).cells.toList 0 vs w g3 (by simp; omega) hone
  simp only [Nat.add_zero] at hst
  have hsize : (a.eval y).cells.size = i.size := by rw [← hl]; exact hsz
  have hfl := flat_length g0
  have elnew : El sz (.agg (splice cs o nc)) := by
    refine ⟨by simp [AV.cells, splice]; omega, fun c hc => ?_⟩
    simp only [AV.cells, splice, List.mem_append] at hc
    rcases hc with (hc | hc) | hc
    · exact hel.2 c (List.mem_of_mem_take hc)
    · exact h1' c hc
    · exact hel.2 c (List.mem_of_mem_drop hc)
  have hflat : flat (xs.set q (.agg (splice cs o nc))) = (flat xs).take (q * sz + o) ++ nc ++ (flat xs).drop (q * sz + o + nc.length) := by
    rw [flat_set g0 elnew hq]
    simp only [AV.cells, splice]
    have hcs : cs = ((flat xs).drop (q * sz)).take sz := by
      apply List.ext_getElem?
      intro j
      by_cases hj : j < sz
      · have := flat_get g0 hq j hj
        rw [List.getElem?_take, if_pos hj, List.getElem?_drop, this]
        rfl
      · rw [List.getElem?_eq_none (by omega), List.getElem?_eq_none (by simp; omega)]
    have e1 : cs.take o = ((flat xs).drop (q * sz)).take o := by rw [hcs, List.take_take, Nat.min_eq_left (by omega)]
    have e2 : cs.drop (o + nc.length) = (((flat xs).drop (q * sz + o + nc.length)).take (sz - (o + nc.length))) := by
      rw [hcs, List.drop_take, List.drop_drop]
      rw [show q * sz + (o + nc.length) = q * sz + o + nc.length from by omega]
    rw [e1, e2]
    have e3 : (flat xs).take (q * sz + o) = (flat xs).take (q * sz) ++ ((flat xs).drop (q * sz)).take o := by rw [List.take_add]
    rw [e3]
    have e4 : (flat xs).drop (q * sz + o + nc.length) = ((flat xs).drop (q * sz + o + nc.length)).take (sz - (o + nc.length)) ++ (flat xs).drop (q * sz + sz) := by
      conv => lhs; rw [← List.take_append_drop (sz - (o + nc.length)) ((flat xs).drop (q * sz + o + nc.length))]
      rw [List.drop_drop, show q * sz + o + nc.length + (sz - (o + nc.length)) = q * sz + sz from by omega]
    conv => rhs; rw [e4]
    simp only [List.append_assoc]
  have hmid := fun (w' : World) (ha : AtA w' S (flat xs) vs) (hb : AtA w' S nc (a.eval y).cells) => AtA_mid (q * sz + o) (by rw [hfl, g4]; exact hmul2) ha hl hb (by omega)
  have hsz2 : (vs.toList.take (q * sz + o) ++ (a.eval y).cells.toList ++ vs.toList.drop (q * sz + o + (a.eval y).cells.toList.length)).toArray.size = b.cap * sz := by
    simp; omega
  generalize (vs.toList.take (q * sz + o) ++ (a.eval y).cells.toList ++ vs.toList.drop (q * sz + o + (a.eval y).cells.toList.length)).toArray = vs' at hst hmid hsz2
  have c : GB w (w.setRow m' vs') b.blk := ⟨⟨rfl, rfl, rfl, by simp, fun k hk hne => setRow_other w m' k _ (fun e => hne (by rw [e1, e]))⟩, Nat.le_refl _⟩
  have k1 : ∀ n, S n → S n ∧ (w.setRow m' vs').heap[n]? = w.heap[n]? := by
    intro k hk
    refine ⟨hk, setRow_other w m' k _ (fun e => ?_)⟩
    subst e
    exact (r.hp.sep _ u.fnd.mem k e1).1 hk
  have hh := upd_rel r.hp u c id id ⟨?_, by simpa using g1, .inr ⟨m', vs', E, e1, setRow_heap w m' vs _ E _ g3, hsz2, by rw [hflat]; exact hmid _ (g5.mono k1) (hat.mono k1)⟩⟩ (.inl rfl)
  · refine ⟨w.setRow m' vs', S, ?_, r.heap hh.2.2 hh.1, hh.2.1⟩
    simp [execOp, e2, Instr.storeAt, Instr.sureAddr, storeVar, sizeOf, typeInfo, TInfo.h (P := P) (t := t), hsize, hst]
  · intro z hz
    rcases List.mem_or_eq_of_mem_set hz with h | rfl
    · exact g0 z h
    · exact elnew

theorem CoL.refl (l : List AV) : CoL hp l l := by
  induction l with
  | nil => exact .nil
  | cons a l ih => exact .cons (.refl a) ih
theorem CoBL.refl (l : List AV) : CoBL hp l l := by
  induction l with
  | nil => exact .nil
  | cons a l ih => exact .cons (.co (.refl a)) ih

/-- A function that makes nothing that stays and returns this value. -/
def Pu (P : Program) (f : FuncId) (args : List AV) (R : AV) : Prop := ACall P f args [] (fun r _ => r = R)

theorem r_callp {f : FuncId} {args : List Operand} {ts : Array TypeId} {l l' : List AV} {R : AV} [IsFn P f] (hl : evL tm args = some l) (c : Pu P f l' R) (co : CoL hp l l') (hn : Nat.blt d n = true)
    (kk : ARun P all rest ⟨n, (d, R) :: tm, hp⟩ Q) : ARun P all (⟨some d, .call { callee := .value (.func f), args := args.toArray, argTypes := ts }, ty, pos, af, none⟩ :: rest) ⟨n, tm, hp⟩ Q := by
  refine r_call0 hl c co hn (fun r h' hr => ?_)
  subst hr
  exact ARun.weaken (σ' := ⟨n, (d, r) :: tm, hp⟩) ⟨rfl, fun _ _ h => h, List.sublist_append_right _ _⟩ kk

theorem r_callpB {f : FuncId} {args : List Operand} {ts : Array TypeId} {l l' : List AV} {R : AV} [IsFn P f] (hl : evL tm args = some l) (c : Pu P f l' R) (co : CoBL hp l l') (hn : Nat.blt d n = true) (hR : R.noL = true)
    (kk : ARun P all rest ⟨n, (d, R) :: tm, hp⟩ Q) : ARun P all (⟨some d, .call { callee := .value (.func f), args := args.toArray, argTypes := ts }, ty, pos, af, none⟩ :: rest) ⟨n, tm, hp⟩ Q :=
  r_callB hl c co hn (fun r h' hr => by subst hr; exact ⟨hR, kk⟩)

theorem AQ.callp {f : FuncId} {args : List Operand} {ts : Array TypeId} {l l' : List AV} {R : AV} {V : Value} [IsFn P f] (hl : evL tm args = some l) (c : Pu P f l' R) (co : CoBL hp l l') (hn : Nat.blt d n = true) (hV : exV R = some V)
    (k : AQ P all rest ⟨n, (d, R) :: tm, hp⟩ Q) : AQ P all (⟨some d, .call { callee := .value (.func f), args := args.toArray, argTypes := ts }, ty, pos, af, none⟩ :: rest) ⟨n, tm, hp⟩ Q :=
  AQ.call hl c co hn (fun r h' hr => hr) hV k

/-- A call of a function value with no part of our heap. -/
theorem r_callvp {f : FuncId} {x : Operand} {args : List Operand} {ts : Array TypeId} {caps l l' : List AV} {R : AV} [IsFn P f] (hx : evA tm x = some (.func (.func f) caps)) (hl : evL tm args = some l) (c : Pu P f l' R) (co : CoL hp (l ++ caps) l') (hn : Nat.blt d n = true)
    (kk : ARun P all rest ⟨n, (d, R) :: tm, hp⟩ Q) : ARun P all (⟨some d, .call { callee := .value x, args := args.toArray, argTypes := ts }, ty, pos, af, none⟩ :: rest) ⟨n, tm, hp⟩ Q := by
  refine r_callv hx hl c co (List.Perm.refl _) hn (fun r h' hr => ?_)
  subst hr
  exact ARun.weaken (σ' := ⟨n, (d, r) :: tm, hp⟩) ⟨rfl, fun _ _ h => h, List.sublist_append_right _ _⟩ kk
end rules

/-! ### results that lie in a box -/
theorem asAddr_run {P : Program} {w : World} (ad : Addr) : (asAddr (.pointer (some ad))).run P w = .ok ad w := rfl

inductive RV (P : Program) (σ : St) : ResultVar → AV → Prop
  | tmp (t : Nat) (av : AV) (h : lk σ.tm t = some av) : RV P σ (.tmp t) av
  | all (p ty : Nat) (b : Bk) (cs : List AV) (D : TypeDesc) (i : TypeInfo) (h : lk σ.tm p = some (.ptr b 0)) (f : Fnd σ.hp b (.cells cs)) (hu : P.underlying ty = some D) (hi : P.info? ty = some i) (hD : TypeDesc.isAggB D = true) (hs : Nat.beq cs.length i.size = true) : RV P σ (.cell p ty) (.agg cs)
  | one (p ty : Nat) (b : Bk) (cs : List AV) (av : AV) (D : TypeDesc) (h : lk σ.tm p = some (.ptr b 0)) (f : Fnd σ.hp b (.cells cs)) (hu : P.underlying ty = some D) (hD : TypeDesc.isAggB D = false) (hs : cs[0]? = some av) : RV P σ (.cell p ty) av

def rvRun (tmps : Array Value) : ResultVar → Sem Value
  | .tmp t => pure (tmps.getD t undef)
  | .cell a t => do loadVar t (← asAddr (tmps.getD a undef))

theorem RV.run {P : Program} {σ : St} {rv : ResultVar} {av : AV} (h : RV P σ rv av) {w : World} {S : Nat → Prop} {a : Act} (r : StRel w S σ a) : ∃ v, (rvRun a.tmps rv).run P w = .ok v w ∧ At w S av v := by
  cases h with
  | tmp t av h =>
    obtain ⟨v, h1, h2⟩ := r.tm t _ h
    exact ⟨v, by simp [rvRun, h1], h2⟩
  | all p ty b cs D i h f hu hi hD hs =>
    obtain ⟨v, h1, h2⟩ := r.tm p _ h
    obtain ⟨m, e1, rfl⟩ := h2.ptr_inv
    obtain ⟨_, m', vs, E, g1, g2, g3, g4⟩ := box_cells r.hp f
    obtain rfl : m' = m := by rw [g1] at e1; exact Option.some.inj e1
    have hlen : vs.toList.length = i.size := by simp [g3]; exact Nat.eq_of_beq_eq_true hs
    refine ⟨.agg vs, ?_, .agg cs vs g3.symm g4⟩
    have := run_loadVar_agg (P := P) hu hD hi (w := w) (ad := ⟨m', 0, none⟩) (vs := vs.toList) hlen (fun j v hv => by rw [add_at, cell_at g2]; simpa using hv)
    simp [rvRun, h1, asAddr, this]
  | one p ty b cs av D h f hu hD hs =>
    obtain ⟨v, h1, h2⟩ := r.tm p _ h
    obtain ⟨m, e1, rfl⟩ := h2.ptr_inv
    obtain ⟨_, m', vs, E, g1, g2, g3, g4⟩ := box_cells r.hp f
    obtain rfl : m' = m := by rw [g1] at e1; exact Option.some.inj e1
    have hlt : 0 < vs.size := by rw [g3]; exact (List.getElem?_eq_some_iff.1 hs).1
    have hv : vs[0]? = some vs[0] := by simp [hlt]
    refine ⟨vs[0], ?_, g4 0 av _ hs hv⟩
    have := run_loadVar_one (P := P) hu hD (w := w) (ad := ⟨m', 0, none⟩) (v := vs[0]) (by rw [cell_at g2, hv])
    simp [rvRun, h1, asAddr, this]

/-- What a function hands back, of whatever kind its results are. -/
inductive Rs (P : Program) (σ : St) : List ResultVar → List AV → Prop
  | nil : Rs P σ [] []
  | cons {v : ResultVar} {l : List ResultVar} {a : AV} {as : List AV} (h : RV P σ v a) (k : Rs P σ l as) : Rs P σ (v :: l) (a :: as)

def oneOr : List AV → AV
  | [a] => a
  | as => .tup as

theorem Rs.run {P : Program} {σ : St} {w : World} {S : Nat → Prop} {a : Act} (r : StRel w S σ a) : ∀ {l : List ResultVar} {as : List AV}, Rs P σ l as → ∃ vs, (l.mapM (rvRun a.tmps)).run P w = .ok vs w ∧ as.length = vs.length ∧ ∀ (i : Nat) c v, as[i]? = some c → vs[i]? = some v → At w S c v
  | [], _, .nil => ⟨[], by simp, rfl, fun i c v hc => by simp at hc⟩
  | x :: l, _, .cons (a := av) (as := as) h k => by
    obtain ⟨v, h1, h2⟩ := h.run r
    obtain ⟨vs, g1, g2, g3⟩ := Rs.run r k
    refine ⟨v :: vs, by simp [h1, g1], by simp [g2], fun i c u hc hu => ?_⟩
    match i with
    | 0 => simp at hc hu; subst hc; subst hu; exact h2
    | i + 1 => exact g3 i c u (by simpa using hc) (by simpa using hu)

theorem results_run {P : Program} {fn : Func} {l : List ResultVar} {σ : St} {as : List AV} (hf : fn.results = l.toArray) (h : Rs P σ l as) {w : World} {S : Nat → Prop} {a : Act} (r : StRel w S σ a) : ∃ v, (results fn a.tmps).run P w = .ok v w ∧ At w S (oneOr as) v := by
  obtain ⟨vs, g1, g2, g3⟩ := h.run r
  have hm : results fn a.tmps = (do let vs ← Functor.map List.toArray (l.mapM (rvRun a.tmps)); pure (if h : vs.size = 1 then vs[0] else .tuple vs)) := by
    have hfun : (fun (x : ResultVar) => (match x with | .tmp t => pure (a.tmps.getD t undef) | .cell p t => do loadVar t (← asAddr (a.tmps.getD p undef)) : Sem Value)) = rvRun a.tmps := by
      funext x
      cases x <;> rfl
    unfold results
    rw [hf, List.mapM_toArray]
    rw [← hfun]
    rfl
  refine ⟨if h : vs.toArray.size = 1 then vs.toArray[0] else .tuple vs.toArray, ?_, ?_⟩
  · rw [hm, Sem.run_bind, Sem.run_map, g1]
    rfl
  · clear h hm g1
    match as, vs, g2, g3 with
    | [], [], _, _ => simp [oneOr]; exact .tup [] _ rfl (fun i c v hc => by simp at hc)
    | [x], [v], _, g3 => simp [oneOr]; exact g3 0 x v rfl rfl
    | x :: y :: as, v :: u :: vs, hl, g3 => simp [oneOr]; exact .tup _ _ (by simpa using hl) (fun i c v hc hv => g3 i c v hc (by simpa using hv))

theorem ACall.bodyR {P : Program} {f : FuncId} {fn : Func} {c : Code} {args : List AV} {h : Heap} {Q : AV → Heap → Prop} {n : Nat} {l : List ResultVar} (hf : P.funcs[f]? = some fn) (hb : fn.body = some c) (hn : fn.ntmps = n) (hres : fn.results = l.toArray)
    (hle : Nat.ble args.length n = true) (kk : ATodo P (fun σ => ImpX σ (fun σ' => ∃ as, Rs P σ' l as ∧ Q (oneOr as) σ'.hp)) [.code c] ⟨n, tm0 args 0, h⟩) : ACall P f args h Q := by
  intro w S vs hr hl ha
  refine calls_of_wp hf hb ?_
  have r0 : StRel w S ⟨n, tm0 args 0, h⟩ { tmps := vs ++ Array.replicate (fn.ntmps - vs.size) undef, defers := [] } := by
    have := Nat.le_of_ble_eq_true hle
    refine ⟨by simp [hn]; omega, rfl, fun s av hs => ?_, hr⟩
    obtain ⟨_, h2⟩ := lk_tm0 args 0 s av hs
    simp only [Nat.sub_zero] at h2
    have hlt : s < args.length := (List.getElem?_eq_some_iff.1 h2).1
    have hlt' : s < vs.size := by omega
    refine ⟨vs[s], by simp [Array.getElem?_append, hlt'], ha s av _ h2 (by simp [hlt'])⟩
  refine wp_mono (kk w S _ r0) ?_
  rintro e a' w' ⟨σ', S', h1, h2, h3⟩
  have fin : ImpX σ' (fun σ'' => ∃ as, Rs P σ'' l as ∧ Q (oneOr as) σ''.hp) → a'.defers = [] ∧ ∃ v, (results fn a'.tmps).run P w' = .ok v w' ∧ ∃ v' r h' S', (Ending.returned v : Ending) = .returned v' ∧ Q r h' ∧ At w' S' r v' ∧ HRel w' S' h' ∧ Evo w S h w' S' h' := by
    intro hi
    obtain ⟨σ2, S2, ⟨as, hrs, hq⟩, g2, g3⟩ := hi w' S' a' h2
    obtain ⟨v, hv1, hv2⟩ := results_run hres hrs g2
    exact ⟨g2.defers, v, hv1, v, oneOr as, σ2.hp, S2, rfl, hq, hv2, g2.hp, h3.trans g3⟩
  cases e with
  | normal => exact fin h1
  | ret => exact fin h1
  | exit id => exact h1.elim
  | goto l => exact h1.elim
  | panic c => exact h1.elim
  | outgrown => exact h1.elim

end Go.Eng
