/- The engine: abstract values, the symbolic heap, one rule for each operation. No program in sight. -/
import Derived.Test.YtnopmjdjgangdaaGreatDoorEngB
import Derived.Laws.StructEq
import Derived.Below
/- The engine, part 17: more rules over typed lists; calls whose memory is told. No program in sight. -/
set_option linter.unusedVariables false
set_option linter.unusedSectionVars false
namespace Go.Eng
open Go
variable [GTab]
abbrev Str := List UInt8
/-- A list as a value. -/
def encL {α : Type} (sz : Nat) (g : α → AV) (l : List α) : AV := .list sz (l.map g)

section rules
variable {P : Program} {all : Array Oper} {rest : List Oper} {n : Nat} {tm : List (Nat × AV)} {hp : Heap} {Q : St → Prop} {d : Nat} {ty : TypeId} {pos : String} {af : Array Edge}

theorem t_len_sl {x : Operand} {t e : TypeId} {sz len : Nat} {b : Bk} [TUnder P t (.slice e)] (hx : evA tm x = some (.sl sz b 0 len)) : QV P ⟨some d, .call { callee := .builtin .len, args := #[x], argTypes := #[t] }, ty, pos, af, none⟩ ⟨n, tm, hp⟩ (.int .i64 (len : Nat)) := q_len_sl hx

/-- An element of an owned array. -/
theorem t_index_sl {α : Type} {Xs : List α} {el : α} {t e : TypeId} {i : TypeInfo} {x y : Operand} {k : IntKind} {j : Int} {sz : Nat} {b : Bk} [TUnder P t (.slice e)] [TInfo P e i] (hx : evA tm x = some (.sl sz b 0 Xs.length)) (hsz : Nat.beq i.size sz = true) (hy : evA tm y = some (.int k j))
    (hv : idx Xs j = some el) : QV P ⟨some d, .indexAddr t x y, ty, pos, af, none⟩ ⟨n, tm, hp⟩ (.aptr sz b j.toNat 0) := by
  obtain ⟨h0, h1, _⟩ := idx_some hv
  have h := q_index_sl (P := P) (d := d) (ty := ty) (pos := pos) (af := af) (n := n) (tm := tm) (hp := hp) (t := t) (e := e) hx hsz hy ⟨h0, h1⟩
  rw [Nat.zero_add] at h
  exact h
theorem idx_get {α : Type} {g : α → AV} {Xs : List α} {el : α} {j : Int} (hv : idx Xs j = some el) : (Xs.map g)[j.toNat]? = some (g el) := by
  rw [List.getElem?_map, (idx_some hv).2.2]; rfl
theorem t_load_aptr {α : Type} {g : α → AV} {Xs : List α} {el : α} {j : Int} {t : TypeId} {D : TypeDesc} {x : Operand} {b : Bk} {sz o : Nat} {av : AV} [TUnder P t D] (hD : TypeDesc.isAggB D = false) (hx : evA tm x = some (.aptr sz b j.toNat o)) (f : Fnd hp b (.arr sz (Xs.map g)) ∨ Fnd hp b (.fro sz (Xs.map g)))
    (hv : idx Xs j = some el) (ho : (g el).cells[o]? = some av) : QV P ⟨some d, .load t x, ty, pos, af, none⟩ ⟨n, tm, hp⟩ av :=
  q_load_aptr hD hx f (idx_get hv) ho
theorem t_load_aptr_agg {α : Type} {g : α → AV} {Xs : List α} {el : α} {j : Int} {t : TypeId} {D : TypeDesc} {i : TypeInfo} {x : Operand} {b : Bk} {sz : Nat} {cs : List AV} [TUnder P t D] [TInfo P t i] (hD : TypeDesc.isAggB D = true) (hx : evA tm x = some (.aptr sz b j.toNat 0)) (f : Fnd hp b (.arr sz (Xs.map g)) ∨ Fnd hp b (.fro sz (Xs.map g))) (hsz : Nat.beq i.size sz = true)
    (hv : idx Xs j = some el) (hc : g el = .agg cs) : QV P ⟨some d, .load t x, ty, pos, af, none⟩ ⟨n, tm, hp⟩ (.agg cs) :=
  q_load_aptr_agg hD hx f hsz (by rw [idx_get (g := g) hv, hc])
/-! cuts -/
theorem t_slice_list {α : Type} {g : α → AV} {Xs Zs : List α} {t e : TypeId} {i : TypeInfo} {x : Operand} {lo hi : Option Operand} {l h : Option Int} {sz : Nat} {L H : Int} [TUnder P t (.slice e)] [TInfo P e i] (hx : evA tm x = some (.list sz (Xs.map g))) (hsz : Nat.beq i.size sz = true) (hl : Bnd tm lo l) (hh : Bnd tm hi h)
    (eL : lowB l = L) (eH : highB Xs.length h = H) (hv : slc Xs L H = some Zs) : QV P ⟨some d, .slice t x lo hi none, ty, pos, af, none⟩ ⟨n, tm, hp⟩ (.list sz (Zs.map g)) := by
  obtain ⟨⟨h0, h1, h2⟩, rfl⟩ := slc_some hv
  subst eL; subst eH
  have := q_slice_list (P := P) (d := d) (ty := ty) (pos := pos) (af := af) (n := n) (tm := tm) (hp := hp) (t := t) (e := e) (xs := Xs.map g) hx hsz hl hh h0 (by simpa using h1) (by simpa using h2)
  simpa [List.map_take, List.map_drop] using this
theorem t_slice_str {t : TypeId} {x : Operand} {lo hi : Option Operand} {l h : Option Int} {s zs : List UInt8} {L H : Int} [TUnder P t .string] (hx : evA tm x = some (.str s)) (hl : Bnd tm lo l) (hh : Bnd tm hi h) (eL : lowB l = L) (eH : highB s.length h = H) (hv : slc s L H = some zs) :
    QV P ⟨some d, .slice t x lo hi none, ty, pos, af, none⟩ ⟨n, tm, hp⟩ (.str zs) := by
  obtain ⟨⟨h0, h1, h2⟩, rfl⟩ := slc_some hv
  subst eL; subst eH
  exact q_slice_str hx hl hh h0 h1 h2

/-! calls -/
def appO : Heap → Heap → Option Heap
  | [], r => some r
  | x :: l, r => match appO l r with
    | some m => some (x :: m)
    | none => none
theorem appO_eq : ∀ {l r m : Heap}, appO l r = some m → l ++ r = m
  | [], r, m, h => by simpa [appO] using h
  | x :: l, r, m, h => by
    simp only [appO] at h
    split at h
    · rename_i m' hm
      obtain rfl := Option.some.inj h
      rw [List.cons_append, appO_eq hm]
    · cases h

/-- The memory of a call is told: no new array, one, two. -/
def T0 (H : Heap) (V : AV) : AV → Heap → Prop := fun v h => h = H ∧ v = V
def T1 {α0 : Type} (H : α0 → Heap) (V : α0 → AV) : AV → Heap → Prop := fun v h => ∃ b, h = H b ∧ v = V b
theorem t_call0 {f : FuncId} {args : List Operand} {ts : Array TypeId} {l l' : List AV} {h0 hr H H' : Heap} {V : AV} [IsFn P f] (hl : evL tm args = some l) (c : ACall P f l' h0 (T0 H V)) (co : CoL hp l l') (hs : Sel hp h0 hr) (ha : appO H hr = some H') (hn : Nat.blt d n = true)
    (kk : ARun P all rest ⟨n, (d, V) :: tm, H'⟩ Q) : ARun P all (⟨some d, .call { callee := .value (.func f), args := args.toArray, argTypes := ts }, ty, pos, af, none⟩ :: rest) ⟨n, tm, hp⟩ Q :=
  t_call hl c co hs hn (fun r h' ⟨e1, e2⟩ => by subst e1; subst e2; rw [appO_eq ha]; exact kk)
theorem t_call1 {α0 : Type} {f : FuncId} {args : List Operand} {ts : Array TypeId} {l l' : List AV} {h0 hr : Heap} {H H' : α0 → Heap} {V : α0 → AV} [IsFn P f] (hl : evL tm args = some l) (c : ACall P f l' h0 (T1 H V)) (co : CoL hp l l') (hs : Sel hp h0 hr) (ha : ∀ b, appO (H b) hr = some (H' b)) (hn : Nat.blt d n = true)
    (kk : ∀ b, ARun P all rest ⟨n, (d, V b) :: tm, H' b⟩ Q) : ARun P all (⟨some d, .call { callee := .value (.func f), args := args.toArray, argTypes := ts }, ty, pos, af, none⟩ :: rest) ⟨n, tm, hp⟩ Q :=
  t_call hl c co hs hn (fun r h' ⟨b, e1, e2⟩ => by subst e1; subst e2; rw [appO_eq (ha b)]; exact kk b)
theorem t_callv0 {f : FuncId} {x : Operand} {args : List Operand} {ts : Array TypeId} {caps l l' lc : List AV} {h0 hr H H' : Heap} {V : AV} [IsFn P f] (hx : evA tm x = some (.func (.func f) caps)) (hl : evL tm args = some l) (hlc : normL (l ++ caps) = some lc) (c : ACall P f l' h0 (T0 H V)) (co : CoL hp lc l') (hs : Sel hp h0 hr) (ha : appO H hr = some H') (hn : Nat.blt d n = true)
    (kk : ARun P all rest ⟨n, (d, V) :: tm, H'⟩ Q) : ARun P all (⟨some d, .call { callee := .value x, args := args.toArray, argTypes := ts }, ty, pos, af, none⟩ :: rest) ⟨n, tm, hp⟩ Q :=
  t_callv hx hl hlc c co hs hn (fun r h' ⟨e1, e2⟩ => by subst e1; subst e2; rw [appO_eq ha]; exact kk)
end rules

theorem Co.froT {hp : Heap} {α : Type} {g : α → AV} {Xs : List α} {sz : Nat} {b : Bk} (f : Fnd hp b (.fro sz (Xs.map g))) : Co hp (.sl sz b 0 Xs.length) (.list sz (Xs.map g)) := .fro sz b _ _ f (by simp)
theorem CoB.arrT {hp : Heap} {α : Type} {g : α → AV} {Xs : List α} {sz : Nat} {b : Bk} (f : Fnd hp b (.arr sz (Xs.map g))) : CoB hp (.sl sz b 0 Xs.length) (.list sz (Xs.map g)) := .arr sz b _ _ f (by simp)
end Go.Eng

/- The engine, part 18: lists inside boxes; small typed rules. No program in sight. -/
set_option linter.unusedVariables false
set_option linter.unusedSectionVars false
namespace Go.Eng
open Go
variable [GTab]
section rules
variable {P : Program} {all : Array Oper} {rest : List Oper} {n : Nat} {tm : List (Nat × AV)} {hp : Heap} {Q : St → Prop} {d : Nat} {ty : TypeId} {pos : String} {af : Array Edge}
theorem t_field_aptr {x : Operand} {s : TypeId} {j off : Nat} {sz : Nat} {b : Bk} {q o o' : Nat} [Fld P s j off] (hx : evA tm x = some (.aptr sz b q o)) (ho : o + off = o') : QV P ⟨some d, .fieldAddr s x j, ty, pos, af, none⟩ ⟨n, tm, hp⟩ (.aptr sz b q o') := by
  subst ho
  exact q_field_aptr hx
theorem r_store_aptrG {t : TypeId} {i : TypeInfo} {x y : Operand} {b : Bk} {sz q o : Nat} {xs : List AV} {av el el' : AV} {hp' : Heap} [TInfo P t i] (hx : evA tm x = some (.aptr sz b q o)) (hy : evA tm y = some av) (h1 : allOne av.cells = true) (hsz : Nat.beq av.cells.length i.size = true)
    (u : Upd hp b (.arr sz xs) b (.arr sz (xs.set q el')) hp') (hq : xs[q]? = some el) (hc' : el'.cells = splice el.cells o av.cells) (ho : Nat.ble (o + av.cells.length) el.cells.length = true) (kk : ARun P all rest ⟨n, tm, hp'⟩ Q) : ARun P all (⟨none, .store t x y, ty, pos, af, none⟩ :: rest) ⟨n, tm, hp⟩ Q := by
  refine ARun.act rfl rfl (σ' := ⟨n, tm, hp'⟩) (fun w S a r => ?_) kk
  obtain ⟨m, e1, e2⟩ := (evA_at (σ := ⟨n, tm, hp⟩) r hx).aptr_inv
  obtain ⟨g0, g1, ⟨g2, _⟩ | ⟨m', vs, E, g2, g3, g4, g5⟩⟩ := arr_cells r.hp (.inl u.fnd)
  · rw [g2] at e1; cases e1
  obtain rfl : m' = m := by rw [g2] at e1; exact Option.some.inj e1
  have hv := evA_at (σ := ⟨n, tm, hp⟩) r hy
  obtain ⟨hl, hat⟩ := cells_at hv (allOne_spec h1)
  have h1' := allOne_spec h1
  have hsz := Nat.eq_of_beq_eq_true hsz
  have ho := Nat.le_of_ble_eq_true ho
  clear h1 hv hy
  generalize av.cells = nc at *
  generalize hcs0 : el.cells = cs at *
  have hle : o + nc.length ≤ cs.length := ho
  have hel := g0 el (List.mem_of_getElem? hq)
  have hcl : cs.length = sz := by rw [← hcs0]; exact hel.1
  have hqx : q < xs.length := (List.getElem?_eq_some_iff.1 hq).1
  have hmul : (q + 1) * sz ≤ xs.length * sz := Nat.mul_le_mul_right _ (by omega)
  have hmul2 : xs.length * sz ≤ b.cap * sz := Nat.mul_le_mul_right _ g1
  rw [Nat.add_mul, Nat.one_mul] at hmul
  have hone := one_vals hl hat h1'
  have hst := run_storeCells_at (P := P) m' (q * sz + o) E (a.eval y).cells.toList 0 vs w g3 (by simp; omega) hone
  simp only [Nat.add_zero] at hst
  have hsize : (a.eval y).cells.size = i.size := by rw [← hl]; exact hsz
  have hfl := flat_length g0
  have elnew : El sz el' := by
    refine ⟨by rw [hc']; simp [splice]; omega, fun c hc => ?_⟩
    rw [hc'] at hc
    simp only [splice, List.mem_append] at hc
    rcases hc with (hc | hc) | hc
    · exact hel.2 c (by rw [hcs0]; exact List.mem_of_mem_take hc)
    · exact h1' c hc
    · exact hel.2 c (by rw [hcs0]; exact List.mem_of_mem_drop hc)
  have hflat : flat (xs.set q el') = (flat xs).take (q * sz + o) ++ nc ++ (flat xs).drop (q * sz + o + nc.length) := by
    rw [flat_set g0 elnew hq]
    rw [hc']; simp only [splice]
    have hcs : cs = ((flat xs).drop (q * sz)).take sz := by
      apply List.ext_getElem?
      intro j
      by_cases hj : j < sz
      · have := flat_get g0 hq j hj
        rw [List.getElem?_take, if_pos hj, List.getElem?_drop, this, hcs0]
      · rw [List.getElem?_eq_none (by omega), List.getElem?_eq_none (by simp; omega)]
    have e1 : cs.take o = ((flat xs).drop (q * sz)).take o := by rw [hcs, List.take_take, Nat.min_eq_left (by omega)]
    have e2 : cs.drop (o + nc.length) = (((flat xs).drop (q * sz + o + nc.length)).take (sz - (o + nc.length))) := by
      rw [hcs, List.drop_take, List.drop_drop]
      rw [show q * sz + (o + nc.length) = q * sz + o + nc.length from by omega]
    rw [e1, e2]
    have e3 : (flat xs).take (q * sz + o) = (flat xs).take (q * sz) ++ ((flat xs).drop (q * sz)).take o := by rw [List.take_add]
    rw [e3]
    have e4 : (flat xs).drop (q * sz + o + nc.length) = ((flat xs).drop (q * sz + o + nc.length)).take (sz - (o + nc.length)) ++ (flat xs).drop (q * sz + sz) := by
      conv => lhs; rw [← List.take_append_drop (sz - (o + nc.length)) ((flat xs).drop (q * sz + o + nc.length))]
      rw [List.drop_drop, show q * sz + o + nc.length + (sz - (o + nc.length)) = q * sz + sz from by omega]
    conv => rhs; rw [e4]
    simp only [List.append_assoc]
  have hmid := fun (w' : World) (ha : AtA w' S (flat xs) vs) (hb : AtA w' S nc (a.eval y).cells) => AtA_mid (q * sz + o) (by rw [hfl, g4]; exact hmul2) ha hl hb (by omega)
  have hsz2 : (vs.toList.take (q * sz + o) ++ (a.eval y).cells.toList ++ vs.toList.drop (q * sz + o + (a.eval y).cells.toList.length)).toArray.size = b.cap * sz := by
    simp; omega
  generalize (vs.toList.take (q * sz + o) ++ (a.eval y).cells.toList ++ vs.toList.drop (q * sz + o + (a.eval y).cells.toList.length)).toArray = vs' at hst hmid hsz2
  have c : GB w (w.setRow m' vs') b.blk := ⟨⟨rfl, rfl, rfl, by simp, fun k hk hne => setRow_other w m' k _ (fun e => hne (by rw [e1, e]))⟩, fun _ => Nat.le_refl _⟩
  have k1 : ∀ n, S n → S n ∧ (w.setRow m' vs').heap[n]? = w.heap[n]? := by
    intro k hk
    refine ⟨hk, setRow_other w m' k _ (fun e => ?_)⟩
    subst e
    exact (r.hp.sep _ u.fnd.mem k (eb_of e1)).1 hk
  have hh := upd_rel r.hp u c id id ⟨?_, by simpa using g1, .inr ⟨m', vs', E, e1, setRow_heap w m' vs _ E _ g3, hsz2, by rw [hflat]; exact hmid _ (g5.mono k1) (hat.mono k1)⟩⟩ (.inl rfl)
  · refine ⟨w.setRow m' vs', S, ?_, r.heap hh.2.2 hh.1, hh.2.1⟩
    simp [execOp, e2, Instr.storeAt, Instr.sureAddr, storeVar, sizeOf, typeInfo, TInfo.h (P := P) (t := t), hsize, hst]
  · intro z hz
    rcases List.mem_or_eq_of_mem_set hz with h | rfl
    · exact g0 z h
    · exact elnew
theorem t_store_aptr1 {α : Type} {g : α → AV} {Xs : List α} {el el' : α} {j : Int} {t : TypeId} {i : TypeInfo} {x y : Operand} {b : Bk} {sz o : Nat} {av : AV} {hp' : Heap} [TInfo P t i] (hx : evA tm x = some (.aptr sz b j.toNat o)) (hy : evA tm y = some av) (h1 : allOne av.cells = true) (hsz : Nat.beq av.cells.length i.size = true)
    (hv : idx Xs j = some el) (hc' : (g el').cells = splice (g el).cells o av.cells) (u : Upd hp b (.arr sz (Xs.map g)) b (.arr sz ((Xs.set j.toNat el').map g)) hp') (ho : Nat.ble (o + av.cells.length) (g el).cells.length = true) (kk : ARun P all rest ⟨n, tm, hp'⟩ Q) :
    ARun P all (⟨none, .store t x y, ty, pos, af, none⟩ :: rest) ⟨n, tm, hp⟩ Q := by
  refine r_store_aptrG (xs := Xs.map g) (el := g el) (el' := g el') hx hy h1 hsz ?_ (idx_get hv) hc' ho kk
  rw [List.map_set] at u
  exact u
end rules
theorem idx_set_self {α : Type} {xs : List α} {i : Int} {el v : α} (h : idx xs i = some el) : idx (xs.set i.toNat v) i = some v := by
  obtain ⟨h0, h1, _⟩ := idx_some h
  unfold idx; rw [if_pos h0, List.getElem?_set_self (by omega)]
theorem HRel.hs {w : World} {S : Nat → Prop} {h h' : Heap} (r : HRel w S h) (s : HS h h') : HRel w S h' := by
  obtain ⟨q, hq⟩ := s.perm
  exact (r.perm hq).sub (List.sublist_append_left _ _)
theorem Has.hs {h h' : Heap} (s : HS h h') {n : Nat} (hh : Has h' n) : Has h n := by
  obtain ⟨q, hq⟩ := s.perm
  obtain ⟨e, he, hb⟩ := hh
  exact ⟨e, hq.mem_iff.2 (List.mem_append_left _ he), hb⟩
/-- Less of the memory is told. -/
theorem ACall.lessH {P : Program} {f : FuncId} {args : List AV} {h : Heap} {Q : AV → Heap → Prop} (c : ACall P f args h (fun r h1 => ∃ h', HS h1 h' ∧ Q r h')) : ACall P f args h Q :=
  fun w S vs r hl ha => (c w S vs r hl ha).mono fun _ _ ⟨v, r, _, S', h1, ⟨h', hs, hq⟩, h3, h4, h5⟩ => ⟨v, r, h', S', h1, hq, h3, h4.hs hs, h5.less fun _ hn => hn.hs hs⟩
/-- A value of the state in another spelling. -/
theorem ImpX.eqs {n s : Nat} {tm : List (Nat × AV)} {hp : Heap} {T : St → Prop} {av av' : AV} (hs : lk tm s = some av) (he : av' = av) (k : ImpX ⟨n, (s, av') :: tm, hp⟩ T) : ImpX ⟨n, tm, hp⟩ T := by
  subst he
  exact ImpX.co hs (.refl _) k
theorem upd_of_eq {hp hp' : Heap} {b : Bk} {o : Ob} (u : Upd hp b o b o hp') : hp' = hp := by
  generalize hb : b = b', ho : o = o' at u
  have : ∀ {h h' : Heap} {b b' : Bk} {o o' : Ob}, Upd h b o b' o' h' → b = b' → o = o' → h' = h := by
    intro h h' b b' o o' u
    induction u with
    | here => rintro rfl rfl; rfl
    | next _ ih => intro e1 e2; rw [ih e1 e2]
    | skip _ ih => intro e1 e2; rw [ih e1 e2]
  subst hb ho
  exact this u rfl rfl
theorem ImpX.eqBox {n j : Nat} {tm : List (Nat × AV)} {hp hp' : Heap} {T : St → Prop} {b : Bk} {cs cs' : List AV} {av av' : AV} (u : Upd hp b (.cells cs) b (.cells cs') hp') (hj : cs[j]? = some av) (he : av' = av) (hc : normL (cs.set j av') = some cs') (k : ImpX ⟨n, tm, hp'⟩ T) : ImpX ⟨n, tm, hp⟩ T := by
  subst he
  have hcs : cs.set j av' = cs := by
    apply List.ext_getElem?
    intro i
    by_cases hi : j = i
    · subst hi
      have hlt := (List.getElem?_eq_some_iff.1 hj).1
      rw [List.getElem?_set_self hlt, hj]
    · rw [List.getElem?_set_ne hi]
  rw [hcs] at hc
  obtain rfl := normL_eq hc
  rw [upd_of_eq u] at k
  exact k
theorem andTd {p : Prop} [Decidable p] {x : Bool} (h : p) : (decide p && x) = x := by simp [h]
theorem andFd {p : Prop} [Decidable p] {x : Bool} (h : ¬ p) : (decide p && x) = false := by simp [h]
theorem orTd {p : Prop} [Decidable p] {x : Bool} (h : p) : (decide p || x) = true := by simp [h]
theorem orFd {p : Prop} [Decidable p] {x : Bool} (h : ¬ p) : (decide p || x) = x := by simp [h]
theorem andTb {b x : Bool} (h : b = true) : (b && x) = x := by simp [h]
theorem andFb {b x : Bool} (h : b = false) : (b && x) = false := by simp [h]
theorem orTb {b x : Bool} (h : b = true) : (b || x) = true := by simp [h]
theorem orFb {b x : Bool} (h : b = false) : (b || x) = x := by simp [h]
end Go.Eng

/- The engine, part 19: structs are compared. No program in sight. -/
set_option linter.unusedVariables false
set_option linter.unusedSectionVars false
namespace Go.Eng
open Go
variable [GTab]

def EqR (P : Program) (k : Nat) (t : TypeId) (v u : Value) (b : Bool) : Prop := ∀ d w, (Op.equalIn (d + k) t v u).run P w = .ok b w
theorem EqR.up {P : Program} {k : Nat} {t : TypeId} {v u : Value} {b : Bool} (h : EqR P k t v u b) (j : Nat) : EqR P (k + j) t v u b := fun d w => by
  rw [show d + (k + j) = (d + j) + k from by omega]; exact h _ w
theorem EqR.cast {P : Program} {k : Nat} {t : TypeId} {v u : Value} {b b' : Bool} (h : EqR P k t v u b) (e : b = b') : EqR P k t v u b' := by rw [← e]; exact h

inductive EqFs (P : Program) (k : Nat) (xs ys : Array Value) : List Field → Bool → Prop
  | nil : EqFs P k xs ys [] true
  | cons {f : Field} {fs : List Field} {px py : Value} {b b' : Bool} (hn : f.name ≠ "_") (hx : ∀ w, (part f.type xs f.offset).run P w = .ok px w) (hy : ∀ w, (part f.type ys f.offset).run P w = .ok py w) (he : EqR P k f.type px py b) (kk : EqFs P k xs ys fs b') : EqFs P k xs ys (f :: fs) (b && b')

theorem EqFs.run {P : Program} {k : Nat} {xs ys : Array Value} {fs : List Field} {b : Bool} (h : EqFs P k xs ys fs b) (d : Nat) (w : World) : (Op.eqFields (d + k) xs ys fs).run P w = .ok b w := by
  induction h with
  | nil => simp [Op.eqFields]
  | @cons f fs px py b b' hn hx hy he kk ih =>
    simp only [Op.eqFields, hn, ne_eq, not_false_eq_true, if_true, Sem.run_bind, hx, hy, he d w, Result.andThen_ok]
    cases b
    · simp
    · simpa using ih

theorem EqR.struct {P : Program} {k : Nat} {t : TypeId} {xs ys : Array Value} {fs : List Field} {b : Bool} (hu : P.underlying t = some (.struct fs.toArray)) (hp : P.stoodInHeld t = false) (h : EqFs P k xs ys fs b) : EqR P (k + 1) t (.agg xs) (.agg ys) b := by
  intro d w
  have hf : P.fieldsOf t = fs.toArray := by simp [Program.fieldsOf, hu]
  rw [show d + (k + 1) = (d + k) + 1 from rfl, run_equalIn_struct w (d + k) t xs ys (by rw [hf]; exact hu) hp, hf]
  exact h.run d w

theorem part_one {P : Program} {t : TypeId} {D : TypeDesc} [TUnder P t D] (hD : TypeDesc.isAggB D = false) {cs : Array Value} {off : Nat} {v : Value} (h : cs[off]? = some v) (w : World) : (part t cs off).run P w = .ok v w := by
  unfold part isAgg
  simp only [Sem.run_bind, run_underlying (TUnder.h (P := P) (t := t)), Result.andThen_ok]
  cases D <;> simp_all [TypeDesc.isAggB]
theorem part_agg {P : Program} {t : TypeId} {D : TypeDesc} {i : TypeInfo} [TUnder P t D] [TInfo P t i] (hD : TypeDesc.isAggB D = true) {cs : Array Value} {off n : Nat} (hn : i.size = n) (w : World) : (part t cs off).run P w = .ok (.agg (cs.extract off (off + n))) w := by
  subst hn
  unfold part isAgg
  simp only [Sem.run_bind, run_underlying (TUnder.h (P := P) (t := t)), Result.andThen_ok]
  cases D <;> simp_all [TypeDesc.isAggB, sizeOf, typeInfo, TInfo.h (P := P) (t := t)]

theorem AtA.get {w : World} {S : Nat → Prop} {cs : List AV} {vs : Array Value} (hl : cs.length = vs.size) (ha : AtA w S cs vs) {off : Nat} {c : AV} (hc : cs[off]? = some c) : ∃ v, vs[off]? = some v ∧ At w S c v := by
  have hlt := (List.getElem?_eq_some_iff.1 hc).1
  have : off < vs.size := by omega
  exact ⟨vs[off], by simp [this], ha off c _ hc (by simp [this])⟩
theorem AtA.sub {w : World} {S : Nat → Prop} {cs : List AV} {vs : Array Value} (hl : cs.length = vs.size) (ha : AtA w S cs vs) (off n : Nat) (h : off + n ≤ cs.length) : At w S (.agg ((cs.drop off).take n)) (.agg (vs.extract off (off + n))) := by
  refine .agg _ _ (by simp; omega) (fun i c v hc hv => ?_)
  simp only [List.getElem?_take, List.getElem?_drop] at hc
  split at hc
  · rename_i hi
    refine ha (off + i) c v hc ?_
    rw [Array.getElem?_extract] at hv
    split at hv
    · exact hv
    · cases hv
  · cases hc

class EqTy (P : Program) (t : TypeId) (k : outParam Nat) {α : Type} [DecidableEq α] (g : α → AV) : Prop where
  h : ∀ (x y : α) (w : World) (S : Nat → Prop) (v u : Value), At w S (g x) v → At w S (g y) u → EqR P k t v u (decide (x = y))
class EqGd (P : Program) (t : TypeId) : Prop where
  h : P.eqGuardType P.depth t = false

instance eqInt {P : Program} {t : TypeId} {k : IntKind} [TUnder P t (.int k)] : EqTy P t 1 (AV.int k) := ⟨fun x y w S v u hv hu d w' => by
  rw [hv.int_inv, hu.int_inv, Op.equalIn]
  simp [run_underlying (TUnder.h (P := P) (t := t))]
  rw [Bool.eq_iff_iff]; simp⟩
instance eqInt64 {P : Program} {t : TypeId} [TUnder P t (.int .i64)] : EqTy P t 1 I := eqInt (k := .i64)
instance eqBool {P : Program} {t : TypeId} [TUnder P t .bool] : EqTy P t 1 AV.bool := ⟨fun x y w S v u hv hu d w' => by
  rw [hv.bool_inv, hu.bool_inv, Op.equalIn]
  simp [run_underlying (TUnder.h (P := P) (t := t))]
  rw [Bool.eq_iff_iff]; simp⟩
instance eqStr {P : Program} {t : TypeId} [TUnder P t .string] : EqTy P t 1 AV.str := ⟨fun x y w S v u hv hu d w' => by
  rw [hv.str_inv, hu.str_inv, Op.equalIn]
  simp [run_underlying (TUnder.h (P := P) (t := t))]
  rw [Bool.eq_iff_iff]
  rw [beq_toListBytes, ByteArray.toList_eq, ByteArray.toList_eq]
  simp⟩

def shrI (k : IntKind) (x y : Int) : Int := x.fdiv (2 ^ min y.toNat k.bits)
section rules
variable {P : Program} {all : Array Oper} {rest : List Oper} {n : Nat} {tm : List (Nat × AV)} {hp : Heap} {Q : St → Prop} {d : Nat} {ty : TypeId} {pos : String} {af : Array Edge}
theorem t_tne {α : Type} [DecidableEq α] {g : α → AV} {X Y : α} {k : Nat} {xt yt : TypeId} {x y : Operand} {cs ds : List AV} [EqTy P xt k g] [EqGd P xt] (hk : Nat.ble k 10000 = true) (hx : evA tm x = some (.agg cs)) (hy : evA tm y = some (.agg ds)) (eX : g X = .agg cs) (eY : g Y = .agg ds) :
    QV P ⟨some d, .binOp .neq xt x y yt, ty, pos, af, none⟩ ⟨n, tm, hp⟩ (.bool (decide (X ≠ Y))) := by
  intro w S a r
  have hv := evA_at (σ := ⟨n, tm, hp⟩) r hx
  have hu := evA_at (σ := ⟨n, tm, hp⟩) r hy
  have he := EqTy.h (P := P) (t := xt) (g := g) X Y w S _ _ (by rw [eX]; exact hv) (by rw [eY]; exact hu)
  obtain ⟨vs, e1, _, _⟩ := hv.agg_inv
  obtain ⟨us, e2, _, _⟩ := hu.agg_inv
  refine ⟨.bool (decide (X ≠ Y)), fun w1 _ => ?_, .bool _⟩
  have h1 := run_eqGuard_agg (P := P) w1 .neq xt x y vs us EqGd.h
  rw [e1, e2] at he
  have h2 : (Op.equal xt (.agg vs) (.agg us)).run P w1 = .ok (decide (X = Y)) w1 := by
    have := he (10000 - k) w1
    rw [Nat.sub_add_cancel (Nat.le_of_ble_eq_true hk)] at this
    exact this
  have h3 : (binOp .neq xt (.agg vs) (.agg us)).run P w1 = .ok (.bool (decide (X ≠ Y))) w1 := by
    rw [show binOp .neq xt (.agg vs) (.agg us) = (do pure (.bool (!(← Op.equal xt (.agg vs) (.agg us))))) from rfl]
    simp [h2]
  simp [execOp, e1, e2, h1, h3]
theorem t_sleq {xt yt : TypeId} {x y : Operand} {s t : List UInt8} (hx : evA tm x = some (.str s)) (hy : evA tm y = some (.str t)) : QV P ⟨some d, .binOp .leq xt x y yt, ty, pos, af, none⟩ ⟨n, tm, hp⟩ (.bool (Op.bytesLess s t || s == t)) := by
  refine fun w S a r => ⟨.bool (Op.bytesLess s t || s == t), fun w1 _ => ?_, .bool _⟩
  simp [execOp, (evA_at (σ := ⟨n, tm, hp⟩) r hx).str_inv, (evA_at (σ := ⟨n, tm, hp⟩) r hy).str_inv, eqGuard_at_string, binOp, Op.stringOp, ByteArray.toList_eq]
theorem t_shr {k k' : IntKind} {xt yt : TypeId} {x y : Operand} {i j : Int} (hx : evA tm x = some (.int k i)) (hy : evA tm y = some (.int k' j)) (h0 : ¬ j < 0) : QV P ⟨some d, .binOp .shr xt x y yt, ty, pos, af, none⟩ ⟨n, tm, hp⟩ (.int k (shrI k i j)) := by
  refine fun w S a r => ⟨.int k (shrI k i j), fun w1 _ => ?_, .int _ _⟩
  simp [execOp, (evA_at (σ := ⟨n, tm, hp⟩) r hx).int_inv, (evA_at (σ := ⟨n, tm, hp⟩) r hy).int_inv, eqGuard_at_int, binOp, Op.shift, h0, shrI]
end rules
end Go.Eng

/- The engine, part 20: from a contract of a law to what its row asks. No program in sight. -/
set_option linter.unusedVariables false
set_option linter.unusedSectionVars false
namespace Go.Eng
open Go Go.RowKit
variable [GTab]

theorem flat_ints (l : List Int) : flat (l.map I) = l.map I := by
  induction l with
  | nil => rfl
  | cons x r ih => rw [List.map_cons, flat_cons, ih]; rfl

theorem law_walk {P : Program} {f : FuncId} {a : Option Addr} {len cap : Nat} {zs : List Int} {w : World}
    (hrow : (a = none ∧ len = 0 ∧ cap = 0 ∧ zs = []) ∨ ∃ x, a = some x ∧ len ≤ cap ∧ cap ≤ maxLen ∧ zs.length = cap ∧ (∀ i, i < zs.length → w.cell? (x.add i) = some (.int .i64 (zs.getD i 0))) ∧ ∀ n ∈ zs, (Lit.int .i64 n).wf = true)
    (hG : ∀ g o, GTab.tab g = some o → g < w.heap.size ∧ o (w.heap[g]?))
    (c : ∀ l : List Int, Pu P f [.list 1 (l.map I)] (.bool true)) :
    Calls P f #[.slice a len cap] w fun e w' => e = .returned (.bool true) ∧ Below w.heap.size w w' := by
  let S : Nat → Prop := fun n => n < w.heap.size
  have hat : ∃ l : List Int, At w S (.list 1 (l.map I)) (.slice a len cap) := by
    rcases hrow with ⟨rfl, rfl, rfl, rfl⟩ | ⟨x, rfl, h1, h2, h3, h4, h5⟩
    · exact ⟨[], .list 1 [] none 0 [] (by simp) rfl (by simp [flat]) (by simp) (by simp)⟩
    · refine ⟨zs.take len, ?_⟩
      have hl : ((zs.take len).map I).length = len := by simp; omega
      have key := At.list (w := w) (S := S) 1 ((zs.take len).map I) (some x) cap ((zs.take len).map (fun n => Value.int .i64 n)) ?_ ?_ ?_ ?_ ?_
      · rw [hl] at key; exact key
      · intro y hy
        obtain ⟨n, _, rfl⟩ := List.mem_map.1 hy
        exact ⟨rfl, fun c hc => by simp [AV.cells] at hc; subst hc; rfl⟩
      · rw [flat_ints]; simp
      · intro i c v hc hv
        rw [flat_ints, List.getElem?_map] at hc
        rw [List.getElem?_map] at hv
        cases hn : (zs.take len)[i]? with
        | none => rw [hn] at hc; cases hc
        | some n =>
          rw [hn] at hc hv
          obtain rfl := Option.some.inj hc
          obtain rfl := Option.some.inj hv
          exact .int _ _
      · intro i v hv
        rw [List.getElem?_map] at hv
        cases hn : (zs.take len)[i]? with
        | none => rw [hn] at hv; cases hv
        | some n =>
          rw [hn] at hv
          obtain rfl := Option.some.inj hv
          have hi : i < zs.length := by
            have := (List.getElem?_eq_some_iff.1 hn).1
            simp at this; omega
          have hz : zs.getD i 0 = n := by
            rw [List.getElem?_take] at hn
            split at hn
            · rw [List.getD_eq_getElem?_getD, hn]; rfl
            · cases hn
          have hcell := h4 i hi
          rw [hz] at hcell
          obtain ⟨bk, of, sp⟩ := x
          have hsp : sp = none := by
            cases sp with
            | none => rfl
            | some q =>
              have h40 := h4 0 (by omega)
              unfold World.cell? Addr.add at h40
              simp only [if_true] at h40
              split at h40
              · simp at h40
              · cases h40
          subst hsp
          rw [add_at] at hcell
          have hblk : bk < w.heap.size := by
            rcases Nat.lt_or_ge bk w.heap.size with h | h
            · exact h
            · unfold World.cell? at hcell
              simp only [Array.getElem?_eq_none h] at hcell
              cases hcell
          exact ⟨_, rfl, rfl, hblk, hcell⟩
      · rw [hl]; exact h1
  obtain ⟨l, hat⟩ := hat
  refine (c l w S #[.slice a len cap] (hrel_nil (fun n hn => hn) hG) rfl ?_).mono ?_
  · intro i c' v hc hv
    match i with
    | 0 => simp at hc hv; subst hc; subst hv; exact hat
    | i + 1 => simp at hc
  · rintro e w' ⟨v, r, h', S', rfl, rfl, h1, h2, h3⟩
    refine ⟨by rw [h1.bool_inv], h3.os, h3.tape, h3.output, h3.size, fun k hk => (h3.keep k hk).2⟩
end Go.Eng

/- The engine, part 21: regions that draw their order, with operations that turn memory: each piece of memory that is turned goes from hand to hand. No program in sight. -/
set_option linter.unusedVariables false
set_option linter.unusedSectionVars false
namespace Go.Eng
open Go
variable [GTab]

def eputO (e : Env) (d : Option Nat) (o : Option AV) : Env := match d with
  | some d => fun s => if d = s then o else e s
  | none => e
theorem eputO_ne {e : Env} {d : Option Nat} {o : Option AV} {s : Nat} (h : d ≠ some s) : eputO e d o s = e s := by
  cases d with
  | none => rfl
  | some d => simp only [eputO]; rw [if_neg (fun e => h (by rw [e]))]
theorem eputO_eq {e : Env} {o : Option AV} {s : Nat} : eputO e (some s) o s = o := by simp [eputO]

section order
variable {P : Program} {all : Array Oper} {n m : Nat} {hp : Heap}
def curO (all : Array Oper) (avs : Nat → Option AV) (e : Env) (listed : Array Bool) : Nat → Env
  | 0 => e
  | k + 1 => if listed.getD k false then eputO (curO all avs e listed k) ((all[k]?).bind (·.dst)) (avs k) else curO all avs e listed k

variable {avs : Nat → Option AV} {en : Nat → Env} {e : Env}
theorem curO_look (hB : MonoB all m) {listed : Array Bool} (L : LOk all m listed) (h0 : en 0 = e) (hs : ∀ i o, i < m → all[i]? = some o → en (i + 1) = eputO (en i) o.dst (avs i)) (hm : m ≤ all.size)
    {i : Nat} {o : Oper} (ho : all[i]? = some o) (him : i < m) (hni : listed.getD i false = false) (hr : ∀ j, Anc all i j → listed.getD j false = true) {s : Nat} (hsl : s ∈ looks all o) : ∀ k, k ≤ all.size → curO all avs e listed k s = en (min k i) s := by
  intro k
  induction k with
  | zero => intro _; simp [curO, h0]
  | succ k ih =>
    intro hk
    have ihk := ih (by omega)
    have hok : all[k]? = some all[k] := by simp [show k < all.size by omega]
    simp only [curO, hok, Option.bind_some]
    rcases Nat.lt_trichotomy k i with hlt | heq | hgt
    · rw [Nat.min_eq_left (by omega)] at ihk
      rw [Nat.min_eq_left (by omega), hs k _ (by omega) hok]
      by_cases hd : (all[k]).dst = some s
      · have hl : listed.getD k false = true := hr k ((monoB_spec hB ho hok hlt).1 him (clash_look hd hsl))
        rw [if_pos hl, hd, eputO_eq, eputO_eq]
      · rw [eputO_ne hd]
        split
        · rw [eputO_ne hd]; exact ihk
        · exact ihk
    · subst heq
      rw [hni]
      simp only [Bool.false_eq_true, if_false]
      rw [Nat.min_eq_right (by omega)]
      rw [Nat.min_eq_right (by omega)] at ihk
      exact ihk
    · rw [Nat.min_eq_right (by omega)] at ihk
      rw [Nat.min_eq_right (by omega)]
      by_cases hl : listed.getD k false = true
      · by_cases hd : (all[k]).dst = some s
        · exfalso
          have hw := (monoB_spec hB hok ho hgt).1 (L.head k hl) (clash_look' hd hsl)
          have := Closed.anc L.closed hw hl
          rw [hni] at this; cases this
        · rw [if_pos hl, eputO_ne hd]; exact ihk
      · rw [if_neg hl]; exact ihk

theorem curO_set (hB : MonoB all m) {listed : Array Bool} (L : LOk all m listed) {i : Nat} {o : Oper} (ho : all[i]? = some o) (him : i < m) (hni : listed.getD i false = false) (s : Nat) :
    ∀ k, k ≤ all.size → curO all avs e (listed.setIfInBounds i true) k s = (if i < k then eputO (curO all avs e listed k) o.dst (avs i) s else curO all avs e listed k s) := by
  have hi : i < listed.size := by rw [L.size]; exact (Array.getElem?_eq_some_iff.1 ho).1
  intro k
  induction k with
  | zero => intro _; simp [curO]
  | succ k ih =>
    intro hk
    have ihk := ih (by omega)
    have hok : all[k]? = some all[k] := by simp [show k < all.size by omega]
    simp only [curO, hok, Option.bind_some, getD_set hi]
    rcases Nat.lt_trichotomy k i with hlt | heq | hgt
    · rw [if_neg (by omega)] at ihk
      have e1 : (if k = i then true else listed.getD k false) = listed.getD k false := if_neg (by omega)
      rw [e1, if_neg (show ¬ i < k + 1 by omega)]
      by_cases hl : listed.getD k false = true
      · rw [if_pos hl, if_pos hl]
        by_cases hd : (all[k]).dst = some s
        · rw [hd, eputO_eq, eputO_eq]
        · rw [eputO_ne hd, eputO_ne hd]; exact ihk
      · rw [if_neg hl, if_neg hl]; exact ihk
    · subst heq
      rw [if_neg (by omega)] at ihk
      have e1 : (if k = k then true else listed.getD k false) = true := if_pos rfl
      rw [e1, if_pos (show k < k + 1 by omega), if_pos rfl, hni, if_neg Bool.false_ne_true]
      obtain rfl : all[k] = o := by rw [hok] at ho; exact Option.some.inj ho
      by_cases hd : (all[k]).dst = some s
      · rw [hd, eputO_eq, eputO_eq]
      · rw [eputO_ne hd, eputO_ne hd]; exact ihk
    · rw [if_pos hgt] at ihk
      have e1 : (if k = i then true else listed.getD k false) = listed.getD k false := if_neg (by omega)
      rw [e1, if_pos (show i < k + 1 by omega)]
      by_cases hl : listed.getD k false = true
      · rw [if_pos hl, if_pos hl]
        by_cases hd : (all[k]).dst = some s
        · by_cases hdi : o.dst = some s
          · exfalso
            have hw := (monoB_spec hB hok ho hgt).1 (L.head k hl) (clash_dst hdi hd)
            have := Closed.anc L.closed hw hl
            rw [hni] at this; cases this
          · rw [hd, eputO_eq, eputO_ne hdi, eputO_eq]
        · by_cases hdi : o.dst = some s
          · rw [eputO_ne hd, ihk, hdi, eputO_eq, eputO_eq]
          · rw [eputO_ne hd, ihk, eputO_ne hdi, eputO_ne hdi, eputO_ne hd]
      · rw [if_neg hl, if_neg hl]; exact ihk

/-- A piece of memory that is turned in the region: which operation hands it on, which one takes it. -/
structure Tok where
  prod : Option Nat
  cons : Option Nat
  rds : List Nat
  ent : Bk → Bk × Ob
  adr : Option Nat
  sft : List Nat
def Tok.ix (t : Tok) : Option Nat := match t.adr with | some a => some a | none => t.prod
def Tok.at (t : Tok) (β : Nat → Bk) : Bk × Ob := t.ent (match t.ix with | some i => β i | none => ⟨none, 0⟩)
def onT (listed : Array Bool) (t : Tok) : Bool := (match t.prod with | none => true | some i => listed.getD i false) && (match t.cons with | none => true | some i => !listed.getD i false)
def isC (i : Nat) (t : Tok) : Bool := match t.cons with | some c => Nat.beq c i | none => false
def isP (i : Nat) (t : Tok) : Bool := match t.prod with | some c => Nat.beq c i | none => false
def isR (i : Nat) (t : Tok) : Bool := t.rds.contains i
def readT (tk : List Tok) (i : Nat) (β : Nat → Bk) : Heap := (tk.filter (isR i)).map (·.at β)
/-- Read softly: by an operation that may run before or after the one that takes it. -/
def isS (i : Nat) (t : Tok) : Bool := t.sft.contains i
/-- What an operation may find to read: of the memory that it reads softly, one piece. -/
def altT (tk : List Tok) (i : Nat) (β : Nat → Bk) : List Heap := match tk.filter (isS i) with
  | [] => [readT tk i β]
  | l => l.map fun t => t.at β :: readT tk i β
def heapT (tk : List Tok) (listed : Array Bool) (β : Nat → Bk) : Heap := (tk.filter (onT listed)).map (·.at β)
def tinT (tk : List Tok) (i : Nat) (β : Nat → Bk) : Heap := (tk.filter (isC i)).map (·.at β)
def toutT (tk : List Tok) (i : Nat) (β : Nat → Bk) : Heap := (tk.filter (isP i)).map (·.at β)
def updB (β : Nat → Bk) (i : Nat) (b : Bk) : Nat → Bk := fun k => bif Nat.beq k i then b else β k
theorem updB_eq (β : Nat → Bk) (i : Nat) (b : Bk) : updB β i b i = b := by simp [updB]
theorem updB_ne {β : Nat → Bk} {i k : Nat} {b : Bk} (h : k ≠ i) : updB β i b k = β k := by simp [updB, nbeq_f' h]
def endT (tk : List Tok) (β : Nat → Bk) : Heap := (tk.filter (fun t => t.cons.isNone)).map (·.at β)

def tokB (A : List Nat) (m : Nat) (tk : List Tok) : Bool := tk.all fun t =>
  (match t.prod with | some p => Nat.blt p m | none => true) && (match t.cons with | some c => Nat.blt c m && (match t.prod with | some p => (A.getD c 0).testBit p | none => true) | none => true) &&
  (match t.adr with | some a => (match t.prod with | some p => (A.getD p 0).testBit a | none => false) | none => true) &&
  t.rds.all fun i => Nat.blt i m && (match t.prod with | some p => (A.getD i 0).testBit p | none => true) && (match t.cons with | some c => (A.getD c 0).testBit i | none => true)
/-- Memory that is read softly comes in two pieces, of which one is there at any time. -/
def softB (A : List Nat) (m : Nat) (tk : List Tok) : Bool := (List.range m).all fun i => match tk.filter (isS i) with
  | [] => true
  | [t0, t1] => (match t0.cons, t1.prod with | some j, some j' => Nat.beq j j' && !Nat.beq j i | _, _ => false) && (match t0.prod with | some p => (A.getD i 0).testBit p | none => true) && (match t1.cons with | some c => (A.getD c 0).testBit i | none => true) && !isR i t0 && !isR i t1
  | _ => false
def SoftOk (all : Array Oper) (m : Nat) (tk : List Tok) : Prop := ∀ i, i < m → tk.filter (isS i) = [] ∨ ∃ t0 t1 j, tk.filter (isS i) = [t0, t1] ∧ t0.cons = some j ∧ t1.prod = some j ∧ j ≠ i ∧ (∀ p, t0.prod = some p → Anc all i p) ∧ (∀ c, t1.cons = some c → Anc all c i) ∧ isR i t0 = false ∧ isR i t1 = false
theorem softB_spec {A : List Nat} {tk : List Tok} (hA : ancs all = A) (h : softB A m tk = true) : SoftOk all m tk := by
  intro i hi
  have := List.all_eq_true.1 h i (List.mem_range.2 hi)
  split at this
  · rename_i e; exact .inl e
  · rename_i t0 t1 e
    simp only [Bool.and_eq_true, Bool.not_eq_true'] at this
    obtain ⟨⟨⟨⟨h1, h2⟩, h3⟩, h4⟩, h5⟩ := this
    split at h1
    · rename_i j j' hj hj'
      simp only [Bool.and_eq_true, Bool.not_eq_true'] at h1
      obtain ⟨h6, h7⟩ := h1
      obtain rfl := Nat.eq_of_beq_eq_true h6
      refine .inr ⟨t0, t1, j, e, hj, hj', fun e => by rw [e] at h7; simp at h7, fun p hp => ?_, fun c hc => ?_, h4, h5⟩
      · rw [hp] at h2; subst hA; exact ancs_spec h2
      · rw [hc] at h3; subst hA; exact ancs_spec h3
    · cases h1
  · cases this
def TokOk (all : Array Oper) (m : Nat) (tk : List Tok) : Prop := ∀ t ∈ tk, (∀ p, t.prod = some p → p < m) ∧ (∀ c, t.cons = some c → c < m ∧ ∀ p, t.prod = some p → Anc all c p) ∧ (∀ i, isR i t = true → i < m ∧ (∀ p, t.prod = some p → Anc all i p) ∧ ∀ c, t.cons = some c → Anc all c i) ∧ ∀ a, t.adr = some a → ∃ p, t.prod = some p ∧ Anc all p a
theorem tokB_spec {A : List Nat} {tk : List Tok} (hA : ancs all = A) (h : tokB A m tk = true) : TokOk all m tk := by
  intro t ht
  have := List.all_eq_true.1 h t ht
  rw [Bool.and_eq_true, Bool.and_eq_true, Bool.and_eq_true] at this
  obtain ⟨⟨⟨h1, h2⟩, h9⟩, h4⟩ := this
  subst hA
  refine ⟨fun p hp => by rw [hp] at h1; simpa using h1, fun c hc => ?_, fun i hi => ?_, fun a ha => ?_⟩
  · rw [hc] at h2
    simp only [Bool.and_eq_true] at h2
    refine ⟨by simpa using h2.1, fun p hp => ?_⟩
    have h3 := h2.2
    rw [hp] at h3
    exact ancs_spec h3
  · have h5 := List.all_eq_true.1 h4 i (by simpa [isR] using hi)
    rw [Bool.and_eq_true, Bool.and_eq_true] at h5
    obtain ⟨⟨h6, h7⟩, h8⟩ := h5
    exact ⟨by simpa using h6, fun p hp => by rw [hp] at h7; exact ancs_spec h7, fun c hc => by rw [hc] at h8; exact ancs_spec h8⟩
  · rw [ha] at h9
    cases hp : t.prod with
    | none => rw [hp] at h9; cases h9
    | some p => rw [hp] at h9; exact ⟨p, rfl, ancs_spec h9⟩

theorem filter_split {α : Type} (p q : α → Bool) (l : List α) : (l.filter p).Perm (l.filter (fun x => p x && q x) ++ l.filter (fun x => p x && !q x)) := by
  induction l with
  | nil => exact List.Perm.refl _
  | cons x l ih =>
    simp only [List.filter_cons]
    cases hp : p x <;> cases hq : q x
    · simpa using ih
    · simpa using ih
    · simp only [Bool.true_and, Bool.not_false, Bool.false_eq_true, if_false, if_true]
      exact (List.Perm.cons x ih).trans List.perm_middle.symm
    · simp only [Bool.true_and, Bool.not_true, Bool.false_eq_true, if_false, if_true, List.cons_append]
      exact List.Perm.cons x ih

theorem tok_in {tk : List Tok} (hT : TokOk all m tk) {listed : Array Bool} {i : Nat} (hni : listed.getD i false = false) (hanc : ∀ j, Anc all i j → listed.getD j false = true) (β : Nat → Bk) :
    (heapT tk listed β).Perm (tinT tk i β ++ (tk.filter (fun t => onT listed t && !isC i t)).map (·.at β)) := by
  unfold heapT tinT
  rw [← List.map_append]
  refine List.Perm.map _ ?_
  have e : tk.filter (isC i) = tk.filter (fun t => onT listed t && isC i t) := by
    apply List.filter_congr
    intro t ht
    cases hc : isC i t with
    | false => simp
    | true =>
      unfold isC at hc
      split at hc
      · rename_i c hcc
        obtain rfl : c = i := Nat.eq_of_beq_eq_true hc
        have := (hT t ht).2.1 c hcc
        have hon : onT listed t = true := by
          unfold onT
          rw [hcc]
          simp only [hni, Bool.not_false, Bool.and_true]
          split
          · rfl
          · rename_i p hp; exact hanc p (this.2 p hp)
        rw [hon]; rfl
      · cases hc
  rw [e]
  exact filter_split _ _ _

theorem tok_out {tk : List Tok} (hT : TokOk all m tk) {listed : Array Bool} (hcl : Closed all listed) {i : Nat} (hi : i < listed.size) (hni : listed.getD i false = false) (hirr : ∀ c, Anc all c i → c ≠ i) (β : Nat → Bk) (b : Bk) :
    (heapT tk (listed.setIfInBounds i true) (updB β i b)).Perm (toutT tk i (updB β i b) ++ (tk.filter (fun t => onT listed t && !isC i t)).map (·.at β)) := by
  unfold heapT toutT
  have e2 : (tk.filter (fun t => onT listed t && !isC i t)).map (·.at β) = (tk.filter (fun t => onT listed t && !isC i t)).map (·.at (updB β i b)) := by
    apply List.map_congr_left
    intro t ht
    have h0 := (List.mem_filter.1 ht).1
    have h1 := (List.mem_filter.1 ht).2
    rw [Bool.and_eq_true] at h1
    have hpr : ∀ p, t.prod = some p → listed.getD p false = true := by
      intro p hp
      have := h1.1
      unfold onT at this
      rw [hp, Bool.and_eq_true] at this
      exact this.1
    unfold Tok.at
    cases hx : t.ix with
    | none => rfl
    | some p =>
      have hpl : listed.getD p false = true := by
        unfold Tok.ix at hx
        cases ha : t.adr with
        | none => rw [ha] at hx; exact hpr p hx
        | some a =>
          rw [ha] at hx
          obtain rfl := Option.some.inj hx
          obtain ⟨q, q1, q2⟩ := (hT t h0).2.2.2 a ha
          exact hcl.anc q2 (hpr q q1)
      have : p ≠ i := fun e => by subst e; rw [hni] at hpl; cases hpl
      simp only [updB_ne this]
  rw [e2, ← List.map_append]
  refine List.Perm.map _ ?_
  refine (filter_split _ (isP i) _).trans ?_
  have f1 : tk.filter (fun t => onT (listed.setIfInBounds i true) t && isP i t) = tk.filter (isP i) := by
    apply List.filter_congr
    intro t ht
    cases hp : isP i t with
    | false => simp
    | true =>
      unfold isP at hp
      split at hp
      · rename_i p hpp
        obtain rfl : p = i := Nat.eq_of_beq_eq_true hp
        have hon : onT (listed.setIfInBounds p true) t = true := by
          unfold onT
          rw [hpp]
          simp only [getD_set hi, if_true, Bool.true_and]
          cases hc : t.cons with
          | none => rfl
          | some c =>
            have hanc := ((hT t ht).2.1 c hc).2 p hpp
            have hne := hirr c hanc
            simp only [hne, if_false]
            cases hl : listed.getD c false with
            | false => rfl
            | true => have := hcl.anc hanc hl; rw [hni] at this; cases this
        rw [hon]; rfl
      · cases hp
  have f2 : tk.filter (fun t => onT (listed.setIfInBounds i true) t && !isP i t) = tk.filter (fun t => onT listed t && !isC i t) := by
    apply List.filter_congr
    intro t ht
    unfold onT isP isC
    cases hp : t.prod with
    | none =>
      cases hc : t.cons with
      | none => simp
      | some c =>
        simp only [getD_set hi]
        by_cases hci : c = i
        · subst hci; simp
        · have : Nat.beq c i = false := nbeq_f' hci
          simp [hci, this]
    | some p =>
      by_cases hpi : p = i
      · subst hpi
        simp [hni]
      · have hb : Nat.beq p i = false := nbeq_f' hpi
        cases hc : t.cons with
        | none => simp [getD_set hi, hpi, hb]
        | some c =>
          simp only [getD_set hi, hpi, hb, if_false]
          by_cases hci : c = i
          · subst hci; simp
          · have : Nat.beq c i = false := nbeq_f' hci
            simp [hci, this]
  rw [f1, f2]

/-- Of what stays, what an operation reads. -/
theorem tok_read {tk : List Tok} (hT : TokOk all m tk) {listed : Array Bool} (hcl : Closed all listed) {i : Nat} (hni : listed.getD i false = false) (hanc : ∀ j, Anc all i j → listed.getD j false = true) (hirr : ∀ c, Anc all c i → c ≠ i) (β : Nat → Bk) :
    ((tk.filter (fun t => onT listed t && !isC i t)).map (·.at β)).Perm (readT tk i β ++ (tk.filter (fun t => (onT listed t && !isC i t) && !isR i t)).map (·.at β)) := by
  unfold readT
  rw [← List.map_append]
  refine List.Perm.map _ ?_
  have e : tk.filter (isR i) = tk.filter (fun t => (onT listed t && !isC i t) && isR i t) := by
    apply List.filter_congr
    intro t ht
    cases hr : isR i t with
    | false => simp
    | true =>
      obtain ⟨_, q2, q3⟩ := (hT t ht).2.2.1 i hr
      have h1 : onT listed t = true := by
        unfold onT
        have e1 : (match t.prod with | none => true | some i => listed.getD i false) = true := by
          cases hp : t.prod with
          | none => rfl
          | some p => exact hanc p (q2 p hp)
        have e2 : (match t.cons with | none => true | some i => !listed.getD i false) = true := by
          cases hc : t.cons with
          | none => rfl
          | some c =>
            have := q3 c hc
            show (!listed.getD c false) = true
            cases hl : listed.getD c false with
            | false => rfl
            | true => have := hcl.anc this hl; rw [hni] at this; cases this
        rw [e1, e2]; rfl
      have h2 : isC i t = false := by
        unfold isC
        cases hc : t.cons with
        | none => rfl
        | some c => exact nbeq_f' (hirr c (q3 c hc))
      rw [h1, h2]; rfl
  rw [e]
  exact filter_split _ _ _

theorem tok_readS {tk : List Tok} (hT : TokOk all m tk) (hS : SoftOk all m tk) {listed : Array Bool} (hcl : Closed all listed) {i : Nat} (him : i < m) (hni : listed.getD i false = false) (hanc : ∀ j, Anc all i j → listed.getD j false = true) (hirr : ∀ c, Anc all c i → c ≠ i) (β : Nat → Bk) :
    ∃ X ∈ altT tk i β, ∃ rest, ((tk.filter (fun t => onT listed t && !isC i t)).map (·.at β)).Perm (X ++ rest) := by
  have h0 := tok_read hT hcl hni hanc hirr β
  rcases hS i him with e | ⟨t0, t1, j, e, a1, a2, a3, a4, a5, a6, a7⟩
  · exact ⟨readT tk i β, by unfold altT; rw [e]; simp, _, h0⟩
  · have m0 : t0 ∈ tk := (List.mem_filter.1 (by rw [e]; simp : t0 ∈ tk.filter (isS i))).1
    have m1 : t1 ∈ tk := (List.mem_filter.1 (by rw [e]; simp : t1 ∈ tk.filter (isS i))).1
    have go : ∀ t, t ∈ tk → onT listed t = true → isC i t = false → isR i t = false → ∃ rest, ((tk.filter (fun t => onT listed t && !isC i t)).map (·.at β)).Perm ((t.at β :: readT tk i β) ++ rest) := by
      intro t ht h1 h2 h3
      have hm : t ∈ tk.filter (fun t => (onT listed t && !isC i t) && !isR i t) := List.mem_filter.2 ⟨ht, by simp [h1, h2, h3]⟩
      obtain ⟨a, b, hab⟩ := List.append_of_mem hm
      rw [hab] at h0
      refine ⟨(a ++ b).map (·.at β), h0.trans ?_⟩
      rw [List.map_append, List.map_cons, List.map_append]
      refine (List.Perm.append_left _ List.perm_middle).trans ?_
      exact List.perm_middle
    have hX : ∀ t, t ∈ [t0, t1] → (t.at β :: readT tk i β) ∈ altT tk i β := by
      intro t ht
      unfold altT
      rw [e]
      exact List.mem_map.2 ⟨t, ht, rfl⟩
    cases hj : listed.getD j false with
    | false =>
      have h1 : onT listed t0 = true := by
        unfold onT
        rw [a1]
        simp only [hj, Bool.not_false, Bool.and_true]
        split
        · rfl
        · rename_i p hp; exact hanc p (a4 p hp)
      have h2 : isC i t0 = false := by unfold isC; rw [a1]; exact nbeq_f' a3
      obtain ⟨rest, hr⟩ := go t0 m0 h1 h2 a6
      exact ⟨_, hX t0 (by simp), rest, hr⟩
    | true =>
      have h1 : onT listed t1 = true := by
        unfold onT
        rw [a2]
        simp only [hj, Bool.true_and]
        split
        · rfl
        · rename_i c hc
          cases hl : listed.getD c false with
          | false => rfl
          | true => have := hcl.anc (a5 c hc) hl; rw [hni] at this; cases this
      have h2 : isC i t1 = false := by
        unfold isC
        split
        · rename_i c hc; exact nbeq_f' (hirr c (a5 c hc))
        · rfl
      obtain ⟨rest, hr⟩ := go t1 m1 h1 h2 a7
      exact ⟨_, hX t1 (by simp), rest, hr⟩
/-- An operation that takes some memory, hands on other memory, and yields a value. -/
def TV (P : Program) (all : Array Oper) (n : Nat) (B : Heap) (o : Oper) (e : Env) (Ti : Heap) (V : Bk → AV) (Pi : Bk → Heap) : Prop :=
  ∀ w S a, a.tmps.size = n → a.defers = [] → HRel w S (Ti ++ B) → RelE w S (looks all o) e a → ∀ (K : Act → World → Prop) (Q : Exit → Act → World → Prop),
    (∀ b v w' S', Evo w S (Ti ++ B) w' S' (Pi b ++ B) → HRel w' S' (Pi b ++ B) → At w' S' (V b) v → K (a.put o.dst v) w') → o.wp P a w K Q
def TStep (P : Program) (all : Array Oper) (n : Nat) (B : Heap) (o : Oper) (e : Env) (Ti : Heap) (V : Bk → AV) (Pi : Bk → Heap) : Prop :=
  (∀ d, o.dst = some d → d < n) ∧ ((Wanted all o e true ∧ TV P all n B o e Ti V Pi) ∨ (Wanted all o e false ∧ ∀ b, Pi b = Ti ∧ V b = .raw undef))

/-- What an operation may look at: values that are told, and new memory. -/
def orE (e c : Env) : Env := fun s => match e s with | some av => some av | none => c s
theorem orE_l {e c : Env} {s : Nat} {av : AV} (h : e s = some av) : orE e c s = some av := by simp [orE, h]
theorem Wanted.up {all : Array Oper} {o : Oper} {e c : Env} {b : Bool} (h : Wanted all o e b) : Wanted all o (orE e c) b := by
  unfold Wanted at *
  cases hg : o.guard with
  | none => rw [hg] at h; exact h
  | some g =>
    rw [hg] at h
    obtain ⟨s, h1, h2⟩ := h
    refine ⟨s, h1, ?_⟩
    rcases h2 with ⟨x, h3, h4⟩ | ⟨h3, h4⟩
    · exact .inl ⟨x, orE_l h3, h4⟩
    · exact .inr ⟨orE_l h3, h4⟩
theorem RelE.down {w : World} {S : Nat → Prop} {ls : List Nat} {e c : Env} {a : Act} (h : RelE w S ls (orE e c) a) : RelE w S ls e a := fun s hs av hav => h s hs av (orE_l hav)
theorem TStep.up {P : Program} {all : Array Oper} {n : Nat} {B : Heap} {o : Oper} {e c : Env} {Ti : Heap} {V : Bk → AV} {Pi : Bk → Heap} (h : TStep P all n B o e Ti V Pi) : TStep P all n B o (orE e c) Ti V Pi := by
  refine ⟨h.1, h.2.imp (fun x => ⟨x.1.up, fun w S a h1 h2 h3 h4 => x.2 w S a h1 h2 h3 h4.down⟩) (fun x => ⟨x.1.up, x.2⟩)⟩
theorem dyn_from {all : Array Oper} {avs : Nat → Option AV} {V : Nat → Bk → AV} {cn : Nat → (Nat → Bk) → Env} {m : Nat} (h0 : ∀ β s, cn 0 β s = none) (hc : ∀ i o, i < m → all[i]? = some o → ∀ β, cn (i + 1) β = match avs i with | none => eputO (cn i β) o.dst (some (V i (β i))) | some _ => cn i β) (hm : m ≤ all.size) :
    ∀ i, i ≤ m → ∀ β s av, cn i β s = some av → ∃ k o, k < i ∧ all[k]? = some o ∧ o.dst = some s ∧ avs k = none ∧ av = V k (β k) := by
  intro i
  induction i with
  | zero => intro _ β s av h; rw [h0] at h; cases h
  | succ i ih =>
    intro hi β s av h
    have hok : all[i]? = some all[i] := by simp [show i < all.size by omega]
    rw [hc i _ (by omega) hok] at h
    cases hav : avs i with
    | some x =>
      rw [hav] at h
      obtain ⟨k, o, h1, h2⟩ := ih (by omega) β s av h
      exact ⟨k, o, by omega, h2⟩
    | none =>
      rw [hav] at h
      by_cases hd : (all[i]).dst = some s
      · simp only [hd, eputO_eq] at h
        exact ⟨i, _, by omega, hok, hd, hav, (Option.some.inj h).symm⟩
      · simp only [eputO_ne hd] at h
        obtain ⟨k, o, h1, h2⟩ := ih (by omega) β s av h
        exact ⟨k, o, by omega, h2⟩

theorem any_headT {cn : Nat → (Nat → Bk) → Env} {B : Heap} {tk : List Tok} {V : Nat → Bk → AV} (hB : MonoB all m) (hT : TokOk all m tk) (hSf : SoftOk all m tk) (hm : m ≤ all.size) {Q : Exit → Act → World → Prop} (h0 : en 0 = e)
    (hc0 : ∀ β s, cn 0 β s = none) (hcn : ∀ i o, i < m → all[i]? = some o → ∀ β, cn (i + 1) β = match avs i with | none => eputO (cn i β) o.dst (some (V i (β i))) | some _ => cn i β)
    (hs : ∀ i o, i < m → all[i]? = some o → (∀ β, ∀ X ∈ altT tk i β, TStep P all n (X ++ B) o (orE (en i) (cn i β)) (tinT tk i β) (V i) (fun b => toutT tk i (updB β i b))) ∧ en (i + 1) = eputO (en i) o.dst (avs i) ∧ (∀ av, avs i = some av → ∀ b, V i b = av))
    (hU : ∀ i j oi oj d, i < m → j < m → i ≠ j → all[i]? = some oi → all[j]? = some oj → avs i = none → oi.dst = some d → oj.dst ≠ some d) {w0 : World} {S0 : Nat → Prop} {hp0 : Heap}
    (fin : ∀ β a w S, a.tmps.size = n → a.defers = [] → HRel w S (endT tk β ++ B) → Evo w0 S0 hp0 w S (endT tk β ++ B) → EnvOk w S (en m) a → (∀ j o d, j < m → all[j]? = some o → avs j = none → o.dst = some d → ∃ v, a.tmps[d]? = some v ∧ At w S (V j (β j)) v) → wpList P all Q (all.toList.drop m) a w) :
    ∀ (fuel : Nat) (listed : Array Bool) (a : Act) (w : World) (S : Nat → Prop) (β : Nat → Bk), LOk all m listed → (listed.toList.count true) + fuel = all.size → a.tmps.size = n → a.defers = [] → HRel w S (heapT tk listed β ++ B) → Evo w0 S0 hp0 w S (heapT tk listed β ++ B) → EnvOk w S (curO all avs e listed all.size) a →
      (∀ j o d, listed.getD j false = true → all[j]? = some o → avs j = none → o.dst = some d → ∃ v, a.tmps[d]? = some v ∧ At w S (V j (β j)) v) →
      wpAny P .any all Q fuel listed a w := by
  have hs2 : ∀ i o, i < m → all[i]? = some o → en (i + 1) = eputO (en i) o.dst (avs i) := fun i o h1 h2 => (hs i o h1 h2).2.1
  have hirr : ∀ c i, Anc all c i → c ≠ i := by
    have key : ∀ c i, Anc all c i → i < c := by
      intro c i h
      have one : ∀ {j i : Nat} {oj : Oper}, all[j]? = some oj → waits oj i = true → i < j := by
        intro j i oj hj hw
        simp only [waits, List.any_eq_true, Bool.and_eq_true] at hw
        obtain ⟨e', he', hb', hon'⟩ := hw
        have := monoB_edge hB hj (by simpa using he') hb'
        obtain rfl : e'.on = i := Nat.eq_of_beq_eq_true hon'
        exact this
      induction h with
      | one hj hw => exact one hj hw
      | step hj hw _ ih => have := one hj hw; omega
    intro c i h e; have := key c i h; omega
  have done : ∀ (fuel : Nat) (listed : Array Bool) (a : Act) (w : World) (S : Nat → Prop) (β : Nat → Bk), LOk all m listed → (listed.toList.count true) + fuel = all.size → a.tmps.size = n → a.defers = [] → HRel w S (heapT tk listed β ++ B) → Evo w0 S0 hp0 w S (heapT tk listed β ++ B) → EnvOk w S (curO all avs e listed all.size) a →
      (∀ j o d, listed.getD j false = true → all[j]? = some o → avs j = none → o.dst = some d → ∃ v, a.tmps[d]? = some v ∧ At w S (V j (β j)) v) →
      (∀ i, i < m → listed.getD i false = true) → wpAny P .any all Q fuel listed a w := by
    intro fuel listed a w S β L hc hsz hdf hr hg hen hdyn hall
    have hno : ∀ i, m ≤ i → listed.getD i false = false := fun i hi => by
      cases hv : listed.getD i false with
      | false => rfl
      | true => have := L.head i hv; omega
    have hcount : listed.toList.count true = m := by
      have : listed.toList = List.replicate m true ++ List.replicate (all.size - m) false := by
        apply List.ext_getElem?
        intro i
        rcases Nat.lt_or_ge i m with hi | hi
        · have hil : i < listed.size := by rw [L.size]; omega
          rw [List.getElem?_append_left (by simpa using hi)]
          have := hall i hi
          simp [hil] at this
          simp [hil, hi, this]
        · rw [List.getElem?_append_right (by simpa using hi)]
          rcases Nat.lt_or_ge i listed.size with hil | hil
          · have := hno i hi
            simp [hil] at this
            have h2 : i - m < all.size - m := by rw [L.size] at hil; omega
            simp [hil, h2, this]
          · have h2 : ¬ i - m < all.size - m := by rw [L.size] at hil; omega
            simp [List.getElem?_eq_none (l := listed.toList) (by simpa using hil), h2]
      rw [this, List.count_append, List.count_replicate, List.count_replicate]
      simp
    have hcur : curO all avs e listed all.size = en m := by
      have key : ∀ k, k ≤ all.size → curO all avs e listed k = en (min k m) := by
        intro k
        induction k with
        | zero => intro _; simp [curO, h0]
        | succ k ih =>
          intro hk
          have hok : all[k]? = some all[k] := by simp [show k < all.size by omega]
          simp only [curO, hok, Option.bind_some, ih (by omega)]
          rcases Nat.lt_or_ge k m with h | h
          · rw [if_pos (hall k h), Nat.min_eq_left (by omega), Nat.min_eq_left (by omega), hs2 k _ h hok]
          · rw [if_neg (by rw [hno k h]; simp), Nat.min_eq_right (by omega), Nat.min_eq_right (by omega)]
      rw [key all.size (Nat.le_refl _), Nat.min_eq_right hm]
    have hheap : heapT tk listed β = endT tk β := by
      unfold heapT endT
      congr 1
      apply List.filter_congr
      intro t ht
      obtain ⟨q1, q2, _⟩ := hT t ht
      unfold onT
      cases hp : t.prod with
      | none =>
        cases hc : t.cons with
        | none => rfl
        | some c => simp [hall c (q2 c hc).1]
      | some p =>
        cases hc : t.cons with
        | none => simp [hall p (q1 p hp)]
        | some c => simp [hall c (q2 c hc).1]
    rw [hcur] at hen
    rw [hheap] at hr hg
    exact any_tail hB fuel m listed a w (Nat.le_refl _) (by omega) L.size hall hno (fin β a w S hsz hdf hr hg hen (fun j o d hj ho hav hd => hdyn j o d (hall j hj) ho hav hd))
  intro fuel
  induction fuel with
  | zero =>
    intro listed a w S β L hc hsz hdf hr hg hen hdyn
    refine done 0 listed a w S β L hc hsz hdf hr hg hen hdyn (fun i hi => ?_)
    have hcnt : listed.toList.count true = listed.toList.length := by rw [Array.length_toList, L.size]; omega
    have hall := List.count_eq_length.1 hcnt
    have hil : i < listed.size := by rw [L.size]; omega
    have := hall listed[i] (by simp)
    simp [hil]; exact this.symm
  | succ fuel ih =>
    intro listed a w S β L hc hsz hdf hr hg hen hdyn
    by_cases hall : ∀ i, i < m → listed.getD i false = true
    · exact done _ listed a w S β L hc hsz hdf hr hg hen hdyn hall
    · refine ⟨fun hrd => (hall fun i hi => ready_nil hB L.size hrd i (by omega)).elim, fun i hi => ?_⟩
      obtain ⟨hi1, hi2⟩ := ready_not hi
      have hni := getD_tf hi2
      have hoi : all[i]? = some all[i] := by simp [hi1]
      have him : i < m := by
        rcases Nat.lt_or_ge i m with h | h
        · exact h
        · refine (hall fun j hj => ?_).elim
          have hoj : all[j]? = some all[j] := by simp [show j < all.size by omega]
          exact Closed.ready L.closed ((monoB_spec hB hoi hoj (by omega)).2 h) hi
      have hil : i < listed.size := by rw [L.size]; exact hi1
      obtain ⟨hstp, _, hV⟩ := hs i _ him hoi
      obtain ⟨X, hX, rest, prd⟩ := tok_readS hT hSf L.closed him hni (fun j hj => Closed.ready L.closed hj hi) (fun c h => hirr c i h) β
      obtain ⟨hdn, hstep⟩ := hstp β X hX
      have hrel : RelE w S (looks all all[i]) (orE (en i) (cn i β)) a := by
        intro s hsl av hav
        rw [orE] at hav
        cases hen' : en i s with
        | none =>
          rw [hen'] at hav
          obtain ⟨k, o, k1, k2, k3, k4, k5⟩ := dyn_from hc0 hcn hm i (by omega) β s av hav
          have hkl : listed.getD k false = true := Closed.ready L.closed ((monoB_spec hB hoi k2 k1).1 him (clash_look k3 hsl)) hi
          rw [k5]
          exact hdyn k o s hkl k2 k4 k3
        | some av' =>
        rw [hen'] at hav
        obtain rfl := Option.some.inj hav
        have hc := curO_look (avs := avs) (en := en) (e := e) hB L h0 hs2 hm hoi him hni (fun j hj => Closed.ready L.closed hj hi) hsl all.size (Nat.le_refl _)
        rw [Nat.min_eq_right (by omega)] at hc
        exact hen s av' (by rw [hc]; exact hen')
      have L' : LOk all m (listed.setIfInBounds i true) := by
        refine ⟨by simpa using L.size, fun k hk => ?_, fun k j o hk hok hw => ?_⟩
        · rw [getD_set hil] at hk
          split at hk
          · omega
          · exact L.head k hk
        · rw [getD_set hil] at hk
          rw [getD_set hil]
          split
          · rfl
          · split at hk
            · rename_i hki
              subst hki
              obtain rfl : all[k] = o := by rw [hoi] at hok; exact Option.some.inj hok
              exact ready_waits hoi hi hw
            · exact L.closed k j o hk hok hw
      have hcnt : (listed.setIfInBounds i true).toList.count true + fuel = all.size := by
        have hlist : listed[i] = false := by simpa [hil] using hni
        have : (listed.setIfInBounds i true).toList = listed.toList.set i true := by simp
        rw [this, List.count_set (by simpa using hil)]
        have hl2 : listed.toList[i]'(by simpa using hil) = false := by simpa using hlist
        rw [hl2]
        have e1 : (if (false == true) = true then 1 else 0) = 0 := rfl
        have e2 : (if (true == true) = true then 1 else 0) = 1 := rfl
        rw [e1, e2]
        omega
      -- the memory, parted
      have shuf : ∀ T : Heap, (T ++ (X ++ rest) ++ B).Perm ((T ++ (X ++ B)) ++ rest) := fun T => by
        rw [List.append_assoc, List.append_assoc, List.append_assoc, List.append_assoc]
        exact List.Perm.append_left _ (List.Perm.append_left _ List.perm_append_comm)
      have pin : (heapT tk listed β ++ B).Perm ((tinT tk i β ++ (X ++ B)) ++ rest) :=
        (((tok_in hT hni (fun j hj => Closed.ready L.closed hj hi) β).trans (List.Perm.append_left _ prd)).append_right B).trans (shuf _)
      have pout : ∀ b, ((toutT tk i (updB β i b) ++ (X ++ B)) ++ rest).Perm (heapT tk (listed.setIfInBounds i true) (updB β i b) ++ B) := fun b =>
        List.Perm.symm ((((tok_out hT L.closed hil hni (fun c h => hirr c i h) β b).trans (List.Perm.append_left _ prd)).append_right B).trans (shuf _))
      have hrp : HRel w S ((tinT tk i β ++ (X ++ B)) ++ rest) := hr.perm pin
      have psz : ∀ v, (a.put (all[i]).dst v).tmps.size = n := fun v => by cases (all[i]).dst <;> simp [Act.put, hsz]
      have pdf : ∀ v, (a.put (all[i]).dst v).defers = [] := fun v => by cases (all[i]).dst <;> simp [Act.put, hdf]
      have evoP : ∀ {w1 w2 : World} {S1 S2 : Nat → Prop} {h1 h2 h1' h2' : Heap}, Evo w1 S1 h1 w2 S2 h2 → h1.Perm h1' → h2.Perm h2' → Evo w1 S1 h1' w2 S2 h2' := by
        intro w1 w2 S1 S2 h1 h2 h1' h2' ev p1 p2
        have has : ∀ {g g' : Heap} {k : Nat}, g.Perm g' → (Has g k ↔ Has g' k) := fun p =>
          ⟨fun ⟨x, hx, hb⟩ => ⟨x, p.mem_iff.1 hx, hb⟩, fun ⟨x, hx, hb⟩ => ⟨x, p.mem_iff.2 hx, hb⟩⟩
        exact ⟨ev.os, ev.tape, ev.output, ev.size, ev.keep, fun k hk hh => ev.other k hk (fun hc => hh ((has p1).1 hc)), fun k hk => ((ev.new k ((has p2).2 hk)).imp (has p1).1 id), ev.drawn⟩
      have next : ∀ (b : Bk) (v : Value) (w' : World) (S' : Nat → Prop), Evo w S (tinT tk i β ++ (X ++ B)) w' S' (toutT tk i (updB β i b) ++ (X ++ B)) → HRel w' S' (toutT tk i (updB β i b) ++ (X ++ B)) → At w' S' (V i b) v → wpAny P .any all Q fuel (listed.setIfInBounds i true) (a.put (all[i]).dst v) w' := by
        intro b v w' S' hev hr' hat
        have hr2 : HRel w' S' ((toutT tk i (updB β i b) ++ (X ++ B)) ++ rest) := hrp.frame hev hr'
        have ev2 := hev.frame rest
        refine ih _ _ _ S' (updB β i b) L' hcnt (psz v) (pdf v) (hr2.perm (pout b)) (hg.trans (evoP ev2 pin.symm (pout b))) ?_ ?_
        · intro s av hav
          rw [curO_set (avs := avs) (e := e) hB L hoi him hni s all.size (Nat.le_refl _), if_pos (by omega)] at hav
          by_cases hd : (all[i]).dst = some s
          · rw [hd, eputO_eq] at hav
            have hsn := hdn s hd
            exact ⟨v, by rw [hd]; simp [Act.put, hsz, hsn], by rw [← hV av hav b]; exact hat⟩
          · rw [eputO_ne hd] at hav
            obtain ⟨u, h1, h2⟩ := hen s av hav
            refine ⟨u, ?_, h2.mono hev.keep⟩
            cases hdd : (all[i]).dst with
            | none => simpa [Act.put] using h1
            | some d' =>
              have hne : d' ≠ s := fun e => hd (by rw [hdd, e])
              simp [Act.put, hne, h1]
        · intro j o d hj ho hav hd
          by_cases hji : j = i
          · subst hji
            rw [hoi] at ho; obtain rfl := Option.some.inj ho
            have hsn := hdn d hd
            exact ⟨v, by rw [hd]; simp [Act.put, hsz, hsn], by rw [updB_eq]; exact hat⟩
          · have hjl : listed.getD j false = true := by rw [getD_set hil, if_neg hji] at hj; exact hj
            obtain ⟨u, h1, h2⟩ := hdyn j o d hjl ho hav hd
            refine ⟨u, ?_, by rw [updB_ne hji]; exact h2.mono hev.keep⟩
            cases hdd : (all[i]).dst with
            | none => simpa [Act.put] using h1
            | some d' =>
              have hne : d' ≠ d := fun e => hU j i o all[i] d (L.head j hjl) him hji ho hoi hav hd (by rw [hdd, e])
              simp [Act.put, hne, h1]
      simp only [wpOp, hoi]
      rcases hstep with ⟨hw, hmv⟩ | ⟨hw, hav⟩
      · rw [if_pos (wanted_of hw hrel)]
        exact .inl (hmv w S a hsz hdf (hrp.sub (List.sublist_append_left _ _)) hrel _ _ (fun b v w' S' hev hr' hat => next b v w' S' hev hr' hat))
      · rw [if_neg (by rw [wanted_of hw hrel]; simp)]
        obtain ⟨e1, e2⟩ := hav ⟨none, 0⟩
        replace e1 : toutT tk i (updB β i ⟨none, 0⟩) = tinT tk i β := e1
        refine next ⟨none, 0⟩ _ w S (by rw [e1]; exact Evo.refl _ _ _) (by rw [e1]; exact hrp.sub (List.sublist_append_left _ _)) ?_
        rw [e2]; exact .raw _
end order
end Go.Eng

/- The engine, part 22: the rules for regions that draw their order and turn memory. No program in sight. -/
set_option linter.unusedVariables false
set_option linter.unusedSectionVars false
namespace Go.Eng
open Go
variable [GTab]

theorem upon_use {P : Program} {o : Oper} {a : Act} {K0 K : Act → World → Prop} {G : Act → World → Prop} {Q' : Exit → Act → World → Prop} (hK : ∀ v w', K0 (a.put o.dst v) w' → K (a.put o.dst v) w') (hd : ∀ a' w', K0 a' w' → a'.defers = []) :
    ∀ r, o.upon P a K0 (NormalOnly G) r → o.upon P a K Q' r := by
  intro r h
  unfold Oper.upon at *
  split at h
  · exact hK _ _ h
  · exact hK _ _ h
  · rename_i d w'
    have := hd _ _ h
    cases hdst : o.dst <;> simp [Act.put, hdst] at this
  · refine Calls.mono h ?_
    intro e w' he
    cases e with
    | returned v => exact hK _ _ he
    | panicked c => cases he.1
    | outgrown => obtain ⟨a0, w0, h0⟩ := he; cases h0.1
  · exact Rows.mono h fun v w' hv => hK _ _ hv
  · cases h.1
  · exact h.elim

/-- A single operation, run: what follows of it. -/
theorem run_one {P : Program} {all : Array Oper} {o : Oper} {σ : St} {Q : St → Prop} (hg : o.guard = none) (h : ARun P all [o] σ Q) {w : World} {S : Nat → Prop} {a : Act} (r : StRel w S σ a) {K : Act → World → Prop} {Q' : Exit → Act → World → Prop}
    (hK : ∀ v w', Got w S σ.hp Q (a.put o.dst v) w' → K (a.put o.dst v) w') : o.wp P a w K Q' := by
  have := h w S a r
  unfold wpList at this
  rw [if_pos (by simp [Region.wanted, hg])] at this
  rcases this with h1 | ⟨_, a0, w0, h0, _⟩
  · refine upon_use (G := Got w S σ.hp Q) (fun v w' hh => hK v w' hh.2) (fun a' w' hh => ?_) _ h1
    obtain ⟨_, σ', S', _, hr, _⟩ := hh
    exact hr.defers
  · cases h0

variable {P : Program} {all : Array Oper} {n : Nat} {B : Heap} {tk : List Tok}

def dynC (x : Option AV) (c : (Nat → Bk) → Env) (d : Option Nat) (V : Bk → AV) (i : Nat) : (Nat → Bk) → Env := fun β => match x with | none => eputO (c β) d (some (V (β i))) | some _ => c β
inductive ATf (P : Program) (all : Array Oper) (n : Nat) (B : Heap) (tk : List Tok) (dy : List Nat) : Nat → List Oper → Env → ((Nat → Bk) → Env) → List (Option AV × (Bk → AV)) → Env → Prop
  | nil (i : Nat) (e : Env) (c : (Nat → Bk) → Env) : ATf P all n B tk dy i [] e c [] e
  | cons {i : Nat} {o : Oper} {l : List Oper} {e e' : Env} {c : (Nat → Bk) → Env} {D : List (Option AV × (Bk → AV))} {x : Option AV} {V : Bk → AV} (h : ∀ β, ∀ X ∈ altT tk i β, TStep P all n (X ++ B) o (orE e (c β)) (tinT tk i β) V (fun b => toutT tk i (updB β i b))) (hv : ∀ av, x = some av → ∀ b, V b = av) (hx : x = none → dy.contains i = true)
      (k : ATf P all n B tk dy (i + 1) l (eputO e o.dst x) (dynC x c o.dst V i) D e') : ATf P all n B tk dy i (o :: l) e c ((x, V) :: D) e'

def dynS (β : Nat → Bk) : Nat → List Oper → List (Option AV × (Bk → AV)) → List (Nat × AV) → List (Nat × AV)
  | i, o :: l, (none, V) :: D, a => match o.dst with
    | some d => dynS β (i + 1) l D ((d, V (β i)) :: a)
    | none => dynS β (i + 1) l D a
  | i, _ :: l, (some _, _) :: D, a => dynS β (i + 1) l D a
  | _, _, _, a => a

/-- The operations of the head that are left; what is said of the slots; the slots that hold new memory. -/
def AT (P : Program) (all : Array Oper) (n : Nat) (B : Heap) (tk : List Tok) (dy : List Nat) (i : Nat) (l : List Oper) (tm : List (Nat × AV)) (acc : (Nat → Bk) → List (Nat × AV)) (Q : (Nat → Bk) → List (Nat × AV) → Prop) : Prop :=
  ∃ D tm', ATf P all n B tk dy i l (lk tm) (fun β => lk (acc β)) D (lk tm') ∧ ∀ β, Q β (dynS β i l D (acc β) ++ tm')

section rules
variable {dy : List Nat} {i : Nat} {rest : List Oper} {tm : List (Nat × AV)} {acc : (Nat → Bk) → List (Nat × AV)} {Q : (Nat → Bk) → List (Nat × AV) → Prop} {d : Nat} {ty : TypeId} {pos : String} {af : Array Edge} {op : Op}

theorem AT.nil {F : (Nat → Bk) → List (Nat × AV)} (hF : ∀ β, F β = acc β ++ tm) (h : ∀ β, Q β (F β)) : AT P all n B tk dy i [] tm acc Q :=
  ⟨[], tm, .nil _ _ _, fun β => by rw [show dynS β i [] [] (acc β) = acc β from rfl, ← hF]; exact h β⟩

/-- A value that is the same whatever is made. -/
theorem AT.sta {o : Oper} {d : Nat} {av : AV} (hd : o.dst = some d) (h : ∀ β, ∀ X ∈ altT tk i β, TStep P all n (X ++ B) o (orE (lk tm) (lk (acc β))) (tinT tk i β) (fun _ => av) (fun b => toutT tk i (updB β i b))) (k : AT P all n B tk dy (i + 1) rest ((d, av) :: tm) acc Q) : AT P all n B tk dy i (o :: rest) tm acc Q := by
  obtain ⟨D, tm', k1, k2⟩ := k
  refine ⟨(some av, fun _ => av) :: D, tm', .cons h (fun av' e b => Option.some.inj e) (fun e => by cases e) ?_, k2⟩
  have : eputO (lk tm) o.dst (some av) = lk ((d, av) :: tm) := by
    rw [lk_cons, hd]; rfl
  rw [this]; exact k1
theorem AT.dyn {o : Oper} {d : Nat} {V : Bk → AV} (hd : o.dst = some d) (hnd : lk tm d = none) (hdy : dy.contains i = true) (h : ∀ β, ∀ X ∈ altT tk i β, TStep P all n (X ++ B) o (orE (lk tm) (lk (acc β))) (tinT tk i β) V (fun b => toutT tk i (updB β i b))) (k : AT P all n B tk dy (i + 1) rest tm (fun β => (d, V (β i)) :: acc β) Q) : AT P all n B tk dy i (o :: rest) tm acc Q := by
  obtain ⟨D, tm', k1, k2⟩ := k
  refine ⟨(none, V) :: D, tm', .cons h (fun av' e b => by cases e) (fun _ => hdy) ?_, fun β => ?_⟩
  · have : eputO (lk tm) o.dst none = lk tm := by
      funext s
      rw [hd]
      simp only [eputO]
      split
      · rename_i e; subst e; exact hnd.symm
      · rfl
    rw [this]
    have e2 : dynC none (fun β => lk (acc β)) o.dst V i = fun β => lk ((d, V (β i)) :: acc β) := by
      funext β
      simp only [dynC, hd]
      rw [lk_cons]; rfl
    rw [e2]; exact k1
  · have := k2 β
    simp only [dynS, hd]
    exact this
theorem AT.sto {o : Oper} (hd : o.dst = none) (h : ∀ β, ∀ X ∈ altT tk i β, TStep P all n (X ++ B) o (orE (lk tm) (lk (acc β))) (tinT tk i β) (fun _ => .raw undef) (fun b => toutT tk i (updB β i b))) (k : AT P all n B tk dy (i + 1) rest tm acc Q) : AT P all n B tk dy i (o :: rest) tm acc Q := by
  obtain ⟨D, tm', k1, k2⟩ := k
  refine ⟨(some (.raw undef), fun _ => .raw undef) :: D, tm', .cons h (fun av' e b => Option.some.inj e) (fun e => by cases e) ?_, k2⟩
  rw [hd]; exact k1

def noTokB (tk : List Tok) (i j : Nat) : Bool := tk.all fun t => (match t.prod with | some p => Nat.blt p i || Nat.ble j p | none => true) && (match t.cons with | some p => Nat.blt p i || Nat.ble j p | none => true) && ((t.rds.all fun p => Nat.blt p i || Nat.ble j p) && t.sft.all fun p => Nat.blt p i || Nat.ble j p)
theorem noTok_in {i j : Nat} (h : noTokB tk i j = true) {k : Nat} (h1 : i ≤ k) (h2 : k < j) (β : Nat → Bk) : tinT tk k β = [] := by
  unfold tinT
  rw [List.map_eq_nil_iff, List.filter_eq_nil_iff]
  intro t ht hc
  have := List.all_eq_true.1 h t ht
  rw [Bool.and_eq_true, Bool.and_eq_true] at this
  replace this := this.1
  unfold isC at hc
  split at hc
  · rename_i c hcc
    obtain rfl : c = k := Nat.eq_of_beq_eq_true hc
    have := this.2
    rw [hcc] at this
    simp at this; omega
  · cases hc
theorem noTok_out {i j : Nat} (h : noTokB tk i j = true) {k : Nat} (h1 : i ≤ k) (h2 : k < j) (β : Nat → Bk) : toutT tk k β = [] := by
  unfold toutT
  rw [List.map_eq_nil_iff, List.filter_eq_nil_iff]
  intro t ht hc
  have := List.all_eq_true.1 h t ht
  rw [Bool.and_eq_true, Bool.and_eq_true] at this
  replace this := this.1
  unfold isP at hc
  split at hc
  · rename_i c hcc
    obtain rfl : c = k := Nat.eq_of_beq_eq_true hc
    have := this.1
    rw [hcc] at this
    simp at this; omega
  · cases hc

theorem noTok_rd {i j : Nat} (h : noTokB tk i j = true) {k : Nat} (h1 : i ≤ k) (h2 : k < j) (β : Nat → Bk) : readT tk k β = [] := by
  unfold readT
  rw [List.map_eq_nil_iff, List.filter_eq_nil_iff]
  intro t ht hc
  have := List.all_eq_true.1 h t ht
  rw [Bool.and_eq_true] at this
  have h3 := List.all_eq_true.1 (Bool.and_eq_true_iff.1 this.2).1 k (by simpa [isR] using hc)
  simp at h3; omega
theorem noTok_alt {i j : Nat} (h : noTokB tk i j = true) {k : Nat} (h1 : i ≤ k) (h2 : k < j) (β : Nat → Bk) : altT tk k β = [[]] := by
  have e : tk.filter (isS k) = [] := by
    rw [List.filter_eq_nil_iff]
    intro t ht hc
    have := List.all_eq_true.1 h t ht
    rw [Bool.and_eq_true] at this
    have h3 := List.all_eq_true.1 (Bool.and_eq_true_iff.1 this.2).2 k (by simpa [isS] using hc)
    simp at h3; omega
  unfold altT
  rw [e, noTok_rd h h1 h2 β]
theorem eputO_some (e : Env) (d : Option Nat) (av : AV) : eputO e d (some av) = eput e d av := by
  cases d <;> rfl

theorem mv_tstep {o : Oper} {e : Env} {av : AV} (hd : ∀ d, o.dst = some d → d < n) (hg : Wanted all o e true) (h : MV P all n o e B av) : TStep P all n B o e [] (fun _ => av) (fun _ => []) := by
  refine ⟨hd, .inl ⟨hg, fun w S a h1 h2 h3 h4 K Q hK => ?_⟩⟩
  exact h w S a h1 h2 h3 h4 K Q (fun v w' S' hgr hat => hK ⟨none, 0⟩ v w' S' (hgr.evo h3.slt _) (h3.grow hgr) hat)

theorem am_at : ∀ {l1 : List Oper} {e e' : Env} {i : Nat} (h : AMf P all n B l1 e e') (hn : noTokB tk i (i + l1.length) = true) {l2 : List Oper} {c : (Nat → Bk) → Env} {D : List (Option AV × (Bk → AV))} {e2 : Env}, ATf P all n B tk dy (i + l1.length) l2 e' c D e2 →
    ∃ D1, ATf P all n B tk dy i (l1 ++ l2) e c (D1 ++ D) e2 ∧ D1.length = l1.length ∧ ∀ x ∈ D1, x.1.isSome = true := by
  intro l1 e e' i h
  induction h generalizing i with
  | nil e => intro hn l2 c D e2 k; exact ⟨[], by simpa using k, rfl, by simp⟩
  | @run o l e e' av hg hm hd k ih =>
    intro hn l2 c D e2 kk
    have hn' : noTokB tk (i + 1) (i + 1 + l.length) = true := by
      unfold noTokB at hn ⊢
      rw [List.all_eq_true] at hn ⊢
      intro t ht
      have := hn t ht
      rw [Bool.and_eq_true, Bool.and_eq_true] at this ⊢
      refine ⟨⟨?_, ?_⟩, ?_⟩
      · have h1 := this.1.1
        cases hp : t.prod <;> rw [hp] at h1 <;> simp_all <;> omega
      · have h1 := this.1.2
        cases hp : t.cons <;> rw [hp] at h1 <;> simp_all <;> omega
      · have h1 := this.2
        rw [Bool.and_eq_true, List.all_eq_true, List.all_eq_true] at h1 ⊢
        exact ⟨fun p hp => by have := h1.1 p hp; simp at this ⊢; omega, fun p hp => by have := h1.2 p hp; simp at this ⊢; omega⟩
    obtain ⟨D1, a1, a2, a3⟩ := ih hn' (l2 := l2) (D := D) (e2 := e2) (by rw [show i + 1 + l.length = i + (o :: l).length by simp; omega]; exact kk)
    refine ⟨(some av, fun _ => av) :: D1, ?_, by simp [a2], ?_⟩
    · refine .cons (fun β X hX => ?_) (fun av' e b => Option.some.inj e) (fun e => by cases e) (by rw [eputO_some]; exact a1)
      rw [noTok_alt hn (Nat.le_refl _) (by simp)] at hX
      obtain rfl := List.mem_singleton.1 hX
      rw [noTok_in hn (Nat.le_refl _) (by simp), show (fun b => toutT tk i (updB β i b)) = fun _ => [] from funext fun b => noTok_out hn (Nat.le_refl _) (by simp) _]
      exact (mv_tstep hd hg hm).up
    · intro x hx
      rcases List.mem_cons.1 hx with rfl | hx
      · rfl
      · exact a3 x hx
  | @pass o l e e' hg hd k ih =>
    intro hn l2 c D e2 kk
    have hn' : noTokB tk (i + 1) (i + 1 + l.length) = true := by
      unfold noTokB at hn ⊢
      rw [List.all_eq_true] at hn ⊢
      intro t ht
      have := hn t ht
      rw [Bool.and_eq_true, Bool.and_eq_true] at this ⊢
      refine ⟨⟨?_, ?_⟩, ?_⟩
      · have h1 := this.1.1
        cases hp : t.prod <;> rw [hp] at h1 <;> simp_all <;> omega
      · have h1 := this.1.2
        cases hp : t.cons <;> rw [hp] at h1 <;> simp_all <;> omega
      · have h1 := this.2
        rw [Bool.and_eq_true, List.all_eq_true, List.all_eq_true] at h1 ⊢
        exact ⟨fun p hp => by have := h1.1 p hp; simp at this ⊢; omega, fun p hp => by have := h1.2 p hp; simp at this ⊢; omega⟩
    obtain ⟨D1, a1, a2, a3⟩ := ih hn' (l2 := l2) (D := D) (e2 := e2) (by rw [show i + 1 + l.length = i + (o :: l).length by simp; omega]; exact kk)
    refine ⟨(some (.raw undef), fun _ => .raw undef) :: D1, ?_, by simp [a2], ?_⟩
    · refine .cons (fun β X hX => ?_) (fun av' e b => Option.some.inj e) (fun e => by cases e) (by rw [eputO_some]; exact a1)
      rw [noTok_alt hn (Nat.le_refl _) (by simp)] at hX
      obtain rfl := List.mem_singleton.1 hX
      rw [noTok_in hn (Nat.le_refl _) (by simp), show (fun b => toutT tk i (updB β i b)) = fun _ => [] from funext fun b => noTok_out hn (Nat.le_refl _) (by simp) _]
      exact ⟨hd, .inr ⟨hg.up, fun b => ⟨rfl, rfl⟩⟩⟩
    · intro x hx
      rcases List.mem_cons.1 hx with rfl | hx
      · rfl
      · exact a3 x hx

theorem dynS_some (β : Nat → Bk) : ∀ {l1 : List Oper} {D1 : List (Option AV × (Bk → AV))} (i : Nat) {l2 : List Oper} {D : List (Option AV × (Bk → AV))} (a : List (Nat × AV)), D1.length = l1.length → (∀ x ∈ D1, x.1.isSome = true) → dynS β i (l1 ++ l2) (D1 ++ D) a = dynS β (i + l1.length) l2 D a
  | [], [], i, l2, D, a, _, _ => by simp
  | o :: l1, (some av, V) :: D1, i, l2, D, a, h, hs => by
    simp only [List.cons_append, dynS]
    rw [dynS_some β (i + 1) a (by simpa using h) (fun x hx => hs x (by simp [hx]))]
    simp [Nat.add_assoc, Nat.add_comm 1]
  | o :: l1, (none, V) :: D1, i, l2, D, a, h, hs => by have := hs (none, V) (by simp); cases this
  | [], _ :: _, i, l2, D, a, h, hs => by cases h
  | _ :: _, [], i, l2, D, a, h, hs => by cases h

/-- Some operations that only look. -/
theorem AT.am {l l1 l2 : List Oper} (m : Nat) (hs : splO m l = some (l1, l2)) (hn : noTokB tk i (i + m) = true) (h : AM P all n B l1 tm (fun tm' => AT P all n B tk dy (i + m) l2 tm' acc Q)) : AT P all n B tk dy i l tm acc Q := by
  obtain ⟨rfl, rfl⟩ := splO_spec hs
  obtain ⟨tm1, h1, D, tm', h2, h3⟩ := h
  obtain ⟨D1, a1, a2, a3⟩ := am_at h1 hn h2
  refine ⟨D1 ++ D, tm', a1, fun β => ?_⟩
  rw [dynS_some β i (acc β) a2 a3]
  exact h3 β

/-- One operation that turns memory, by the rules for operations in order. -/
theorem tstep_run {o : Oper} {Ti H1 : Heap} {V : Bk → AV} {Pi H2 : Bk → Heap} (hg : o.guard = none) (hd : ∀ d, o.dst = some d → d < n) (h1 : appO Ti B = some H1) (h2 : ∀ b, appO (Pi b) B = some (H2 b))
    (hrun : ARun P all [o] ⟨n, rst (looks all o) tm, H1⟩ (fun σ' => ∃ b tm1, σ' = ⟨n, tm1, H2 b⟩ ∧ ∀ d, o.dst = some d → lk tm1 d = some (V b)))
    (hv : o.dst = none → ∀ b, V b = .raw undef) : TStep P all n B o (lk tm) Ti V Pi := by
  refine ⟨hd, .inl ⟨by simp [Wanted, hg], fun w S a s1 s2 s3 s4 K Q hK => ?_⟩⟩
  have e1 := appO_eq h1
  rw [e1] at s3 hK
  refine run_one hg hrun (strel_rst s1 s2 s3 s4) (fun v w' hgot => ?_)
  obtain ⟨σ', S', ⟨b, tm1, rfl, hlk⟩, hr, hev⟩ := hgot
  have e2 := appO_eq (h2 b)
  cases hdst : o.dst with
  | some d =>
    have hdn := hd d hdst
    obtain ⟨u, g1, g2⟩ := hr.tm d _ (hlk d hdst)
    have hu : u = v := by
      rw [hdst] at g1
      simp [Act.put, s1, hdn] at g1
      exact g1.symm
    rw [hu] at g2
    rw [← hdst]
    exact hK b v w' S' (by rw [e2]; exact hev) (by rw [e2]; exact hr.hp) g2
  | none =>
    have : a.put none v = a.put o.dst undef := by rw [hdst]; rfl
    rw [this]
    exact hK b undef w' S' (by rw [e2]; exact hev) (by rw [e2]; exact hr.hp) (by rw [hv hdst b]; exact .raw _)

theorem AT.runS {av : AV} {Ti H1 Pi H2 : Heap} (hrd : ∀ β, altT tk i β = [[]]) (hti : ∀ β, tinT tk i β = Ti) (hto : ∀ β, toutT tk i β = Pi) (h1 : appO Ti B = some H1) (h2 : appO Pi B = some H2) (hn : Nat.blt d n = true)
    (hrun : ARun P all [⟨some d, op, ty, pos, af, none⟩] ⟨n, rst (looks all ⟨some d, op, ty, pos, af, none⟩) tm, H1⟩ (fun σ' => ∃ tm1, σ' = ⟨n, tm1, H2⟩ ∧ lk tm1 d = some av))
    (k : AT P all n B tk dy (i + 1) rest ((d, av) :: tm) acc Q) : AT P all n B tk dy i (⟨some d, op, ty, pos, af, none⟩ :: rest) tm acc Q := by
  refine AT.sta rfl (fun β X hX => ?_) k
  rw [hrd β] at hX
  obtain rfl := List.mem_singleton.1 hX
  rw [List.nil_append, hti β, show (fun b => toutT tk i (updB β i b)) = fun _ => Pi from funext fun b => hto _]
  refine TStep.up ?_
  refine tstep_run rfl (fun d' hd' => by obtain rfl := Option.some.inj hd'; simpa using hn) h1 (fun _ => h2) ?_ (fun e => by cases e)
  refine fun w S a r => wpList_mono ?_ _ _ _ (hrun w S a r)
  rintro e a' w' ⟨he, σ', S', ⟨tm1, q1, q2⟩, hh⟩
  exact ⟨he, σ', S', ⟨⟨none, 0⟩, tm1, q1, fun d' hd' => by obtain rfl := Option.some.inj hd'; exact q2⟩, hh⟩
theorem AT.runD {V : Bk → AV} {Ti H1 : Heap} {Pi H2 : Bk → Heap} (hrd : ∀ β, altT tk i β = [[]]) (hti : ∀ β, tinT tk i β = Ti) (hto : ∀ β b, toutT tk i (updB β i b) = Pi b) (h1 : appO Ti B = some H1) (h2 : ∀ b, appO (Pi b) B = some (H2 b)) (hn : Nat.blt d n = true) (hnd : lk tm d = none) (hdy : dy.contains i = true)
    (hrun : ARun P all [⟨some d, op, ty, pos, af, none⟩] ⟨n, rst (looks all ⟨some d, op, ty, pos, af, none⟩) tm, H1⟩ (fun σ' => ∃ b tm1, σ' = ⟨n, tm1, H2 b⟩ ∧ lk tm1 d = some (V b)))
    (k : AT P all n B tk dy (i + 1) rest tm (fun β => (d, V (β i)) :: acc β) Q) : AT P all n B tk dy i (⟨some d, op, ty, pos, af, none⟩ :: rest) tm acc Q := by
  refine AT.dyn rfl hnd hdy (fun β X hX => ?_) k
  rw [hrd β] at hX
  obtain rfl := List.mem_singleton.1 hX
  rw [List.nil_append, hti β, show (fun b => toutT tk i (updB β i b)) = Pi from funext (hto β)]
  refine TStep.up ?_
  refine tstep_run rfl (fun d' hd' => by obtain rfl := Option.some.inj hd'; simpa using hn) h1 h2 ?_ (fun e => by cases e)
  refine fun w S a r => wpList_mono ?_ _ _ _ (hrun w S a r)
  rintro e a' w' ⟨he, σ', S', ⟨b, tm1, q1, q2⟩, hh⟩
  exact ⟨he, σ', S', ⟨b, tm1, q1, fun d' hd' => by obtain rfl := Option.some.inj hd'; exact q2⟩, hh⟩
theorem AT.run0 {Ti H1 Pi H2 : Heap} (hrd : ∀ β, altT tk i β = [[]]) (hti : ∀ β, tinT tk i β = Ti) (hto : ∀ β, toutT tk i β = Pi) (h1 : appO Ti B = some H1) (h2 : appO Pi B = some H2)
    (hrun : ARun P all [⟨none, op, ty, pos, af, none⟩] ⟨n, rst (looks all ⟨none, op, ty, pos, af, none⟩) tm, H1⟩ (fun σ' => ∃ tm1, σ' = ⟨n, tm1, H2⟩))
    (k : AT P all n B tk dy (i + 1) rest tm acc Q) : AT P all n B tk dy i (⟨none, op, ty, pos, af, none⟩ :: rest) tm acc Q := by
  refine AT.sto rfl (fun β X hX => ?_) k
  rw [hrd β] at hX
  obtain rfl := List.mem_singleton.1 hX
  rw [List.nil_append, hti β, show (fun b => toutT tk i (updB β i b)) = fun _ => Pi from funext fun b => hto _]
  refine TStep.up ?_
  refine tstep_run rfl (fun d' hd' => by cases hd') h1 (fun _ => h2) ?_ (fun _ b => rfl)
  refine fun w S a r => wpList_mono ?_ _ _ _ (hrun w S a r)
  rintro e a' w' ⟨he, σ', S', ⟨tm1, q1⟩, hh⟩
  exact ⟨he, σ', S', ⟨⟨none, 0⟩, tm1, q1, fun d' hd' => by cases hd'⟩, hh⟩
theorem lk_append (a b : List (Nat × AV)) : lk (a ++ b) = orE (lk a) (lk b) := by
  funext s
  induction a with
  | nil => rfl
  | cons x a ih =>
    obtain ⟨k, v⟩ := x
    simp only [List.cons_append, lk, orE] at ih ⊢
    split
    · rfl
    · exact ih
/-- One operation that looks at a piece that is turned later. -/
theorem AT.rd {av : AV} {Rs H1 : Heap} (hr : ∀ β, altT tk i β = [Rs]) (h1 : appO Rs B = some H1) (hti : ∀ β, tinT tk i β = []) (hto : ∀ β, toutT tk i β = [])
    (q : QV P ⟨some d, op, ty, pos, af, none⟩ ⟨n, rst (looks all ⟨some d, op, ty, pos, af, none⟩) tm, H1⟩ av) (hn : Nat.blt d n = true)
    (k : AT P all n B tk dy (i + 1) rest ((d, av) :: tm) acc Q) : AT P all n B tk dy i (⟨some d, op, ty, pos, af, none⟩ :: rest) tm acc Q := by
  refine AT.sta rfl (fun β X hX => ?_) k
  rw [hr β] at hX
  obtain rfl := List.mem_singleton.1 hX
  rw [appO_eq h1, hti β, show (fun b => toutT tk i (updB β i b)) = fun _ => [] from funext fun b => hto _]
  refine TStep.up ?_
  refine mv_tstep (fun d' hd' => by obtain rfl := Option.some.inj hd'; simpa using hn) rfl (fun w S a s1 s2 s3 s4 K Q' hK => ?_)
  obtain ⟨v, g1, g2⟩ := q w S a (strel_rst s1 s2 s3 s4)
  show Oper.upon P _ a K Q' _
  rw [g1 w (Ext.refl w)]
  exact hK v w S (Grow.refl s3.slt) g2
end rules
end Go.Eng

/- The engine, part 23: a region that draws its order and turns memory. No program in sight. -/
set_option linter.unusedVariables false
set_option linter.unusedSectionVars false
namespace Go.Eng
open Go
variable [GTab]

theorem ATf.unroll {P : Program} {all : Array Oper} {n : Nat} {B : Heap} {tk : List Tok} {dy : List Nat} {i : Nat} {l : List Oper} {e e' : Env} {c : (Nat → Bk) → Env} {D : List (Option AV × (Bk → AV))} (h : ATf P all n B tk dy i l e c D e') :
    ∃ (en : Nat → Env) (cn : Nat → (Nat → Bk) → Env), en i = e ∧ cn i = c ∧ en (i + l.length) = e' ∧ D.length = l.length ∧ ∀ j o x V, l[j]? = some o → D[j]? = some (x, V) →
      (∀ β, ∀ X ∈ altT tk (i + j) β, TStep P all n (X ++ B) o (orE (en (i + j)) (cn (i + j) β)) (tinT tk (i + j) β) V (fun b => toutT tk (i + j) (updB β (i + j) b))) ∧ en (i + j + 1) = eputO (en (i + j)) o.dst x ∧ (∀ av, x = some av → ∀ b, V b = av) ∧ (x = none → dy.contains (i + j) = true) ∧ cn (i + j + 1) = dynC x (cn (i + j)) o.dst V (i + j) := by
  induction h with
  | nil i e c => exact ⟨fun _ => e, fun _ => c, rfl, rfl, rfl, rfl, fun j o x V h => by simp at h⟩
  | @cons i o l e e' c D x V h hv hx k ih =>
    obtain ⟨en, cn, h0, hc0, h1, h2, h3⟩ := ih
    refine ⟨fun k => if k = i then e else en k, fun k => if k = i then c else cn k, by simp, by simp, ?_, by simp [h2], fun j o' x' V' ho hD => ?_⟩
    · show (if i + (o :: l).length = i then e else en (i + (o :: l).length)) = e'
      rw [if_neg (by simp), ← h1]
      congr 1
      simp; omega
    · match j with
      | 0 =>
        simp at ho hD
        obtain ⟨rfl, rfl⟩ := hD
        subst ho
        simp only [Nat.add_zero, if_true]
        refine ⟨h, ?_, hv, hx, ?_⟩
        · rw [if_neg (by omega), h0]
        · rw [if_neg (by omega), hc0]
      | j + 1 =>
        have := h3 j o' x' V' (by simpa using ho) (by simpa using hD)
        rw [show i + 1 + j = i + (j + 1) by omega] at this
        simp only
        rw [if_neg (show ¬ i + (j + 1) = i by omega), if_neg (show ¬ i + (j + 1) + 1 = i by omega), if_neg (show ¬ i + (j + 1) = i by omega), if_neg (show ¬ i + (j + 1) + 1 = i by omega)]
        exact this

def uniqB (l : List Oper) (dy : List Nat) : Bool := dy.all fun i => (List.range l.length).all fun j => Nat.beq i j || (match l[i]?, l[j]? with
  | some oi, some oj => (match oi.dst, oj.dst with | some d, some d' => !Nat.beq d d' | _, _ => true)
  | _, _ => true)
theorem uniqB_spec {l : List Oper} {dy : List Nat} (h : uniqB l dy = true) {i j : Nat} {oi oj : Oper} {d : Nat} (hi : dy.contains i = true) (hij : i ≠ j) (h1 : l[i]? = some oi) (h2 : l[j]? = some oj) (hd : oi.dst = some d) : oj.dst ≠ some d := by
  intro hd'
  have hm : i ∈ dy := by simpa using hi
  have hj : j < l.length := (List.getElem?_eq_some_iff.1 h2).1
  have := List.all_eq_true.1 (List.all_eq_true.1 h i hm) j (List.mem_range.2 hj)
  rw [h1, h2] at this
  simp only [hd, hd'] at this
  have hb : Nat.beq i j = false := nbeq_f' hij
  rw [hb] at this
  simp at this

def startT (tk : List Tok) : Heap := (tk.filter (fun t => t.prod.isNone)).map (fun t => t.at (fun _ => ⟨none, 0⟩))

theorem lk_app : ∀ (a b : List (Nat × AV)) (s : Nat) (av : AV), lk (a ++ b) s = some av → lk a s = some av ∨ lk b s = some av
  | [], b, s, av, h => .inr h
  | (k, v) :: a, b, s, av, h => by
    simp only [List.cons_append, lk] at h ⊢
    split at h
    · exact .inl h
    · exact lk_app a b s av h

theorem dynS_mem (β : Nat → Bk) : ∀ (l : List Oper) (D : List (Option AV × (Bk → AV))) (i : Nat) (a : List (Nat × AV)) (s : Nat) (av : AV), lk (dynS β i l D a) s = some av → lk a s = some av ∨ ∃ (j : Nat) (o : Oper) (V : Bk → AV), l[j]? = some o ∧ D[j]? = some (none, V) ∧ o.dst = some s ∧ av = V (β (i + j))
  | [], D, i, a, s, av, h => by
    have : dynS β i [] D a = a := by cases D <;> rfl
    rw [this] at h; exact .inl h
  | o :: l, [], i, a, s, av, h => .inl h
  | o :: l, (some x, V) :: D, i, a, s, av, h => by
    simp only [dynS] at h
    rcases dynS_mem β l D (i + 1) a s av h with h | ⟨j, o', V', h1, h2, h3, h4⟩
    · exact .inl h
    · exact .inr ⟨j + 1, o', V', by simpa using h1, by simpa using h2, h3, by rw [h4]; congr 2; omega⟩
  | o :: l, (none, V) :: D, i, a, s, av, h => by
    simp only [dynS] at h
    cases hd : o.dst with
    | none =>
      rw [hd] at h
      rcases dynS_mem β l D (i + 1) a s av h with h | ⟨j, o', V', h1, h2, h3, h4⟩
      · exact .inl h
      · exact .inr ⟨j + 1, o', V', by simpa using h1, by simpa using h2, h3, by rw [h4]; congr 2; omega⟩
    | some d =>
      rw [hd] at h
      rcases dynS_mem β l D (i + 1) _ s av h with h5 | ⟨j, o', V', h1, h2, h3, h4⟩
      · simp only [lk] at h5
        split at h5
        · rename_i hb
          obtain rfl : d = s := by simpa using hb
          exact .inr ⟨0, o, V, rfl, rfl, hd, by simpa using (Option.some.inj h5).symm⟩
        · exact .inl h5
      · exact .inr ⟨j + 1, o', V', by simpa using h1, by simpa using h2, h3, by rw [h4]; congr 2; omega⟩

theorem ATodo.regionT {P : Program} {R : St → Prop} {k : List It} {id n : Nat} {tm : List (Nat × AV)} {hp : Heap} {l hd tl : List Oper} (m : Nat) (hm : P.follows .mixedOrders = true) (hs : splO m l = some (hd, tl)) {A : List Nat} (hA : ancs l.toArray = A) (hB0 : monoB l.toArray m A = true)
    (tk : List Tok) (dy : List Nat) (hT0 : (tokB A m tk && softB A m tk) = true) (hU0 : uniqB hd dy = true) {B H0 : Heap} (hst : startT tk = H0) (hsel : Sel hp H0 B) {HH : (Nat → Bk) → Heap} (hend : ∀ β, appO (endT tk β) B = some (HH β))
    (h : AT P l.toArray n B tk dy 0 hd tm (fun _ => []) (fun β tm' => ARun P l.toArray tl ⟨n, tm', HH β⟩ (ATodo P R k))) : ATodo P R (.code (.region id l.toArray true) :: k) ⟨n, tm, hp⟩ := by
  have hB : MonoB l.toArray m := ⟨A, hA, hB0⟩
  have hT : TokOk l.toArray m tk := tokB_spec hA (Bool.and_eq_true_iff.1 hT0).1
  intro w S a r
  obtain ⟨hl, hml⟩ := splO_spec hs
  obtain ⟨D, tm', hAf, hrun⟩ := h
  obtain ⟨en, cn, e0, ec0, e1, e2, e3⟩ := hAf.unroll
  rw [Nat.zero_add, hml] at e1
  have hsz : m ≤ l.toArray.size := by simp [hl, hml]
  let avs : Nat → Option AV := fun j => (D[j]?).bind (·.1)
  let V : Nat → Bk → AV := fun j => match D[j]? with | some x => x.2 | none => fun _ => .nil
  have hget : ∀ j o, j < m → l.toArray[j]? = some o → hd[j]? = some o := by
    intro j o hj ho
    have : l[j]? = some o := by simpa using ho
    rw [hl, List.getElem?_append_left (by omega)] at this
    exact this
  have hD : ∀ j, j < m → ∃ x W, D[j]? = some (x, W) ∧ avs j = x ∧ V j = W := by
    intro j hj
    have : j < D.length := by rw [e2, hml]; exact hj
    refine ⟨D[j].1, D[j].2, by simp [this], ?_, ?_⟩
    · simp [avs, this]
    · simp [V, this]
  refine wp_region_any hm ?_
  have hdraw : Ext w { w with drawn := w.drawn + 1 } := Ext.draws w _ (Nat.le_succ _)
  let β0 : Nat → Bk := fun _ => ⟨none, 0⟩
  have hf : ∀ k, (Array.replicate l.toArray.size false).getD k false = false := by
    intro k
    rcases Nat.lt_or_ge k l.toArray.size with h | h
    · simp at h; simp [h]
    · simp at h; simp [Nat.not_lt.2 h]
  have hc0 : ∀ k, curO l.toArray avs (lk tm) (Array.replicate l.toArray.size false) k = lk tm := by
    intro k
    induction k with
    | zero => rfl
    | succ k ih => simp only [curO, ih]; rw [if_neg (by rw [hf k]; simp)]
  have hh0 : heapT tk (Array.replicate l.toArray.size false) β0 = H0 := by
    rw [← hst]
    unfold heapT startT
    have e : tk.filter (onT (Array.replicate l.toArray.size false)) = tk.filter (fun t => t.prod.isNone) := by
      apply List.filter_congr
      intro t ht
      unfold onT
      cases t.prod with
      | none =>
        cases t.cons with
        | none => rfl
        | some c => simp only [hf c, Bool.not_false, Bool.and_self, Option.isNone]
      | some p => simp only [hf p, Bool.false_and, Option.isNone]
    rw [e]
  have hperm := hsel.perm
  have hr0 : HRel { w with drawn := w.drawn + 1 } S (heapT tk (Array.replicate l.toArray.size false) β0 ++ B) := by
    rw [hh0]; exact (r.hp.ext hdraw).perm hperm
  have ev0 : Evo w S hp { w with drawn := w.drawn + 1 } S (heapT tk (Array.replicate l.toArray.size false) β0 ++ B) := by
    rw [hh0]
    have := Evo.ext (h := hp) r.hp.slt hdraw
    exact { this with new := fun k hk => this.new k (by
      obtain ⟨x, hx, hb⟩ := hk
      exact ⟨x, hperm.mem_iff.2 hx, hb⟩) }
  refine any_headT (P := P) (all := l.toArray) (n := n) (m := m) (avs := avs) (en := en) (cn := cn) (e := lk tm) (V := V) (B := B) (tk := tk) hB hT (softB_spec hA (Bool.and_eq_true_iff.1 hT0).2) hsz e0 (fun β s => by rw [ec0]; rfl) ?_ ?_ ?_ (w0 := w) (S0 := S) (hp0 := hp) ?_ l.toArray.size (Array.replicate l.toArray.size false) a _ S β0
    ⟨by simp, (fun k hk => by rw [hf k] at hk; cases hk), (fun k i o hk => by rw [hf k] at hk; cases hk)⟩ (by simp [List.count_replicate]) r.size r.defers hr0 ev0 (by rw [hc0]; exact (r.ext hdraw).tm) (fun j o d hj => by rw [hf j] at hj; cases hj)
  · intro i o hi ho β
    obtain ⟨x, W, d1, d2, d3⟩ := hD i hi
    have := e3 i o x W (hget i o hi ho) d1
    rw [Nat.zero_add] at this
    rw [d2, d3, this.2.2.2.2]; rfl
  · intro i o hi ho
    obtain ⟨x, W, d1, d2, d3⟩ := hD i hi
    have := e3 i o x W (hget i o hi ho) d1
    rw [Nat.zero_add] at this
    rw [d2, d3]
    exact ⟨this.1, this.2.1, this.2.2.1⟩
  · intro i j oi oj d hi hj hij hoi hoj hav hdd
    obtain ⟨x, W, d1, d2, d3⟩ := hD i hi
    have := e3 i oi x W (hget i oi hi hoi) d1
    rw [Nat.zero_add] at this
    exact uniqB_spec hU0 (this.2.2.2.1 (by rw [← d2]; exact hav)) hij (hget i oi hi hoi) (hget j oj hj hoj) hdd
  · intro β a' w' S' h1 h2 h3 h4 h5 h6
    have htl : l.toArray.toList.drop m = tl := by
      simp only [hl, ← hml]
      exact List.drop_left
    rw [htl]
    rw [appO_eq (hend β)] at h3 h4
    rw [e1] at h5
    refine wpList_mono ?_ _ _ _ ((hrun β).go (h := hp) (w := w) (S := S) ⟨h1, h2, fun s av hlk => ?_, h3⟩ h4)
    · rintro ex a2 w2 ⟨rfl, σ2, S2, q1, q2, q3⟩
      exact ⟨σ2, S2, q1, q2, q3⟩
    · rcases lk_app _ _ _ _ hlk with hlk | hlk
      · rcases dynS_mem β hd D 0 [] s av hlk with hlk | ⟨j, o, W, g1, g2, g3, g4⟩
        · cases hlk
        · have hj : j < m := by rw [← hml]; exact (List.getElem?_eq_some_iff.1 g1).1
          obtain ⟨x, W', d1, d2, d3⟩ := hD j hj
          rw [g2] at d1
          obtain ⟨rfl, rfl⟩ := Prod.mk.inj (Option.some.inj d1)
          have hoj : l.toArray[j]? = some o := by
            have : l[j]? = some o := by rw [hl, List.getElem?_append_left (by omega)]; exact g1
            simpa using this
          obtain ⟨v, k1, k2⟩ := h6 j o s hj hoj d2 g3
          rw [d3] at k2
          rw [g4, Nat.zero_add]
          exact ⟨v, k1, k2⟩
      · exact h5 s av hlk
end Go.Eng

/- The engine, part 24: small forms; lists inside boxes, read otherwise. No program in sight. -/
set_option linter.unusedVariables false
set_option linter.unusedSectionVars false
namespace Go.Eng
open Go
variable [GTab]
def appL {α : Type} : List α → List α → Option (List α)
  | [], r => some r
  | x :: l, r => match appL l r with
    | some m => some (x :: m)
    | none => none
theorem appL_eq {α : Type} : ∀ {l r m : List α}, appL l r = some m → l ++ r = m
  | [], r, m, h => by simpa [appL] using h
  | x :: l, r, m, h => by
    simp only [appL] at h
    split at h
    · rename_i m' hm
      obtain rfl := Option.some.inj h
      rw [List.cons_append, appL_eq hm]
    · cases h
theorem AT.nilN {P : Program} {all : Array Oper} {n : Nat} {B : Heap} {tk : List Tok} {dy : List Nat} {i : Nat} {tm : List (Nat × AV)} {acc F : (Nat → Bk) → List (Nat × AV)} {Q : (Nat → Bk) → List (Nat × AV) → Prop} (hF : ∀ β, appL (acc β) tm = some (F β)) (h : ∀ β, Q β (F β)) : AT P all n B tk dy i [] tm acc Q :=
  AT.nil (fun β => (appL_eq (hF β)).symm) h
/-- The cells of a box, told otherwise. -/
theorem upd_cells {w : World} {S : Nat → Prop} {hp hp' : Heap} {b : Bk} {cs cs' : List AV} (r : HRel w S hp) (u : Upd hp b (.cells cs) b (.cells cs') hp') (hl : cs'.length = cs.length) (h1 : ∀ c ∈ cs', c.one = true) (hat : ∀ (i : Nat) c c' v, cs[i]? = some c → cs'[i]? = some c' → At w S c v → At w S c' v) : HRel w S hp' ∧ Evo w S hp w S hp' := by
  obtain ⟨pre, post, e1, e2⟩ := u.split
  subst e1; subst e2
  have hblk : ∀ n, Has (pre ++ (b, Ob.cells cs') :: post) n ↔ Has (pre ++ (b, Ob.cells cs) :: post) n := by
    intro n
    constructor <;> rintro ⟨x, hx, hb⟩ <;> rcases mem_mid.1 hx with rfl | hx
    · exact ⟨(b, .cells cs), mem_mid.2 (.inl rfl), hb⟩
    · exact ⟨x, mem_mid.2 (.inr hx), hb⟩
    · exact ⟨(b, .cells cs'), mem_mid.2 (.inl rfl), hb⟩
    · exact ⟨x, mem_mid.2 (.inr hx), hb⟩
  refine ⟨⟨?_, ?_, ?_, r.slt, r.glob⟩, ⟨rfl, rfl, rfl, Nat.le_refl _, fun n hn => ⟨hn, rfl⟩, fun n _ _ => ⟨rfl, id⟩, fun n hn => .inl ((hblk n).1 hn), fun _ => Nat.le_refl _⟩⟩
  · have := r.nodup
    simpa [List.flatMap_append, List.flatMap_cons, eb, Ob.more] using this
  · intro x hx
    rcases mem_mid.1 hx with rfl | hx
    · obtain ⟨h0, n, vs, E, g1, g2, g3, g4⟩ := r.holds (b, .cells cs) (mem_mid.2 (.inl rfl))
      refine ⟨h1, n, vs, E, g1, g2, by rw [hl]; exact g3, fun i c v hc hv => ?_⟩
      have hi : i < cs.length := by rw [← hl]; exact (List.getElem?_eq_some_iff.1 hc).1
      have hci : cs[i]? = some cs[i] := by simp [hi]
      exact hat i cs[i] c v hci hc (g4 i _ v hci hv)
    · exact r.holds x (mem_mid.2 (.inr hx))
  · intro x hx n hn
    rcases mem_mid.1 hx with rfl | hx
    · have := r.sep (b, .cells cs) (mem_mid.2 (.inl rfl)) n hn
      exact ⟨fun h => (this.1 h).elim, fun h => h.elim⟩
    · exact r.sep x (mem_mid.2 (.inr hx)) n hn

theorem ImpX.coBox {n j : Nat} {tm : List (Nat × AV)} {hp hp' : Heap} {T : St → Prop} {b : Bk} {cs cs' : List AV} {av av' : AV} (u : Upd hp b (.cells cs) b (.cells cs') hp') (hj : cs[j]? = some av) (c : Co hp av av') (hc : normL (cs.set j av') = some cs') (h1 : allOne cs' = true) (k : ImpX ⟨n, tm, hp'⟩ T) : ImpX ⟨n, tm, hp⟩ T := by
  refine ImpX.step (σ1 := ⟨n, tm, hp'⟩) (fun w S a r => ?_) k
  have e := normL_eq hc
  obtain ⟨g1, g2⟩ := upd_cells r.hp u (by rw [← e]; simp) (allOne_spec h1) (fun i c1 c2 v hc1 hc2 hat => by
    rw [← e] at hc2
    by_cases hij : j = i
    · subst hij
      rw [List.getElem?_set_self (List.getElem?_eq_some_iff.1 hj).1] at hc2
      obtain rfl := Option.some.inj hc2
      rw [hj] at hc1
      obtain rfl := Option.some.inj hc1
      exact c.at r.hp hat
    · rw [List.getElem?_set_ne hij, hc1] at hc2
      obtain rfl := Option.some.inj hc2
      exact hat)
  exact ⟨_, S, rfl, ⟨r.size, r.defers, r.tm, g1⟩, g2⟩
section rules
variable {P : Program} {all : Array Oper} {rest : List Oper} {n : Nat} {tm : List (Nat × AV)} {hp : Heap} {Q : St → Prop} {d : Nat} {ty : TypeId} {pos : String} {af : Array Edge}
/-- A slice is compared with nil: what may come. -/
theorem r_eqnil {t e yt : TypeId} {x y : Operand} {sz : Nat} {xs : List AV} [TUnder P t (.slice e)] (hx : evA tm x = some (.list sz xs)) (hy : evA tm y = some .nil) (h0 : Nat.blt 0 sz = true) (hn : Nat.blt d n = true)
    (kk : ∀ c : Bool, (c = true → xs = []) → ARun P all rest ⟨n, (d, .bool c) :: tm, hp⟩ Q) : ARun P all (⟨some d, .binOp .eql t x y yt, ty, pos, af, none⟩ :: rest) ⟨n, tm, hp⟩ Q := by
  refine ARun.opx rfl fun w S a r => ?_
  obtain ⟨oa, cap, vs, e1, e2, e3, e4, e5, e6⟩ := (evA_at (σ := ⟨n, tm, hp⟩) r hx).list_inv
  have e7 := (evA_at (σ := ⟨n, tm, hp⟩) r hy).nil_inv
  refine ⟨.bool oa.isNone, w, S, ⟨n, (d, .bool oa.isNone) :: tm, hp⟩, ?_, r.put hn (.bool _), Evo.refl _ _ _, kk _ (fun hc => ?_)⟩
  · have h2 : (Op.equal t (.slice oa xs.length cap) (.slice none 0 0)).run P w = .ok oa.isNone w := by
      show (Op.equalIn (9999 + 1) t _ _).run P w = _
      rw [Op.equalIn]
      cases oa with
      | none => simp [run_underlying (TUnder.h (P := P) (t := t))]
      | some ad => simp [run_underlying (TUnder.h (P := P) (t := t))]
    have h3 : (binOp .eql t (.slice oa xs.length cap) (.slice none 0 0)).run P w = .ok (.bool oa.isNone) w := by
      rw [show binOp .eql t (.slice oa xs.length cap) (.slice none 0 0) = (do pure (.bool (← Op.equal t (.slice oa xs.length cap) (.slice none 0 0)))) from rfl]
      simp [h2]
    simp [execOp, e1, e7, eqGuard_at_slice, h3]
  · have hoa : oa = none := by simpa using hc
    have hvs : vs = [] := by
      cases vs with
      | nil => rfl
      | cons v vs =>
        obtain ⟨ad, h1, _⟩ := e5 0 v rfl
        rw [hoa] at h1; cases h1
    rw [hvs, flat_length e2] at e3
    have h0' : 0 < sz := by simpa using h0
    have : xs.length = 0 := by
      rcases Nat.eq_zero_or_pos xs.length with h | h
      · exact h
      · have := Nat.mul_pos h h0'; simp at e3; omega
    exact List.length_eq_zero_iff.1 this
end rules
theorem app_nil_some {α : Type} {p r : List α} (h : app [] p = some r) (hp : p = []) : r = [] := by
  subst hp
  obtain ⟨_, e⟩ := app_some h
  simpa using e
end Go.Eng

