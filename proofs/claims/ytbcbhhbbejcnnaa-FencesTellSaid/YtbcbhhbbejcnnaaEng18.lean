/- The engine, part 18: lists inside boxes; small typed rules. No program in sight. -/
import Derived.Test.YtbcbhhbbejcnnaaEng17
set_option linter.unusedVariables false
namespace Go.Eng
open Go
section rules
variable {P : Program} {all : Array Oper} {rest : List Oper} {n : Nat} {tm : List (Nat × AV)} {hp : Heap} {Q : St → Prop} {d : Nat} {ty : TypeId} {pos : String} {af : Array Edge}
theorem t_field_aptr {x : Operand} {s : TypeId} {j off : Nat} {sz : Nat} {b : Bk} {q o o' : Nat} [Fld P s j off] (hx : evA tm x = some (.aptr sz b q o)) (ho : o + off = o') : QV P ⟨some d, .fieldAddr s x j, ty, pos, af, none⟩ ⟨n, tm, hp⟩ (.aptr sz b q o') := by
  subst ho
  exact q_field_aptr hx
theorem r_store_aptrG {t : TypeId} {i : TypeInfo} {x y : Operand} {b : Bk} {sz q o : Nat} {xs : List AV} {av el el' : AV} {hp' : Heap} [TInfo P t i] (hx : evA tm x = some (.aptr sz b q o)) (hy : evA tm y = some av) (h1 : allOne av.cells = true) (hsz : Nat.beq av.cells.length i.size = true)
    (u : Upd hp b (.arr sz xs) b (.arr sz (xs.set q el')) hp') (hq : xs[q]? = some el) (hc' : el'.cells = splice el.cells o av.cells) (ho : Nat.ble (o + av.cells.length) el.cells.length = true) (kk : ARun P all rest ⟨n, tm, hp'⟩ Q) : ARun P all (⟨none, .store t x y, ty, pos, af, none⟩ :: rest) ⟨n, tm, hp⟩ Q := by
  refine ARun.act rfl rfl (σ' := ⟨n, tm, hp'⟩) (fun w S a r => ?_) kk
  obtain ⟨m, e1, e2⟩ := (evA_at (σ := ⟨n, tm, hp⟩) r hx).aptr_inv
  obtain ⟨g0, g1, ⟨g2, _⟩ | ⟨m', vs, E, g2, g3, g4, g5⟩⟩ := arr_cells r.hp (.inl u.fnd)
  · rw [g2] at e1; cases e1
  obtain rfl : m' = m := by rw [g2] at e1; exact Option.some.inj e1
  have hv := evA_at (σ := ⟨n, tm, hp⟩) r hy
  obtain ⟨hl, hat⟩ := cells_at hv (allOne_spec h1)
  have h1' := allOne_spec h1
  have hsz := Nat.eq_of_beq_eq_true hsz
  have ho := Nat.le_of_ble_eq_true ho
  clear h1 hv hy
  generalize av.cells = nc at *
  generalize hcs0 : el.cells = cs at *
  have hle : o + nc.length ≤ cs.length := ho
  have hel := g0 el (List.mem_of_getElem? hq)
  have hcl : cs.length = sz := by rw [← hcs0]; exact hel.1
  have hqx : q < xs.length := (List.getElem?_eq_some_iff.1 hq).1
  have hmul : (q + 1) * sz ≤ xs.length * sz := Nat.mul_le_mul_right _ (by omega)
  have hmul2 : xs.length * sz ≤ b.cap * sz := Nat.mul_le_mul_right _ g1
  rw [Nat.add_mul, Nat.one_mul] at hmul
  have hone := one_vals hl hat h1'
  have hst := run_storeCells_at (P := P) m' (q * sz + o) E (a.eval y).cells.toList 0 vs w g3 (by simp; omega) hone
  simp only [Nat.add_zero] at hst
  have hsize : (a.eval y).cells.size = i.size := by rw [← hl]; exact hsz
  have hfl := flat_length g0
  have elnew : El sz el' := by
    refine ⟨by rw [hc']; simp [splice]; omega, fun c hc => ?_⟩
    rw [hc'] at hc
    simp only [splice, List.mem_append] at hc
    rcases hc with (hc | hc) | hc
    · exact hel.2 c (by rw [hcs0]; exact List.mem_of_mem_take hc)
    · exact h1' c hc
    · exact hel.2 c (by rw [hcs0]; exact List.mem_of_mem_drop hc)
  have hflat : flat (xs.set q el') = (flat xs).take (q * sz + o) ++ nc ++ (flat xs).drop (q * sz + o + nc.length) := by
    rw [flat_set g0 elnew hq]
    rw [hc']; simp only [splice]
    have hcs : cs = ((flat xs).drop (q * sz)).take sz := by
      apply List.ext_getElem?
      intro j
      by_cases hj : j < sz
      · have := flat_get g0 hq j hj
        rw [List.getElem?_take, if_pos hj, List.getElem?_drop, this, hcs0]
      · rw [List.getElem?_eq_none (by omega), List.getElem?_eq_none (by simp; omega)]
    have e1 : cs.take o = ((flat xs).drop (q * sz)).take o := by rw [hcs, List.take_take, Nat.min_eq_left (by omega)]
    have e2 : cs.drop (o + nc.length) = (((flat xs).drop (q * sz + o + nc.length)).take (sz - (o + nc.length))) := by
      rw [hcs, List.drop_take, List.drop_drop]
      rw [show q * sz + (o + nc.length) = q * sz + o + nc.length from by omega]
    rw [e1, e2]
    have e3 : (flat xs).take (q * sz + o) = (flat xs).take (q * sz) ++ ((flat xs).drop (q * sz)).take o := by rw [List.take_add]
    rw [e3]
    have e4 : (flat xs).drop (q * sz + o + nc.length) = ((flat xs).drop (q * sz + o + nc.length)).take (sz - (o + nc.length)) ++ (flat xs).drop (q * sz + sz) := by
      conv => lhs; rw [← List.take_append_drop (sz - (o + nc.length)) ((flat xs).drop (q * sz + o + nc.length))]
      rw [List.drop_drop, show q * sz + o + nc.length + (sz - (o + nc.length)) = q * sz + sz from by omega]
    conv => rhs; rw [e4]
    simp only [List.append_assoc]
  have hmid := fun (w' : World) (ha : AtA w' S (flat xs) vs) (hb : AtA w' S nc (a.eval y).cells) => AtA_mid (q * sz + o) (by rw [hfl, g4]; exact hmul2) ha hl hb (by omega)
  have hsz2 : (vs.toList.take (q * sz + o) ++ (a.eval y).cells.toList ++ vs.toList.drop (q * sz + o + (a.eval y).cells.toList.length)).toArray.size = b.cap * sz := by
    simp; omega
  generalize (vs.toList.take (q * sz + o) ++ (a.eval y).cells.toList ++ vs.toList.drop (q * sz + o + (a.eval y).cells.toList.length)).toArray = vs' at hst hmid hsz2
  have c : GB w (w.setRow m' vs') b.blk := ⟨⟨rfl, rfl, rfl, by simp, fun k hk hne => setRow_other w m' k _ (fun e => hne (by rw [e1, e]))⟩, Nat.le_refl _⟩
  have k1 : ∀ n, S n → S n ∧ (w.setRow m' vs').heap[n]? = w.heap[n]? := by
    intro k hk
    refine ⟨hk, setRow_other w m' k _ (fun e => ?_)⟩
    subst e
    exact (r.hp.sep _ u.fnd.mem k e1).1 hk
  have hh := upd_rel r.hp u c id id ⟨?_, by simpa using g1, .inr ⟨m', vs', E, e1, setRow_heap w m' vs _ E _ g3, hsz2, by rw [hflat]; exact hmid _ (g5.mono k1) (hat.mono k1)⟩⟩ (.inl rfl)
  · refine ⟨w.setRow m' vs', S, ?_, r.heap hh.2.2 hh.1, hh.2.1⟩
    simp [execOp, e2, Instr.storeAt, Instr.sureAddr, storeVar, sizeOf, typeInfo, TInfo.h (P := P) (t := t), hsize, hst]
  · intro z hz
    rcases List.mem_or_eq_of_mem_set hz with h | rfl
    · exact g0 z h
    · exact elnew
theorem t_store_aptr1 {α : Type} {g : α → AV} {Xs : List α} {el el' : α} {j : Int} {t : TypeId} {i : TypeInfo} {x y : Operand} {b : Bk} {sz o : Nat} {av : AV} {hp' : Heap} [TInfo P t i] (hx : evA tm x = some (.aptr sz b j.toNat o)) (hy : evA tm y = some av) (h1 : allOne av.cells = true) (hsz : Nat.beq av.cells.length i.size = true)
    (hv : idx Xs j = some el) (hc' : (g el').cells = splice (g el).cells o av.cells) (u : Upd hp b (.arr sz (Xs.map g)) b (.arr sz ((Xs.set j.toNat el').map g)) hp') (ho : Nat.ble (o + av.cells.length) (g el).cells.length = true) (kk : ARun P all rest ⟨n, tm, hp'⟩ Q) :
    ARun P all (⟨none, .store t x y, ty, pos, af, none⟩ :: rest) ⟨n, tm, hp⟩ Q := by
  refine r_store_aptrG (xs := Xs.map g) (el := g el) (el' := g el') hx hy h1 hsz ?_ (idx_get hv) hc' ho kk
  rw [List.map_set] at u
  exact u
end rules
theorem idx_set_self {α : Type} {xs : List α} {i : Int} {el v : α} (h : idx xs i = some el) : idx (xs.set i.toNat v) i = some v := by
  obtain ⟨h0, h1, _⟩ := idx_some h
  unfold idx; rw [if_pos h0, List.getElem?_set_self (by omega)]
theorem idx_set_any {α : Type} {xs : List α} {i j : Int} {el el2 v : α} (h : idx xs i = some el) (k : idx xs j = some el2) : idx (xs.set i.toNat v) j = some (if i = j then v else el2) := by
  obtain ⟨h0, h1, _⟩ := idx_some h
  obtain ⟨k0, k1, k2⟩ := idx_some k
  by_cases e : i = j
  · subst e; rw [if_pos rfl]; exact idx_set_self h
  · rw [if_neg e]; unfold idx; rw [if_pos k0, List.getElem?_set_ne (by omega)]; exact k2
theorem HRel.hs {w : World} {S : Nat → Prop} {h h' : Heap} (r : HRel w S h) (s : HS h h') : HRel w S h' := by
  obtain ⟨q, hq⟩ := s.perm
  exact (r.perm hq).sub (List.sublist_append_left _ _)
theorem Has.hs {h h' : Heap} (s : HS h h') {n : Nat} (hh : Has h' n) : Has h n := by
  obtain ⟨q, hq⟩ := s.perm
  obtain ⟨e, he, hb⟩ := hh
  exact ⟨e, hq.mem_iff.2 (List.mem_append_left _ he), hb⟩
/-- Less of the memory is told. -/
theorem ACall.lessH {P : Program} {f : FuncId} {args : List AV} {h : Heap} {Q : AV → Heap → Prop} (c : ACall P f args h (fun r h1 => ∃ h', HS h1 h' ∧ Q r h')) : ACall P f args h Q :=
  fun w S vs r hl ha => (c w S vs r hl ha).mono fun _ _ ⟨v, r, _, S', h1, ⟨h', hs, hq⟩, h3, h4, h5⟩ => ⟨v, r, h', S', h1, hq, h3, h4.hs hs, h5.less fun _ hn => hn.hs hs⟩
/-- A value of the state in another spelling. -/
theorem ImpX.eqs {n s : Nat} {tm : List (Nat × AV)} {hp : Heap} {T : St → Prop} {av av' : AV} (hs : lk tm s = some av) (he : av' = av) (k : ImpX ⟨n, (s, av') :: tm, hp⟩ T) : ImpX ⟨n, tm, hp⟩ T := by
  subst he
  exact ImpX.co hs (.refl _) k
theorem upd_of_eq {hp hp' : Heap} {b : Bk} {o : Ob} (u : Upd hp b o b o hp') : hp' = hp := by
  generalize hb : b = b', ho : o = o' at u
  have : ∀ {h h' : Heap} {b b' : Bk} {o o' : Ob}, Upd h b o b' o' h' → b = b' → o = o' → h' = h := by
    intro h h' b b' o o' u
    induction u with
    | here => rintro rfl rfl; rfl
    | next _ ih => intro e1 e2; rw [ih e1 e2]
  subst hb ho
  exact this u rfl rfl
theorem ImpX.eqBox {n j : Nat} {tm : List (Nat × AV)} {hp hp' : Heap} {T : St → Prop} {b : Bk} {cs cs' : List AV} {av av' : AV} (u : Upd hp b (.cells cs) b (.cells cs') hp') (hj : cs[j]? = some av) (he : av' = av) (hc : normL (cs.set j av') = some cs') (k : ImpX ⟨n, tm, hp'⟩ T) : ImpX ⟨n, tm, hp⟩ T := by
  subst he
  have hcs : cs.set j av' = cs := by
    apply List.ext_getElem?
    intro i
    by_cases hi : j = i
    · subst hi
      have hlt := (List.getElem?_eq_some_iff.1 hj).1
      rw [List.getElem?_set_self hlt, hj]
    · rw [List.getElem?_set_ne hi]
  rw [hcs] at hc
  obtain rfl := normL_eq hc
  rw [upd_of_eq u] at k
  exact k
theorem andTd {p : Prop} [Decidable p] {x : Bool} (h : p) : (decide p && x) = x := by simp [h]
theorem andFd {p : Prop} [Decidable p] {x : Bool} (h : ¬ p) : (decide p && x) = false := by simp [h]
theorem orTd {p : Prop} [Decidable p] {x : Bool} (h : p) : (decide p || x) = true := by simp [h]
theorem orFd {p : Prop} [Decidable p] {x : Bool} (h : ¬ p) : (decide p || x) = x := by simp [h]
theorem andTb {b x : Bool} (h : b = true) : (b && x) = x := by simp [h]
theorem andFb {b x : Bool} (h : b = false) : (b && x) = false := by simp [h]
theorem orTb {b x : Bool} (h : b = true) : (b || x) = true := by simp [h]
theorem orFb {b x : Bool} (h : b = false) : (b || x) = x := by simp [h]
end Go.Eng
