/- The engine, part 17: more rules over typed lists; calls whose memory is told. No program in sight. -/
import Derived.Test.YtbcbhhbbejcnnaaEng16
set_option linter.unusedVariables false
namespace Go.Eng
open Go
abbrev Str := List UInt8
/-- A list as a value. -/
def encL {α : Type} (sz : Nat) (g : α → AV) (l : List α) : AV := .list sz (l.map g)

section rules
variable {P : Program} {all : Array Oper} {rest : List Oper} {n : Nat} {tm : List (Nat × AV)} {hp : Heap} {Q : St → Prop} {d : Nat} {ty : TypeId} {pos : String} {af : Array Edge}

/-- append to nil. -/
theorem t_append0 {α : Type} {g : α → AV} {Ys Zs : List α} {t e : TypeId} {i : TypeInfo} {z : Value} {x y : Operand} {src : AV} {sz : Nat} [TUnder P t (.slice e)] [TInfo P e i] (hx : evA tm x = some .nil) (hy : evA tm y = some src) (hz : i.zero = some z)
    (hzs : Nat.beq z.cells.size i.size = true) (hsz : Nat.beq i.size sz = true) (h0 : Nat.blt 0 sz = true) (hn : Nat.blt d n = true) (hby : Nat.ble i.bytes 65536 = true) (hs : Src hp sz src (Ys.map g)) (hv : app [] Ys = some Zs)
    (kk : ∀ b' : Bk, ARun P all rest ⟨n, (d, .sl sz b' 0 Zs.length) :: tm, (b', .arr sz (Zs.map g)) :: hp⟩ Q) : ARun P all (⟨some d, .call { callee := .builtin .append, args := #[x, y], argTypes := #[t, t] }, ty, pos, af, none⟩ :: rest) ⟨n, tm, hp⟩ Q := by
  obtain ⟨hb, rfl⟩ := app_some hv
  refine ARun.opx rfl fun w S a r => ?_
  obtain rfl : i.size = sz := Nat.eq_of_beq_eq_true hsz
  obtain ⟨a1, a2, a3⟩ := add_rel (b := ⟨none, 0⟩) (o := .arr i.size []) r.hp (Ext.refl w) id ⟨by simp, by simp, .inl ⟨rfl, rfl⟩⟩ (.inl rfl)
  have hnil := (evA_at (σ := ⟨n, tm, hp⟩) r hx).nil_inv
  have hAt : At w S (.sl i.size ⟨none, 0⟩ 0 ([] : List AV).length) (a.eval x) := by rw [hnil]; exact .slph _ _ rfl
  have h1 := Nat.le_of_ble_eq_true hby
  have hlen : ([] : List AV).length + (Zs.map g).length ≤ 1000000000 := by simpa using hb
  have hm := Nat.mul_le_mul hlen h1
  obtain ⟨v', w', b', g1, g2, g3, g4, g5⟩ := append_run (P := P) (ty := ty) a1 (TUnder.h (P := P) (t := t)) (TInfo.h (P := P) (t := e)) hz (Nat.eq_of_beq_eq_true hzs) (by simpa using h0) (Fnd.here (b := ⟨none, 0⟩) (o := .arr i.size []) (h := hp)) hAt (hs.at r.hp (evA_at (σ := ⟨n, tm, hp⟩) r hy)) (by omega) (by omega)
  obtain ⟨k1, k2, k3⟩ := upd_rel a1 (Upd.here (b' := b') (o' := .arr i.size ([] ++ Zs.map g))) g3 id id g4 g5
  refine ⟨v', w', S, ⟨n, (d, .sl i.size b' 0 (Zs.length)) :: tm, (b', .arr i.size (Zs.map g)) :: hp⟩, ?_, ?_, ?_, kk b'⟩
  · simp [execOp, resolve, invoke, builtin, g1]
  · have := (r.heap k3 k1).put hn g2
    simpa using this
  · have := a2.trans k2
    simpa using this

theorem t_len_sl {x : Operand} {t e : TypeId} {sz len : Nat} {b : Bk} [TUnder P t (.slice e)] (hx : evA tm x = some (.sl sz b 0 len)) : QV P ⟨some d, .call { callee := .builtin .len, args := #[x], argTypes := #[t] }, ty, pos, af, none⟩ ⟨n, tm, hp⟩ (.int .i64 (len : Nat)) := q_len_sl hx

/-- An element of an owned array. -/
theorem t_index_sl {α : Type} {Xs : List α} {el : α} {t e : TypeId} {i : TypeInfo} {x y : Operand} {k : IntKind} {j : Int} {sz : Nat} {b : Bk} [TUnder P t (.slice e)] [TInfo P e i] (hx : evA tm x = some (.sl sz b 0 Xs.length)) (hsz : Nat.beq i.size sz = true) (hy : evA tm y = some (.int k j))
    (hv : idx Xs j = some el) : QV P ⟨some d, .indexAddr t x y, ty, pos, af, none⟩ ⟨n, tm, hp⟩ (.aptr sz b j.toNat 0) := by
  obtain ⟨h0, h1, _⟩ := idx_some hv
  have h := q_index_sl (P := P) (d := d) (ty := ty) (pos := pos) (af := af) (n := n) (tm := tm) (hp := hp) (t := t) (e := e) hx hsz hy ⟨h0, h1⟩
  rw [Nat.zero_add] at h
  exact h
theorem idx_get {α : Type} {g : α → AV} {Xs : List α} {el : α} {j : Int} (hv : idx Xs j = some el) : (Xs.map g)[j.toNat]? = some (g el) := by
  rw [List.getElem?_map, (idx_some hv).2.2]; rfl
theorem t_load_aptr {α : Type} {g : α → AV} {Xs : List α} {el : α} {j : Int} {t : TypeId} {D : TypeDesc} {x : Operand} {b : Bk} {sz o : Nat} {av : AV} [TUnder P t D] (hD : TypeDesc.isAggB D = false) (hx : evA tm x = some (.aptr sz b j.toNat o)) (f : Fnd hp b (.arr sz (Xs.map g)) ∨ Fnd hp b (.fro sz (Xs.map g)))
    (hv : idx Xs j = some el) (ho : (g el).cells[o]? = some av) : QV P ⟨some d, .load t x, ty, pos, af, none⟩ ⟨n, tm, hp⟩ av :=
  q_load_aptr hD hx f (idx_get hv) ho
theorem t_load_aptr_agg {α : Type} {g : α → AV} {Xs : List α} {el : α} {j : Int} {t : TypeId} {D : TypeDesc} {i : TypeInfo} {x : Operand} {b : Bk} {sz : Nat} {cs : List AV} [TUnder P t D] [TInfo P t i] (hD : TypeDesc.isAggB D = true) (hx : evA tm x = some (.aptr sz b j.toNat 0)) (f : Fnd hp b (.arr sz (Xs.map g)) ∨ Fnd hp b (.fro sz (Xs.map g))) (hsz : Nat.beq i.size sz = true)
    (hv : idx Xs j = some el) (hc : g el = .agg cs) : QV P ⟨some d, .load t x, ty, pos, af, none⟩ ⟨n, tm, hp⟩ (.agg cs) :=
  q_load_aptr_agg hD hx f hsz (by rw [idx_get (g := g) hv, hc])
theorem t_store_aptr {α : Type} {g : α → AV} {Xs : List α} {el el' : α} {j : Int} {t : TypeId} {i : TypeInfo} {x y : Operand} {b : Bk} {sz o : Nat} {cs : List AV} {av : AV} {hp' : Heap} [TInfo P t i] (hx : evA tm x = some (.aptr sz b j.toNat o)) (hy : evA tm y = some av) (h1 : allOne av.cells = true) (hsz : Nat.beq av.cells.length i.size = true)
    (hv : idx Xs j = some el) (hc : g el = .agg cs) (hc' : g el' = .agg (splice cs o av.cells)) (u : Upd hp b (.arr sz (Xs.map g)) b (.arr sz ((Xs.set j.toNat el').map g)) hp') (ho : Nat.ble (o + av.cells.length) cs.length = true) (kk : ARun P all rest ⟨n, tm, hp'⟩ Q) :
    ARun P all (⟨none, .store t x y, ty, pos, af, none⟩ :: rest) ⟨n, tm, hp⟩ Q := by
  refine r_store_aptr (xs := Xs.map g) (cs := cs) hx hy h1 hsz ?_ (by rw [idx_get (g := g) hv, hc]) ho kk
  rw [List.map_set, hc'] at u
  exact u

/-! cuts -/
theorem t_slice_list {α : Type} {g : α → AV} {Xs Zs : List α} {t e : TypeId} {i : TypeInfo} {x : Operand} {lo hi : Option Operand} {l h : Option Int} {sz : Nat} {L H : Int} [TUnder P t (.slice e)] [TInfo P e i] (hx : evA tm x = some (.list sz (Xs.map g))) (hsz : Nat.beq i.size sz = true) (hl : Bnd tm lo l) (hh : Bnd tm hi h)
    (eL : lowB l = L) (eH : highB Xs.length h = H) (hv : slc Xs L H = some Zs) : QV P ⟨some d, .slice t x lo hi none, ty, pos, af, none⟩ ⟨n, tm, hp⟩ (.list sz (Zs.map g)) := by
  obtain ⟨⟨h0, h1, h2⟩, rfl⟩ := slc_some hv
  subst eL; subst eH
  have := q_slice_list (P := P) (d := d) (ty := ty) (pos := pos) (af := af) (n := n) (tm := tm) (hp := hp) (t := t) (e := e) (xs := Xs.map g) hx hsz hl hh h0 (by simpa using h1) (by simpa using h2)
  simpa [List.map_take, List.map_drop] using this
theorem t_slice_str {t : TypeId} {x : Operand} {lo hi : Option Operand} {l h : Option Int} {s zs : List UInt8} {L H : Int} [TUnder P t .string] (hx : evA tm x = some (.str s)) (hl : Bnd tm lo l) (hh : Bnd tm hi h) (eL : lowB l = L) (eH : highB s.length h = H) (hv : slc s L H = some zs) :
    QV P ⟨some d, .slice t x lo hi none, ty, pos, af, none⟩ ⟨n, tm, hp⟩ (.str zs) := by
  obtain ⟨⟨h0, h1, h2⟩, rfl⟩ := slc_some hv
  subst eL; subst eH
  exact q_slice_str hx hl hh h0 h1 h2

/-! calls -/
def appO : Heap → Heap → Option Heap
  | [], r => some r
  | x :: l, r => match appO l r with
    | some m => some (x :: m)
    | none => none
theorem appO_eq : ∀ {l r m : Heap}, appO l r = some m → l ++ r = m
  | [], r, m, h => by simpa [appO] using h
  | x :: l, r, m, h => by
    simp only [appO] at h
    split at h
    · rename_i m' hm
      obtain rfl := Option.some.inj h
      rw [List.cons_append, appO_eq hm]
    · cases h

/-- The memory of a call is told: no new array, one, two. -/
def T0 (H : Heap) (V : AV) : AV → Heap → Prop := fun v h => h = H ∧ v = V
def T1 (H : Bk → Heap) (V : Bk → AV) : AV → Heap → Prop := fun v h => ∃ b, h = H b ∧ v = V b
def T2 (H : Bk → Bk → Heap) (V : Bk → Bk → AV) : AV → Heap → Prop := fun v h => ∃ b c, h = H b c ∧ v = V b c

theorem t_call0 {f : FuncId} {args : List Operand} {ts : Array TypeId} {l l' : List AV} {h0 hr H H' : Heap} {V : AV} [IsFn P f] (hl : evL tm args = some l) (c : ACall P f l' h0 (T0 H V)) (co : CoL hp l l') (hs : Sel hp h0 hr) (ha : appO H hr = some H') (hn : Nat.blt d n = true)
    (kk : ARun P all rest ⟨n, (d, V) :: tm, H'⟩ Q) : ARun P all (⟨some d, .call { callee := .value (.func f), args := args.toArray, argTypes := ts }, ty, pos, af, none⟩ :: rest) ⟨n, tm, hp⟩ Q :=
  t_call hl c co hs hn (fun r h' ⟨e1, e2⟩ => by subst e1; subst e2; rw [appO_eq ha]; exact kk)
theorem t_call1 {f : FuncId} {args : List Operand} {ts : Array TypeId} {l l' : List AV} {h0 hr : Heap} {H H' : Bk → Heap} {V : Bk → AV} [IsFn P f] (hl : evL tm args = some l) (c : ACall P f l' h0 (T1 H V)) (co : CoL hp l l') (hs : Sel hp h0 hr) (ha : ∀ b, appO (H b) hr = some (H' b)) (hn : Nat.blt d n = true)
    (kk : ∀ b, ARun P all rest ⟨n, (d, V b) :: tm, H' b⟩ Q) : ARun P all (⟨some d, .call { callee := .value (.func f), args := args.toArray, argTypes := ts }, ty, pos, af, none⟩ :: rest) ⟨n, tm, hp⟩ Q :=
  t_call hl c co hs hn (fun r h' ⟨b, e1, e2⟩ => by subst e1; subst e2; rw [appO_eq (ha b)]; exact kk b)
theorem t_call2 {f : FuncId} {args : List Operand} {ts : Array TypeId} {l l' : List AV} {h0 hr : Heap} {H H' : Bk → Bk → Heap} {V : Bk → Bk → AV} [IsFn P f] (hl : evL tm args = some l) (c : ACall P f l' h0 (T2 H V)) (co : CoL hp l l') (hs : Sel hp h0 hr) (ha : ∀ b c, appO (H b c) hr = some (H' b c)) (hn : Nat.blt d n = true)
    (kk : ∀ b c, ARun P all rest ⟨n, (d, V b c) :: tm, H' b c⟩ Q) : ARun P all (⟨some d, .call { callee := .value (.func f), args := args.toArray, argTypes := ts }, ty, pos, af, none⟩ :: rest) ⟨n, tm, hp⟩ Q :=
  t_call hl c co hs hn (fun r h' ⟨b, b2, e1, e2⟩ => by subst e1; subst e2; rw [appO_eq (ha b b2)]; exact kk b b2)
theorem t_callv0 {f : FuncId} {x : Operand} {args : List Operand} {ts : Array TypeId} {caps l l' lc : List AV} {h0 hr H H' : Heap} {V : AV} [IsFn P f] (hx : evA tm x = some (.func (.func f) caps)) (hl : evL tm args = some l) (hlc : normL (l ++ caps) = some lc) (c : ACall P f l' h0 (T0 H V)) (co : CoL hp lc l') (hs : Sel hp h0 hr) (ha : appO H hr = some H') (hn : Nat.blt d n = true)
    (kk : ARun P all rest ⟨n, (d, V) :: tm, H'⟩ Q) : ARun P all (⟨some d, .call { callee := .value x, args := args.toArray, argTypes := ts }, ty, pos, af, none⟩ :: rest) ⟨n, tm, hp⟩ Q :=
  t_callv hx hl hlc c co hs hn (fun r h' ⟨e1, e2⟩ => by subst e1; subst e2; rw [appO_eq ha]; exact kk)
theorem t_callv1 {f : FuncId} {x : Operand} {args : List Operand} {ts : Array TypeId} {caps l l' lc : List AV} {h0 hr : Heap} {H H' : Bk → Heap} {V : Bk → AV} [IsFn P f] (hx : evA tm x = some (.func (.func f) caps)) (hl : evL tm args = some l) (hlc : normL (l ++ caps) = some lc) (c : ACall P f l' h0 (T1 H V)) (co : CoL hp lc l') (hs : Sel hp h0 hr) (ha : ∀ b, appO (H b) hr = some (H' b)) (hn : Nat.blt d n = true)
    (kk : ∀ b, ARun P all rest ⟨n, (d, V b) :: tm, H' b⟩ Q) : ARun P all (⟨some d, .call { callee := .value x, args := args.toArray, argTypes := ts }, ty, pos, af, none⟩ :: rest) ⟨n, tm, hp⟩ Q :=
  t_callv hx hl hlc c co hs hn (fun r h' ⟨b, e1, e2⟩ => by subst e1; subst e2; rw [appO_eq (ha b)]; exact kk b)
end rules

theorem Co.froT {hp : Heap} {α : Type} {g : α → AV} {Xs : List α} {sz : Nat} {b : Bk} (f : Fnd hp b (.fro sz (Xs.map g))) : Co hp (.sl sz b 0 Xs.length) (.list sz (Xs.map g)) := .fro sz b _ _ f (by simp)
theorem CoB.arrT {hp : Heap} {α : Type} {g : α → AV} {Xs : List α} {sz : Nat} {b : Bk} (f : Fnd hp b (.arr sz (Xs.map g))) : CoB hp (.sl sz b 0 Xs.length) (.list sz (Xs.map g)) := .arr sz b _ _ f (by simp)
/-- A value of the state, read as another one, inside a cell of a box. -/
theorem AV.eq_of {a b : AV} (h : a = b) : a = b := h
end Go.Eng
