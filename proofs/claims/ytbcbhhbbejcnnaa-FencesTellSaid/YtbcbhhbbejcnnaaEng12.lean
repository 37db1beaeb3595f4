/- The engine, part 12: the usual forms of contracts. No program in sight. -/
import Derived.Test.YtbcbhhbbejcnnaaEng11
set_option linter.unusedVariables false
namespace Go.Eng
open Go

/-- Some entries of a heap, in any order. -/
inductive HS : Heap → Heap → Prop
  | nil {h : Heap} : HS h []
  | cons {h h1 t : Heap} {b : Bk} {o : Ob} (u : Del h b o h1) (k : HS h1 t) : HS h ((b, o) :: t)

theorem HS.perm {h t : Heap} (s : HS h t) : ∃ r, h.Perm (t ++ r) := by
  induction s with
  | nil => exact ⟨_, List.Perm.refl _⟩
  | cons u k ih =>
    obtain ⟨r, hr⟩ := ih
    exact ⟨r, u.perm.trans (List.Perm.cons _ hr)⟩

theorem ImpX.lessP {n : Nat} {tm tm' : List (Nat × AV)} {hp hp' : Heap} {T : St → Prop} (h : AllIn tm tm') (hs : HS hp hp') (k : ImpX ⟨n, tm', hp'⟩ T) : ImpX ⟨n, tm, hp⟩ T := by
  obtain ⟨r, hr⟩ := hs.perm
  refine ImpX.step (σ1 := ⟨n, tm', hp'⟩) (fun w S a rel => ⟨_, S, rfl, ⟨rel.size, rel.defers, fun s av hh => rel.tm s av (h.lk s av hh), (rel.hp.perm hr).sub (List.sublist_append_left _ _)⟩, Evo.less (Evo.refl w S hp) fun m hm => ?_⟩) k
  obtain ⟨e, he, hb⟩ := hm
  exact ⟨e, hr.mem_iff.2 (List.mem_append_left _ he), hb⟩

/-- An int. -/
abbrev I (n : Int) : AV := .int .i64 n

/-- One entry of the heap is needed and stays, perhaps turned. -/
def C11 (P : Program) (f : FuncId) (args : List AV) (b : Bk) (o : Ob) (T : AV → Ob → Prop) : Prop := ACall P f args [(b, o)] (fun r h => ∃ o', h = [(b, o')] ∧ T r o')
/-- .. and one new entry comes. -/
def C12 (P : Program) (f : FuncId) (args : List AV) (b : Bk) (o : Ob) (T : AV → Ob → Bk → Ob → Prop) : Prop := ACall P f args [(b, o)] (fun r h => ∃ o' b2 o2, h = [(b, o'), (b2, o2)] ∧ T r o' b2 o2)
/-- Nothing is needed; one new entry comes. -/
def C01 (P : Program) (f : FuncId) (args : List AV) (T : AV → Bk → Ob → Prop) : Prop := ACall P f args [] (fun r h => ∃ b o, h = [(b, o)] ∧ T r b o)
/-- Nothing is needed, nothing comes; the result is not told whole. -/
def C00 (P : Program) (f : FuncId) (args : List AV) (T : AV → Prop) : Prop := ACall P f args [] (fun r h => T r)

section rules
variable {P : Program} {all : Array Oper} {rest : List Oper} {n : Nat} {tm : List (Nat × AV)} {hp : Heap} {Q : St → Prop} {d : Nat} {ty : TypeId} {pos : String} {af : Array Edge}

theorem r_c11 {f : FuncId} {args : List Operand} {ts : Array TypeId} {l l' : List AV} {b : Bk} {o : Ob} {hr : Heap} {T : AV → Ob → Prop} [IsFn P f] (hl : evL tm args = some l) (c : C11 P f l' b o T) (co : CoL hp l l') (u : Del hp b o hr) (hn : Nat.blt d n = true)
    (kk : ∀ r o', T r o' → ARun P all rest ⟨n, (d, r) :: tm, (b, o') :: hr⟩ Q) : ARun P all (⟨some d, .call { callee := .value (.func f), args := args.toArray, argTypes := ts }, ty, pos, af, none⟩ :: rest) ⟨n, tm, hp⟩ Q :=
  r_call1 hl c co u hn (fun r h' ⟨o', he, ht⟩ => by subst he; exact kk r o' ht)
theorem r_c12 {f : FuncId} {args : List Operand} {ts : Array TypeId} {l l' : List AV} {b : Bk} {o : Ob} {hr : Heap} {T : AV → Ob → Bk → Ob → Prop} [IsFn P f] (hl : evL tm args = some l) (c : C12 P f l' b o T) (co : CoL hp l l') (u : Del hp b o hr) (hn : Nat.blt d n = true)
    (kk : ∀ r o' b2 o2, T r o' b2 o2 → ARun P all rest ⟨n, (d, r) :: tm, (b, o') :: (b2, o2) :: hr⟩ Q) : ARun P all (⟨some d, .call { callee := .value (.func f), args := args.toArray, argTypes := ts }, ty, pos, af, none⟩ :: rest) ⟨n, tm, hp⟩ Q :=
  r_call1 hl c co u hn (fun r h' ⟨o', b2, o2, he, ht⟩ => by subst he; exact kk r o' b2 o2 ht)
theorem r_c01 {f : FuncId} {args : List Operand} {ts : Array TypeId} {l l' : List AV} {T : AV → Bk → Ob → Prop} [IsFn P f] (hl : evL tm args = some l) (c : C01 P f l' T) (co : CoL hp l l') (hn : Nat.blt d n = true)
    (kk : ∀ r b o, T r b o → ARun P all rest ⟨n, (d, r) :: tm, (b, o) :: hp⟩ Q) : ARun P all (⟨some d, .call { callee := .value (.func f), args := args.toArray, argTypes := ts }, ty, pos, af, none⟩ :: rest) ⟨n, tm, hp⟩ Q :=
  r_call0 hl c co hn (fun r h' ⟨b, o, he, ht⟩ => by subst he; exact kk r b o ht)
theorem r_c00 {f : FuncId} {args : List Operand} {ts : Array TypeId} {l l' : List AV} {T : AV → Prop} [IsFn P f] (hl : evL tm args = some l) (c : C00 P f l' T) (co : CoL hp l l') (hn : Nat.blt d n = true)
    (kk : ∀ r, T r → ARun P all rest ⟨n, (d, r) :: tm, hp⟩ Q) : ARun P all (⟨some d, .call { callee := .value (.func f), args := args.toArray, argTypes := ts }, ty, pos, af, none⟩ :: rest) ⟨n, tm, hp⟩ Q := by
  refine r_call0 hl c co hn (fun r h' hr => ?_)
  exact ARun.weaken (σ' := ⟨n, (d, r) :: tm, hp⟩) ⟨rfl, fun _ _ h => h, List.sublist_append_right _ _⟩ (kk r hr)
end rules

section rules
variable {P : Program} {all : Array Oper} {rest : List Oper} {n : Nat} {tm : List (Nat × AV)} {hp : Heap} {Q : St → Prop} {d : Nat} {ty : TypeId} {pos : String} {af : Array Edge}
theorem r_append2 {t e : TypeId} {i : TypeInfo} {z : Value} {x y : Operand} {src : AV} {b : Bk} {len sz : Nat} {xs ys : List AV} {hp' : Bk → Heap} [TUnder P t (.slice e)] [TInfo P e i] (hx : evA tm x = some (.sl sz b 0 len)) (hy : evA tm y = some src) (hz : i.zero = some z)
    (hzs : Nat.beq z.cells.size i.size = true) (hsz : Nat.beq i.size sz = true) (h0 : Nat.blt 0 sz = true) (hn : Nat.blt d n = true) (hby : Nat.ble i.bytes 65536 = true) (hs : Src hp sz src ys) (u : ∀ b', Upd hp b (.arr sz xs) b' (.arr sz (xs ++ ys)) (hp' b')) (hlen : len = xs.length)
    (hb : xs.length + ys.length ≤ 1000000000)
    (kk : ∀ b' : Bk, ARun P all rest ⟨n, (d, .sl sz b' 0 (len + ys.length)) :: tm, hp' b'⟩ Q) : ARun P all (⟨some d, .call { callee := .builtin .append, args := #[x, y], argTypes := #[t, t] }, ty, pos, af, none⟩ :: rest) ⟨n, tm, hp⟩ Q := by
  refine r_append hx hy hz hzs hsz h0 hn hs u hlen ?_ (by omega) kk
  have h1 := Nat.le_of_ble_eq_true hby
  have := Nat.mul_le_mul hb h1
  omega
end rules

/-! ### the same rules, with lists written out -/
/-- A list, written out. -/
def normL : List AV → Option (List AV)
  | [] => some []
  | x :: r => match normL r with
    | some l => some (x :: l)
    | none => none
theorem normL_eq : ∀ {l l' : List AV}, normL l = some l' → l = l'
  | [], l', h => by simp [normL] at h; exact h.symm
  | x :: r, l', h => by
    simp only [normL] at h
    split at h
    · rename_i l hl
      obtain rfl := Option.some.inj h
      rw [normL_eq hl]
    · cases h
def tm0O : List AV → Nat → Option (List (Nat × AV))
  | [], _ => some []
  | x :: r, i => match tm0O r (i + 1) with
    | some l => some ((i, x) :: l)
    | none => none
theorem tm0O_eq : ∀ {l : List AV} {i : Nat} {l' : List (Nat × AV)}, tm0O l i = some l' → tm0 l i = l'
  | [], i, l', h => by simp [tm0O] at h; simpa [tm0] using h
  | x :: r, i, l', h => by
    simp only [tm0O] at h
    split at h
    · rename_i l hl
      obtain rfl := Option.some.inj h
      rw [tm0, tm0O_eq hl]
    · cases h
class TSz (P : Program) (t : TypeId) (sz : outParam Nat) : Prop where
  h : ∃ i, P.info? t = some i ∧ i.size = sz

theorem ACall.bodyN {P : Program} {f : FuncId} {fn : Func} {c : Code} {args : List AV} {h : Heap} {Q : AV → Heap → Prop} {n : Nat} {l : List ResultVar} {tm : List (Nat × AV)} (hf : P.funcs[f]? = some fn) (hb : fn.body = some c) (hn : fn.ntmps = n) (hres : fn.results = l.toArray)
    (htm : tm0O args 0 = some tm) (hle : Nat.ble args.length n = true) (kk : ATodo P (fun σ => ImpX σ (fun σ' => ∃ rs, Rs P σ' l rs ∧ Q (oneOr rs) σ'.hp)) [.code c] ⟨n, tm, h⟩) : ACall P f args h Q :=
  ACall.bodyR hf hb hn hres hle (by rw [tm0O_eq htm]; exact kk)

section rules
variable {P : Program} {all : Array Oper} {rest : List Oper} {n : Nat} {tm : List (Nat × AV)} {hp : Heap} {Q : St → Prop} {d : Nat} {ty : TypeId} {pos : String} {af : Array Edge}

theorem n_box {x : Operand} {E : TypeId} {av : AV} {cs : List AV} (hx : evA tm x = some av) (hc : normL av.cells = some cs) (h1 : allOne cs = true) (hn : Nat.blt d n = true)
    (kk : ∀ b : Bk, ARun P all rest ⟨n, (d, .ptr b 0) :: tm, (b, .cells cs) :: hp⟩ Q) : ARun P all (⟨some d, .box E x, ty, pos, af, none⟩ :: rest) ⟨n, tm, hp⟩ Q := by
  obtain rfl := normL_eq hc
  exact r_box hx h1 hn kk
theorem n_alloc {E : TypeId} {i : TypeInfo} {z : Value} {cs : List AV} [TInfo P E i] (hz : i.zero = some z) (hc : normL (zAV z).cells = some cs) (h1 : allOne cs = true) (hn : Nat.blt d n = true)
    (kk : ∀ b : Bk, ARun P all rest ⟨n, (d, .ptr b 0) :: tm, (b, .cells cs) :: hp⟩ Q) : ARun P all (⟨some d, .alloc E, ty, pos, af, none⟩ :: rest) ⟨n, tm, hp⟩ Q := by
  obtain rfl := normL_eq hc
  exact r_alloc hz h1 hn kk
theorem n_field_ptr {x : Operand} {s : TypeId} {j off : Nat} {b : Bk} {o o' : Nat} [Fld P s j off] (hx : evA tm x = some (.ptr b o)) (ho : o + off = o') : QV P ⟨some d, .fieldAddr s x j, ty, pos, af, none⟩ ⟨n, tm, hp⟩ (.ptr b o') := by
  subst ho
  exact q_field_ptr hx
theorem n_field_rptr {x : Operand} {s : TypeId} {j off : Nat} {cs cs' : List AV} [Fld P s j off] (hx : evA tm x = some (.rptr cs)) (hc : normL (cs.drop off) = some cs') : QV P ⟨some d, .fieldAddr s x j, ty, pos, af, none⟩ ⟨n, tm, hp⟩ (.rptr cs') := by
  obtain rfl := normL_eq hc
  exact q_field_rptr hx
theorem n_load_ptr_part {t : TypeId} {D : TypeDesc} {i : TypeInfo} {x : Operand} {b : Bk} {o : Nat} {cs cs' : List AV} [TUnder P t D] [TInfo P t i] (hD : TypeDesc.isAggB D = true) (hx : evA tm x = some (.ptr b o)) (f : Fnd hp b (.cells cs)) (ho : Nat.ble (o + i.size) cs.length = true) (hc : normL ((cs.drop o).take i.size) = some cs') :
    QV P ⟨some d, .load t x, ty, pos, af, none⟩ ⟨n, tm, hp⟩ (.agg cs') := by
  obtain rfl := normL_eq hc
  exact q_load_ptr_part hD hx f ho
theorem n_load_rptr_part {t : TypeId} {D : TypeDesc} {i : TypeInfo} {x : Operand} {cs cs' : List AV} [TUnder P t D] [TInfo P t i] (hD : TypeDesc.isAggB D = true) (hx : evA tm x = some (.rptr cs)) (ho : Nat.ble i.size cs.length = true) (hc : normL (cs.take i.size) = some cs') :
    QV P ⟨some d, .load t x, ty, pos, af, none⟩ ⟨n, tm, hp⟩ (.agg cs') := by
  obtain rfl := normL_eq hc
  exact q_load_rptr_part hD hx ho
theorem n_build {t : TypeId} {i : TypeInfo} {z : Value} {parts : List (Nat × Operand)} {l : List (Nat × AV)} {cs cs' : List AV} {pl : List (Nat × Nat)} [TInfo P t i] [Places P t pl] (hz : i.zero = some z) (hl : evP tm parts = some l) (h1 : allOne (zAV z).cells = true)
    (hc : fillA pl (zAV z).cells l = some cs) (hcs : normL cs = some cs') : QV P ⟨some d, .build t parts.toArray, ty, pos, af, none⟩ ⟨n, tm, hp⟩ (.agg cs') := by
  obtain rfl := normL_eq hcs
  exact q_build hz hl h1 hc
theorem n_store_ptr {t : TypeId} {i : TypeInfo} {x y : Operand} {b : Bk} {o : Nat} {cs cs' : List AV} {av : AV} {hp' : Heap} [TInfo P t i] (hx : evA tm x = some (.ptr b o)) (hy : evA tm y = some av) (h1 : allOne av.cells = true) (hsz : Nat.beq av.cells.length i.size = true)
    (u : Upd hp b (.cells cs) b (.cells cs') hp') (hc : normL (splice cs o av.cells) = some cs') (ho : Nat.ble (o + av.cells.length) cs.length = true) (kk : ARun P all rest ⟨n, tm, hp'⟩ Q) : ARun P all (⟨none, .store t x y, ty, pos, af, none⟩ :: rest) ⟨n, tm, hp⟩ Q := by
  obtain rfl := normL_eq hc
  exact r_store_ptr hx hy h1 hsz u ho kk
theorem n_buildSliceL {t e : TypeId} {i : TypeInfo} {z : Value} {len sz : Nat} {parts : List (Nat × Operand)} {xs : List AV} [TUnder P t (.slice e)] [TInfo P e i] [TSz P e sz] (hz : i.zero = some z) (hl : evS tm parts 0 = some xs) (hlen : Nat.beq parts.length len = true) (hel : allEl i.size xs = true)
    (h24 : Nat.ble (len * i.size) 16777216 = true) (hn : Nat.blt d n = true) (kk : ARun P all rest ⟨n, (d, .list sz xs) :: tm, hp⟩ Q) : ARun P all (⟨some d, .buildSlice t len parts.toArray, ty, pos, af, none⟩ :: rest) ⟨n, tm, hp⟩ Q := by
  obtain ⟨i', h1, h2⟩ := TSz.h (P := P) (t := e)
  obtain rfl : i' = i := by rw [TInfo.h (P := P) (t := e)] at h1; exact (Option.some.inj h1).symm
  subst h2
  exact r_buildSliceL hz hl hlen hel h24 hn kk
theorem n_buildSlice {t e : TypeId} {i : TypeInfo} {z : Value} {len sz : Nat} {parts : List (Nat × Operand)} {xs : List AV} [TUnder P t (.slice e)] [TInfo P e i] [TSz P e sz] (hz : i.zero = some z) (hl : evS tm parts 0 = some xs) (hlen : Nat.beq parts.length len = true) (hel : allEl i.size xs = true)
    (h24 : Nat.ble (len * i.size) 16777216 = true) (hn : Nat.blt d n = true) (kk : ∀ b : Bk, ARun P all rest ⟨n, (d, .sl sz b 0 len) :: tm, (b, .arr sz xs) :: hp⟩ Q) : ARun P all (⟨some d, .buildSlice t len parts.toArray, ty, pos, af, none⟩ :: rest) ⟨n, tm, hp⟩ Q := by
  obtain ⟨i', h1, h2⟩ := TSz.h (P := P) (t := e)
  obtain rfl : i' = i := by rw [TInfo.h (P := P) (t := e)] at h1; exact (Option.some.inj h1).symm
  subst h2
  exact r_buildSlice hz hl hlen hel h24 hn kk
end rules

/-- The memory of a stream of numbers: what is given, and how many have been taken. -/
def strm (zs : List Int) (k : Int) : Ob := .cells [.list 1 (zs.map I), I k]

end Go.Eng
