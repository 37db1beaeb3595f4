/- The engine, part 16: plain computations that stand for code: bind, tests, loops, joins; rules over typed lists. No program in sight. -/
import Derived.Test.YtbcbhhbbejcnnaaEng15
set_option linter.unusedVariables false
namespace Go.Eng
open Go

/-! ### plain computations -/
theorem bnd {α β : Type} {o : Option α} {f : α → Option β} {r : β} (h : o.bind f = some r) : ∃ v, o = some v ∧ f v = some r := by
  cases o with
  | none => cases h
  | some v => exact ⟨v, rfl, h⟩
theorem iteT {α : Type} {p : Prop} [Decidable p] {a b x : α} (hp : p) (h : (if p then a else b) = x) : a = x := by rw [if_pos hp] at h; exact h
theorem iteF {α : Type} {p : Prop} [Decidable p] {a b x : α} (hp : ¬ p) (h : (if p then a else b) = x) : b = x := by rw [if_neg hp] at h; exact h
theorem iteFb {α : Type} {p : Bool} {a b x : α} (hp : p = false) (h : (if p = true then a else b) = x) : b = x := by rw [if_neg (by simp [hp])] at h; exact h

def iterN {X A : Type} (f : X → Option (X ⊕ A)) : Nat → X → Option A
  | 0, _ => none
  | n + 1, x => match f x with
    | none => none
    | some (.inl y) => iterN f n y
    | some (.inr a) => some a

theorem iterN_up {X A : Type} {f : X → Option (X ⊕ A)} {a : A} : ∀ {n : Nat} {x : X}, iterN f n x = some a → iterN f (n + 1) x = some a
  | 0, x, h => by cases h
  | n + 1, x, h => by
    unfold iterN at h ⊢
    split at h
    · cases h
    · exact iterN_up h
    · exact h
theorem iterN_le {X A : Type} {f : X → Option (X ⊕ A)} {a : A} {x : X} {n : Nat} (h : iterN f n x = some a) : ∀ m, iterN f (n + m) x = some a
  | 0 => h
  | m + 1 => iterN_up (iterN_le h m)
theorem iterN_one {X A : Type} {f : X → Option (X ⊕ A)} {a b : A} {x : X} {n m : Nat} (h : iterN f n x = some a) (k : iterN f m x = some b) : a = b := by
  have h1 := iterN_le h m
  have h2 := iterN_le k n
  rw [Nat.add_comm] at h2
  rw [h1] at h2
  exact Option.some.inj h2

open Classical in
/-- The answer of a loop: a step goes on with another state, or ends with an answer. -/
noncomputable def iter {X A : Type} (f : X → Option (X ⊕ A)) (x : X) : Option A :=
  if h : ∃ a n, iterN f n x = some a then some h.choose else none

theorem iter_some {X A : Type} {f : X → Option (X ⊕ A)} {x : X} {a : A} : iter f x = some a ↔ ∃ n, iterN f n x = some a := by
  unfold iter
  constructor
  · intro h
    split at h
    · rename_i hx
      obtain ⟨n, hn⟩ := hx.choose_spec
      exact ⟨n, by rw [hn]; exact h⟩
    · cases h
  · rintro ⟨n, hn⟩
    have hx : ∃ a n, iterN f n x = some a := ⟨a, n, hn⟩
    rw [dif_pos hx]
    obtain ⟨m, hm⟩ := hx.choose_spec
    rw [iterN_one hm hn]

def after {X A : Type} (k : X → Option A) : X ⊕ A → Option A
  | .inl y => k y
  | .inr a => some a

theorem iter_eq {X A : Type} (f : X → Option (X ⊕ A)) (x : X) : iter f x = (f x).bind (after (iter f)) := by
  apply Option.ext
  intro a
  rw [iter_some]
  constructor
  · rintro ⟨n, hn⟩
    match n with
    | 0 => cases hn
    | n + 1 =>
      unfold iterN at hn
      split at hn
      · cases hn
      · rename_i y hy; rw [hy]; exact iter_some.2 ⟨n, hn⟩
      · rename_i b hb; rw [hb]; exact hn
  · intro h
    obtain ⟨s, hs, h⟩ := bnd h
    cases s with
    | inl y =>
      obtain ⟨n, hn⟩ := iter_some.1 h
      exact ⟨n + 1, by unfold iterN; rw [hs]; exact hn⟩
    | inr b => exact ⟨1, by unfold iterN; rw [hs]; exact h⟩

theorem outL {X A : Type} {o : Option A} {s : X ⊕ A} {a : A} (h : o.map .inr = some s) (hA : ∀ a', s = .inr a' → a' = a) : o = some a := by
  cases o with
  | none => cases h
  | some b =>
    have := Option.some.inj h
    rw [hA b this.symm]

@[simp] theorem after_inl {X A : Type} (k : X → Option A) (y : X) : after k (.inl y) = k y := rfl
@[simp] theorem after_inr {X A : Type} (k : X → Option A) (a : A) : after k (.inr a) = some a := rfl
theorem map_inr_after {X A : Type} (o : Option A) (k : X → Option A) : (o.map Sum.inr).bind (after k) = o := by cases o <;> rfl

/-! ### operations that may fail, on lists -/
def idx {α : Type} (xs : List α) (i : Int) : Option α := if 0 ≤ i then xs[i.toNat]? else none
def app {α : Type} (xs ys : List α) : Option (List α) := if xs.length + ys.length ≤ 1000000000 then some (xs ++ ys) else none
def slc {α : Type} (xs : List α) (l h : Int) : Option (List α) := if 0 ≤ l ∧ l ≤ h ∧ h ≤ xs.length then some ((xs.drop l.toNat).take (h.toNat - l.toNat)) else none
def setA {α : Type} (xs : List α) (i : Int) (x : α) : Option (List α) := if 0 ≤ i ∧ i < xs.length then some (xs.set i.toNat x) else none
abbrev w64 (i : Int) : Int := IntKind.i64.wrap i
def quo (a b : Int) : Option Int := if b = 0 then none else some (w64 (a.tdiv b))
def rem (a b : Int) : Option Int := if b = 0 then none else some (a.tmod b)

theorem idx_getI {α : Type} {e : α → AV} {xs : List α} {i : Int} {x : α} (h : idx xs i = some x) : getI (xs.map e) i = some (e x) := by
  unfold idx at h; unfold getI
  split at h
  · rename_i h0; rw [if_pos h0, List.getElem?_map, h]; rfl
  · cases h
theorem idx_some {α : Type} {xs : List α} {i : Int} {x : α} (h : idx xs i = some x) : 0 ≤ i ∧ i < xs.length ∧ xs[i.toNat]? = some x := by
  unfold idx at h
  split at h
  · rename_i h0
    have := (List.getElem?_eq_some_iff.1 h).1
    exact ⟨h0, by omega, h⟩
  · cases h
theorem app_some {α : Type} {xs ys zs : List α} (h : app xs ys = some zs) : xs.length + ys.length ≤ 1000000000 ∧ zs = xs ++ ys := by
  unfold app at h
  split at h
  · exact ⟨by assumption, (Option.some.inj h).symm⟩
  · cases h
theorem slc_some {α : Type} {xs zs : List α} {l h : Int} (hh : slc xs l h = some zs) : (0 ≤ l ∧ l ≤ h ∧ h ≤ xs.length) ∧ zs = (xs.drop l.toNat).take (h.toNat - l.toNat) := by
  unfold slc at hh
  split at hh
  · exact ⟨by assumption, (Option.some.inj hh).symm⟩
  · cases hh
theorem quo_some {a b c : Int} (h : quo a b = some c) : b ≠ 0 ∧ c = w64 (a.tdiv b) := by
  unfold quo at h
  split at h
  · cases h
  · exact ⟨by assumption, (Option.some.inj h).symm⟩
theorem rem_some {a b c : Int} (h : rem a b = some c) : b ≠ 0 ∧ c = a.tmod b := by
  unfold rem at h
  split at h
  · cases h
  · exact ⟨by assumption, (Option.some.inj h).symm⟩

/-! ### joins and loops -/
section
variable {P : Program} {R : St → Prop} {k : List It} {σ : St}
theorem ATodo.cut {c : Code} (I : St → Prop) (h : ATodo P R (.code c :: .stop (fun σ' => ImpX σ' I) :: k) σ) (hk : ∀ σ', I σ' → ATodo P R k σ') : ATodo P R (.code c :: k) σ := by
  intro w S a r
  refine wp_mono (h w S a r) ?_
  rintro e a' w' ⟨σ', S', h1, h2, h3⟩
  cases e with
  | normal =>
    obtain ⟨σ'', S'', hI, hr, he⟩ := h1 w' S' a' h2
    exact ⟨σ'', S'', hk σ'' hI, hr, h3.trans he⟩
  | exit id => exact ⟨σ', S', h1, h2, h3⟩
  | goto l => exact ⟨σ', S', h1, h2, h3⟩
  | ret => exact ⟨σ', S', h1, h2, h3⟩
  | panic c => exact ⟨σ', S', h1, h2, h3⟩
  | outgrown => exact ⟨σ', S', h1, h2, h3⟩

theorem ATodo.loopI {body : Code} {X A : Type} (f : X → Option (X ⊕ A)) (mk : X → St → Prop) {a : A} {x0 : X} (h : iter f x0 = some a) (h0 : ImpX σ (mk x0))
    (hs : ∀ x s σ (J : St → Prop), mk x σ → f x = some s → (∀ y σ', s = .inl y → ImpX σ' (mk y) → J σ') → (∀ a', s = .inr a' → a' = a) → ATodo P R (.code body :: .stop J :: k) σ) :
    ATodo P R (.code (.loop body) :: k) σ := by
  obtain ⟨m, hm⟩ := iter_some.1 h
  refine ATodo.loopx (fun m σ => ∃ x, iterN f m x = some a ∧ mk x σ) m (h0.mono fun σ' hσ => ⟨x0, hm, hσ⟩) ?_
  rintro m σ1 ⟨x, hx, hmk⟩
  match m with
  | 0 => cases hx
  | m + 1 =>
    unfold iterN at hx
    split at hx
    · cases hx
    · rename_i y hy
      refine hs x _ σ1 _ hmk hy (fun y' σ' e hi => ⟨m, by omega, hi.mono fun σ'' hk => ⟨y', ?_, hk⟩⟩) (fun a' e => by cases e)
      have := Sum.inl.inj e
      rw [← this]; exact hx
    · rename_i b hb
      refine hs x _ σ1 _ hmk hb (fun y' σ' e _ => by cases e) (fun a' e => ?_)
      rw [← Sum.inr.inj e]; exact Option.some.inj hx
end

/-! ### calls over a part of the heap -/
inductive Sel : Heap → Heap → Heap → Prop
  | nil {h : Heap} : Sel h [] h
  | cons {h h1 t r : Heap} {b : Bk} {o : Ob} (u : Del h b o h1) (k : Sel h1 t r) : Sel h ((b, o) :: t) r
theorem Sel.perm {h t r : Heap} (s : Sel h t r) : h.Perm (t ++ r) := by
  induction s with
  | nil => exact List.Perm.refl _
  | cons u k ih => exact u.perm.trans (List.Perm.cons _ ih)

section rules
variable {P : Program} {all : Array Oper} {rest : List Oper} {n : Nat} {tm : List (Nat × AV)} {hp : Heap} {Q : St → Prop} {d : Nat} {ty : TypeId} {pos : String} {af : Array Edge}

theorem t_call {f : FuncId} {args : List Operand} {ts : Array TypeId} {l l' : List AV} {h0 hr : Heap} {Qc : AV → Heap → Prop} [IsFn P f] (hl : evL tm args = some l) (c : ACall P f l' h0 Qc) (co : CoL hp l l') (hs : Sel hp h0 hr) (hn : Nat.blt d n = true)
    (kk : ∀ r h', Qc r h' → ARun P all rest ⟨n, (d, r) :: tm, h' ++ hr⟩ Q) : ARun P all (⟨some d, .call { callee := .value (.func f), args := args.toArray, argTypes := ts }, ty, pos, af, none⟩ :: rest) ⟨n, tm, hp⟩ Q :=
  r_call hl c co hs.perm hn kk
theorem t_callv {f : FuncId} {x : Operand} {args : List Operand} {ts : Array TypeId} {caps l l' lc : List AV} {h0 hr : Heap} {Qc : AV → Heap → Prop} [IsFn P f] (hx : evA tm x = some (.func (.func f) caps)) (hl : evL tm args = some l) (hlc : normL (l ++ caps) = some lc) (c : ACall P f l' h0 Qc) (co : CoL hp lc l') (hs : Sel hp h0 hr) (hn : Nat.blt d n = true)
    (kk : ∀ r h', Qc r h' → ARun P all rest ⟨n, (d, r) :: tm, h' ++ hr⟩ Q) : ARun P all (⟨some d, .call { callee := .value x, args := args.toArray, argTypes := ts }, ty, pos, af, none⟩ :: rest) ⟨n, tm, hp⟩ Q :=
  r_callv hx hl c (by rw [normL_eq hlc]; exact co) hs.perm hn kk

/-! ### typed lists -/
theorem t_index {α : Type} {g : α → AV} {Xs : List α} {el : α} {t e : TypeId} {i : TypeInfo} {x y : Operand} {k : IntKind} {j : Int} {cs : List AV} {sz : Nat} [TUnder P t (.slice e)] [TInfo P e i] (hx : evA tm x = some (.list sz (Xs.map g))) (hsz : Nat.beq i.size sz = true) (hy : evA tm y = some (.int k j))
    (hv : idx Xs j = some el) (h0 : Nat.blt 0 sz = true) (hc : normL (g el).cells = some cs) : QV P ⟨some d, .indexAddr t x y, ty, pos, af, none⟩ ⟨n, tm, hp⟩ (.rptr cs) := by
  rw [← normL_eq hc]
  exact q_index_list hx hsz hy (idx_getI hv) h0
theorem t_len {α : Type} {g : α → AV} {Xs : List α} {x : Operand} {t e : TypeId} {sz : Nat} [TUnder P t (.slice e)] (hx : evA tm x = some (.list sz (Xs.map g))) : QV P ⟨some d, .call { callee := .builtin .len, args := #[x], argTypes := #[t] }, ty, pos, af, none⟩ ⟨n, tm, hp⟩ (.int .i64 (Xs.length : Nat)) := by
  have h := q_len_list (P := P) (d := d) (ty := ty) (pos := pos) (af := af) (n := n) (tm := tm) (hp := hp) (t := t) (e := e) hx
  rw [List.length_map] at h
  exact h
theorem t_quo {k : IntKind} {xt yt : TypeId} {x y : Operand} {i j : Int} (hx : evA tm x = some (.int k i)) (hy : evA tm y = some (.int k j)) (h0 : j ≠ 0) : QV P ⟨some d, .binOp .quo xt x y yt, ty, pos, af, none⟩ ⟨n, tm, hp⟩ (.int k (k.wrap (i.tdiv j))) :=
  q_bin hx hy (v := .int k (k.wrap (i.tdiv j))) (fun w => by simp [binOp, Op.intDiv, h0]) (fun w S => .int _ _)
theorem t_quoS {xt yt : TypeId} {x y : Operand} {i j r : Int} (hx : evA tm x = some (.int .i64 i)) (hy : evA tm y = some (.int .i64 j)) (h : quo i j = some r) : QV P ⟨some d, .binOp .quo xt x y yt, ty, pos, af, none⟩ ⟨n, tm, hp⟩ (.int .i64 r) := by
  obtain ⟨h0, rfl⟩ := quo_some h
  exact t_quo hx hy h0
theorem t_remS {k : IntKind} {xt yt : TypeId} {x y : Operand} {i j r : Int} (hx : evA tm x = some (.int k i)) (hy : evA tm y = some (.int k j)) (h : rem i j = some r) : QV P ⟨some d, .binOp .rem xt x y yt, ty, pos, af, none⟩ ⟨n, tm, hp⟩ (.int k r) := by
  obtain ⟨h0, rfl⟩ := rem_some h
  exact q_rem hx hy h0
theorem t_negw {k : IntKind} {xt : TypeId} {x : Operand} {i : Int} (hx : evA tm x = some (.int k i)) : QV P ⟨some d, .unOp .neg xt x, ty, pos, af, none⟩ ⟨n, tm, hp⟩ (.int k (k.wrap (-i))) :=
  fun w S a r => ⟨.int k (k.wrap (-i)), fun w' _ => by simp [execOp, (evA_at (σ := ⟨n, tm, hp⟩) r hx).int_inv, Op.unary, Op.intArith], .int _ _⟩
theorem t_index_str {x y : Operand} {t : TypeId} {s : List UInt8} {k : IntKind} {i : Int} {c : UInt8} [TUnder P t .string] (hx : evA tm x = some (.str s)) (hy : evA tm y = some (.int k i)) (hc : idx s i = some c) : QV P ⟨some d, .index t x y, ty, pos, af, none⟩ ⟨n, tm, hp⟩ (.int .u8 (c.toNat : Int)) :=
  let ⟨h0, _, h⟩ := idx_some hc
  q_index_str hx hy h0 h

theorem t_append {α : Type} {g : α → AV} {Xs Ys Zs : List α} {t e : TypeId} {i : TypeInfo} {z : Value} {x y : Operand} {src : AV} {b : Bk} {len sz : Nat} {hp' : Bk → Heap} [TUnder P t (.slice e)] [TInfo P e i] (hx : evA tm x = some (.sl sz b 0 len)) (hy : evA tm y = some src) (hz : i.zero = some z)
    (hzs : Nat.beq z.cells.size i.size = true) (hsz : Nat.beq i.size sz = true) (h0 : Nat.blt 0 sz = true) (hn : Nat.blt d n = true) (hby : Nat.ble i.bytes 65536 = true) (hs : Src hp sz src (Ys.map g)) (hv : app Xs Ys = some Zs) (u : ∀ b', Upd hp b (.arr sz (Xs.map g)) b' (.arr sz (Zs.map g)) (hp' b')) (hlen : len = Xs.length)
    (kk : ∀ b' : Bk, ARun P all rest ⟨n, (d, .sl sz b' 0 Zs.length) :: tm, hp' b'⟩ Q) : ARun P all (⟨some d, .call { callee := .builtin .append, args := #[x, y], argTypes := #[t, t] }, ty, pos, af, none⟩ :: rest) ⟨n, tm, hp⟩ Q := by
  obtain ⟨hb, rfl⟩ := app_some hv
  subst hlen
  refine r_append2 (xs := Xs.map g) (ys := Ys.map g) (hp' := hp') hx hy hz hzs hsz h0 hn hby hs (by simpa using u) (by simp) (by simpa using hb) (fun b' => ?_)
  have := kk b'
  simpa using this
end rules

theorem bound_src {hp : Heap} {sz : Nat} {b : Bk} {α : Type} {g : α → AV} {Xs : List α} {len : Nat} (f : Fnd hp b (.arr sz (Xs.map g)) ∨ Fnd hp b (.fro sz (Xs.map g))) (h : len = Xs.length) : Src hp sz (.sl sz b 0 len) (Xs.map g) :=
  .whole b len _ f (by simpa using h)
end Go.Eng
