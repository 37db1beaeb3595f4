/- The engine, part 2: abstract states, the judgements over regions, code and calls. No program in sight. -/
import Derived.Test.YtbcbhhbbejcnnaaEng1
set_option linter.unusedVariables false
namespace Go.Eng
open Go

theorem nbeq_f {a b : Nat} (h : Nat.beq a b = false) : a ≠ b := fun e => by subst e; simp at h
theorem nbeq_f' {a b : Nat} (h : a ≠ b) : Nat.beq a b = false := by
  cases hb : Nat.beq a b with
  | false => rfl
  | true => exact absurd (Nat.eq_of_beq_eq_true hb) h

def lk : List (Nat × AV) → Nat → Option AV
  | [], _ => none
  | (k, v) :: r, s => match Nat.beq k s with
    | true => some v
    | false => lk r s

structure St where
  n : Nat
  tm : List (Nat × AV)
  hp : Heap

structure StRel (w : World) (S : Nat → Prop) (σ : St) (a : Act) : Prop where
  size : a.tmps.size = σ.n
  defers : a.defers = []
  tm : ∀ s av, lk σ.tm s = some av → ∃ v, a.tmps[s]? = some v ∧ At w S av v
  hp : HRel w S σ.hp

def cst : Value → AV
  | .int k n => .int k n
  | .bool b => .bool b
  | .string s => .str s.data.toList
  | .slice none 0 0 => .nil
  | v => .raw v

theorem cst_at (w : World) (S : Nat → Prop) (v : Value) : At w S (cst v) v := by
  unfold cst
  split
  · exact .int _ _
  · exact .bool _
  · rename_i s
    have h := At.str (w := w) (S := S) s.data.toList
    simpa using h
  · exact .nil
  · exact .raw _

/-- Bytes, written out. -/
def normB : List UInt8 → Option (List UInt8)
  | [] => some []
  | x :: r => match normB r with
    | some l => some (x :: l)
    | none => none
theorem normB_eq : ∀ (l : List UInt8), normB l = some l
  | [] => rfl
  | x :: r => by simp [normB, normB_eq r]

def cstO : Value → Option AV
  | .int k n => some (.int k n)
  | .bool b => some (.bool b)
  | .string s => match normB s.data.toList with
    | some l => some (.str l)
    | none => none
  | .slice none 0 0 => some .nil
  | v => some (.raw v)

theorem cstO_eq (v : Value) : cstO v = some (cst v) := by
  unfold cstO cst
  split <;> simp [normB_eq]

def evA (tm : List (Nat × AV)) : Operand → Option AV
  | .tmp t => lk tm t
  | .const v => cstO v
  | .func f => some (.func (.func f) [])
  | .global g => some (.raw (.pointer (some ⟨g, 0, none⟩)))

theorem evA_at {w : World} {S : Nat → Prop} {σ : St} {a : Act} {x : Operand} {av : AV} (r : StRel w S σ a) (h : evA σ.tm x = some av) : At w S av (a.eval x) := by
  cases x with
  | tmp t =>
    obtain ⟨v, h1, h2⟩ := r.tm t av h
    simp [Act.eval, h1, h2]
  | const v => simp only [evA, cstO_eq, Option.some.injEq] at h; subst h; exact cst_at _ _ _
  | global g => simp only [evA, Option.some.injEq] at h; subst h; exact .raw _
  | func f => simp only [evA, Option.some.injEq] at h; subst h; exact .func _ _ _ rfl (fun i c v hc => by simp at hc)

theorem StRel.put {w : World} {S : Nat → Prop} {n : Nat} {tm : List (Nat × AV)} {hp : Heap} {a : Act} {d : Nat} {av : AV} {v : Value} (r : StRel w S ⟨n, tm, hp⟩ a) (hd : Nat.blt d n = true) (hv : At w S av v) :
    StRel w S ⟨n, (d, av) :: tm, hp⟩ (a.put (some d) v) where
  size := by simp [Act.put, r.size]
  defers := r.defers
  hp := r.hp
  tm s av' h := by
    have hdn : d < a.tmps.size := by rw [r.size]; simpa using hd
    simp only [lk] at h
    split at h
    · rename_i hb
      obtain rfl : d = s := by simpa using hb
      obtain rfl := Option.some.inj h
      exact ⟨v, by simp [Act.put, hdn], hv⟩
    · rename_i hb
      have hne : d ≠ s := nbeq_f hb
      obtain ⟨u, h1, h2⟩ := r.tm s av' h
      exact ⟨u, by simp [Act.put, hne, h1], h2⟩

/-- A world with new blocks alone. -/
theorem StRel.ext {w w' : World} {S : Nat → Prop} {σ : St} {a : Act} (r : StRel w S σ a) (e : Ext w w') : StRel w' S σ a where
  size := r.size
  defers := r.defers
  hp := r.hp.ext e
  tm s av h := let ⟨v, h1, h2⟩ := r.tm s av h; ⟨v, h1, h2.mono fun n hn => ⟨hn, e.same n (r.hp.slt n hn)⟩⟩

/-- The heap has turned, the frame has not. -/
theorem StRel.heap {w w' : World} {S S' : Nat → Prop} {n : Nat} {tm : List (Nat × AV)} {hp hp' : Heap} {a : Act} (r : StRel w S ⟨n, tm, hp⟩ a) (hs : ∀ n, S n → S' n ∧ w'.heap[n]? = w.heap[n]?) (h : HRel w' S' hp') :
    StRel w' S' ⟨n, tm, hp'⟩ a where
  size := r.size
  defers := r.defers
  hp := h
  tm s av h := let ⟨v, h1, h2⟩ := r.tm s av h; ⟨v, h1, h2.mono hs⟩

/-- What is left to do behind a region's operations: Q of some state that fits. -/
def Got (w : World) (S : Nat → Prop) (h : Heap) (Q : St → Prop) (a' : Act) (w' : World) : Prop :=
  ∃ σ' S', Q σ' ∧ StRel w' S' σ' a' ∧ Evo w S h w' S' σ'.hp

def GotE (w : World) (S : Nat → Prop) (h : Heap) (Q : Exit → St → Prop) (e : Exit) (a' : Act) (w' : World) : Prop :=
  ∃ σ' S', Q e σ' ∧ StRel w' S' σ' a' ∧ Evo w S h w' S' σ'.hp

def NormalOnly (K : Act → World → Prop) : Exit → Act → World → Prop := fun e a w => e = .normal ∧ K a w

def ARun (P : Program) (all : Array Oper) (l : List Oper) (σ : St) (Q : St → Prop) : Prop :=
  ∀ w S a, StRel w S σ a → wpList P all (NormalOnly (Got w S σ.hp Q)) l a w

theorem Oper.upon_mono {P : Program} {o : Oper} {a : Act} {K K' : Act → World → Prop} {Q Q' : Exit → Act → World → Prop} (hK : ∀ a w, K a w → K' a w) (hQ : ∀ e a w, Q e a w → Q' e a w) :
    ∀ r, o.upon P a K Q r → o.upon P a K' Q' r := by
  intro r h
  unfold Oper.upon at *
  split at h
  · exact hK _ _ h
  · exact hK _ _ h
  · exact hK _ _ h
  · refine Calls.mono h ?_
    intro e w' he
    cases e with
    | returned v => exact hK _ _ he
    | panicked c => exact hQ _ _ _ he
    | outgrown => obtain ⟨a0, w0, h0⟩ := he; exact ⟨a0, w0, hQ _ _ _ h0⟩
  · exact Rows.mono h fun v w' hv => hK _ _ hv
  · exact hQ _ _ _ h
  · exact h.elim

theorem wpList_mono {P : Program} {all : Array Oper} {Q Q' : Exit → Act → World → Prop} (hQ : ∀ e a w, Q e a w → Q' e a w) : ∀ (l : List Oper) (a : Act) (w : World), wpList P all Q l a w → wpList P all Q' l a w
  | [], _, _, h => hQ _ _ _ h
  | o :: rest, a, w, h => by
    unfold wpList at *
    split
    · rename_i hw
      rw [if_pos hw] at h
      rcases h with h | ⟨h1, a0, w0, h0⟩
      · exact .inl (Oper.upon_mono (fun a w hh => wpList_mono hQ rest a w hh) hQ _ h)
      · exact .inr ⟨h1, a0, w0, hQ _ _ _ h0⟩
    · rename_i hw
      rw [if_neg hw] at h
      exact wpList_mono hQ rest _ _ h

theorem ARun.nil {P : Program} {all : Array Oper} {σ : St} {Q : St → Prop} (h : Q σ) : ARun P all [] σ Q :=
  fun w S _ r => ⟨rfl, σ, S, h, r, Evo.refl _ _ _⟩

/-- The rest, run from a state that the first operation has come to. -/
theorem ARun.go {P : Program} {all : Array Oper} {rest : List Oper} {σ : St} {Q : St → Prop} (k : ARun P all rest σ Q) {w w' : World} {S S' : Nat → Prop} {h : Heap} {a' : Act}
    (r : StRel w' S' σ a') (e : Evo w S h w' S' σ.hp) : wpList P all (NormalOnly (Got w S h Q)) rest a' w' :=
  wpList_mono (fun _ _ _ ⟨h1, σ', S'', h2, h3, h4⟩ => ⟨h1, σ', S'', h2, h3, e.trans h4⟩) _ _ _ (k w' S' a' r)

/-- One operation that yields a value. -/
theorem ARun.opx {P : Program} {all : Array Oper} {o : Oper} {rest : List Oper} {σ : St} {Q : St → Prop} (hg : o.guard = none)
    (h : ∀ w S a, StRel w S σ a → ∃ v w' S' σ', (execOp a.eval o).run P w = .ok (.value v) w' ∧ StRel w' S' σ' (a.put o.dst v) ∧ Evo w S σ.hp w' S' σ'.hp ∧ ARun P all rest σ' Q) :
    ARun P all (o :: rest) σ Q := by
  intro w S a r
  obtain ⟨v, w', S', σ', h1, h2, h3, k⟩ := h w S a r
  unfold wpList
  rw [if_pos (by simp [Region.wanted, hg])]
  refine .inl ?_
  show o.upon P a _ _ _
  rw [h1]
  exact k.go h2 h3

theorem ARun.op {P : Program} {all : Array Oper} {o : Oper} {rest : List Oper} {σ σ' : St} {Q : St → Prop} (hg : o.guard = none)
    (h : ∀ w S a, StRel w S σ a → ∃ v w' S', (execOp a.eval o).run P w = .ok (.value v) w' ∧ StRel w' S' σ' (a.put o.dst v) ∧ Evo w S σ.hp w' S' σ'.hp)
    (k : ARun P all rest σ' Q) : ARun P all (o :: rest) σ Q :=
  ARun.opx hg fun w S a r => let ⟨v, w', S', h1, h2, h3⟩ := h w S a r; ⟨v, w', S', σ', h1, h2, h3, k⟩

/-- One operation that calls a function. -/
theorem ARun.callx {P : Program} {all : Array Oper} {o : Oper} {rest : List Oper} {σ : St} {Q : St → Prop} (hg : o.guard = none)
    (h : ∀ w S a, StRel w S σ a → ∃ f args, (execOp a.eval o).run P w = .ok (.enter f args) w ∧
      Calls P f args w fun e w' => ∃ v S' σ', e = .returned v ∧ StRel w' S' σ' (a.put o.dst v) ∧ Evo w S σ.hp w' S' σ'.hp ∧ ARun P all rest σ' Q) :
    ARun P all (o :: rest) σ Q := by
  intro w S a r
  obtain ⟨f, args, h1, h2⟩ := h w S a r
  unfold wpList
  rw [if_pos (by simp [Region.wanted, hg])]
  refine .inl ?_
  show o.upon P a _ _ _
  rw [h1]
  refine Calls.mono h2 ?_
  rintro e w' ⟨v, S', σ', rfl, g1, g2, k⟩
  exact k.go g1 g2

/-- One operation that yields no value (a store). -/
theorem ARun.act {P : Program} {all : Array Oper} {o : Oper} {rest : List Oper} {σ σ' : St} {Q : St → Prop} (hg : o.guard = none) (hd : o.dst = none)
    (h : ∀ w S a, StRel w S σ a → ∃ w' S', (execOp a.eval o).run P w = .ok .skip w' ∧ StRel w' S' σ' a ∧ Evo w S σ.hp w' S' σ'.hp)
    (k : ARun P all rest σ' Q) : ARun P all (o :: rest) σ Q := by
  intro w S a r
  obtain ⟨w', S', h1, h2, h3⟩ := h w S a r
  unfold wpList
  rw [if_pos (by simp [Region.wanted, hg])]
  refine .inl ?_
  show o.upon P a _ _ _
  rw [h1]
  show wpList P all _ rest (a.put o.dst undef) w'
  rw [hd]
  exact k.go h2 h3

/-- An operation that leaves the world alone and yields a value. -/
theorem ARun.val {P : Program} {all : Array Oper} {o : Oper} {rest : List Oper} {n : Nat} {tm : List (Nat × AV)} {hp : Heap} {Q : St → Prop} {d : Nat} {av : AV} (hg : o.guard = none) (hd : o.dst = some d) (hn : Nat.blt d n = true)
    (h : ∀ w S a, StRel w S ⟨n, tm, hp⟩ a → ∃ v, (execOp a.eval o).run P w = .ok (.value v) w ∧ At w S av v)
    (k : ARun P all rest ⟨n, (d, av) :: tm, hp⟩ Q) : ARun P all (o :: rest) ⟨n, tm, hp⟩ Q := by
  refine ARun.op hg (σ' := ⟨n, (d, av) :: tm, hp⟩) ?_ k
  intro w S a r
  obtain ⟨v, h1, h2⟩ := h w S a r
  exact ⟨v, w, S, h1, by rw [hd]; exact r.put hn h2, Evo.refl _ _ _⟩

/-- An operation that leaves the world alone and yields a value: the same one where new blocks lie behind. -/
def QV (P : Program) (o : Oper) (σ : St) (av : AV) : Prop :=
  ∀ w S a, StRel w S σ a → ∃ v, (∀ w', Ext w w' → (execOp a.eval o).run P w' = .ok (.value v) w') ∧ At w S av v

theorem ARun.qv {P : Program} {all : Array Oper} {rest : List Oper} {n : Nat} {tm : List (Nat × AV)} {hp : Heap} {Q : St → Prop} {d : Nat} {av : AV} {op : Op} {ty : TypeId} {pos : String} {af : Array Edge}
    (q : QV P ⟨some d, op, ty, pos, af, none⟩ ⟨n, tm, hp⟩ av) (hn : Nat.blt d n = true) (k : ARun P all rest ⟨n, (d, av) :: tm, hp⟩ Q) : ARun P all (⟨some d, op, ty, pos, af, none⟩ :: rest) ⟨n, tm, hp⟩ Q :=
  ARun.val rfl rfl hn (fun w S a r => let ⟨v, h1, h2⟩ := q w S a r; ⟨v, h1 w (Ext.refl w), h2⟩) k

/-- A state of which less is said. -/
structure Less (σ σ' : St) : Prop where
  n : σ'.n = σ.n
  tm : ∀ s av, lk σ'.tm s = some av → lk σ.tm s = some av
  hp : σ'.hp.Sublist σ.hp

theorem HRel.sub {w : World} {S : Nat → Prop} {h h' : Heap} (r : HRel w S h) (hs : h'.Sublist h) : HRel w S h' where
  nodup := r.nodup.sublist (hs.filterMap _)
  holds e he := r.holds e (hs.subset he)
  sep e he := r.sep e (hs.subset he)
  slt := r.slt

theorem StRel.less {w : World} {S : Nat → Prop} {σ σ' : St} {a : Act} (r : StRel w S σ a) (h : Less σ σ') : StRel w S σ' a where
  size := r.size.trans h.n.symm
  defers := r.defers
  tm s av hh := r.tm s av (h.tm s av hh)
  hp := r.hp.sub h.hp

theorem Has.sub {h h' : Heap} (hs : h'.Sublist h) {n : Nat} (hh : Has h' n) : Has h n := let ⟨e, he, hb⟩ := hh; ⟨e, hs.subset he, hb⟩

theorem ARun.weaken {P : Program} {all : Array Oper} {l : List Oper} {σ σ' : St} {Q : St → Prop} (h : Less σ σ') (k : ARun P all l σ' Q) : ARun P all l σ Q :=
  fun w S _ r => k.go (r.less h) (Evo.less (Evo.refl w S σ.hp) fun _ hn => hn.sub h.hp)

/-! ### guards -/
theorem ARun.guard_no {P : Program} {all : Array Oper} {d : Nat} {op : Op} {ty : TypeId} {pos : String} {af : Array Edge} {j : Nat} {want b : Bool} {s : Nat} {rest : List Oper} {n : Nat} {tm : List (Nat × AV)} {hp : Heap} {Q : St → Prop}
    (hj : (all[j]?).bind (·.dst) = some s) (hs : lk tm s = some (.bool b)) (hb : b = !want) (hn : Nat.blt d n = true)
    (k : ARun P all rest ⟨n, (d, .raw undef) :: tm, hp⟩ Q) : ARun P all (⟨some d, op, ty, pos, af, some (j, want)⟩ :: rest) ⟨n, tm, hp⟩ Q := by
  intro w S a r
  obtain ⟨v, h1, h2⟩ := r.tm s _ hs
  cases h2
  unfold wpList
  rw [if_neg (by simp [Region.wanted, yielded, hj, h1, hb])]
  exact k.go (r.put hn (.raw undef)) (Evo.refl _ _ _)

theorem ARun.guard_no' {P : Program} {all : Array Oper} {op : Op} {ty : TypeId} {pos : String} {af : Array Edge} {j : Nat} {want b : Bool} {s : Nat} {rest : List Oper} {σ : St} {Q : St → Prop}
    (hj : (all[j]?).bind (·.dst) = some s) (hs : lk σ.tm s = some (.bool b)) (hb : b = !want)
    (k : ARun P all rest σ Q) : ARun P all (⟨none, op, ty, pos, af, some (j, want)⟩ :: rest) σ Q := by
  intro w S a r
  obtain ⟨v, h1, h2⟩ := r.tm s _ hs
  cases h2
  unfold wpList
  rw [if_neg (by simp [Region.wanted, yielded, hj, h1, hb])]
  exact k.go (a' := a.put none undef) r (Evo.refl _ _ _)

/-- The operation that a guard asks about was itself passed over. -/
theorem ARun.guard_und {P : Program} {all : Array Oper} {d : Nat} {op : Op} {ty : TypeId} {pos : String} {af : Array Edge} {j : Nat} {want : Bool} {s : Nat} {rest : List Oper} {n : Nat} {tm : List (Nat × AV)} {hp : Heap} {Q : St → Prop}
    (hj : (all[j]?).bind (·.dst) = some s) (hs : lk tm s = some (.raw undef)) (hn : Nat.blt d n = true)
    (k : ARun P all rest ⟨n, (d, .raw undef) :: tm, hp⟩ Q) : ARun P all (⟨some d, op, ty, pos, af, some (j, want)⟩ :: rest) ⟨n, tm, hp⟩ Q := by
  intro w S a r
  obtain ⟨v, h1, h2⟩ := r.tm s _ hs
  cases h2
  unfold wpList
  rw [if_neg (by simp [Region.wanted, yielded, hj, h1, undef])]
  exact k.go (r.put hn (.raw undef)) (Evo.refl _ _ _)

theorem ARun.guard_yes {P : Program} {all : Array Oper} {d : Option Nat} {op : Op} {ty : TypeId} {pos : String} {af : Array Edge} {j : Nat} {want b : Bool} {s : Nat} {rest : List Oper} {σ : St} {Q : St → Prop}
    (hj : (all[j]?).bind (·.dst) = some s) (hs : lk σ.tm s = some (.bool b)) (hb : b = want)
    (k : ARun P all (⟨d, op, ty, pos, af, none⟩ :: rest) σ Q) : ARun P all (⟨d, op, ty, pos, af, some (j, want)⟩ :: rest) σ Q := by
  intro w S a r
  obtain ⟨v, h1, h2⟩ := r.tm s _ hs
  cases h2
  have := k w S a r
  unfold wpList at this ⊢
  rw [if_pos (by simp [Region.wanted])] at this
  rw [if_pos (by simp [Region.wanted, yielded, hj, h1, hb])]
  exact this

/-! ### code -/
def AWp (P : Program) (c : Code) (σ : St) (Q : Exit → St → Prop) : Prop :=
  ∀ w S a, StRel w S σ a → c.wp P (GotE w S σ.hp Q) a w

theorem AWp.go {P : Program} {c : Code} {σ : St} {Q : Exit → St → Prop} (k : AWp P c σ Q) {w w' : World} {S S' : Nat → Prop} {h : Heap} {a' : Act}
    (r : StRel w' S' σ a') (e : Evo w S h w' S' σ.hp) : c.wp P (GotE w S h Q) a' w' :=
  wp_mono (k w' S' a' r) (fun _ _ _ ⟨σ', S'', h2, h3, h4⟩ => ⟨σ', S'', h2, h3, e.trans h4⟩)

inductive It where
  | code (c : Code)
  | blk (id : Nat)
  | stop (I : St → Prop)

/-- What is asked of a state that leaves by an exit, where this list is still to be done. -/
def TD (P : Program) (R : St → Prop) : List It → Exit → St → Prop
  | [], .normal, σ | [], .ret, σ => R σ
  | [], _, _ => False
  | .blk id :: k, .exit id', σ => match Nat.beq id' id with
    | true => TD P R k .normal σ
    | false => TD P R k (.exit id') σ
  | .blk _ :: k, e, σ => TD P R k e σ
  | .stop I :: _, .normal, σ => I σ
  | .stop _ :: k, e, σ => TD P R k e σ
  | .code c :: k, .normal, σ => AWp P c σ (fun e σ' => TD P R k e σ')
  | .code _ :: k, e, σ => TD P R k e σ

def ATodo (P : Program) (R : St → Prop) (k : List It) (σ : St) : Prop := TD P R k .normal σ

section
variable {P : Program} {R : St → Prop} {k : List It} {σ : St}

theorem ATodo.nil (h : R σ) : ATodo P R [] σ := h
theorem ATodo.blk {id : Nat} (h : ATodo P R k σ) : ATodo P R (.blk id :: k) σ := h
theorem ATodo.stop {I : St → Prop} (h : I σ) : ATodo P R (.stop I :: k) σ := h

theorem TD.ret : ∀ (k : List It), R σ → TD P R k .ret σ
  | [], h => h
  | .blk _ :: k, h => TD.ret k h
  | .stop _ :: k, h => TD.ret k h
  | .code _ :: k, h => TD.ret k h

theorem ATodo.ret (h : R σ) : ATodo P R (.code .ret :: k) σ :=
  fun w S _ r => wp_ret ⟨σ, S, TD.ret k h, r, Evo.refl _ _ _⟩

theorem ATodo.skip (h : ATodo P R k σ) : ATodo P R (.code .skip :: k) σ :=
  fun w S _ r => wp_skip ⟨σ, S, h, r, Evo.refl _ _ _⟩

theorem ATodo.label {l : Nat} (h : ATodo P R k σ) : ATodo P R (.code (.label l) :: k) σ :=
  fun w S _ r => wp_label ⟨σ, S, h, r, Evo.refl _ _ _⟩

def popTo (id : Nat) : List It → Option (List It)
  | [] => none
  | .blk id' :: k => match Nat.beq id id' with
    | true => some k
    | false => popTo id k
  | _ :: k => popTo id k

theorem TD.exit {id : Nat} : ∀ (k k' : List It), popTo id k = some k' → ATodo P R k' σ → TD P R k (.exit id) σ
  | [], _, h, _ => by simp [popTo] at h
  | .blk id' :: k, k', h, h' => by
    simp only [popTo] at h
    unfold TD
    split at h
    · obtain rfl := Option.some.inj h; exact h'
    · exact TD.exit k k' h h'
  | .stop _ :: k, k', h, h' => TD.exit k k' h h'
  | .code _ :: k, k', h, h' => TD.exit k k' h h'

theorem ATodo.exit {id : Nat} {k' : List It} (hp : popTo id k = some k') (h : ATodo P R k' σ) : ATodo P R (.code (.exit id) :: k) σ :=
  fun w S _ r => wp_exit ⟨σ, S, TD.exit k k' hp h, r, Evo.refl _ _ _⟩

theorem ATodo.seq {x y : Code} (h : ATodo P R (.code x :: .code y :: k) σ) : ATodo P R (.code (.seq x y) :: k) σ := by
  intro w S a r
  refine wp_seq (wp_mono (h w S a r) ?_)
  rintro e a' w' ⟨σ', S', h1, h2, h3⟩
  cases e with
  | normal => exact AWp.go (Q := fun e σ' => TD P R k e σ') h1 h2 h3
  | exit id => exact ⟨σ', S', h1, h2, h3⟩
  | goto l => exact ⟨σ', S', h1, h2, h3⟩
  | ret => exact ⟨σ', S', h1, h2, h3⟩
  | panic c => exact ⟨σ', S', h1, h2, h3⟩
  | outgrown => exact ⟨σ', S', h1, h2, h3⟩

theorem ATodo.block {id : Nat} {c : Code} (h : ATodo P R (.code c :: .blk id :: k) σ) : ATodo P R (.code (.block id c) :: k) σ := by
  intro w S a r
  refine wp_block (wp_mono (h w S a r) ?_)
  rintro e a' w' ⟨σ', S', h1, h2, h3⟩
  cases e with
  | normal => exact ⟨σ', S', h1, h2, h3⟩
  | exit id' =>
    simp only [TD] at h1
    by_cases hb : id' = id
    · subst hb
      simp only [Nat.beq_refl] at h1
      simp only [Exit.inBlock, if_true]
      exact ⟨σ', S', h1, h2, h3⟩
    · have : Nat.beq id' id = false := nbeq_f' hb
      rw [this] at h1
      simp only [Exit.inBlock, hb, if_false]
      exact ⟨σ', S', h1, h2, h3⟩
  | goto l => exact ⟨σ', S', h1, h2, h3⟩
  | ret => exact ⟨σ', S', h1, h2, h3⟩
  | panic c => exact ⟨σ', S', h1, h2, h3⟩
  | outgrown => exact ⟨σ', S', h1, h2, h3⟩

theorem ATodo.cond {c : Operand} {x y : Code} {b : Bool} (hc : evA σ.tm c = some (.bool b)) (h1 : b = true → ATodo P R (.code x :: k) σ) (h2 : b = false → ATodo P R (.code y :: k) σ) :
    ATodo P R (.code (.cond c x y) :: k) σ := by
  intro w S a r
  have hv := evA_at r hc
  generalize hgv : a.eval c = v at hv
  cases hv
  exact wp_cond_split hgv (fun hb => h1 hb w S a r) (fun hb => h2 hb w S a r)

theorem ATodo.cond_t {c : Operand} {x y : Code} (hc : evA σ.tm c = some (.bool true)) (h1 : ATodo P R (.code x :: k) σ) : ATodo P R (.code (.cond c x y) :: k) σ :=
  ATodo.cond hc (fun _ => h1) (fun h => by cases h)
theorem ATodo.cond_f {c : Operand} {x y : Code} (hc : evA σ.tm c = some (.bool false)) (h1 : ATodo P R (.code y :: k) σ) : ATodo P R (.code (.cond c x y) :: k) σ :=
  ATodo.cond hc (fun h => by cases h) (fun _ => h1)

theorem ATodo.region {id : Nat} {l : List Oper} (h : ARun P l.toArray l σ (ATodo P R k)) : ATodo P R (.code (.region id l.toArray false) :: k) σ := by
  intro w S a r
  refine wp_region_lit (wpList_mono ?_ _ _ _ (h w S a r))
  rintro e a' w' ⟨rfl, σ', S', h1, h2, h3⟩
  exact ⟨σ', S', h1, h2, h3⟩

theorem ATodo.go {w w' : World} {S S' : Nat → Prop} {h : Heap} {a' : Act} {c : Code} (kk : ATodo P R (.code c :: k) σ) (r : StRel w' S' σ a') (e : Evo w S h w' S' σ.hp) :
    c.wp P (GotE w S h (TD P R k)) a' w' := AWp.go (Q := fun e σ' => TD P R k e σ') kk r e

theorem ATodo.weaken {c : Code} {σ' : St} (h : Less σ σ') (kk : ATodo P R (.code c :: k) σ') : ATodo P R (.code c :: k) σ :=
  fun w S _ r => ATodo.go kk (r.less h) (Evo.less (Evo.refl w S σ.hp) fun _ hn => hn.sub h.hp)

theorem least (p : Nat → Prop) (n : Nat) (h : p n) : ∃ m, p m ∧ ∀ i, p i → m ≤ i := by
  induction n using Nat.strongRecOn with
  | _ n ih =>
    by_cases hx : ∃ i, i < n ∧ p i
    · obtain ⟨i, hi, hp⟩ := hx; exact ih i hi hp
    · exact ⟨n, h, fun i hi => Nat.le_of_not_lt fun hlt => hx ⟨i, hlt, hi⟩⟩

open Classical in
noncomputable def theLeast (p : Nat → Prop) : Nat := if h : ∃ n, p n then Classical.choose (least p h.choose h.choose_spec) else 0

theorem theLeast_spec {p : Nat → Prop} {n : Nat} (h : p n) : p (theLeast p) ∧ theLeast p ≤ n := by
  have hx : ∃ n, p n := ⟨n, h⟩
  unfold theLeast
  rw [dif_pos hx]
  have := Classical.choose_spec (least p hx.choose hx.choose_spec)
  exact ⟨this.1, this.2 n h⟩

theorem ATodo.loop {body : Code} (I : Nat → St → Prop) (m : Nat) (h0 : I m σ) (hs : ∀ m σ, I m σ → ATodo P R (.code body :: .stop (fun σ' => ∃ m', m' < m ∧ I m' σ') :: k) σ) :
    ATodo P R (.code (.loop body) :: k) σ := by
  intro w S a r
  let p : Act → World → Nat → Prop := fun a' w' m => ∃ σ' S', I m σ' ∧ StRel w' S' σ' a' ∧ Evo w S σ.hp w' S' σ'.hp
  refine wp_loop (fun a' w' => ∃ m, p a' w' m) (fun a' w' => theLeast (p a' w')) ⟨m, σ, S, h0, r, Evo.refl _ _ _⟩ ?_
  rintro a1 w1 ⟨m1, hm1⟩
  obtain ⟨⟨σ1, S1, hI, hr1, he1⟩, _⟩ := theLeast_spec hm1
  refine wp_mono (ATodo.go (hs _ σ1 hI) hr1 he1) ?_
  rintro e a2 w2 ⟨σ2, S2, h2, hr2, he2⟩
  cases e with
  | normal =>
    obtain ⟨m2, hlt, hI2⟩ := h2
    have hp2 : p a2 w2 m2 := ⟨σ2, S2, hI2, hr2, he2⟩
    exact ⟨⟨m2, hp2⟩, Nat.lt_of_le_of_lt (theLeast_spec hp2).2 hlt⟩
  | exit id => exact ⟨σ2, S2, h2, hr2, he2⟩
  | goto l => exact ⟨σ2, S2, h2, hr2, he2⟩
  | ret => exact ⟨σ2, S2, h2, hr2, he2⟩
  | panic c => exact ⟨σ2, S2, h2, hr2, he2⟩
  | outgrown => exact ⟨σ2, S2, h2, hr2, he2⟩
end

/-! ### calls -/
def ACall (P : Program) (f : FuncId) (args : List AV) (h : Heap) (Q : AV → Heap → Prop) : Prop :=
  ∀ w S (vs : Array Value), HRel w S h → args.length = vs.size → AtA w S args vs →
    Calls P f vs w fun e w' => ∃ v r h' S', e = .returned v ∧ Q r h' ∧ At w' S' r v ∧ HRel w' S' h' ∧ Evo w S h w' S' h'

theorem ACall.mono {P : Program} {f : FuncId} {args : List AV} {h : Heap} {Q Q' : AV → Heap → Prop} (c : ACall P f args h Q) (hq : ∀ r h', Q r h' → Q' r h') : ACall P f args h Q' :=
  fun w S vs r hl ha => (c w S vs r hl ha).mono fun _ _ ⟨v, r, h', S', h1, h2, h3⟩ => ⟨v, r, h', S', h1, hq _ _ h2, h3⟩

/-- THE FRAME: beside the call lies a heap that it knows nothing of. -/
theorem ACall.frame {P : Program} {f : FuncId} {args : List AV} {h : Heap} {Q : AV → Heap → Prop} (c : ACall P f args h Q) (rest : Heap) :
    ACall P f args (h ++ rest) (fun r h' => ∃ h1, h' = h1 ++ rest ∧ Q r h1) := by
  intro w S vs r hl ha
  refine (c w S vs (r.sub (List.sublist_append_left _ _)) hl ha).mono ?_
  rintro e w' ⟨v, rr, h', S', h1, h2, h3, h4, h5⟩
  exact ⟨v, rr, h' ++ rest, S', h1, ⟨h', rfl, h2⟩, h3, r.frame h5 h4, h5.frame rest⟩

/-- Its heap in another order. -/
theorem HRel.perm {w : World} {S : Nat → Prop} {h h' : Heap} (r : HRel w S h) (hp : h.Perm h') : HRel w S h' where
  nodup := (hp.filterMap _).nodup_iff.1 r.nodup
  holds e he := r.holds e (hp.mem_iff.2 he)
  sep e he := r.sep e (hp.mem_iff.2 he)
  slt := r.slt

def tm0 : List AV → Nat → List (Nat × AV)
  | [], _ => []
  | x :: r, i => (i, x) :: tm0 r (i + 1)

theorem lk_tm0 : ∀ (l : List AV) (i s : Nat) (av : AV), lk (tm0 l i) s = some av → i ≤ s ∧ l[s - i]? = some av
  | [], _, _, _, h => by simp [tm0, lk] at h
  | x :: r, i, s, av, h => by
    simp only [tm0, lk] at h
    split at h
    · rename_i hb
      obtain rfl : i = s := by simpa using hb
      simpa using h
    · rename_i hb
      have hne : i ≠ s := nbeq_f hb
      obtain ⟨h1, h2⟩ := lk_tm0 r (i + 1) s av h
      refine ⟨by omega, ?_⟩
      rw [show s - i = (s - (i + 1)) + 1 from by omega]
      simpa using h2

/-- What a function hands back: read off its state. -/
inductive Res (P : Program) (fn : Func) (σ : St) : AV → Prop
  | tmp (t : Nat) (av : AV) (h : fn.results = #[.tmp t]) (ht : lk σ.tm t = some av) : Res P fn σ av
  | none (h : fn.results = #[]) : Res P fn σ (.tup [])
  | tmp2 (t u : Nat) (av au : AV) (h : fn.results = #[.tmp t, .tmp u]) (ht : lk σ.tm t = some av) (hu : lk σ.tm u = some au) : Res P fn σ (.tup [av, au])
  | tmp3 (t u s : Nat) (av au as : AV) (h : fn.results = #[.tmp t, .tmp u, .tmp s]) (ht : lk σ.tm t = some av) (hu : lk σ.tm u = some au) (hs : lk σ.tm s = some as) : Res P fn σ (.tup [av, au, as])

theorem AtA_two {w : World} {S : Nat → Prop} {x y : AV} {u v : Value} (hx : At w S x u) (hy : At w S y v) : AtA w S [x, y] #[u, v] := by
  intro i c d hc hd
  match i with
  | 0 => simp at hc hd; subst hc; subst hd; exact hx
  | 1 => simp at hc hd; subst hc; subst hd; exact hy
  | i + 2 => simp at hc

theorem AtA_three {w : World} {S : Nat → Prop} {x y z : AV} {u v t : Value} (hx : At w S x u) (hy : At w S y v) (hz : At w S z t) : AtA w S [x, y, z] #[u, v, t] := by
  intro i c d hc hd
  match i with
  | 0 => simp at hc hd; subst hc; subst hd; exact hx
  | 1 => simp at hc hd; subst hc; subst hd; exact hy
  | 2 => simp at hc hd; subst hc; subst hd; exact hz
  | i + 3 => simp at hc

theorem Res.run {P : Program} {fn : Func} {σ : St} {av : AV} (h : Res P fn σ av) {w : World} {S : Nat → Prop} {a : Act} (r : StRel w S σ a) : ∃ v, (results fn a.tmps).run P w = .ok v w ∧ At w S av v := by
  cases h with
  | tmp t av h ht =>
    obtain ⟨v, h1, h2⟩ := r.tm t _ ht
    exact ⟨v, by rw [results_tmp h]; simp [h1], h2⟩
  | none h => exact ⟨_, results_none h _ _ _, .tup _ _ rfl (fun i c v hc => by simp at hc)⟩
  | tmp2 t u av au h ht hu =>
    obtain ⟨v, h1, h2⟩ := r.tm t _ ht
    obtain ⟨v', h1', h2'⟩ := r.tm u _ hu
    exact ⟨.tuple #[v, v'], by rw [results_tmp2 h]; simp [h1, h1'], .tup _ _ rfl (AtA_two h2 h2')⟩
  | tmp3 t u s av au as h ht hu hs =>
    obtain ⟨v, h1, h2⟩ := r.tm t _ ht
    obtain ⟨v', h1', h2'⟩ := r.tm u _ hu
    obtain ⟨v'', h1'', h2''⟩ := r.tm s _ hs
    exact ⟨.tuple #[v, v', v''], by simp [results, h, h1, h1', h1''], .tup _ _ rfl (AtA_three h2 h2' h2'')⟩

theorem ACall.of_body {P : Program} {f : FuncId} {fn : Func} {c : Code} {args : List AV} {h : Heap} {Q : AV → Heap → Prop} {n : Nat} (hf : P.funcs[f]? = some fn) (hb : fn.body = some c) (hn : fn.ntmps = n)
    (hle : args.length ≤ n) (k : ATodo P (fun σ => ∃ r, Res P fn σ r ∧ Q r σ.hp) [.code c] ⟨n, tm0 args 0, h⟩) : ACall P f args h Q := by
  intro w S vs hr hl ha
  refine calls_of_wp hf hb ?_
  have r0 : StRel w S ⟨n, tm0 args 0, h⟩ { tmps := vs ++ Array.replicate (fn.ntmps - vs.size) undef, defers := [] } := by
    refine ⟨by simp [hn]; omega, rfl, fun s av hs => ?_, hr⟩
    obtain ⟨_, h2⟩ := lk_tm0 args 0 s av hs
    simp only [Nat.sub_zero] at h2
    have hlt : s < args.length := (List.getElem?_eq_some_iff.1 h2).1
    have hlt' : s < vs.size := by omega
    refine ⟨vs[s], by simp [Array.getElem?_append, hlt'], ha s av _ h2 (by simp [hlt'])⟩
  refine wp_mono (k w S _ r0) ?_
  rintro e a' w' ⟨σ', S', h1, h2, h3⟩
  have fin : (∃ r, Res P fn σ' r ∧ Q r σ'.hp) → a'.defers = [] ∧ ∃ v, (results fn a'.tmps).run P w' = .ok v w' ∧ ∃ v' r h' S', (Ending.returned v : Ending) = .returned v' ∧ Q r h' ∧ At w' S' r v' ∧ HRel w' S' h' ∧ Evo w S h w' S' h' := by
    rintro ⟨r, hres, hq⟩
    obtain ⟨v, hv1, hv2⟩ := hres.run h2
    exact ⟨h2.defers, v, hv1, v, r, σ'.hp, S', rfl, hq, hv2, h2.hp, h3⟩
  cases e with
  | normal => exact fin h1
  | ret => exact fin h1
  | exit id => exact h1.elim
  | goto l => exact h1.elim
  | panic c => exact h1.elim
  | outgrown => exact h1.elim

end Go.Eng
