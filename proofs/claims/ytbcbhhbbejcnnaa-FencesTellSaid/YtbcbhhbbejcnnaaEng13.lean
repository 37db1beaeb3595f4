/- The engine, part 13: regions that draw their order: operations that only look or make new memory commute; what stands behind them goes in order. No program in sight. -/
import Derived.Test.YtbcbhhbbejcnnaaEng12
set_option linter.unusedVariables false
namespace Go.Eng
open Go

/-- New blocks alone; what is immutable stays so, and of the old blocks none becomes so. -/
structure Grow (w : World) (S : Nat → Prop) (w' : World) (S' : Nat → Prop) : Prop where
  ext : Ext w w'
  up : ∀ n, S n → S' n
  down : ∀ n, n < w.heap.size → S' n → S n
  slt : ∀ n, S' n → n < w'.heap.size

theorem Grow.refl {w : World} {S : Nat → Prop} (h : ∀ n, S n → n < w.heap.size) : Grow w S w S := ⟨Ext.refl w, fun _ h => h, fun _ _ h => h, h⟩
theorem Grow.trans {a b c : World} {S T U : Nat → Prop} (h : Grow a S b T) (k : Grow b T c U) : Grow a S c U :=
  ⟨h.ext.trans k.ext, fun n hn => k.up n (h.up n hn), fun n hn hs => h.down n hn (k.down n (Nat.lt_of_lt_of_le hn h.ext.size) hs), k.slt⟩
theorem Grow.keep {w w' : World} {S S' : Nat → Prop} (g : Grow w S w' S') (h : ∀ n, S n → n < w.heap.size) : ∀ n, S n → S' n ∧ w'.heap[n]? = w.heap[n]? := fun n hn => ⟨g.up n hn, g.ext.same n (h n hn)⟩
theorem HRel.grow {w w' : World} {S S' : Nat → Prop} {h : Heap} (r : HRel w S h) (g : Grow w S w' S') : HRel w' S' h where
  nodup := r.nodup
  holds e he := (r.holds e he).mono (g.keep r.slt) (fun n hn => g.ext.same n (r.lt ⟨e, he, hn⟩))
  sep e he n hn := by
    rw [← r.sep e he n hn]
    exact ⟨g.down n (r.lt ⟨e, he, hn⟩), g.up n⟩
  slt := g.slt
theorem Grow.evo {w w' : World} {S S' : Nat → Prop} (g : Grow w S w' S') (h : ∀ n, S n → n < w.heap.size) (hp : Heap) : Evo w S hp w' S' hp :=
  ⟨g.ext.os, g.ext.tape, g.ext.output, g.ext.size, g.keep h, fun n hn _ => ⟨g.ext.same n hn, g.down n hn⟩, fun _ hn => .inl hn, g.ext.drawn⟩

/-- What an operation looks at: its operands, and the slot of its guard. -/
def looks (all : Array Oper) (o : Oper) : List Nat :=
  (o.op.operands.toList.filterMap fun | .tmp t => some t | _ => none) ++ (match o.guard with | some (g, _) => ((all[g]?).bind (·.dst)).toList | none => [])

abbrev Env := Nat → Option AV

def RelE (w : World) (S : Nat → Prop) (ls : List Nat) (e : Env) (a : Act) : Prop := ∀ s ∈ ls, ∀ av, e s = some av → ∃ v, a.tmps[s]? = some v ∧ At w S av v

/-- An operation that only looks, or makes new memory: what it yields, where all that it looks at is as told. -/
def MV (P : Program) (all : Array Oper) (n : Nat) (o : Oper) (e : Env) (hp : Heap) (av : AV) : Prop :=
  ∀ w S a, a.tmps.size = n → a.defers = [] → HRel w S hp → RelE w S (looks all o) e a → ∀ (K : Act → World → Prop) (Q : Exit → Act → World → Prop),
    (∀ v w' S', Grow w S w' S' → At w' S' av v → K (a.put o.dst v) w') → o.wp P a w K Q

def eput (e : Env) (d : Option Nat) (av : AV) : Env := match d with
  | some d => fun s => if d = s then some av else e s
  | none => e

/-- The outcome of a guard in an environment: carried out or passed over. -/
def Wanted (all : Array Oper) (o : Oper) (e : Env) (b : Bool) : Prop :=
  match o.guard with
  | none => b = true
  | some (j, want) => ∃ s, (all[j]?).bind (·.dst) = some s ∧ ((∃ c, e s = some (.bool c) ∧ b = (c == want)) ∨ (e s = some (.raw undef) ∧ b = false))

inductive AMf (P : Program) (all : Array Oper) (n : Nat) (hp : Heap) : List Oper → Env → Env → Prop
  | nil (e : Env) : AMf P all n hp [] e e
  | run {o : Oper} {l : List Oper} {e e' : Env} {av : AV} (hg : Wanted all o e true) (h : MV P all n o e hp av) (hd : ∀ d, o.dst = some d → d < n) (k : AMf P all n hp l (eput e o.dst av) e') : AMf P all n hp (o :: l) e e'
  | pass {o : Oper} {l : List Oper} {e e' : Env} (hg : Wanted all o e false) (hd : ∀ d, o.dst = some d → d < n) (k : AMf P all n hp l (eput e o.dst (.raw undef)) e') : AMf P all n hp (o :: l) e e'

/-- One step, whichever. -/
def MStep (P : Program) (all : Array Oper) (n : Nat) (hp : Heap) (o : Oper) (e : Env) (av : AV) : Prop :=
  (∀ d, o.dst = some d → d < n) ∧ ((Wanted all o e true ∧ MV P all n o e hp av) ∨ (Wanted all o e false ∧ av = .raw undef))

/-- The environments along the text. -/
theorem AMf.unroll {P : Program} {all : Array Oper} {n : Nat} {hp : Heap} {l : List Oper} {e e' : Env} (h : AMf P all n hp l e e') :
    ∃ (avs : Nat → AV) (en : Nat → Env), en 0 = e ∧ en l.length = e' ∧ ∀ i o, l[i]? = some o → MStep P all n hp o (en i) (avs i) ∧ en (i + 1) = eput (en i) o.dst (avs i) := by
  induction h with
  | nil e => exact ⟨fun _ => .nil, fun _ => e, rfl, rfl, fun i o h => by simp at h⟩
  | @run o l e e' av hg hm hd k ih =>
    obtain ⟨avs, en, h0, h1, h2⟩ := ih
    refine ⟨fun i => match i with | 0 => av | i + 1 => avs i, fun i => match i with | 0 => e | i + 1 => en i, rfl, h1, fun i o' ho => ?_⟩
    match i with
    | 0 => simp at ho; subst ho; exact ⟨⟨hd, .inl ⟨hg, hm⟩⟩, h0⟩
    | i + 1 => exact h2 i o' (by simpa using ho)
  | @pass o l e e' hg hd k ih =>
    obtain ⟨avs, en, h0, h1, h2⟩ := ih
    refine ⟨fun i => match i with | 0 => .raw undef | i + 1 => avs i, fun i => match i with | 0 => e | i + 1 => en i, rfl, h1, fun i o' ho => ?_⟩
    match i with
    | 0 => simp at ho; subst ho; exact ⟨⟨hd, .inr ⟨hg, rfl⟩⟩, h0⟩
    | i + 1 => exact h2 i o' (by simpa using ho)

/-! ### the checks on a region -/
/-- Operation j waits for operation i. -/
def waits (o : Oper) (i : Nat) : Bool := o.after.toList.any fun e => Region.binds .any e && Nat.beq e.on i

def clash (all : Array Oper) (oi oj : Oper) : Bool :=
  match oi.dst, oj.dst with
  | some d, some d' => (looks all oj).contains d || (looks all oi).contains d' || Nat.beq d d'
  | some d, none => (looks all oj).contains d
  | none, some d' => (looks all oi).contains d'
  | none, none => false

/-- Operation j waits for operation i, perhaps by others. -/
inductive Anc (all : Array Oper) : Nat → Nat → Prop
  | one {j i : Nat} {oj : Oper} (hj : all[j]? = some oj) (hw : waits oj i = true) : Anc all j i
  | step {j k i : Nat} {oj : Oper} (hj : all[j]? = some oj) (hw : waits oj k = true) (h : Anc all k i) : Anc all j i

def ancOne (acc : List Nat) : List Edge → Nat → Nat
  | [], m => m
  | e :: r, m => ancOne acc r (match Region.binds .any e with
    | true => m ||| (1 <<< e.on) ||| acc.getD e.on 0
    | false => m)
def ancsL : List Oper → List Nat → List Nat
  | [], acc => acc
  | o :: r, acc => ancsL r (acc ++ [ancOne acc o.after.toList 0])
def ancs (all : Array Oper) : List Nat := ancsL all.toList []

theorem ancOne_spec {acc : List Nat} {i : Nat} : ∀ (es : List Edge) (m : Nat), (ancOne acc es m).testBit i = true → m.testBit i = true ∨ ∃ e ∈ es, Region.binds .any e = true ∧ (e.on = i ∨ (acc.getD e.on 0).testBit i = true)
  | [], m, h => .inl h
  | e :: r, m, h => by
    simp only [ancOne] at h
    rcases ancOne_spec r _ h with h | ⟨e', he, hb, hh⟩
    · split at h
      · rename_i hb
        rw [Nat.testBit_or, Nat.testBit_or, Bool.or_eq_true, Bool.or_eq_true] at h
        rcases h with (h | h) | h
        · exact .inl h
        · refine .inr ⟨e, by simp, hb, .inl ?_⟩
          rw [Nat.one_shiftLeft, Nat.testBit_two_pow] at h
          simpa using h
        · exact .inr ⟨e, by simp, hb, .inr h⟩
      · exact .inl h
    · exact .inr ⟨e', by simp [he], hb, hh⟩

theorem ancsL_spec {all : Array Oper} : ∀ (l : List Oper) (acc : List Nat) (pre : List Oper), all.toList = pre ++ l → acc.length = pre.length → (∀ j i, (acc.getD j 0).testBit i = true → Anc all j i) → ∀ j i, ((ancsL l acc).getD j 0).testBit i = true → Anc all j i
  | [], acc, pre, _, _, h => h
  | o :: r, acc, pre, hl, hlen, h => by
    refine ancsL_spec r _ (pre ++ [o]) (by simpa using hl) (by simp [hlen]) (fun j i hb => ?_)
    rcases Nat.lt_or_ge j acc.length with hj | hj
    · refine h j i ?_
      rw [List.getD_eq_getElem?_getD, List.getElem?_append_left hj] at hb
      rw [List.getD_eq_getElem?_getD]
      exact hb
    · by_cases hje : j = acc.length
      · rw [List.getD_eq_getElem?_getD, List.getElem?_append_right hj, hje] at hb
        simp only [Nat.sub_self, List.getElem?_cons_zero, Option.getD_some] at hb
        have hoj : all[j]? = some o := by
          rw [← Array.getElem?_toList, hl, List.getElem?_append_right (by omega), hje, hlen]; simp
        rcases ancOne_spec _ _ hb with hz | ⟨e, he, hbd, hh⟩
        · simp at hz
        · have hw : waits o e.on = true := by
            simp only [waits, List.any_eq_true, Bool.and_eq_true]
            exact ⟨e, he, hbd, by simp⟩
          rcases hh with hh | hh
          · subst hh; exact .one hoj hw
          · exact .step hoj hw (h _ _ hh)
      · rw [List.getD_eq_getElem?_getD, List.getElem?_append_right hj, List.getElem?_eq_none (by simp; omega)] at hb
        simp at hb

theorem ancs_spec {all : Array Oper} {j i : Nat} (h : ((ancs all).getD j 0).testBit i = true) : Anc all j i :=
  ancsL_spec all.toList [] [] (by simp) rfl (fun j i h => by simp at h) j i h

/-- Of each two of the first m operations that clash the later waits for the earlier; each operation from m on waits for all before it; who is waited for stands before. -/
def monoB (all : Array Oper) (m : Nat) (A : List Nat) : Bool :=
  (List.range all.size).all fun j => match all[j]? with
    | none => true
    | some oj => (oj.after.all fun e => !Region.binds .any e || Nat.blt e.on j) && (List.range j).all fun i => match all[i]? with
      | none => true
      | some oi => if Nat.blt j m then !clash all oi oj || (A.getD j 0).testBit i else (A.getD j 0).testBit i
def MonoB (all : Array Oper) (m : Nat) : Prop := ∃ A, ancs all = A ∧ monoB all m A = true

theorem monoB_spec {all : Array Oper} {m : Nat} (h : MonoB all m) {i j : Nat} {oi oj : Oper} (hj : all[j]? = some oj) (hi : all[i]? = some oi) (hij : i < j) : (j < m → clash all oi oj = true → Anc all j i) ∧ (m ≤ j → Anc all j i) := by
  obtain ⟨A, hA, h⟩ := h
  subst hA
  have hjs : j < all.size := (Array.getElem?_eq_some_iff.1 hj).1
  simp only [monoB, List.all_eq_true, List.mem_range] at h
  have h1 := h j hjs
  rw [hj] at h1
  simp only [Bool.and_eq_true, List.all_eq_true, List.mem_range] at h1
  have h2 := h1.2 i hij
  rw [hi] at h2
  simp only at h2
  refine ⟨fun hm hc => ?_, fun hm => ?_⟩
  · rw [if_pos (by simpa using hm)] at h2
    exact ancs_spec (by simpa [hc] using h2)
  · rw [if_neg (by simp; omega)] at h2
    exact ancs_spec h2

theorem monoB_edge {all : Array Oper} {m : Nat} (h : MonoB all m) {j : Nat} {oj : Oper} (hj : all[j]? = some oj) {e : Edge} (he : e ∈ oj.after) (hb : Region.binds .any e = true)   : e.on < j := by
  obtain ⟨A, hA, h⟩ := h
  have hjs : j < all.size := (Array.getElem?_eq_some_iff.1 hj).1
  simp only [monoB, List.all_eq_true, List.mem_range] at h
  have h1 := h j hjs
  rw [hj] at h1
  simp only [Bool.and_eq_true, Array.all_eq_true_iff_forall_mem] at h1
  have := h1.1 e he
  simpa [hb] using this

theorem ready_waits {all : Array Oper} {listed : Array Bool} {i j : Nat} {oj : Oper} (hj : all[j]? = some oj) (hr : j ∈ Region.ready .any all listed) (hw : waits oj i = true) : listed.getD i false = true := by
  simp only [Region.ready, List.mem_filter, List.mem_range, hj, Option.map_some, Option.getD_some, Bool.and_eq_true, Array.all_eq_true_iff_forall_mem] at hr
  simp only [waits, List.any_eq_true, Bool.and_eq_true] at hw
  obtain ⟨e, he, hb, hon⟩ := hw
  have := hr.2.2 e (by simpa using he)
  rw [hb] at this
  obtain rfl : e.on = i := Nat.eq_of_beq_eq_true hon
  simpa using this

def Closed (all : Array Oper) (listed : Array Bool) : Prop := ∀ k i o, listed.getD k false = true → all[k]? = some o → waits o i = true → listed.getD i false = true
theorem Closed.anc {all : Array Oper} {listed : Array Bool} (c : Closed all listed) {j i : Nat} (h : Anc all j i) (hl : listed.getD j false = true) : listed.getD i false = true := by
  induction h with
  | one hj hw => exact c _ _ _ hl hj hw
  | step hj hw _ ih => exact ih (c _ _ _ hl hj hw)
theorem Closed.ready {all : Array Oper} {listed : Array Bool} (c : Closed all listed) {j i : Nat} (h : Anc all j i) (hr : j ∈ Region.ready .any all listed) : listed.getD i false = true := by
  cases h with
  | one hj hw => exact ready_waits hj hr hw
  | step hj hw h => exact c.anc h (ready_waits hj hr hw)
theorem ready_not {all : Array Oper} {listed : Array Bool} {j : Nat} (hr : j ∈ Region.ready .any all listed) : j < all.size ∧ listed.getD j true = false := by
  simp only [Region.ready, List.mem_filter, List.mem_range, Bool.and_eq_true] at hr
  exact ⟨hr.1, by simpa using hr.2.1⟩

/-- Nothing is ready: all are listed. -/
theorem ready_nil {all : Array Oper} {m : Nat} (h : MonoB all m) {listed : Array Bool} (hl : listed.size = all.size) (hr : Region.ready .any all listed = []) : ∀ i, i < all.size → listed.getD i false = true := by
  intro i
  induction i using Nat.strongRecOn with
  | _ i ih =>
    intro hi
    cases hv : listed.getD i false with
    | true => rfl
    | false =>
      exfalso
      have : i ∈ Region.ready .any all listed := by
        simp only [Region.ready, List.mem_filter, List.mem_range, Bool.and_eq_true]
        have hli : i < listed.size := by omega
        refine ⟨hi, ?_, ?_⟩
        · simp [hli] at hv ⊢; exact hv
        · have hoi : all[i]? = some all[i] := by simp [hi]
          rw [hoi]
          simp only [Option.map_some, Option.getD_some, Array.all_eq_true_iff_forall_mem]
          intro e he
          cases hb : Region.binds .any e with
          | false => simp
          | true =>
            have hlt := monoB_edge h hoi he hb
            simp [ih e.on hlt (by omega)]
      rw [hr] at this
      simp at this

/-! ### any order of the head -/
section order
variable {P : Program} {all : Array Oper} {n m : Nat} {hp : Heap}

/-- What the slots hold when just the listed ones of the first k operations have been carried out. -/
def cur (all : Array Oper) (avs : Nat → AV) (e : Env) (listed : Array Bool) : Nat → Env
  | 0 => e
  | k + 1 => if listed.getD k false then eput (cur all avs e listed k) ((all[k]?).bind (·.dst)) (avs k) else cur all avs e listed k

theorem eput_ne {e : Env} {d : Option Nat} {av : AV} {s : Nat} (h : d ≠ some s) : eput e d av s = e s := by
  cases d with
  | none => rfl
  | some d => simp only [eput]; rw [if_neg (fun e => h (by rw [e]))]
theorem eput_eq {e : Env} {av : AV} {s : Nat} : eput e (some s) av s = some av := by simp [eput]

theorem clash_look {oi oj : Oper} {s : Nat} (hd : oi.dst = some s) (hs : s ∈ looks all oj) : clash all oi oj = true := by
  unfold clash
  rw [hd]
  cases hj : oj.dst <;> simp [hs]
theorem clash_look' {oi oj : Oper} {s : Nat} (hd : oj.dst = some s) (hs : s ∈ looks all oi) : clash all oi oj = true := by
  unfold clash
  rw [hd]
  cases hi : oi.dst <;> simp [hs]
theorem clash_dst {oi oj : Oper} {s : Nat} (hi : oi.dst = some s) (hj : oj.dst = some s) : clash all oi oj = true := by
  unfold clash
  rw [hi, hj]
  simp

/-- The listed ones: of the head alone, and whoever is waited for is listed. -/
structure LOk (all : Array Oper) (m : Nat) (listed : Array Bool) : Prop where
  size : listed.size = all.size
  head : ∀ k, listed.getD k false = true → k < m
  closed : ∀ k i o, listed.getD k false = true → all[k]? = some o → waits o i = true → listed.getD i false = true

theorem getD_tf {listed : Array Bool} {i : Nat} (h : listed.getD i true = false) : listed.getD i false = false := by
  by_cases hi : i < listed.size
  · simp [hi] at h ⊢; exact h
  · simp [hi]

variable {avs : Nat → AV} {en : Nat → Env} {e : Env}

theorem cur_look (hB : MonoB all m) {listed : Array Bool} (L : LOk all m listed) (h0 : en 0 = e) (hs : ∀ i o, i < m → all[i]? = some o → en (i + 1) = eput (en i) o.dst (avs i)) (hm : m ≤ all.size)
    {i : Nat} {o : Oper} (ho : all[i]? = some o) (him : i < m) (hni : listed.getD i false = false) (hr : ∀ j, Anc all i j → listed.getD j false = true) {s : Nat} (hsl : s ∈ looks all o) : ∀ k, k ≤ all.size → cur all avs e listed k s = en (min k i) s := by
  intro k
  induction k with
  | zero => intro _; simp [cur, h0]
  | succ k ih =>
    intro hk
    have ihk := ih (by omega)
    have hok : all[k]? = some all[k] := by simp [show k < all.size by omega]
    simp only [cur, hok, Option.bind_some]
    rcases Nat.lt_trichotomy k i with hlt | heq | hgt
    · rw [Nat.min_eq_left (by omega)] at ihk
      rw [Nat.min_eq_left (by omega), hs k _ (by omega) hok]
      by_cases hd : (all[k]).dst = some s
      · have hl : listed.getD k false = true := hr k ((monoB_spec hB ho hok hlt).1 him (clash_look hd hsl))
        rw [if_pos hl, hd, eput_eq, eput_eq]
      · rw [eput_ne hd]
        split
        · rw [eput_ne hd]; exact ihk
        · exact ihk
    · subst heq
      rw [hni]
      simp only [Bool.false_eq_true, if_false]
      rw [Nat.min_eq_right (by omega)]
      rw [Nat.min_eq_right (by omega)] at ihk
      exact ihk
    · rw [Nat.min_eq_right (by omega)] at ihk
      rw [Nat.min_eq_right (by omega)]
      by_cases hl : listed.getD k false = true
      · by_cases hd : (all[k]).dst = some s
        · exfalso
          have hw := (monoB_spec hB hok ho hgt).1 (L.head k hl) (clash_look' hd hsl)
          have := Closed.anc L.closed hw hl
          rw [hni] at this; cases this
        · rw [if_pos hl, eput_ne hd]; exact ihk
      · rw [if_neg hl]; exact ihk

theorem getD_set {listed : Array Bool} {i k : Nat} (hi : i < listed.size) : (listed.setIfInBounds i true).getD k false = (if k = i then true else listed.getD k false) := by
  by_cases hk : k < listed.size
  · simp [hk, Array.getElem_setIfInBounds]
    by_cases h : k = i
    · simp [h]
    · have h' : ¬ i = k := fun e => h e.symm
      simp [h, h']
  · have : k ≠ i := by omega
    simp [hk, this]

theorem cur_set (hB : MonoB all m) {listed : Array Bool} (L : LOk all m listed) {i : Nat} {o : Oper} (ho : all[i]? = some o) (him : i < m) (hni : listed.getD i false = false) (s : Nat) :
    ∀ k, k ≤ all.size → cur all avs e (listed.setIfInBounds i true) k s = (if i < k then eput (cur all avs e listed k) o.dst (avs i) s else cur all avs e listed k s) := by
  have hi : i < listed.size := by rw [L.size]; exact (Array.getElem?_eq_some_iff.1 ho).1
  intro k
  induction k with
  | zero => intro _; simp [cur]
  | succ k ih =>
    intro hk
    have ihk := ih (by omega)
    have hok : all[k]? = some all[k] := by simp [show k < all.size by omega]
    simp only [cur, hok, Option.bind_some, getD_set hi]
    rcases Nat.lt_trichotomy k i with hlt | heq | hgt
    · rw [if_neg (by omega)] at ihk
      have e1 : (if k = i then true else listed.getD k false) = listed.getD k false := if_neg (by omega)
      rw [e1, if_neg (show ¬ i < k + 1 by omega)]
      by_cases hl : listed.getD k false = true
      · rw [if_pos hl, if_pos hl]
        by_cases hd : (all[k]).dst = some s
        · rw [hd, eput_eq, eput_eq]
        · rw [eput_ne hd, eput_ne hd]; exact ihk
      · rw [if_neg hl, if_neg hl]; exact ihk
    · subst heq
      rw [if_neg (by omega)] at ihk
      have e1 : (if k = k then true else listed.getD k false) = true := if_pos rfl
      rw [e1, if_pos (show k < k + 1 by omega), if_pos rfl, hni, if_neg Bool.false_ne_true]
      obtain rfl : all[k] = o := by rw [hok] at ho; exact Option.some.inj ho
      by_cases hd : (all[k]).dst = some s
      · rw [hd, eput_eq, eput_eq]
      · rw [eput_ne hd, eput_ne hd]; exact ihk
    · rw [if_pos hgt] at ihk
      have e1 : (if k = i then true else listed.getD k false) = listed.getD k false := if_neg (by omega)
      rw [e1, if_pos (show i < k + 1 by omega)]
      by_cases hl : listed.getD k false = true
      · rw [if_pos hl, if_pos hl]
        by_cases hd : (all[k]).dst = some s
        · by_cases hdi : o.dst = some s
          · exfalso
            have hw := (monoB_spec hB hok ho hgt).1 (L.head k hl) (clash_dst hdi hd)
            have := Closed.anc L.closed hw hl
            rw [hni] at this; cases this
          · rw [hd, eput_eq, eput_ne hdi, eput_eq]
        · by_cases hdi : o.dst = some s
          · rw [eput_ne hd, ihk, hdi, eput_eq, eput_eq]
          · rw [eput_ne hd, ihk, eput_ne hdi, eput_ne hdi, eput_ne hd]
      · rw [if_neg hl, if_neg hl]; exact ihk

/-- Behind the head: one operation at a time, in the text's order. -/
theorem any_tail (hB : MonoB all m) {Q : Exit → Act → World → Prop} : ∀ (fuel k : Nat) (listed : Array Bool) (a : Act) (w : World), m ≤ k → k + fuel = all.size → listed.size = all.size → (∀ i, i < k → listed.getD i false = true) → (∀ i, k ≤ i → listed.getD i false = false) →
    wpList P all Q (all.toList.drop k) a w → wpAny P .any all Q fuel listed a w := by
  intro fuel
  induction fuel with
  | zero =>
    intro k listed a w hm hk hsz h1 h2 h
    have hnil : all.toList.drop k = [] := List.drop_eq_nil_of_le (by simp; omega)
    rw [hnil] at h
    refine ⟨?_, h⟩
    refine List.eq_nil_iff_forall_not_mem.2 fun i hi => ?_
    obtain ⟨hi1, hi2⟩ := ready_not hi
    have := h1 i (by omega)
    rw [getD_tf hi2] at this
    cases this
  | succ fuel ih =>
    intro k listed a w hm hk hsz h1 h2 h
    have hks : k < all.size := by omega
    have hok : all[k]? = some all[k] := by simp [hks]
    refine ⟨fun hr => ?_, fun i hi => ?_⟩
    · have := ready_nil hB hsz hr k hks
      rw [h2 k (Nat.le_refl _)] at this
      cases this
    · obtain ⟨hi1, hi2⟩ := ready_not hi
      have hoi : all[i]? = some all[i] := by simp [hi1]
      obtain rfl : i = k := by
        rcases Nat.lt_trichotomy i k with hlt | heq | hgt
        · have := h1 i hlt; rw [getD_tf hi2] at this; cases this
        · exact heq
        · have hcl : Closed all listed := fun k' i' o hk' ho' hw' => by
            have hlt : k' < k := by
              rcases Nat.lt_or_ge k' k with h | h
              · exact h
              · rw [h2 k' h] at hk'; cases hk'
            simp only [waits, List.any_eq_true, Bool.and_eq_true] at hw'
            obtain ⟨e', he', hb', hon'⟩ := hw'
            have := monoB_edge hB ho' (by simpa using he') hb'
            obtain rfl : e'.on = i' := Nat.eq_of_beq_eq_true hon'
            exact h1 _ (by omega)
          have := hcl.ready ((monoB_spec hB hoi hok hgt).2 (by omega)) hi
          rw [h2 k (Nat.le_refl _)] at this; cases this
      have hdrop : all.toList.drop i = all[i] :: all.toList.drop (i + 1) := by
        rw [List.drop_eq_getElem_cons (by simpa using hks)]
        simp
      rw [hdrop] at h
      unfold wpList at h
      simp only [wpOp, hok]
      have next : ∀ a w, wpList P all Q (all.toList.drop (i + 1)) a w → wpAny P .any all Q fuel (listed.setIfInBounds i true) a w := fun a w hh => by
        have hil : i < listed.size := by omega
        refine ih (i + 1) (listed.setIfInBounds i true) a w (by omega) (by omega) (by simpa using hsz) (fun j hj => ?_) (fun j hj => ?_) hh
        · rw [getD_set hil]; split
          · rfl
          · exact h1 j (by omega)
        · rw [getD_set hil, if_neg (by omega)]; exact h2 j (by omega)
      split at h
      · rename_i hw
        rw [if_pos hw]
        exact h.imp (fun hh => Oper.wp_mono next hh) id
      · rename_i hw
        rw [if_neg hw]
        exact next _ _ h

theorem wanted_of {o : Oper} {e : Env} {b : Bool} {w : World} {S : Nat → Prop} {a : Act} (hw : Wanted all o e b) (r : RelE w S (looks all o) e a) : Region.wanted o (yielded all a.tmps) = b := by
  unfold Wanted at hw
  unfold Region.wanted
  cases hg : o.guard with
  | none => rw [hg] at hw; simp only at hw; rw [hw]
  | some g =>
    obtain ⟨j, want⟩ := g
    rw [hg] at hw
    simp only at hw
    obtain ⟨s, h1, ⟨c, h2, h3⟩ | ⟨h2, h3⟩⟩ := hw
    · obtain ⟨v, g1, g2⟩ := r s (by simp [looks, hg, h1]) _ h2
      cases g2
      rw [h3]
      cases c <;> cases want <;> simp [yielded, h1, g1]
    · obtain ⟨v, g1, g2⟩ := r s (by simp [looks, hg, h1]) _ h2
      cases g2
      rw [h3]
      simp [yielded, h1, g1, undef]

def EnvOk (w : World) (S : Nat → Prop) (e : Env) (a : Act) : Prop := ∀ s av, e s = some av → ∃ v, a.tmps[s]? = some v ∧ At w S av v

theorem any_head (hB : MonoB all m) (hm : m ≤ all.size) {Q : Exit → Act → World → Prop} (h0 : en 0 = e) (hs : ∀ i o, i < m → all[i]? = some o → MStep P all n hp o (en i) (avs i) ∧ en (i + 1) = eput (en i) o.dst (avs i)) {w0 : World} {S0 : Nat → Prop}
    (fin : ∀ a w S, a.tmps.size = n → a.defers = [] → HRel w S hp → Grow w0 S0 w S → EnvOk w S (en m) a → wpList P all Q (all.toList.drop m) a w) :
    ∀ (fuel : Nat) (listed : Array Bool) (a : Act) (w : World) (S : Nat → Prop), LOk all m listed → (listed.toList.count true) + fuel = all.size → a.tmps.size = n → a.defers = [] → HRel w S hp → Grow w0 S0 w S → EnvOk w S (cur all avs e listed all.size) a →
      wpAny P .any all Q fuel listed a w := by
  have hs2 : ∀ i o, i < m → all[i]? = some o → en (i + 1) = eput (en i) o.dst (avs i) := fun i o h1 h2 => (hs i o h1 h2).2
  have done : ∀ (fuel : Nat) (listed : Array Bool) (a : Act) (w : World) (S : Nat → Prop), LOk all m listed → (listed.toList.count true) + fuel = all.size → a.tmps.size = n → a.defers = [] → HRel w S hp → Grow w0 S0 w S → EnvOk w S (cur all avs e listed all.size) a →
      (∀ i, i < m → listed.getD i false = true) → wpAny P .any all Q fuel listed a w := by
    intro fuel listed a w S L hc hsz hdf hr hg hen hall
    have hno : ∀ i, m ≤ i → listed.getD i false = false := fun i hi => by
      cases hv : listed.getD i false with
      | false => rfl
      | true => have := L.head i hv; omega
    have hcount : listed.toList.count true = m := by
      have : listed.toList = List.replicate m true ++ List.replicate (all.size - m) false := by
        apply List.ext_getElem?
        intro i
        rcases Nat.lt_or_ge i m with hi | hi
        · have hil : i < listed.size := by rw [L.size]; omega
          rw [List.getElem?_append_left (by simpa using hi)]
          have := hall i hi
          simp [hil] at this
          simp [hil, hi, this]
        · rw [List.getElem?_append_right (by simpa using hi)]
          rcases Nat.lt_or_ge i listed.size with hil | hil
          · have := hno i hi
            simp [hil] at this
            have h2 : i - m < all.size - m := by rw [L.size] at hil; omega
            simp [hil, h2, this]
          · have h2 : ¬ i - m < all.size - m := by rw [L.size] at hil; omega
            simp [List.getElem?_eq_none (l := listed.toList) (by simpa using hil), h2]
      rw [this, List.count_append, List.count_replicate, List.count_replicate]
      simp
    have hcur : cur all avs e listed all.size = en m := by
      have key : ∀ k, k ≤ all.size → cur all avs e listed k = en (min k m) := by
        intro k
        induction k with
        | zero => intro _; simp [cur, h0]
        | succ k ih =>
          intro hk
          have hok : all[k]? = some all[k] := by simp [show k < all.size by omega]
          simp only [cur, hok, Option.bind_some, ih (by omega)]
          rcases Nat.lt_or_ge k m with h | h
          · rw [if_pos (hall k h), Nat.min_eq_left (by omega), Nat.min_eq_left (by omega), hs2 k _ h hok]
          · rw [if_neg (by rw [hno k h]; simp), Nat.min_eq_right (by omega), Nat.min_eq_right (by omega)]
      rw [key all.size (Nat.le_refl _), Nat.min_eq_right hm]
    rw [hcur] at hen
    exact any_tail hB fuel m listed a w (Nat.le_refl _) (by omega) L.size hall hno (fin a w S hsz hdf hr hg hen)
  intro fuel
  induction fuel with
  | zero =>
    intro listed a w S L hc hsz hdf hr hg hen
    refine done 0 listed a w S L hc hsz hdf hr hg hen (fun i hi => ?_)
    have hcnt : listed.toList.count true = listed.toList.length := by rw [Array.length_toList, L.size]; omega
    have hall := List.count_eq_length.1 hcnt
    have hil : i < listed.size := by rw [L.size]; omega
    have := hall listed[i] (by simp)
    simp [hil]; exact this.symm
  | succ fuel ih =>
    intro listed a w S L hc hsz hdf hr hg hen
    by_cases hall : ∀ i, i < m → listed.getD i false = true
    · exact done _ listed a w S L hc hsz hdf hr hg hen hall
    · refine ⟨fun hrd => (hall fun i hi => ready_nil hB L.size hrd i (by omega)).elim, fun i hi => ?_⟩
      obtain ⟨hi1, hi2⟩ := ready_not hi
      have hni := getD_tf hi2
      have hoi : all[i]? = some all[i] := by simp [hi1]
      have him : i < m := by
        rcases Nat.lt_or_ge i m with h | h
        · exact h
        · refine (hall fun j hj => ?_).elim
          have hoj : all[j]? = some all[j] := by simp [show j < all.size by omega]
          exact Closed.ready L.closed ((monoB_spec hB hoi hoj (by omega)).2 h) hi
      have hil : i < listed.size := by rw [L.size]; exact hi1
      obtain ⟨⟨hdn, hstep⟩, _⟩ := hs i _ him hoi
      have hrel : RelE w S (looks all all[i]) (en i) a := by
        intro s hsl av hav
        have hc := cur_look (avs := avs) (en := en) (e := e) hB L h0 hs2 hm hoi him hni (fun j hj => Closed.ready L.closed hj hi) hsl all.size (Nat.le_refl _)
        rw [Nat.min_eq_right (by omega)] at hc
        exact hen s av (by rw [hc]; exact hav)
      have L' : LOk all m (listed.setIfInBounds i true) := by
        refine ⟨by simpa using L.size, fun k hk => ?_, fun k j o hk hok hw => ?_⟩
        · rw [getD_set hil] at hk
          split at hk
          · omega
          · exact L.head k hk
        · rw [getD_set hil] at hk
          rw [getD_set hil]
          split
          · rfl
          · split at hk
            · rename_i hki
              subst hki
              obtain rfl : all[k] = o := by rw [hoi] at hok; exact Option.some.inj hok
              exact ready_waits hoi hi hw
            · exact L.closed k j o hk hok hw
      have hcnt : (listed.setIfInBounds i true).toList.count true + fuel = all.size := by
        have hlist : listed[i] = false := by simpa [hil] using hni
        have : (listed.setIfInBounds i true).toList = listed.toList.set i true := by simp
        rw [this, List.count_set (by simpa using hil)]
        have hl2 : listed.toList[i]'(by simpa using hil) = false := by simpa using hlist
        rw [hl2]
        have e1 : (if (false == true) = true then 1 else 0) = 0 := rfl
        have e2 : (if (true == true) = true then 1 else 0) = 1 := rfl
        rw [e1, e2]
        omega
      have upd : ∀ (v : Value) (w' : World) (S' : Nat → Prop), Grow w S w' S' → At w' S' (avs i) v → EnvOk w' S' (cur all avs e (listed.setIfInBounds i true) all.size) (a.put (all[i]).dst v) := by
        intro v w' S' hgr hat s av hav
        rw [cur_set (avs := avs) (e := e) hB L hoi him hni s all.size (Nat.le_refl _), if_pos (by omega)] at hav
        by_cases hd : (all[i]).dst = some s
        · rw [hd, eput_eq] at hav
          obtain rfl := Option.some.inj hav
          have hsn := hdn s hd
          exact ⟨v, by rw [hd]; simp [Act.put, hsz, hsn], hat⟩
        · rw [eput_ne hd] at hav
          obtain ⟨u, h1, h2⟩ := hen s av hav
          refine ⟨u, ?_, h2.mono (hgr.keep hr.slt)⟩
          cases hdd : (all[i]).dst with
          | none => simpa [Act.put] using h1
          | some d' =>
            have hne : d' ≠ s := fun e => hd (by rw [hdd, e])
            simp [Act.put, hne, h1]
      have psz : ∀ v, (a.put (all[i]).dst v).tmps.size = n := fun v => by cases (all[i]).dst <;> simp [Act.put, hsz]
      have pdf : ∀ v, (a.put (all[i]).dst v).defers = [] := fun v => by cases (all[i]).dst <;> simp [Act.put, hdf]
      simp only [wpOp, hoi]
      rcases hstep with ⟨hw, hmv⟩ | ⟨hw, hav⟩
      · rw [if_pos (wanted_of hw hrel)]
        refine .inl (hmv w S a hsz hdf hr hrel _ _ (fun v w' S' hgr hat => ?_))
        exact ih _ _ _ S' L' hcnt (psz v) (pdf v) (hr.grow hgr) (hg.trans hgr) (upd v w' S' hgr hat)
      · rw [if_neg (by rw [wanted_of hw hrel]; simp)]
        refine ih _ _ _ S L' hcnt (psz _) (pdf _) hr hg (upd _ w S (Grow.refl hr.slt) ?_)
        rw [hav]; exact .raw _
end order

end Go.Eng
