/- The engine, part 1: abstract values, the symbolic heap, and what a step may change. No program in sight. -/
import Derived.WalkKit
import Derived.Deep.Quiet
namespace Go.Eng
open Go

/-- A block that the abstract state speaks of: none: a slice without memory (nil); the capacity in elements, where it is an array. -/
structure Bk where
  blk : Option Nat
  cap : Nat

inductive AV where
  | int (k : IntKind) (n : Int)
  | bool (b : Bool)
  | str (s : List UInt8)
  | agg (cs : List AV)
  | tup (vs : List AV)
  | list (sz : Nat) (xs : List AV)
  | nil
  | ptr (b : Bk) (o : Nat)
  | sl (sz : Nat) (b : Bk) (off len : Nat)
  | rptr (cs : List AV)
  | aptr (sz : Nat) (b : Bk) (i o : Nat)
  | func (fn : Fn) (caps : List AV)
  | mref (b : Bk)
  | raw (v : Value)

def AV.cells : AV → List AV
  | .agg cs => cs
  | x => [x]

/-- A value of one cell. -/
def AV.one : AV → Bool
  | .agg _ => false
  | .tup _ => false
  | .raw v => v.oneCell'
  | _ => true

/-- An element of an array: so many cells, each of one value. -/
def El (sz : Nat) (x : AV) : Prop := x.cells.length = sz ∧ ∀ c ∈ x.cells, c.one = true

def flat (xs : List AV) : List AV := xs.flatMap AV.cells

inductive At (w : World) (S : Nat → Prop) : AV → Value → Prop
  | int (k : IntKind) (n : Int) : At w S (.int k n) (.int k n)
  | bool (b : Bool) : At w S (.bool b) (.bool b)
  | str (s : List UInt8) : At w S (.str s) (.string ⟨s.toArray⟩)
  | agg (cs : List AV) (vs : Array Value) (hl : cs.length = vs.size) (h : ∀ (i : Nat) c v, cs[i]? = some c → vs[i]? = some v → At w S c v) : At w S (.agg cs) (.agg vs)
  | tup (cs : List AV) (vs : Array Value) (hl : cs.length = vs.size) (h : ∀ (i : Nat) c v, cs[i]? = some c → vs[i]? = some v → At w S c v) : At w S (.tup cs) (.tuple vs)
  | list (sz : Nat) (xs : List AV) (a : Option Addr) (cap : Nat) (vs : List Value) (hsz : ∀ x ∈ xs, El sz x) (hl : (flat xs).length = vs.length)
      (h : ∀ (i : Nat) c v, (flat xs)[i]? = some c → vs[i]? = some v → At w S c v)
      (hm : ∀ (i : Nat) v, vs[i]? = some v → ∃ ad, a = some ad ∧ ad.spot = none ∧ S ad.block ∧ w.cell? ⟨ad.block, ad.off + i, none⟩ = some v)
      (hc : xs.length ≤ cap) : At w S (.list sz xs) (.slice a xs.length cap)
  | nil : At w S .nil (.slice none 0 0)
  | ptr (b : Bk) (o n : Nat) (hb : b.blk = some n) : At w S (.ptr b o) (.pointer (some ⟨n, o, none⟩))
  | slph (sz : Nat) (b : Bk) (hb : b.blk = none) : At w S (.sl sz b 0 0) (.slice none 0 0)
  | sl (sz : Nat) (b : Bk) (off len n cap : Nat) (hb : b.blk = some n) (h1 : len ≤ cap) (h2 : off + cap ≤ b.cap) : At w S (.sl sz b off len) (.slice (some ⟨n, off * sz, none⟩) len cap)
  | sl0 (sz : Nat) (b : Bk) (off n : Nat) (ad : Addr) (hb : b.blk = some n) : At w S (.sl sz b off 0) (.slice (some ad) 0 0)
  | rptr (cs : List AV) (ad : Addr) (vs : List Value) (hl : cs.length = vs.length) (h : ∀ (i : Nat) c v, cs[i]? = some c → vs[i]? = some v → At w S c v)
      (hs : ad.spot = none) (hS : S ad.block) (hm : ∀ (i : Nat) v, vs[i]? = some v → w.cell? ⟨ad.block, ad.off + i, none⟩ = some v) : At w S (.rptr cs) (.pointer (some ad))
  | aptr (sz : Nat) (b : Bk) (i o n : Nat) (hb : b.blk = some n) : At w S (.aptr sz b i o) (.pointer (some ⟨n, i * sz + o, none⟩))
  | func (fn : Fn) (cs : List AV) (vs : Array Value) (hl : cs.length = vs.size) (h : ∀ (i : Nat) c v, cs[i]? = some c → vs[i]? = some v → At w S c v) : At w S (.func fn cs) (.func fn #[] vs)
  | mref (b : Bk) (n : Nat) (hb : b.blk = some n) : At w S (.mref b) (.map (some n))
  | raw (v : Value) : At w S (.raw v) v

theorem cell_of_heap {w w' : World} {n o : Nat} (h : w'.heap[n]? = w.heap[n]?) : w'.cell? ⟨n, o, none⟩ = w.cell? ⟨n, o, none⟩ := by
  simp only [World.cell?, h]

theorem At.mono {w w' : World} {S S' : Nat → Prop} {av : AV} {v : Value} (hs : ∀ n, S n → S' n ∧ w'.heap[n]? = w.heap[n]?) (h : At w S av v) : At w' S' av v := by
  induction h with
  | int k n => exact .int k n
  | bool b => exact .bool b
  | str s => exact .str s
  | agg cs vs hl _ ih => exact .agg cs vs hl ih
  | tup cs vs hl _ ih => exact .tup cs vs hl ih
  | list sz xs a cap vs hsz hl _ hm hc ih =>
    refine .list sz xs a cap vs hsz hl ih (fun i v hv => ?_) hc
    obtain ⟨ad, h1, h2, h3, h4⟩ := hm i v hv
    exact ⟨ad, h1, h2, (hs _ h3).1, by rw [cell_of_heap (hs _ h3).2]; exact h4⟩
  | nil => exact .nil
  | ptr b o n hb => exact .ptr b o n hb
  | slph sz b hb => exact .slph sz b hb
  | sl sz b off len n cap hb h1 h2 => exact .sl sz b off len n cap hb h1 h2
  | sl0 sz b off n ad hb => exact .sl0 sz b off n ad hb
  | rptr cs ad vs hl _ hsp hS hm ih =>
    exact .rptr cs ad vs hl ih hsp (hs _ hS).1 (fun i v hv => by rw [cell_of_heap (hs _ hS).2]; exact hm i v hv)
  | aptr sz b i o n hb => exact .aptr sz b i o n hb
  | func fn cs vs hl _ ih => exact .func fn cs vs hl ih
  | mref b n hb => exact .mref b n hb
  | raw v => exact .raw v

inductive Ob where
  | cells (cs : List AV)
  | arr (sz : Nat) (xs : List AV)
  | fro (sz : Nat) (xs : List AV)
  | mp (es : List (AV × AV))

abbrev Heap := List (Bk × Ob)

/-- The cells 'vs' read as 'cs' (as far as both go). -/
def AtA (w : World) (S : Nat → Prop) (cs : List AV) (vs : Array Value) : Prop := ∀ (i : Nat) c v, cs[i]? = some c → vs[i]? = some v → At w S c v

theorem AtA.mono {w w' : World} {S S' : Nat → Prop} {cs : List AV} {vs : Array Value} (hs : ∀ n, S n → S' n ∧ w'.heap[n]? = w.heap[n]?) (h : AtA w S cs vs) : AtA w' S' cs vs :=
  fun i c v hc hv => (h i c v hc hv).mono hs

def Holds (w : World) (S : Nat → Prop) (b : Bk) : Ob → Prop
  | .cells cs => (∀ c ∈ cs, c.one = true) ∧ ∃ n vs E, b.blk = some n ∧ w.heap[n]? = some (.cells vs E (0, 0)) ∧ vs.size = cs.length ∧ AtA w S cs vs
  | .arr sz xs | .fro sz xs => (∀ x ∈ xs, El sz x) ∧ xs.length ≤ b.cap ∧
      ((b.blk = none ∧ b.cap = 0) ∨ ∃ n vs E, b.blk = some n ∧ w.heap[n]? = some (.cells vs E (0, 0)) ∧ vs.size = b.cap * sz ∧ AtA w S (flat xs) vs)
  | .mp es => ∃ n ents clock, b.blk = some n ∧ w.heap[n]? = some (.map ents clock) ∧ ents.size = es.length ∧ (∀ (i : Nat) e m, es[i]? = some e → ents[i]? = some m → At w S e.1 m.key ∧ At w S e.2 m.val) ∧ (∀ m ∈ ents, m.born < clock) ∧ (ents.toList.map (·.born)).Nodup

def Ob.isFro : Ob → Prop
  | .fro _ _ => True
  | _ => False

def Has (h : Heap) (n : Nat) : Prop := ∃ e ∈ h, e.1.blk = some n

structure HRel (w : World) (S : Nat → Prop) (h : Heap) : Prop where
  nodup : (h.filterMap (·.1.blk)).Nodup
  holds : ∀ e ∈ h, Holds w S e.1 e.2
  sep : ∀ e ∈ h, ∀ n, e.1.blk = some n → (S n ↔ e.2.isFro)
  slt : ∀ n, S n → n < w.heap.size

structure Evo (w : World) (S : Nat → Prop) (h : Heap) (w' : World) (S' : Nat → Prop) (h' : Heap) : Prop where
  os : w'.os = w.os
  tape : w'.tape = w.tape
  output : w'.output = w.output
  size : w.heap.size ≤ w'.heap.size
  keep : ∀ n, S n → S' n ∧ w'.heap[n]? = w.heap[n]?
  other : ∀ n, n < w.heap.size → ¬ Has h n → w'.heap[n]? = w.heap[n]? ∧ (S' n → S n)
  new : ∀ n, Has h' n → Has h n ∨ w.heap.size ≤ n
  drawn : w.drawn ≤ w'.drawn

theorem Evo.refl (w : World) (S : Nat → Prop) (h : Heap) : Evo w S h w S h :=
  ⟨rfl, rfl, rfl, Nat.le_refl _, fun _ hs => ⟨hs, rfl⟩, fun _ _ _ => ⟨rfl, id⟩, fun _ hn => .inl hn, Nat.le_refl _⟩

theorem Evo.trans {w w1 w2 : World} {S S1 S2 : Nat → Prop} {h h1 h2 : Heap} (a : Evo w S h w1 S1 h1) (b : Evo w1 S1 h1 w2 S2 h2) : Evo w S h w2 S2 h2 where
  os := b.os.trans a.os
  tape := b.tape.trans a.tape
  output := b.output.trans a.output
  size := Nat.le_trans a.size b.size
  keep n hs := ⟨(b.keep n (a.keep n hs).1).1, (b.keep n (a.keep n hs).1).2.trans (a.keep n hs).2⟩
  other n hn hh := by
    have h1' : ¬ Has h1 n := fun hc => by
      rcases a.new n hc with h | h
      · exact hh h
      · omega
    obtain ⟨e1, s1⟩ := a.other n hn hh
    obtain ⟨e2, s2⟩ := b.other n (Nat.lt_of_lt_of_le hn a.size) h1'
    exact ⟨e2.trans e1, fun hs => s1 (s2 hs)⟩
  new n hn := by
    rcases b.new n hn with h | h
    · exact a.new n h
    · exact .inr (Nat.le_trans a.size h)
  drawn := Nat.le_trans a.drawn b.drawn

/-- A heap of which less is said. -/
theorem Evo.less {w w' : World} {S S' : Nat → Prop} {h h' h2 : Heap} (a : Evo w S h w' S' h') (hl : ∀ n, Has h2 n → Has h' n) : Evo w S h w' S' h2 :=
  { a with new := fun n hn => a.new n (hl n hn) }

theorem Holds.mono {w w' : World} {S S' : Nat → Prop} {b : Bk} {o : Ob} (hs : ∀ n, S n → S' n ∧ w'.heap[n]? = w.heap[n]?) (hb : ∀ n, b.blk = some n → w'.heap[n]? = w.heap[n]?)
    (h : Holds w S b o) : Holds w' S' b o := by
  cases o with
  | cells cs =>
    obtain ⟨h0, n, vs, E, h1, h2, h3, h4⟩ := h
    exact ⟨h0, n, vs, E, h1, by rw [hb n h1]; exact h2, h3, h4.mono hs⟩
  | arr sz xs =>
    obtain ⟨h1, h2, h3⟩ := h
    refine ⟨h1, h2, h3.imp id ?_⟩
    rintro ⟨n, vs, E, g1, g2, g3, g4⟩
    exact ⟨n, vs, E, g1, by rw [hb n g1]; exact g2, g3, g4.mono hs⟩
  | fro sz xs =>
    obtain ⟨h1, h2, h3⟩ := h
    refine ⟨h1, h2, h3.imp id ?_⟩
    rintro ⟨n, vs, E, g1, g2, g3, g4⟩
    exact ⟨n, vs, E, g1, by rw [hb n g1]; exact g2, g3, g4.mono hs⟩
  | mp es =>
    obtain ⟨n, ents, clock, g1, g2, g3, g4, g5⟩ := h
    exact ⟨n, ents, clock, g1, by rw [hb n g1]; exact g2, g3, fun i e m he hm => ⟨(g4 i e m he hm).1.mono hs, (g4 i e m he hm).2.mono hs⟩, g5⟩

theorem Holds.lt {w : World} {S : Nat → Prop} {b : Bk} {o : Ob} (h : Holds w S b o) {n : Nat} (hn : b.blk = some n) : n < w.heap.size := by
  have key : ∀ vs E, w.heap[n]? = some (Obj.cells vs E (0, 0)) → n < w.heap.size := fun vs E he => by
    rcases Nat.lt_or_ge n w.heap.size with h | h
    · exact h
    · simp [Array.getElem?_eq_none h] at he
  cases o with
  | cells cs =>
    obtain ⟨_, m, vs, E, h1, h2, _⟩ := h
    obtain rfl : m = n := by rw [h1] at hn; exact Option.some.inj hn
    exact key _ _ h2
  | arr sz xs =>
    obtain ⟨_, _, ⟨h3, _⟩ | ⟨m, vs, E, h1, h2, _⟩⟩ := h
    · rw [h3] at hn; cases hn
    · obtain rfl : m = n := by rw [h1] at hn; exact Option.some.inj hn
      exact key _ _ h2
  | fro sz xs =>
    obtain ⟨_, _, ⟨h3, _⟩ | ⟨m, vs, E, h1, h2, _⟩⟩ := h
    · rw [h3] at hn; cases hn
    · obtain rfl : m = n := by rw [h1] at hn; exact Option.some.inj hn
      exact key _ _ h2
  | mp es =>
    obtain ⟨m, ents, clock, h1, h2, _⟩ := h
    obtain rfl : m = n := by rw [h1] at hn; exact Option.some.inj hn
    rcases Nat.lt_or_ge m w.heap.size with h | h
    · exact h
    · simp [Array.getElem?_eq_none h] at h2

theorem HRel.lt {w : World} {S : Nat → Prop} {h : Heap} (r : HRel w S h) {n : Nat} (hn : Has h n) : n < w.heap.size := by
  obtain ⟨e, he, hb⟩ := hn
  exact (r.holds e he).lt hb

theorem At.one_ok {w : World} {S : Nat → Prop} {c : AV} {v : Value} (h : At w S c v) (ho : c.one = true) : v.oneCell' = true := by
  cases h <;> first | rfl | (simp [AV.one] at ho; done) | exact ho

theorem flat_nil : flat [] = [] := rfl
theorem flat_cons (x : AV) (xs : List AV) : flat (x :: xs) = x.cells ++ flat xs := by simp [flat]
theorem flat_append (xs ys : List AV) : flat (xs ++ ys) = flat xs ++ flat ys := by simp [flat]

theorem flat_length {sz : Nat} : ∀ {xs : List AV}, (∀ x ∈ xs, El sz x) → (flat xs).length = xs.length * sz
  | [], _ => by simp [flat]
  | x :: xs, h => by
    rw [flat_cons, List.length_append, (h x (by simp)).1, flat_length (fun y hy => h y (by simp [hy])), List.length_cons, Nat.add_mul]
    omega

theorem flat_one {sz : Nat} {xs : List AV} (h : ∀ x ∈ xs, El sz x) : ∀ c ∈ flat xs, c.one = true := by
  intro c hc
  obtain ⟨x, hx, hcx⟩ := List.mem_flatMap.1 hc
  exact (h x hx).2 c hcx

/-- The cells of element i. -/
theorem flat_get {sz : Nat} : ∀ {xs : List AV} {i : Nat} {x : AV}, (∀ x ∈ xs, El sz x) → xs[i]? = some x → ∀ j, j < sz → (flat xs)[i * sz + j]? = x.cells[j]?
  | [], i, x, _, h, _, _ => by simp at h
  | y :: xs, 0, x, hs, h, j, hj => by
    simp at h; subst h
    rw [flat_cons, List.getElem?_append_left (by rw [(hs y (by simp)).1]; omega)]
    simp
  | y :: xs, i + 1, x, hs, h, j, hj => by
    simp at h
    rw [flat_cons, List.getElem?_append_right (by rw [(hs y (by simp)).1, Nat.add_mul]; omega), (hs y (by simp)).1]
    rw [show (i + 1) * sz + j - sz = i * sz + j from by rw [Nat.add_mul]; omega]
    exact flat_get (fun z hz => hs z (by simp [hz])) h j hj

/-- The worlds that differ from w by new blocks (and draws) alone. -/
structure Ext (w w' : World) : Prop where
  os : w'.os = w.os
  tape : w'.tape = w.tape
  output : w'.output = w.output
  size : w.heap.size ≤ w'.heap.size
  same : ∀ n, n < w.heap.size → w'.heap[n]? = w.heap[n]?
  drawn : w.drawn ≤ w'.drawn

theorem Ext.refl (w : World) : Ext w w := ⟨rfl, rfl, rfl, Nat.le_refl _, fun _ _ => rfl, Nat.le_refl _⟩
theorem Ext.trans {a b c : World} (h : Ext a b) (k : Ext b c) : Ext a c :=
  ⟨k.os.trans h.os, k.tape.trans h.tape, k.output.trans h.output, Nat.le_trans h.size k.size, fun n hn => (k.same n (Nat.lt_of_lt_of_le hn h.size)).trans (h.same n hn), Nat.le_trans h.drawn k.drawn⟩
theorem Ext.alloc (w : World) (o : Obj) : Ext w (w.alloc o) :=
  ⟨rfl, rfl, rfl, by simp, fun n hn => by show (w.heap.push o)[n]? = _; rw [Array.getElem?_push, if_neg (by omega)], Nat.le_refl _⟩
theorem Ext.draws (w : World) (k : Nat) (h : w.drawn ≤ k) : Ext w { w with drawn := k } := ⟨rfl, rfl, rfl, Nat.le_refl _, fun _ _ => rfl, h⟩

theorem HRel.ext {w w' : World} {S : Nat → Prop} {h : Heap} (r : HRel w S h) (e : Ext w w') : HRel w' S h where
  nodup := r.nodup
  holds x hx := (r.holds x hx).mono (fun n hn => ⟨hn, e.same n (r.slt n hn)⟩) (fun n hn => e.same n (r.lt ⟨x, hx, hn⟩))
  sep := r.sep
  slt n hn := Nat.lt_of_lt_of_le (r.slt n hn) e.size

theorem Evo.ext {w w' : World} {S : Nat → Prop} {h : Heap} (r : ∀ n, S n → n < w.heap.size) (e : Ext w w') : Evo w S h w' S h :=
  ⟨e.os, e.tape, e.output, e.size, fun n hn => ⟨hn, e.same n (r n hn)⟩, fun n hn _ => ⟨e.same n hn, id⟩, fun _ hn => .inl hn, e.drawn⟩

/-- THE FRAME: a part of the heap has gone over into another; the rest stands. -/
theorem HRel.frame {w w' : World} {S S' : Nat → Prop} {h h1 rest : Heap} (r : HRel w S (h ++ rest)) (e : Evo w S h w' S' h1) (r1 : HRel w' S' h1) : HRel w' S' (h1 ++ rest) := by
  have hlt : ∀ x ∈ rest, ∀ n, x.1.blk = some n → n < w.heap.size ∧ ¬ Has h n := by
    intro x hx n hn
    refine ⟨r.lt ⟨x, List.mem_append_right _ hx, hn⟩, fun ⟨y, hy, hyn⟩ => ?_⟩
    have := r.nodup
    rw [List.filterMap_append, List.nodup_append] at this
    exact this.2.2 n (List.mem_filterMap.2 ⟨y, hy, hyn⟩) n (List.mem_filterMap.2 ⟨x, hx, hn⟩) rfl
  refine ⟨?_, ?_, ?_, r1.slt⟩
  · have := r.nodup
    rw [List.filterMap_append, List.nodup_append] at this ⊢
    refine ⟨r1.nodup, this.2.1, fun n hn m hm hnm => ?_⟩
    subst hnm
    obtain ⟨y, hy, hyn⟩ := List.mem_filterMap.1 hn
    obtain ⟨x, hx, hxn⟩ := List.mem_filterMap.1 hm
    rcases e.new n ⟨y, hy, hyn⟩ with hh | hh
    · exact (hlt x hx n hxn).2 hh
    · have := (hlt x hx n hxn).1; omega
  · intro x hx
    rcases List.mem_append.1 hx with hx | hx
    · exact r1.holds x hx
    · exact (r.holds x (List.mem_append_right _ hx)).mono e.keep (fun n hn => (e.other n (hlt x hx n hn).1 (hlt x hx n hn).2).1)
  · intro x hx n hn
    rcases List.mem_append.1 hx with hx | hx
    · exact r1.sep x hx n hn
    · rw [← r.sep x (List.mem_append_right _ hx) n hn]
      exact ⟨(e.other n (hlt x hx n hn).1 (hlt x hx n hn).2).2, fun hs => (e.keep n hs).1⟩

theorem Evo.frame {w w' : World} {S S' : Nat → Prop} {h h1 : Heap} (rest : Heap) (e : Evo w S h w' S' h1) : Evo w S (h ++ rest) w' S' (h1 ++ rest) where
  os := e.os
  tape := e.tape
  output := e.output
  size := e.size
  drawn := e.drawn
  keep := e.keep
  other n hn hh := e.other n hn (fun ⟨x, hx, hb⟩ => hh ⟨x, List.mem_append_left _ hx, hb⟩)
  new n hn := by
    obtain ⟨x, hx, hb⟩ := hn
    rcases List.mem_append.1 hx with hx | hx
    · rcases e.new n ⟨x, hx, hb⟩ with ⟨y, hy, hyb⟩ | h
      · exact .inl ⟨y, List.mem_append_left _ hy, hyb⟩
      · exact .inr h
    · exact .inl ⟨x, List.mem_append_right _ hx, hb⟩

end Go.Eng
