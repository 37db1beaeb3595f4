/- The engine: abstract values, the symbolic heap, one rule for each operation. No program in sight. -/
import Derived.WalkKit
import Derived.Deep.Quiet
import Derived.Lib.FrozenHead
/- The engine, part 1: abstract values, the symbolic heap, and what a step may change. No program in sight. -/
set_option linter.unusedSectionVars false
namespace Go.Eng
open Go

/-- What stands in the program's tables. -/
class GTab where
  tab : Nat → Option (Option Obj → Prop)
  dr : Prop
theorem gkeep {a b : Option Obj} {p : Option Obj → Prop} (e : a = b) (h : p b) : p a := e ▸ h
variable [GTab]
/-- The same tables; that draws are counted on is asked. -/
@[reducible] def strongT [G : GTab] : GTab := ⟨G.tab, True⟩

/-- A block that the abstract state speaks of: none: a slice without memory (nil); the capacity in elements, where it is an array. -/
structure Bk where
  blk : Option Nat
  cap : Nat

inductive AV where
  | int (k : IntKind) (n : Int)
  | bool (b : Bool)
  | str (s : List UInt8)
  | agg (cs : List AV)
  | tup (vs : List AV)
  | list (sz : Nat) (xs : List AV)
  | nil
  | ptr (b : Bk) (o : Nat)
  | sl (sz : Nat) (b : Bk) (off len : Nat)
  | rptr (cs : List AV)
  | aptr (sz : Nat) (b : Bk) (i o : Nat)
  | func (fn : Fn) (caps : List AV)
  | mref (b : Bk)
  | raw (v : Value)
  | sem (φ : World → (Nat → Prop) → Value → Prop)

def AV.cells : AV → List AV
  | .agg cs => cs
  | x => [x]

/-- A value of one cell. -/
def AV.one : AV → Bool
  | .agg _ => false
  | .tup _ => false
  | .raw v => v.oneCell'
  | _ => true

/-- An element of an array: so many cells, each of one value. -/
def El (sz : Nat) (x : AV) : Prop := x.cells.length = sz ∧ ∀ c ∈ x.cells, c.one = true

def flat (xs : List AV) : List AV := xs.flatMap AV.cells

inductive At (w : World) (S : Nat → Prop) : AV → Value → Prop
  | int (k : IntKind) (n : Int) : At w S (.int k n) (.int k n)
  | bool (b : Bool) : At w S (.bool b) (.bool b)
  | str (s : List UInt8) : At w S (.str s) (.string ⟨s.toArray⟩)
  | agg (cs : List AV) (vs : Array Value) (hl : cs.length = vs.size) (h : ∀ (i : Nat) c v, cs[i]? = some c → vs[i]? = some v → At w S c v) : At w S (.agg cs) (.agg vs)
  | tup (cs : List AV) (vs : Array Value) (hl : cs.length = vs.size) (h : ∀ (i : Nat) c v, cs[i]? = some c → vs[i]? = some v → At w S c v) : At w S (.tup cs) (.tuple vs)
  | list (sz : Nat) (xs : List AV) (a : Option Addr) (cap : Nat) (vs : List Value) (hsz : ∀ x ∈ xs, El sz x) (hl : (flat xs).length = vs.length)
      (h : ∀ (i : Nat) c v, (flat xs)[i]? = some c → vs[i]? = some v → At w S c v)
      (hm : ∀ (i : Nat) v, vs[i]? = some v → ∃ ad, a = some ad ∧ ad.spot = none ∧ S ad.block ∧ w.cell? ⟨ad.block, ad.off + i, none⟩ = some v)
      (hc : xs.length ≤ cap) : At w S (.list sz xs) (.slice a xs.length cap)
  | nil : At w S .nil (.slice none 0 0)
  | ptr (b : Bk) (o n : Nat) (hb : b.blk = some n) : At w S (.ptr b o) (.pointer (some ⟨n, o, none⟩))
  | slph (sz : Nat) (b : Bk) (hb : b.blk = none) : At w S (.sl sz b 0 0) (.slice none 0 0)
  | sl (sz : Nat) (b : Bk) (off len n cap : Nat) (hb : b.blk = some n) (h1 : len ≤ cap) (h2 : off + cap ≤ b.cap) : At w S (.sl sz b off len) (.slice (some ⟨n, off * sz, none⟩) len cap)
  | sl0 (sz : Nat) (b : Bk) (off n : Nat) (ad : Addr) (hb : b.blk = some n) : At w S (.sl sz b off 0) (.slice (some ad) 0 0)
  | rptr (cs : List AV) (ad : Addr) (vs : List Value) (hl : cs.length = vs.length) (h : ∀ (i : Nat) c v, cs[i]? = some c → vs[i]? = some v → At w S c v)
      (hs : ad.spot = none) (hS : S ad.block) (hm : ∀ (i : Nat) v, vs[i]? = some v → w.cell? ⟨ad.block, ad.off + i, none⟩ = some v) : At w S (.rptr cs) (.pointer (some ad))
  | aptr (sz : Nat) (b : Bk) (i o n : Nat) (hb : b.blk = some n) : At w S (.aptr sz b i o) (.pointer (some ⟨n, i * sz + o, none⟩))
  | func (fn : Fn) (cs : List AV) (vs : Array Value) (hl : cs.length = vs.size) (h : ∀ (i : Nat) c v, cs[i]? = some c → vs[i]? = some v → At w S c v) : At w S (.func fn cs) (.func fn #[] vs)
  | mref (b : Bk) (n : Nat) (hb : b.blk = some n) : At w S (.mref b) (.map (some n))
  | raw (v : Value) : At w S (.raw v) v
  | sem (φ : World → (Nat → Prop) → Value → Prop) (v : Value) (hm : ∀ (w w' : World) (S S' : Nat → Prop) (v : Value), (∀ n, S n → S' n ∧ w'.heap[n]? = w.heap[n]?) → φ w S v → φ w' S' v) (h1 : ∀ (w : World) (S : Nat → Prop) (v : Value), φ w S v → v.oneCell' = true) (h : φ w S v) : At w S (.sem φ) v

theorem cell_of_heap {w w' : World} {n o : Nat} (h : w'.heap[n]? = w.heap[n]?) : w'.cell? ⟨n, o, none⟩ = w.cell? ⟨n, o, none⟩ := by
  simp only [World.cell?, h]

theorem At.mono {w w' : World} {S S' : Nat → Prop} {av : AV} {v : Value} (hs : ∀ n, S n → S' n ∧ w'.heap[n]? = w.heap[n]?) (h : At w S av v) : At w' S' av v := by
  induction h with
  | int k n => exact .int k n
  | bool b => exact .bool b
  | str s => exact .str s
  | agg cs vs hl _ ih => exact .agg cs vs hl ih
  | tup cs vs hl _ ih => exact .tup cs vs hl ih
  | list sz xs a cap vs hsz hl _ hm hc ih =>
    refine .list sz xs a cap vs hsz hl ih (fun i v hv => ?_) hc
    obtain ⟨ad, h1, h2, h3, h4⟩ := hm i v hv
    exact ⟨ad, h1, h2, (hs _ h3).1, by rw [cell_of_heap (hs _ h3).2]; exact h4⟩
  | nil => exact .nil
  | ptr b o n hb => exact .ptr b o n hb
  | slph sz b hb => exact .slph sz b hb
  | sl sz b off len n cap hb h1 h2 => exact .sl sz b off len n cap hb h1 h2
  | sl0 sz b off n ad hb => exact .sl0 sz b off n ad hb
  | rptr cs ad vs hl _ hsp hS hm ih =>
    exact .rptr cs ad vs hl ih hsp (hs _ hS).1 (fun i v hv => by rw [cell_of_heap (hs _ hS).2]; exact hm i v hv)
  | aptr sz b i o n hb => exact .aptr sz b i o n hb
  | func fn cs vs hl _ ih => exact .func fn cs vs hl ih
  | mref b n hb => exact .mref b n hb
  | raw v => exact .raw v
  | sem φ v hm h1 h => exact .sem φ v hm h1 (hm _ _ _ _ _ hs h)

/-- An entry of a map, with its stamp. -/
structure MEnt where
  k : AV
  v : AV
  born : Nat

def MEnt.kv (e : MEnt) : AV × AV := (e.k, e.v)

/-- Memory that is kept for others: a piece of a pool. -/
inductive PO where
  | cells (cs : List AV)
  | arr (sz : Nat) (xs : List AV)

inductive Ob where
  | cells (cs : List AV)
  | arr (sz : Nat) (xs : List AV)
  | fro (sz : Nat) (xs : List AV)
  | mp (es : List (AV × AV))
  | mpb (L : List MEnt) (c : Nat)
  | mps (es : List (AV × AV)) (q : Nat) (k : AV)
  | mit (bm : Bk) (c : Nat) (seen : List Nat)
  | pool (es : List (Bk × PO))
  | bld (T E : TypeId) (row : Option Nat) (bs : List UInt8)
  | sit (s : List UInt8) (pos : Nat)
  | bts (xs : List Int)

abbrev Heap := List (Bk × Ob)

def PO.ob : PO → Ob
  | .cells cs => .cells cs
  | .arr sz xs => .arr sz xs
/-- The blocks of a pool. -/
def Ob.more : Ob → List Nat
  | .pool es => es.filterMap (·.1.blk)
  | .bld _ _ row _ => row.toList
  | _ => []
/-- The blocks of an entry. -/
def eb (e : Bk × Ob) : List Nat := e.1.blk.toList ++ e.2.more
theorem eb_of {b : Bk} {o : Ob} {n : Nat} (h : b.blk = some n) : n ∈ eb (b, o) := by simp [eb, h]
theorem eb_one {b : Bk} {o : Ob} {n : Nat} (hm : o.more = []) : n ∈ eb (b, o) ↔ b.blk = some n := by simp [eb, hm]

/-- The cells 'vs' read as 'cs' (as far as both go). -/
def AtA (w : World) (S : Nat → Prop) (cs : List AV) (vs : Array Value) : Prop := ∀ (i : Nat) c v, cs[i]? = some c → vs[i]? = some v → At w S c v

theorem AtA.mono {w w' : World} {S S' : Nat → Prop} {cs : List AV} {vs : Array Value} (hs : ∀ n, S n → S' n ∧ w'.heap[n]? = w.heap[n]?) (h : AtA w S cs vs) : AtA w' S' cs vs :=
  fun i c v hc hv => (h i c v hc hv).mono hs

/-- A map's block, entry by entry. -/
def HoldsM (w : World) (S : Nat → Prop) (b : Bk) (L : List MEnt) (c : Nat) : Prop :=
  ∃ n ents, b.blk = some n ∧ w.heap[n]? = some (.map ents c) ∧ ents.size = L.length ∧ (∀ (i : Nat) e m, L[i]? = some e → ents[i]? = some m → m.born = e.born ∧ At w S e.k m.key ∧ At w S e.v m.val) ∧
    (∀ e ∈ L, e.born < c) ∧ (L.map (·.born)).Nodup ∧ (L.map (·.k)).Nodup

theorem HoldsM.mono {w w' : World} {S S' : Nat → Prop} {b : Bk} {L : List MEnt} {c : Nat} (hs : ∀ n, S n → S' n ∧ w'.heap[n]? = w.heap[n]?) (hb : ∀ n, b.blk = some n → w'.heap[n]? = w.heap[n]?) (h : HoldsM w S b L c) : HoldsM w' S' b L c := by
  obtain ⟨n, ents, g1, g2, g3, g4, g5⟩ := h
  exact ⟨n, ents, g1, by rw [hb n g1]; exact g2, g3, fun i e m he hm => ⟨(g4 i e m he hm).1, (g4 i e m he hm).2.1.mono hs, (g4 i e m he hm).2.2.mono hs⟩, g5⟩

def HoldsP (w : World) (S : Nat → Prop) (b : Bk) : PO → Prop
  | .cells cs => (∀ c ∈ cs, c.one = true) ∧ ∃ n vs E, b.blk = some n ∧ w.heap[n]? = some (.cells vs E (0, 0)) ∧ vs.size = cs.length ∧ AtA w S cs vs
  | .arr sz xs => (∀ x ∈ xs, El sz x) ∧ xs.length ≤ b.cap ∧
      ((b.blk = none ∧ b.cap = 0) ∨ ∃ n vs E, b.blk = some n ∧ w.heap[n]? = some (.cells vs E (0, 0)) ∧ vs.size = b.cap * sz ∧ AtA w S (flat xs) vs)

def Holds (w : World) (S : Nat → Prop) (b : Bk) : Ob → Prop
  | .cells cs => (∀ c ∈ cs, c.one = true) ∧ ∃ n vs E, b.blk = some n ∧ w.heap[n]? = some (.cells vs E (0, 0)) ∧ vs.size = cs.length ∧ AtA w S cs vs
  | .arr sz xs | .fro sz xs => (∀ x ∈ xs, El sz x) ∧ xs.length ≤ b.cap ∧
      ((b.blk = none ∧ b.cap = 0) ∨ ∃ n vs E, b.blk = some n ∧ w.heap[n]? = some (.cells vs E (0, 0)) ∧ vs.size = b.cap * sz ∧ AtA w S (flat xs) vs)
  | .mp es => ∃ L c, (L.map MEnt.kv).Perm es ∧ HoldsM w S b L c
  | .mpb L c => HoldsM w S b L c
  | .mps es q k => ∃ L c, (L.map MEnt.kv).Perm es ∧ HoldsM w S b L c ∧ ((∃ e ∈ L, e.k = k ∧ e.born = q) ∨ ((∀ e ∈ L, e.k ≠ k) ∧ q = c))
  | .mit bm c seen => ∃ n nm, b.blk = some n ∧ bm.blk = some nm ∧ w.heap[n]? = some (.mapIter (some nm) c seen.toArray c)
  | .pool es => b.blk = none ∧ ∀ e ∈ es, HoldsP w S e.1 e.2
  | .bld T E row bs => ∃ n p v, b.blk = some n ∧ w.heap[n]? = some (.cells #[p, v] T (0, 0)) ∧ (p = .pointer none ∨ p = .pointer (some ⟨n, 0, none⟩)) ∧ w.ownsRowF 0 E 1 v bs.length (Lib.byteCells bs) ∧ v.ownBlock = row
  | .sit s pos => ∃ n, b.blk = some n ∧ w.heap[n]? = some (.stringIter ⟨s.toArray⟩ pos)
  | .bts xs => ∃ n vs E, b.blk = some n ∧ w.heap[n]? = some (.cells vs E (vs.size, vs.size + 1)) ∧ vs.size = b.cap ∧ xs.length ≤ b.cap ∧ ∀ (i : Nat) z, xs[i]? = some z → vs[i]? = some (.int .u8 z)

theorem HoldsP.ob {w : World} {S : Nat → Prop} {b : Bk} {o : PO} : HoldsP w S b o ↔ Holds w S b o.ob := by cases o <;> exact Iff.rfl

theorem sub_flatMap {α β : Type} {f : α → List β} {l l' : List α} (h : l.Sublist l') : (l.flatMap f).Sublist (l'.flatMap f) := by
  induction h with
  | slnil => exact List.Sublist.refl _
  | cons a _ ih => rw [List.flatMap_cons]; exact ih.trans (List.sublist_append_right _ _)
  | cons_cons a _ ih => rw [List.flatMap_cons, List.flatMap_cons]; exact List.Sublist.append (List.Sublist.refl _) ih

def Ob.isFro : Ob → Prop
  | .fro _ _ => True
  | _ => False

def Has (h : Heap) (n : Nat) : Prop := ∃ e ∈ h, n ∈ eb e

structure HRel (w : World) (S : Nat → Prop) (h : Heap) : Prop where
  nodup : (h.flatMap eb).Nodup
  holds : ∀ e ∈ h, Holds w S e.1 e.2
  sep : ∀ e ∈ h, ∀ n, n ∈ eb e → (S n ↔ e.2.isFro)
  slt : ∀ n, S n → n < w.heap.size
  glob : ∀ g o, GTab.tab g = some o → S g ∧ o (w.heap[g]?)

structure Evo (w : World) (S : Nat → Prop) (h : Heap) (w' : World) (S' : Nat → Prop) (h' : Heap) : Prop where
  os : w'.os = w.os
  tape : w'.tape = w.tape
  output : w'.output = w.output
  size : w.heap.size ≤ w'.heap.size
  keep : ∀ n, S n → S' n ∧ w'.heap[n]? = w.heap[n]?
  other : ∀ n, n < w.heap.size → ¬ Has h n → w'.heap[n]? = w.heap[n]? ∧ (S' n → S n)
  new : ∀ n, Has h' n → Has h n ∨ w.heap.size ≤ n
  drawn : GTab.dr → w.drawn ≤ w'.drawn

theorem Evo.refl (w : World) (S : Nat → Prop) (h : Heap) : Evo w S h w S h :=
  ⟨rfl, rfl, rfl, Nat.le_refl _, fun _ hs => ⟨hs, rfl⟩, fun _ _ _ => ⟨rfl, id⟩, fun _ hn => .inl hn, fun _ => Nat.le_refl _⟩

theorem Evo.trans {w w1 w2 : World} {S S1 S2 : Nat → Prop} {h h1 h2 : Heap} (a : Evo w S h w1 S1 h1) (b : Evo w1 S1 h1 w2 S2 h2) : Evo w S h w2 S2 h2 where
  os := b.os.trans a.os
  tape := b.tape.trans a.tape
  output := b.output.trans a.output
  size := Nat.le_trans a.size b.size
  keep n hs := ⟨(b.keep n (a.keep n hs).1).1, (b.keep n (a.keep n hs).1).2.trans (a.keep n hs).2⟩
  other n hn hh := by
    have h1' : ¬ Has h1 n := fun hc => by
      rcases a.new n hc with h | h
      · exact hh h
      · omega
    obtain ⟨e1, s1⟩ := a.other n hn hh
    obtain ⟨e2, s2⟩ := b.other n (Nat.lt_of_lt_of_le hn a.size) h1'
    exact ⟨e2.trans e1, fun hs => s1 (s2 hs)⟩
  new n hn := by
    rcases b.new n hn with h | h
    · exact a.new n h
    · exact .inr (Nat.le_trans a.size h)
  drawn := fun h => Nat.le_trans (a.drawn h) (b.drawn h)

/-- A heap of which less is said. -/
theorem Evo.less {w w' : World} {S S' : Nat → Prop} {h h' h2 : Heap} (a : Evo w S h w' S' h') (hl : ∀ n, Has h2 n → Has h' n) : Evo w S h w' S' h2 :=
  { a with new := fun n hn => a.new n (hl n hn) }

theorem HoldsP.mono {w w' : World} {S S' : Nat → Prop} {b : Bk} {o : PO} (hs : ∀ n, S n → S' n ∧ w'.heap[n]? = w.heap[n]?) (hb : ∀ n, b.blk = some n → w'.heap[n]? = w.heap[n]?)
    (h : HoldsP w S b o) : HoldsP w' S' b o := by
  cases o with
  | cells cs =>
    obtain ⟨h0, n, vs, E, h1, h2, h3, h4⟩ := h
    exact ⟨h0, n, vs, E, h1, by rw [hb n h1]; exact h2, h3, h4.mono hs⟩
  | arr sz xs =>
    obtain ⟨h1, h2, h3⟩ := h
    refine ⟨h1, h2, h3.imp id ?_⟩
    rintro ⟨n, vs, E, g1, g2, g3, g4⟩
    exact ⟨n, vs, E, g1, by rw [hb n g1]; exact g2, g3, g4.mono hs⟩

theorem ownsRowF_keep {w w' : World} {base : Nat} {e : TypeId} {size : Nat} {v : Value} {n : Nat} {xs : List Value} (h : w.ownsRowF base e size v n xs) (hk : ∀ k, v.ownBlock = some k → w'.heap[k]? = w.heap[k]?) : w'.ownsRowF base e size v n xs := by
  refine ⟨h.1, ?_⟩
  rcases h.2 with hn | ⟨g, cap, cur, fz, rfl, hb, hgg, rest⟩
  · exact .inl hn
  · exact .inr ⟨g, cap, cur, fz, rfl, hb, by rw [hk g rfl]; exact hgg, rest⟩
theorem Holds.mono {w w' : World} {S S' : Nat → Prop} {b : Bk} {o : Ob} (hs : ∀ n, S n → S' n ∧ w'.heap[n]? = w.heap[n]?) (hb : ∀ n, n ∈ eb (b, o) → w'.heap[n]? = w.heap[n]?)
    (h : Holds w S b o) : Holds w' S' b o := by
  have hb0 : ∀ n, b.blk = some n → w'.heap[n]? = w.heap[n]? := fun n hn => hb n (eb_of hn)
  cases o with
  | cells cs =>
    obtain ⟨h0, n, vs, E, h1, h2, h3, h4⟩ := h
    exact ⟨h0, n, vs, E, h1, by rw [hb0 n h1]; exact h2, h3, h4.mono hs⟩
  | arr sz xs =>
    obtain ⟨h1, h2, h3⟩ := h
    refine ⟨h1, h2, h3.imp id ?_⟩
    rintro ⟨n, vs, E, g1, g2, g3, g4⟩
    exact ⟨n, vs, E, g1, by rw [hb0 n g1]; exact g2, g3, g4.mono hs⟩
  | fro sz xs =>
    obtain ⟨h1, h2, h3⟩ := h
    refine ⟨h1, h2, h3.imp id ?_⟩
    rintro ⟨n, vs, E, g1, g2, g3, g4⟩
    exact ⟨n, vs, E, g1, by rw [hb0 n g1]; exact g2, g3, g4.mono hs⟩
  | mp es =>
    obtain ⟨L, c, hp, h⟩ := h
    exact ⟨L, c, hp, h.mono hs hb0⟩
  | mpb L c => exact HoldsM.mono hs hb0 h
  | mps es q k =>
    obtain ⟨L, c, hp, h, hq⟩ := h
    exact ⟨L, c, hp, h.mono hs hb0, hq⟩
  | mit bm c seen =>
    obtain ⟨n, nm, g1, g2, g3⟩ := h
    exact ⟨n, nm, g1, g2, by rw [hb0 n g1]; exact g3⟩
  | sit s pos =>
    obtain ⟨n, g1, g3⟩ := h
    exact ⟨n, g1, by rw [hb0 n g1]; exact g3⟩
  | bts xs =>
    obtain ⟨n, vs, E, g1, g3, g4⟩ := h
    exact ⟨n, vs, E, g1, by rw [hb0 n g1]; exact g3, g4⟩
  | pool es =>
    obtain ⟨h1, h2⟩ := h
    exact ⟨h1, fun e he => (h2 e he).mono hs (fun n hn => hb n (by
      unfold eb Ob.more
      exact List.mem_append_right _ (List.mem_filterMap.2 ⟨e, he, hn⟩)))⟩
  | bld T E row bs =>
    obtain ⟨n, p, v, g1, g2, g3, g4, g5⟩ := h
    exact ⟨n, p, v, g1, by rw [hb0 n g1]; exact g2, g3, ownsRowF_keep g4 (fun k hk => hb k (by
      rw [g5] at hk
      unfold eb Ob.more
      exact List.mem_append_right _ (by simp [hk]))), g5⟩

theorem hp_lt {w : World} {n : Nat} {o : Obj} (h : w.heap[n]? = some o) : n < w.heap.size := by
  rcases Nat.lt_or_ge n w.heap.size with h' | h'
  · exact h'
  · simp [Array.getElem?_eq_none h'] at h

theorem HoldsP.lt {w : World} {S : Nat → Prop} {b : Bk} {o : PO} (h : HoldsP w S b o) {n : Nat} (hn : b.blk = some n) : n < w.heap.size := by
  cases o with
  | cells cs =>
    obtain ⟨_, m, vs, E, h1, h2, _⟩ := h
    obtain rfl : m = n := by rw [h1] at hn; exact Option.some.inj hn
    exact hp_lt h2
  | arr sz xs =>
    obtain ⟨_, _, ⟨h3, _⟩ | ⟨m, vs, E, h1, h2, _⟩⟩ := h
    · rw [h3] at hn; cases hn
    · obtain rfl : m = n := by rw [h1] at hn; exact Option.some.inj hn
      exact hp_lt h2

theorem Holds.lt {w : World} {S : Nat → Prop} {b : Bk} {o : Ob} (h : Holds w S b o) {n : Nat} (hnn : n ∈ eb (b, o)) : n < w.heap.size := by
  by_cases hb : b.blk = some n
  · have hn := hb
    cases o with
    | cells cs =>
      obtain ⟨_, m, vs, E, h1, h2, _⟩ := h
      obtain rfl : m = n := by rw [h1] at hn; exact Option.some.inj hn
      exact hp_lt h2
    | arr sz xs =>
      obtain ⟨_, _, ⟨h3, _⟩ | ⟨m, vs, E, h1, h2, _⟩⟩ := h
      · rw [h3] at hn; cases hn
      · obtain rfl : m = n := by rw [h1] at hn; exact Option.some.inj hn
        exact hp_lt h2
    | fro sz xs =>
      obtain ⟨_, _, ⟨h3, _⟩ | ⟨m, vs, E, h1, h2, _⟩⟩ := h
      · rw [h3] at hn; cases hn
      · obtain rfl : m = n := by rw [h1] at hn; exact Option.some.inj hn
        exact hp_lt h2
    | mp es =>
      obtain ⟨_, _, _, m, ents, h1, h2, _⟩ := h
      obtain rfl : m = n := by rw [h1] at hn; exact Option.some.inj hn
      exact hp_lt h2
    | mpb L c =>
      obtain ⟨m, ents, h1, h2, _⟩ := h
      obtain rfl : m = n := by rw [h1] at hn; exact Option.some.inj hn
      exact hp_lt h2
    | mps es q k =>
      obtain ⟨_, _, _, ⟨m, ents, h1, h2, _⟩, _⟩ := h
      obtain rfl : m = n := by rw [h1] at hn; exact Option.some.inj hn
      exact hp_lt h2
    | mit bm c seen =>
      obtain ⟨m, nm, h1, _, h2⟩ := h
      obtain rfl : m = n := by rw [h1] at hn; exact Option.some.inj hn
      exact hp_lt h2
    | sit s pos =>
      obtain ⟨m, h1, h2⟩ := h
      obtain rfl : m = n := by rw [h1] at hn; exact Option.some.inj hn
      exact hp_lt h2
    | bts xs =>
      obtain ⟨m, vs, E, h1, h2, _⟩ := h
      obtain rfl : m = n := by rw [h1] at hn; exact Option.some.inj hn
      exact hp_lt h2
    | pool es =>
      obtain ⟨h1, _⟩ := h
      rw [h1] at hn; cases hn
    | bld T E row bs =>
      obtain ⟨m, p, v, h1, h2, _⟩ := h
      obtain rfl : m = n := by rw [h1] at hn; exact Option.some.inj hn
      exact hp_lt h2
  · have hm : n ∈ o.more := by
      unfold eb at hnn
      rcases List.mem_append.1 hnn with h | h
      · exact absurd (by simpa using h) hb
      · exact h
    cases o with
    | pool es =>
      obtain ⟨e, he, hen⟩ := List.mem_filterMap.1 hm
      exact (h.2 e he).lt hen
    | bld T E row bs =>
      obtain ⟨m, p, v, h1, h2, h3, h4, h5⟩ := h
      have hr : row = some n := by simpa [Ob.more] using hm
      exact (h4.lt n (h5.trans hr)).2
    | cells => simp [Ob.more] at hm
    | arr => simp [Ob.more] at hm
    | fro => simp [Ob.more] at hm
    | mp => simp [Ob.more] at hm
    | mpb => simp [Ob.more] at hm
    | mps => simp [Ob.more] at hm
    | mit => simp [Ob.more] at hm
    | sit => simp [Ob.more] at hm
    | bts => simp [Ob.more] at hm

theorem HRel.lt {w : World} {S : Nat → Prop} {h : Heap} (r : HRel w S h) {n : Nat} (hn : Has h n) : n < w.heap.size := by
  obtain ⟨e, he, hb⟩ := hn
  exact (r.holds e he).lt hb

theorem At.one_ok {w : World} {S : Nat → Prop} {c : AV} {v : Value} (h : At w S c v) (ho : c.one = true) : v.oneCell' = true := by
  cases h <;> first | rfl | (simp [AV.one] at ho; done) | exact ho | (rename_i h1 h; exact h1 _ _ _ h)

theorem flat_cons (x : AV) (xs : List AV) : flat (x :: xs) = x.cells ++ flat xs := by simp [flat]
theorem flat_append (xs ys : List AV) : flat (xs ++ ys) = flat xs ++ flat ys := by simp [flat]

theorem flat_length {sz : Nat} : ∀ {xs : List AV}, (∀ x ∈ xs, El sz x) → (flat xs).length = xs.length * sz
  | [], _ => by simp [flat]
  | x :: xs, h => by
    rw [flat_cons, List.length_append, (h x (by simp)).1, flat_length (fun y hy => h y (by simp [hy])), List.length_cons, Nat.add_mul]
    omega

theorem flat_one {sz : Nat} {xs : List AV} (h : ∀ x ∈ xs, El sz x) : ∀ c ∈ flat xs, c.one = true := by
  intro c hc
  obtain ⟨x, hx, hcx⟩ := List.mem_flatMap.1 hc
  exact (h x hx).2 c hcx

/-- The cells of element i. -/
theorem flat_get {sz : Nat} : ∀ {xs : List AV} {i : Nat} {x : AV}, (∀ x ∈ xs, El sz x) → xs[i]? = some x → ∀ j, j < sz → (flat xs)[i * sz + j]? = x.cells[j]?
  | [], i, x, _, h, _, _ => by simp at h
  | y :: xs, 0, x, hs, h, j, hj => by
    simp at h; subst h
    rw [flat_cons, List.getElem?_append_left (by rw [(hs y (by simp)).1]; omega)]
    simp
  | y :: xs, i + 1, x, hs, h, j, hj => by
    simp at h
    rw [flat_cons, List.getElem?_append_right (by rw [(hs y (by simp)).1, Nat.add_mul]; omega), (hs y (by simp)).1]
    rw [show (i + 1) * sz + j - sz = i * sz + j from by rw [Nat.add_mul]; omega]
    exact flat_get (fun z hz => hs z (by simp [hz])) h j hj

/-- The worlds that differ from w by new blocks (and draws) alone. -/
structure Ext (w w' : World) : Prop where
  os : w'.os = w.os
  tape : w'.tape = w.tape
  output : w'.output = w.output
  size : w.heap.size ≤ w'.heap.size
  same : ∀ n, n < w.heap.size → w'.heap[n]? = w.heap[n]?
  drawn : GTab.dr → w.drawn ≤ w'.drawn

theorem Ext.refl (w : World) : Ext w w := ⟨rfl, rfl, rfl, Nat.le_refl _, fun _ _ => rfl, fun _ => Nat.le_refl _⟩
theorem Ext.trans {a b c : World} (h : Ext a b) (k : Ext b c) : Ext a c :=
  ⟨k.os.trans h.os, k.tape.trans h.tape, k.output.trans h.output, Nat.le_trans h.size k.size, fun n hn => (k.same n (Nat.lt_of_lt_of_le hn h.size)).trans (h.same n hn), fun q => Nat.le_trans (h.drawn q) (k.drawn q)⟩
theorem Ext.alloc (w : World) (o : Obj) : Ext w (w.alloc o) :=
  ⟨rfl, rfl, rfl, by simp, fun n hn => by show (w.heap.push o)[n]? = _; rw [Array.getElem?_push, if_neg (by omega)], fun _ => Nat.le_refl _⟩
theorem Ext.draws (w : World) (k : Nat) (h : w.drawn ≤ k) : Ext w { w with drawn := k } := ⟨rfl, rfl, rfl, Nat.le_refl _, fun _ _ => rfl, fun _ => h⟩

theorem HRel.ext {w w' : World} {S : Nat → Prop} {h : Heap} (r : HRel w S h) (e : Ext w w') : HRel w' S h where
  nodup := r.nodup
  holds x hx := (r.holds x hx).mono (fun n hn => ⟨hn, e.same n (r.slt n hn)⟩) (fun n hn => e.same n (r.lt ⟨x, hx, hn⟩))
  sep := r.sep
  slt n hn := Nat.lt_of_lt_of_le (r.slt n hn) e.size
  glob g o ho := ⟨(r.glob g o ho).1, gkeep (e.same g (r.slt g (r.glob g o ho).1)) (r.glob g o ho).2⟩

theorem Evo.ext {w w' : World} {S : Nat → Prop} {h : Heap} (r : ∀ n, S n → n < w.heap.size) (e : Ext w w') : Evo w S h w' S h :=
  ⟨e.os, e.tape, e.output, e.size, fun n hn => ⟨hn, e.same n (r n hn)⟩, fun n hn _ => ⟨e.same n hn, id⟩, fun _ hn => .inl hn, e.drawn⟩

/-- THE FRAME: a part of the heap has gone over into another; the rest stands. -/
theorem HRel.frame {w w' : World} {S S' : Nat → Prop} {h h1 rest : Heap} (r : HRel w S (h ++ rest)) (e : Evo w S h w' S' h1) (r1 : HRel w' S' h1) : HRel w' S' (h1 ++ rest) := by
  have hlt : ∀ x ∈ rest, ∀ n, n ∈ eb x → n < w.heap.size ∧ ¬ Has h n := by
    intro x hx n hn
    refine ⟨r.lt ⟨x, List.mem_append_right _ hx, hn⟩, fun ⟨y, hy, hyn⟩ => ?_⟩
    have := r.nodup
    rw [List.flatMap_append, List.nodup_append] at this
    exact this.2.2 n (List.mem_flatMap.2 ⟨y, hy, hyn⟩) n (List.mem_flatMap.2 ⟨x, hx, hn⟩) rfl
  refine ⟨?_, ?_, ?_, r1.slt, r1.glob⟩
  · have := r.nodup
    rw [List.flatMap_append, List.nodup_append] at this ⊢
    refine ⟨r1.nodup, this.2.1, fun n hn m hm hnm => ?_⟩
    subst hnm
    obtain ⟨y, hy, hyn⟩ := List.mem_flatMap.1 hn
    obtain ⟨x, hx, hxn⟩ := List.mem_flatMap.1 hm
    rcases e.new n ⟨y, hy, hyn⟩ with hh | hh
    · exact (hlt x hx n hxn).2 hh
    · have := (hlt x hx n hxn).1; omega
  · intro x hx
    rcases List.mem_append.1 hx with hx | hx
    · exact r1.holds x hx
    · exact (r.holds x (List.mem_append_right _ hx)).mono e.keep (fun n hn => (e.other n (hlt x hx n hn).1 (hlt x hx n hn).2).1)
  · intro x hx n hn
    rcases List.mem_append.1 hx with hx | hx
    · exact r1.sep x hx n hn
    · rw [← r.sep x (List.mem_append_right _ hx) n hn]
      exact ⟨(e.other n (hlt x hx n hn).1 (hlt x hx n hn).2).2, fun hs => (e.keep n hs).1⟩

theorem Evo.frame {w w' : World} {S S' : Nat → Prop} {h h1 : Heap} (rest : Heap) (e : Evo w S h w' S' h1) : Evo w S (h ++ rest) w' S' (h1 ++ rest) where
  os := e.os
  tape := e.tape
  output := e.output
  size := e.size
  drawn := e.drawn
  keep := e.keep
  other n hn hh := e.other n hn (fun ⟨x, hx, hb⟩ => hh ⟨x, List.mem_append_left _ hx, hb⟩)
  new n hn := by
    obtain ⟨x, hx, hb⟩ := hn
    rcases List.mem_append.1 hx with hx | hx
    · rcases e.new n ⟨x, hx, hb⟩ with ⟨y, hy, hyb⟩ | h
      · exact .inl ⟨y, List.mem_append_left _ hy, hyb⟩
      · exact .inr h
    · exact .inl ⟨x, List.mem_append_right _ hx, hb⟩

end Go.Eng

/- The engine, part 2: abstract states, the judgements over regions, code and calls. No program in sight. -/
set_option linter.unusedVariables false
set_option linter.unusedSectionVars false
namespace Go.Eng
open Go
variable [GTab]

theorem nbeq_f {a b : Nat} (h : Nat.beq a b = false) : a ≠ b := fun e => by subst e; simp at h
theorem nbeq_f' {a b : Nat} (h : a ≠ b) : Nat.beq a b = false := by
  cases hb : Nat.beq a b with
  | false => rfl
  | true => exact absurd (Nat.eq_of_beq_eq_true hb) h

def lk : List (Nat × AV) → Nat → Option AV
  | [], _ => none
  | (k, v) :: r, s => match Nat.beq k s with
    | true => some v
    | false => lk r s

structure St where
  n : Nat
  tm : List (Nat × AV)
  hp : Heap

structure StRel (w : World) (S : Nat → Prop) (σ : St) (a : Act) : Prop where
  size : a.tmps.size = σ.n
  defers : a.defers = []
  tm : ∀ s av, lk σ.tm s = some av → ∃ v, a.tmps[s]? = some v ∧ At w S av v
  hp : HRel w S σ.hp

def cst : Value → AV
  | .int k n => .int k n
  | .bool b => .bool b
  | .string s => .str s.data.toList
  | .slice none 0 0 => .nil
  | v => .raw v

theorem cst_at (w : World) (S : Nat → Prop) (v : Value) : At w S (cst v) v := by
  unfold cst
  split
  · exact .int _ _
  · exact .bool _
  · rename_i s
    have h := At.str (w := w) (S := S) s.data.toList
    simpa using h
  · exact .nil
  · exact .raw _

/-- Bytes, written out. -/
def normB : List UInt8 → Option (List UInt8)
  | [] => some []
  | x :: r => match normB r with
    | some l => some (x :: l)
    | none => none
theorem normB_eq : ∀ (l : List UInt8), normB l = some l
  | [] => rfl
  | x :: r => by simp [normB, normB_eq r]

def cstO : Value → Option AV
  | .int k n => some (.int k n)
  | .bool b => some (.bool b)
  | .string s => match normB s.data.toList with
    | some l => some (.str l)
    | none => none
  | .slice none 0 0 => some .nil
  | v => some (.raw v)

theorem cstO_eq (v : Value) : cstO v = some (cst v) := by
  unfold cstO cst
  split <;> simp [normB_eq]

def evA (tm : List (Nat × AV)) : Operand → Option AV
  | .tmp t => lk tm t
  | .const v => cstO v
  | .func f => some (.func (.func f) [])
  | .global g => some (.raw (.pointer (some ⟨g, 0, none⟩)))

theorem evA_at {w : World} {S : Nat → Prop} {σ : St} {a : Act} {x : Operand} {av : AV} (r : StRel w S σ a) (h : evA σ.tm x = some av) : At w S av (a.eval x) := by
  cases x with
  | tmp t =>
    obtain ⟨v, h1, h2⟩ := r.tm t av h
    simp [Act.eval, h1, h2]
  | const v => simp only [evA, cstO_eq, Option.some.injEq] at h; subst h; exact cst_at _ _ _
  | global g => simp only [evA, Option.some.injEq] at h; subst h; exact .raw _
  | func f => simp only [evA, Option.some.injEq] at h; subst h; exact .func _ _ _ rfl (fun i c v hc => by simp at hc)

theorem StRel.put {w : World} {S : Nat → Prop} {n : Nat} {tm : List (Nat × AV)} {hp : Heap} {a : Act} {d : Nat} {av : AV} {v : Value} (r : StRel w S ⟨n, tm, hp⟩ a) (hd : Nat.blt d n = true) (hv : At w S av v) :
    StRel w S ⟨n, (d, av) :: tm, hp⟩ (a.put (some d) v) where
  size := by simp [Act.put, r.size]
  defers := r.defers
  hp := r.hp
  tm s av' h := by
    have hdn : d < a.tmps.size := by rw [r.size]; simpa using hd
    simp only [lk] at h
    split at h
    · rename_i hb
      obtain rfl : d = s := by simpa using hb
      obtain rfl := Option.some.inj h
      exact ⟨v, by simp [Act.put, hdn], hv⟩
    · rename_i hb
      have hne : d ≠ s := nbeq_f hb
      obtain ⟨u, h1, h2⟩ := r.tm s av' h
      exact ⟨u, by simp [Act.put, hne, h1], h2⟩

/-- A world with new blocks alone. -/
theorem StRel.ext {w w' : World} {S : Nat → Prop} {σ : St} {a : Act} (r : StRel w S σ a) (e : Ext w w') : StRel w' S σ a where
  size := r.size
  defers := r.defers
  hp := r.hp.ext e
  tm s av h := let ⟨v, h1, h2⟩ := r.tm s av h; ⟨v, h1, h2.mono fun n hn => ⟨hn, e.same n (r.hp.slt n hn)⟩⟩

/-- The heap has turned, the frame has not. -/
theorem StRel.heap {w w' : World} {S S' : Nat → Prop} {n : Nat} {tm : List (Nat × AV)} {hp hp' : Heap} {a : Act} (r : StRel w S ⟨n, tm, hp⟩ a) (hs : ∀ n, S n → S' n ∧ w'.heap[n]? = w.heap[n]?) (h : HRel w' S' hp') :
    StRel w' S' ⟨n, tm, hp'⟩ a where
  size := r.size
  defers := r.defers
  hp := h
  tm s av h := let ⟨v, h1, h2⟩ := r.tm s av h; ⟨v, h1, h2.mono hs⟩

/-- What is left to do behind a region's operations: Q of some state that fits. -/
def Got (w : World) (S : Nat → Prop) (h : Heap) (Q : St → Prop) (a' : Act) (w' : World) : Prop :=
  ∃ σ' S', Q σ' ∧ StRel w' S' σ' a' ∧ Evo w S h w' S' σ'.hp

def GotE (w : World) (S : Nat → Prop) (h : Heap) (Q : Exit → St → Prop) (e : Exit) (a' : Act) (w' : World) : Prop :=
  ∃ σ' S', Q e σ' ∧ StRel w' S' σ' a' ∧ Evo w S h w' S' σ'.hp

def NormalOnly (K : Act → World → Prop) : Exit → Act → World → Prop := fun e a w => e = .normal ∧ K a w

def ARun (P : Program) (all : Array Oper) (l : List Oper) (σ : St) (Q : St → Prop) : Prop :=
  ∀ w S a, StRel w S σ a → wpList P all (NormalOnly (Got w S σ.hp Q)) l a w

theorem Oper.upon_mono {P : Program} {o : Oper} {a : Act} {K K' : Act → World → Prop} {Q Q' : Exit → Act → World → Prop} (hK : ∀ a w, K a w → K' a w) (hQ : ∀ e a w, Q e a w → Q' e a w) :
    ∀ r, o.upon P a K Q r → o.upon P a K' Q' r := by
  intro r h
  unfold Oper.upon at *
  split at h
  · exact hK _ _ h
  · exact hK _ _ h
  · exact hK _ _ h
  · refine Calls.mono h ?_
    intro e w' he
    cases e with
    | returned v => exact hK _ _ he
    | panicked c => exact hQ _ _ _ he
    | outgrown => obtain ⟨a0, w0, h0⟩ := he; exact ⟨a0, w0, hQ _ _ _ h0⟩
  · exact Rows.mono h fun v w' hv => hK _ _ hv
  · exact hQ _ _ _ h
  · exact h.elim

theorem wpList_mono {P : Program} {all : Array Oper} {Q Q' : Exit → Act → World → Prop} (hQ : ∀ e a w, Q e a w → Q' e a w) : ∀ (l : List Oper) (a : Act) (w : World), wpList P all Q l a w → wpList P all Q' l a w
  | [], _, _, h => hQ _ _ _ h
  | o :: rest, a, w, h => by
    unfold wpList at *
    split
    · rename_i hw
      rw [if_pos hw] at h
      rcases h with h | ⟨h1, a0, w0, h0⟩
      · exact .inl (Oper.upon_mono (fun a w hh => wpList_mono hQ rest a w hh) hQ _ h)
      · exact .inr ⟨h1, a0, w0, hQ _ _ _ h0⟩
    · rename_i hw
      rw [if_neg hw] at h
      exact wpList_mono hQ rest _ _ h

theorem ARun.nil {P : Program} {all : Array Oper} {σ : St} {Q : St → Prop} (h : Q σ) : ARun P all [] σ Q :=
  fun w S _ r => ⟨rfl, σ, S, h, r, Evo.refl _ _ _⟩

/-- The rest, run from a state that the first operation has come to. -/
theorem ARun.go {P : Program} {all : Array Oper} {rest : List Oper} {σ : St} {Q : St → Prop} (k : ARun P all rest σ Q) {w w' : World} {S S' : Nat → Prop} {h : Heap} {a' : Act}
    (r : StRel w' S' σ a') (e : Evo w S h w' S' σ.hp) : wpList P all (NormalOnly (Got w S h Q)) rest a' w' :=
  wpList_mono (fun _ _ _ ⟨h1, σ', S'', h2, h3, h4⟩ => ⟨h1, σ', S'', h2, h3, e.trans h4⟩) _ _ _ (k w' S' a' r)

/-- One operation that yields a value. -/
theorem ARun.opx {P : Program} {all : Array Oper} {o : Oper} {rest : List Oper} {σ : St} {Q : St → Prop} (hg : o.guard = none)
    (h : ∀ w S a, StRel w S σ a → ∃ v w' S' σ', (execOp a.eval o).run P w = .ok (.value v) w' ∧ StRel w' S' σ' (a.put o.dst v) ∧ Evo w S σ.hp w' S' σ'.hp ∧ ARun P all rest σ' Q) :
    ARun P all (o :: rest) σ Q := by
  intro w S a r
  obtain ⟨v, w', S', σ', h1, h2, h3, k⟩ := h w S a r
  unfold wpList
  rw [if_pos (by simp [Region.wanted, hg])]
  refine .inl ?_
  show o.upon P a _ _ _
  rw [h1]
  exact k.go h2 h3

theorem ARun.op {P : Program} {all : Array Oper} {o : Oper} {rest : List Oper} {σ σ' : St} {Q : St → Prop} (hg : o.guard = none)
    (h : ∀ w S a, StRel w S σ a → ∃ v w' S', (execOp a.eval o).run P w = .ok (.value v) w' ∧ StRel w' S' σ' (a.put o.dst v) ∧ Evo w S σ.hp w' S' σ'.hp)
    (k : ARun P all rest σ' Q) : ARun P all (o :: rest) σ Q :=
  ARun.opx hg fun w S a r => let ⟨v, w', S', h1, h2, h3⟩ := h w S a r; ⟨v, w', S', σ', h1, h2, h3, k⟩

/-- One operation that calls a function. -/
theorem ARun.callx {P : Program} {all : Array Oper} {o : Oper} {rest : List Oper} {σ : St} {Q : St → Prop} (hg : o.guard = none)
    (h : ∀ w S a, StRel w S σ a → ∃ f args, (execOp a.eval o).run P w = .ok (.enter f args) w ∧
      Calls P f args w fun e w' => ∃ v S' σ', e = .returned v ∧ StRel w' S' σ' (a.put o.dst v) ∧ Evo w S σ.hp w' S' σ'.hp ∧ ARun P all rest σ' Q) :
    ARun P all (o :: rest) σ Q := by
  intro w S a r
  obtain ⟨f, args, h1, h2⟩ := h w S a r
  unfold wpList
  rw [if_pos (by simp [Region.wanted, hg])]
  refine .inl ?_
  show o.upon P a _ _ _
  rw [h1]
  refine Calls.mono h2 ?_
  rintro e w' ⟨v, S', σ', rfl, g1, g2, k⟩
  exact k.go g1 g2

/-- One operation that yields no value (a store). -/
theorem ARun.act {P : Program} {all : Array Oper} {o : Oper} {rest : List Oper} {σ σ' : St} {Q : St → Prop} (hg : o.guard = none) (hd : o.dst = none)
    (h : ∀ w S a, StRel w S σ a → ∃ w' S', (execOp a.eval o).run P w = .ok .skip w' ∧ StRel w' S' σ' a ∧ Evo w S σ.hp w' S' σ'.hp)
    (k : ARun P all rest σ' Q) : ARun P all (o :: rest) σ Q := by
  intro w S a r
  obtain ⟨w', S', h1, h2, h3⟩ := h w S a r
  unfold wpList
  rw [if_pos (by simp [Region.wanted, hg])]
  refine .inl ?_
  show o.upon P a _ _ _
  rw [h1]
  show wpList P all _ rest (a.put o.dst undef) w'
  rw [hd]
  exact k.go h2 h3

/-- An operation that leaves the world alone and yields a value. -/
theorem ARun.val {P : Program} {all : Array Oper} {o : Oper} {rest : List Oper} {n : Nat} {tm : List (Nat × AV)} {hp : Heap} {Q : St → Prop} {d : Nat} {av : AV} (hg : o.guard = none) (hd : o.dst = some d) (hn : Nat.blt d n = true)
    (h : ∀ w S a, StRel w S ⟨n, tm, hp⟩ a → ∃ v, (execOp a.eval o).run P w = .ok (.value v) w ∧ At w S av v)
    (k : ARun P all rest ⟨n, (d, av) :: tm, hp⟩ Q) : ARun P all (o :: rest) ⟨n, tm, hp⟩ Q := by
  refine ARun.op hg (σ' := ⟨n, (d, av) :: tm, hp⟩) ?_ k
  intro w S a r
  obtain ⟨v, h1, h2⟩ := h w S a r
  exact ⟨v, w, S, h1, by rw [hd]; exact r.put hn h2, Evo.refl _ _ _⟩

/-- An operation that leaves the world alone and yields a value: the same one where new blocks lie behind. -/
def QV (P : Program) (o : Oper) (σ : St) (av : AV) : Prop :=
  ∀ w S a, StRel w S σ a → ∃ v, (∀ w', Ext w w' → (execOp a.eval o).run P w' = .ok (.value v) w') ∧ At w S av v

theorem ARun.qv {P : Program} {all : Array Oper} {rest : List Oper} {n : Nat} {tm : List (Nat × AV)} {hp : Heap} {Q : St → Prop} {d : Nat} {av : AV} {op : Op} {ty : TypeId} {pos : String} {af : Array Edge}
    (q : QV P ⟨some d, op, ty, pos, af, none⟩ ⟨n, tm, hp⟩ av) (hn : Nat.blt d n = true) (k : ARun P all rest ⟨n, (d, av) :: tm, hp⟩ Q) : ARun P all (⟨some d, op, ty, pos, af, none⟩ :: rest) ⟨n, tm, hp⟩ Q :=
  ARun.val rfl rfl hn (fun w S a r => let ⟨v, h1, h2⟩ := q w S a r; ⟨v, h1 w (Ext.refl w), h2⟩) k

/-- A state of which less is said. -/
structure Less (σ σ' : St) : Prop where
  n : σ'.n = σ.n
  tm : ∀ s av, lk σ'.tm s = some av → lk σ.tm s = some av
  hp : σ'.hp.Sublist σ.hp

theorem HRel.sub {w : World} {S : Nat → Prop} {h h' : Heap} (r : HRel w S h) (hs : h'.Sublist h) : HRel w S h' where
  nodup := r.nodup.sublist (sub_flatMap hs)
  holds e he := r.holds e (hs.subset he)
  sep e he := r.sep e (hs.subset he)
  slt := r.slt
  glob := r.glob

theorem StRel.less {w : World} {S : Nat → Prop} {σ σ' : St} {a : Act} (r : StRel w S σ a) (h : Less σ σ') : StRel w S σ' a where
  size := r.size.trans h.n.symm
  defers := r.defers
  tm s av hh := r.tm s av (h.tm s av hh)
  hp := r.hp.sub h.hp

theorem Has.sub {h h' : Heap} (hs : h'.Sublist h) {n : Nat} (hh : Has h' n) : Has h n := let ⟨e, he, hb⟩ := hh; ⟨e, hs.subset he, hb⟩

theorem ARun.weaken {P : Program} {all : Array Oper} {l : List Oper} {σ σ' : St} {Q : St → Prop} (h : Less σ σ') (k : ARun P all l σ' Q) : ARun P all l σ Q :=
  fun w S _ r => k.go (r.less h) (Evo.less (Evo.refl w S σ.hp) fun _ hn => hn.sub h.hp)

/-! ### guards -/
theorem ARun.guard_no {P : Program} {all : Array Oper} {d : Nat} {op : Op} {ty : TypeId} {pos : String} {af : Array Edge} {j : Nat} {want b : Bool} {s : Nat} {rest : List Oper} {n : Nat} {tm : List (Nat × AV)} {hp : Heap} {Q : St → Prop}
    (hj : (all[j]?).bind (·.dst) = some s) (hs : lk tm s = some (.bool b)) (hb : b = !want) (hn : Nat.blt d n = true)
    (k : ARun P all rest ⟨n, (d, .raw undef) :: tm, hp⟩ Q) : ARun P all (⟨some d, op, ty, pos, af, some (j, want)⟩ :: rest) ⟨n, tm, hp⟩ Q := by
  intro w S a r
  obtain ⟨v, h1, h2⟩ := r.tm s _ hs
  cases h2
  unfold wpList
  rw [if_neg (by simp [Region.wanted, yielded, hj, h1, hb])]
  exact k.go (r.put hn (.raw undef)) (Evo.refl _ _ _)

/-- The operation that a guard asks about was itself passed over. -/
theorem ARun.guard_und {P : Program} {all : Array Oper} {d : Nat} {op : Op} {ty : TypeId} {pos : String} {af : Array Edge} {j : Nat} {want : Bool} {s : Nat} {rest : List Oper} {n : Nat} {tm : List (Nat × AV)} {hp : Heap} {Q : St → Prop}
    (hj : (all[j]?).bind (·.dst) = some s) (hs : lk tm s = some (.raw undef)) (hn : Nat.blt d n = true)
    (k : ARun P all rest ⟨n, (d, .raw undef) :: tm, hp⟩ Q) : ARun P all (⟨some d, op, ty, pos, af, some (j, want)⟩ :: rest) ⟨n, tm, hp⟩ Q := by
  intro w S a r
  obtain ⟨v, h1, h2⟩ := r.tm s _ hs
  cases h2
  unfold wpList
  rw [if_neg (by simp [Region.wanted, yielded, hj, h1, undef])]
  exact k.go (r.put hn (.raw undef)) (Evo.refl _ _ _)

theorem ARun.guard_yes {P : Program} {all : Array Oper} {d : Option Nat} {op : Op} {ty : TypeId} {pos : String} {af : Array Edge} {j : Nat} {want b : Bool} {s : Nat} {rest : List Oper} {σ : St} {Q : St → Prop}
    (hj : (all[j]?).bind (·.dst) = some s) (hs : lk σ.tm s = some (.bool b)) (hb : b = want)
    (k : ARun P all (⟨d, op, ty, pos, af, none⟩ :: rest) σ Q) : ARun P all (⟨d, op, ty, pos, af, some (j, want)⟩ :: rest) σ Q := by
  intro w S a r
  obtain ⟨v, h1, h2⟩ := r.tm s _ hs
  cases h2
  have := k w S a r
  unfold wpList at this ⊢
  rw [if_pos (by simp [Region.wanted])] at this
  rw [if_pos (by simp [Region.wanted, yielded, hj, h1, hb])]
  exact this

/-! ### code -/
def AWp (P : Program) (c : Code) (σ : St) (Q : Exit → St → Prop) : Prop :=
  ∀ w S a, StRel w S σ a → c.wp P (GotE w S σ.hp Q) a w

theorem AWp.go {P : Program} {c : Code} {σ : St} {Q : Exit → St → Prop} (k : AWp P c σ Q) {w w' : World} {S S' : Nat → Prop} {h : Heap} {a' : Act}
    (r : StRel w' S' σ a') (e : Evo w S h w' S' σ.hp) : c.wp P (GotE w S h Q) a' w' :=
  wp_mono (k w' S' a' r) (fun _ _ _ ⟨σ', S'', h2, h3, h4⟩ => ⟨σ', S'', h2, h3, e.trans h4⟩)

inductive It where
  | code (c : Code)
  | blk (id : Nat)
  | stop (I : St → Prop)

/-- What is asked of a state that leaves by an exit, where this list is still to be done. -/
def TD (P : Program) (R : St → Prop) : List It → Exit → St → Prop
  | [], .normal, σ | [], .ret, σ => R σ
  | [], _, _ => False
  | .blk id :: k, .exit id', σ => match Nat.beq id' id with
    | true => TD P R k .normal σ
    | false => TD P R k (.exit id') σ
  | .blk _ :: k, e, σ => TD P R k e σ
  | .stop I :: _, .normal, σ => I σ
  | .stop _ :: k, e, σ => TD P R k e σ
  | .code c :: k, .normal, σ => AWp P c σ (fun e σ' => TD P R k e σ')
  | .code _ :: k, e, σ => TD P R k e σ

def ATodo (P : Program) (R : St → Prop) (k : List It) (σ : St) : Prop := TD P R k .normal σ

section
variable {P : Program} {R : St → Prop} {k : List It} {σ : St}

theorem ATodo.nil (h : R σ) : ATodo P R [] σ := h
theorem ATodo.blk {id : Nat} (h : ATodo P R k σ) : ATodo P R (.blk id :: k) σ := h
theorem ATodo.stop {I : St → Prop} (h : I σ) : ATodo P R (.stop I :: k) σ := h

theorem TD.ret : ∀ (k : List It), R σ → TD P R k .ret σ
  | [], h => h
  | .blk _ :: k, h => TD.ret k h
  | .stop _ :: k, h => TD.ret k h
  | .code _ :: k, h => TD.ret k h

theorem ATodo.ret (h : R σ) : ATodo P R (.code .ret :: k) σ :=
  fun w S _ r => wp_ret ⟨σ, S, TD.ret k h, r, Evo.refl _ _ _⟩

theorem ATodo.skip (h : ATodo P R k σ) : ATodo P R (.code .skip :: k) σ :=
  fun w S _ r => wp_skip ⟨σ, S, h, r, Evo.refl _ _ _⟩

def popTo (id : Nat) : List It → Option (List It)
  | [] => none
  | .blk id' :: k => match Nat.beq id id' with
    | true => some k
    | false => popTo id k
  | _ :: k => popTo id k

theorem TD.exit {id : Nat} : ∀ (k k' : List It), popTo id k = some k' → ATodo P R k' σ → TD P R k (.exit id) σ
  | [], _, h, _ => by simp [popTo] at h
  | .blk id' :: k, k', h, h' => by
    simp only [popTo] at h
    unfold TD
    split at h
    · obtain rfl := Option.some.inj h; exact h'
    · exact TD.exit k k' h h'
  | .stop _ :: k, k', h, h' => TD.exit k k' h h'
  | .code _ :: k, k', h, h' => TD.exit k k' h h'

theorem ATodo.exit {id : Nat} {k' : List It} (hp : popTo id k = some k') (h : ATodo P R k' σ) : ATodo P R (.code (.exit id) :: k) σ :=
  fun w S _ r => wp_exit ⟨σ, S, TD.exit k k' hp h, r, Evo.refl _ _ _⟩

theorem ATodo.seq {x y : Code} (h : ATodo P R (.code x :: .code y :: k) σ) : ATodo P R (.code (.seq x y) :: k) σ := by
  intro w S a r
  refine wp_seq (wp_mono (h w S a r) ?_)
  rintro e a' w' ⟨σ', S', h1, h2, h3⟩
  cases e with
  | normal => exact AWp.go (Q := fun e σ' => TD P R k e σ') h1 h2 h3
  | exit id => exact ⟨σ', S', h1, h2, h3⟩
  | goto l => exact ⟨σ', S', h1, h2, h3⟩
  | ret => exact ⟨σ', S', h1, h2, h3⟩
  | panic c => exact ⟨σ', S', h1, h2, h3⟩
  | outgrown => exact ⟨σ', S', h1, h2, h3⟩

theorem ATodo.block {id : Nat} {c : Code} (h : ATodo P R (.code c :: .blk id :: k) σ) : ATodo P R (.code (.block id c) :: k) σ := by
  intro w S a r
  refine wp_block (wp_mono (h w S a r) ?_)
  rintro e a' w' ⟨σ', S', h1, h2, h3⟩
  cases e with
  | normal => exact ⟨σ', S', h1, h2, h3⟩
  | exit id' =>
    simp only [TD] at h1
    by_cases hb : id' = id
    · subst hb
      simp only [Nat.beq_refl] at h1
      simp only [Exit.inBlock, if_true]
      exact ⟨σ', S', h1, h2, h3⟩
    · have : Nat.beq id' id = false := nbeq_f' hb
      rw [this] at h1
      simp only [Exit.inBlock, hb, if_false]
      exact ⟨σ', S', h1, h2, h3⟩
  | goto l => exact ⟨σ', S', h1, h2, h3⟩
  | ret => exact ⟨σ', S', h1, h2, h3⟩
  | panic c => exact ⟨σ', S', h1, h2, h3⟩
  | outgrown => exact ⟨σ', S', h1, h2, h3⟩

theorem ATodo.cond {c : Operand} {x y : Code} {b : Bool} (hc : evA σ.tm c = some (.bool b)) (h1 : b = true → ATodo P R (.code x :: k) σ) (h2 : b = false → ATodo P R (.code y :: k) σ) :
    ATodo P R (.code (.cond c x y) :: k) σ := by
  intro w S a r
  have hv := evA_at r hc
  generalize hgv : a.eval c = v at hv
  cases hv
  exact wp_cond_split hgv (fun hb => h1 hb w S a r) (fun hb => h2 hb w S a r)

theorem ATodo.cond_t {c : Operand} {x y : Code} (hc : evA σ.tm c = some (.bool true)) (h1 : ATodo P R (.code x :: k) σ) : ATodo P R (.code (.cond c x y) :: k) σ :=
  ATodo.cond hc (fun _ => h1) (fun h => by cases h)
theorem ATodo.cond_f {c : Operand} {x y : Code} (hc : evA σ.tm c = some (.bool false)) (h1 : ATodo P R (.code y :: k) σ) : ATodo P R (.code (.cond c x y) :: k) σ :=
  ATodo.cond hc (fun h => by cases h) (fun _ => h1)

theorem ATodo.region {id : Nat} {l : List Oper} (h : ARun P l.toArray l σ (ATodo P R k)) : ATodo P R (.code (.region id l.toArray false) :: k) σ := by
  intro w S a r
  refine wp_region_lit (wpList_mono ?_ _ _ _ (h w S a r))
  rintro e a' w' ⟨rfl, σ', S', h1, h2, h3⟩
  exact ⟨σ', S', h1, h2, h3⟩

theorem ATodo.go {w w' : World} {S S' : Nat → Prop} {h : Heap} {a' : Act} {c : Code} (kk : ATodo P R (.code c :: k) σ) (r : StRel w' S' σ a') (e : Evo w S h w' S' σ.hp) :
    c.wp P (GotE w S h (TD P R k)) a' w' := AWp.go (Q := fun e σ' => TD P R k e σ') kk r e

theorem ATodo.weaken {c : Code} {σ' : St} (h : Less σ σ') (kk : ATodo P R (.code c :: k) σ') : ATodo P R (.code c :: k) σ :=
  fun w S _ r => ATodo.go kk (r.less h) (Evo.less (Evo.refl w S σ.hp) fun _ hn => hn.sub h.hp)

theorem least (p : Nat → Prop) (n : Nat) (h : p n) : ∃ m, p m ∧ ∀ i, p i → m ≤ i := by
  induction n using Nat.strongRecOn with
  | _ n ih =>
    by_cases hx : ∃ i, i < n ∧ p i
    · obtain ⟨i, hi, hp⟩ := hx; exact ih i hi hp
    · exact ⟨n, h, fun i hi => Nat.le_of_not_lt fun hlt => hx ⟨i, hlt, hi⟩⟩

open Classical in
noncomputable def theLeast (p : Nat → Prop) : Nat := if h : ∃ n, p n then Classical.choose (least p h.choose h.choose_spec) else 0

theorem theLeast_spec {p : Nat → Prop} {n : Nat} (h : p n) : p (theLeast p) ∧ theLeast p ≤ n := by
  have hx : ∃ n, p n := ⟨n, h⟩
  unfold theLeast
  rw [dif_pos hx]
  have := Classical.choose_spec (least p hx.choose hx.choose_spec)
  exact ⟨this.1, this.2 n h⟩

theorem ATodo.loop {body : Code} (I : Nat → St → Prop) (m : Nat) (h0 : I m σ) (hs : ∀ m σ, I m σ → ATodo P R (.code body :: .stop (fun σ' => ∃ m', m' < m ∧ I m' σ') :: k) σ) :
    ATodo P R (.code (.loop body) :: k) σ := by
  intro w S a r
  let p : Act → World → Nat → Prop := fun a' w' m => ∃ σ' S', I m σ' ∧ StRel w' S' σ' a' ∧ Evo w S σ.hp w' S' σ'.hp
  refine wp_loop (fun a' w' => ∃ m, p a' w' m) (fun a' w' => theLeast (p a' w')) ⟨m, σ, S, h0, r, Evo.refl _ _ _⟩ ?_
  rintro a1 w1 ⟨m1, hm1⟩
  obtain ⟨⟨σ1, S1, hI, hr1, he1⟩, _⟩ := theLeast_spec hm1
  refine wp_mono (ATodo.go (hs _ σ1 hI) hr1 he1) ?_
  rintro e a2 w2 ⟨σ2, S2, h2, hr2, he2⟩
  cases e with
  | normal =>
    obtain ⟨m2, hlt, hI2⟩ := h2
    have hp2 : p a2 w2 m2 := ⟨σ2, S2, hI2, hr2, he2⟩
    exact ⟨⟨m2, hp2⟩, Nat.lt_of_le_of_lt (theLeast_spec hp2).2 hlt⟩
  | exit id => exact ⟨σ2, S2, h2, hr2, he2⟩
  | goto l => exact ⟨σ2, S2, h2, hr2, he2⟩
  | ret => exact ⟨σ2, S2, h2, hr2, he2⟩
  | panic c => exact ⟨σ2, S2, h2, hr2, he2⟩
  | outgrown => exact ⟨σ2, S2, h2, hr2, he2⟩
end

/-! ### calls -/
def ACall (P : Program) (f : FuncId) (args : List AV) (h : Heap) (Q : AV → Heap → Prop) : Prop :=
  ∀ w S (vs : Array Value), HRel w S h → args.length = vs.size → AtA w S args vs →
    Calls P f vs w fun e w' => ∃ v r h' S', e = .returned v ∧ Q r h' ∧ At w' S' r v ∧ HRel w' S' h' ∧ Evo w S h w' S' h'

theorem ACall.mono {P : Program} {f : FuncId} {args : List AV} {h : Heap} {Q Q' : AV → Heap → Prop} (c : ACall P f args h Q) (hq : ∀ r h', Q r h' → Q' r h') : ACall P f args h Q' :=
  fun w S vs r hl ha => (c w S vs r hl ha).mono fun _ _ ⟨v, r, h', S', h1, h2, h3⟩ => ⟨v, r, h', S', h1, hq _ _ h2, h3⟩

/-- THE FRAME: beside the call lies a heap that it knows nothing of. -/
theorem ACall.frame {P : Program} {f : FuncId} {args : List AV} {h : Heap} {Q : AV → Heap → Prop} (c : ACall P f args h Q) (rest : Heap) :
    ACall P f args (h ++ rest) (fun r h' => ∃ h1, h' = h1 ++ rest ∧ Q r h1) := by
  intro w S vs r hl ha
  refine (c w S vs (r.sub (List.sublist_append_left _ _)) hl ha).mono ?_
  rintro e w' ⟨v, rr, h', S', h1, h2, h3, h4, h5⟩
  exact ⟨v, rr, h' ++ rest, S', h1, ⟨h', rfl, h2⟩, h3, r.frame h5 h4, h5.frame rest⟩

/-- Its heap in another order. -/
theorem HRel.perm {w : World} {S : Nat → Prop} {h h' : Heap} (r : HRel w S h) (hp : h.Perm h') : HRel w S h' where
  nodup := (List.Perm.flatMap_right _ hp).nodup_iff.1 r.nodup
  holds e he := r.holds e (hp.mem_iff.2 he)
  sep e he := r.sep e (hp.mem_iff.2 he)
  slt := r.slt
  glob := r.glob

def tm0 : List AV → Nat → List (Nat × AV)
  | [], _ => []
  | x :: r, i => (i, x) :: tm0 r (i + 1)

theorem lk_tm0 : ∀ (l : List AV) (i s : Nat) (av : AV), lk (tm0 l i) s = some av → i ≤ s ∧ l[s - i]? = some av
  | [], _, _, _, h => by simp [tm0, lk] at h
  | x :: r, i, s, av, h => by
    simp only [tm0, lk] at h
    split at h
    · rename_i hb
      obtain rfl : i = s := by simpa using hb
      simpa using h
    · rename_i hb
      have hne : i ≠ s := nbeq_f hb
      obtain ⟨h1, h2⟩ := lk_tm0 r (i + 1) s av h
      refine ⟨by omega, ?_⟩
      rw [show s - i = (s - (i + 1)) + 1 from by omega]
      simpa using h2

/-- What a function hands back: read off its state. -/
inductive Res (P : Program) (fn : Func) (σ : St) : AV → Prop
  | tmp (t : Nat) (av : AV) (h : fn.results = #[.tmp t]) (ht : lk σ.tm t = some av) : Res P fn σ av
  | none (h : fn.results = #[]) : Res P fn σ (.tup [])
  | tmp2 (t u : Nat) (av au : AV) (h : fn.results = #[.tmp t, .tmp u]) (ht : lk σ.tm t = some av) (hu : lk σ.tm u = some au) : Res P fn σ (.tup [av, au])
  | tmp3 (t u s : Nat) (av au as : AV) (h : fn.results = #[.tmp t, .tmp u, .tmp s]) (ht : lk σ.tm t = some av) (hu : lk σ.tm u = some au) (hs : lk σ.tm s = some as) : Res P fn σ (.tup [av, au, as])

theorem AtA_two {w : World} {S : Nat → Prop} {x y : AV} {u v : Value} (hx : At w S x u) (hy : At w S y v) : AtA w S [x, y] #[u, v] := by
  intro i c d hc hd
  match i with
  | 0 => simp at hc hd; subst hc; subst hd; exact hx
  | 1 => simp at hc hd; subst hc; subst hd; exact hy
  | i + 2 => simp at hc

theorem AtA_three {w : World} {S : Nat → Prop} {x y z : AV} {u v t : Value} (hx : At w S x u) (hy : At w S y v) (hz : At w S z t) : AtA w S [x, y, z] #[u, v, t] := by
  intro i c d hc hd
  match i with
  | 0 => simp at hc hd; subst hc; subst hd; exact hx
  | 1 => simp at hc hd; subst hc; subst hd; exact hy
  | 2 => simp at hc hd; subst hc; subst hd; exact hz
  | i + 3 => simp at hc

theorem Res.run {P : Program} {fn : Func} {σ : St} {av : AV} (h : Res P fn σ av) {w : World} {S : Nat → Prop} {a : Act} (r : StRel w S σ a) : ∃ v, (results fn a.tmps).run P w = .ok v w ∧ At w S av v := by
  cases h with
  | tmp t av h ht =>
    obtain ⟨v, h1, h2⟩ := r.tm t _ ht
    exact ⟨v, by rw [results_tmp h]; simp [h1], h2⟩
  | none h => exact ⟨_, results_none h _ _ _, .tup _ _ rfl (fun i c v hc => by simp at hc)⟩
  | tmp2 t u av au h ht hu =>
    obtain ⟨v, h1, h2⟩ := r.tm t _ ht
    obtain ⟨v', h1', h2'⟩ := r.tm u _ hu
    exact ⟨.tuple #[v, v'], by rw [results_tmp2 h]; simp [h1, h1'], .tup _ _ rfl (AtA_two h2 h2')⟩
  | tmp3 t u s av au as h ht hu hs =>
    obtain ⟨v, h1, h2⟩ := r.tm t _ ht
    obtain ⟨v', h1', h2'⟩ := r.tm u _ hu
    obtain ⟨v'', h1'', h2''⟩ := r.tm s _ hs
    exact ⟨.tuple #[v, v', v''], by simp [results, h, h1, h1', h1''], .tup _ _ rfl (AtA_three h2 h2' h2'')⟩

end Go.Eng

/- The engine, part 3: one rule for each operation that leaves memory alone. No program in sight. -/
set_option linter.unusedVariables false
set_option linter.unusedSectionVars false
namespace Go.Eng
open Go
variable [GTab]

class TInfo (P : Program) (t : TypeId) (i : outParam TypeInfo) : Prop where
  h : P.info? t = some i
class TUnder (P : Program) (t : TypeId) (d : outParam TypeDesc) : Prop where
  h : P.underlying t = some d

section inv
variable {w : World} {S : Nat → Prop} {v : Value}
theorem At.int_inv {k : IntKind} {n : Int} (h : At w S (.int k n) v) : v = .int k n := by cases h; rfl
theorem At.bool_inv {b : Bool} (h : At w S (.bool b) v) : v = .bool b := by cases h; rfl
theorem At.str_inv {s : List UInt8} (h : At w S (.str s) v) : v = .string ⟨s.toArray⟩ := by cases h; rfl
theorem At.nil_inv (h : At w S .nil v) : v = .slice none 0 0 := by cases h; rfl
theorem At.agg_inv {cs : List AV} (h : At w S (.agg cs) v) : ∃ vs, v = .agg vs ∧ cs.length = vs.size ∧ AtA w S cs vs := by cases h with | agg _ vs hl h => exact ⟨vs, rfl, hl, h⟩
theorem At.tup_inv {cs : List AV} (h : At w S (.tup cs) v) : ∃ vs, v = .tuple vs ∧ cs.length = vs.size ∧ AtA w S cs vs := by cases h with | tup _ vs hl h => exact ⟨vs, rfl, hl, h⟩
theorem At.ptr_inv {b : Bk} {o : Nat} (h : At w S (.ptr b o) v) : ∃ n, b.blk = some n ∧ v = .pointer (some ⟨n, o, none⟩) := by cases h with | ptr _ _ n hb => exact ⟨n, hb, rfl⟩
theorem At.aptr_inv {sz : Nat} {b : Bk} {i o : Nat} (h : At w S (.aptr sz b i o) v) : ∃ n, b.blk = some n ∧ v = .pointer (some ⟨n, i * sz + o, none⟩) := by cases h with | aptr _ _ _ _ n hb => exact ⟨n, hb, rfl⟩
theorem At.func_inv {fn : Fn} {cs : List AV} (h : At w S (.func fn cs) v) : ∃ vs, v = .func fn #[] vs ∧ cs.length = vs.size ∧ AtA w S cs vs := by cases h with | func _ _ vs hl h => exact ⟨vs, rfl, hl, h⟩
theorem At.list_inv {sz : Nat} {xs : List AV} (h : At w S (.list sz xs) v) : ∃ (a : Option Addr) (cap : Nat) (vs : List Value), v = .slice a xs.length cap ∧ (∀ x ∈ xs, El sz x) ∧ (flat xs).length = vs.length ∧ (∀ (i : Nat) c u, (flat xs)[i]? = some c → vs[i]? = some u → At w S c u) ∧
    (∀ (i : Nat) u, vs[i]? = some u → ∃ ad, a = some ad ∧ ad.spot = none ∧ S ad.block ∧ w.cell? ⟨ad.block, ad.off + i, none⟩ = some u) ∧ xs.length ≤ cap := by
  cases h with | list _ _ a cap vs h1 h2 h3 h4 h5 => exact ⟨a, cap, vs, rfl, h1, h2, h3, h4, h5⟩
theorem At.rptr_inv {cs : List AV} (h : At w S (.rptr cs) v) : ∃ (ad : Addr) (vs : List Value), v = .pointer (some ad) ∧ cs.length = vs.length ∧ (∀ (i : Nat) c u, cs[i]? = some c → vs[i]? = some u → At w S c u) ∧ ad.spot = none ∧ S ad.block ∧
    (∀ (i : Nat) u, vs[i]? = some u → w.cell? ⟨ad.block, ad.off + i, none⟩ = some u) := by
  cases h with | rptr _ ad vs h1 h2 h3 h4 h5 => exact ⟨ad, vs, rfl, h1, h2, h3, h4, h5⟩
theorem At.sl_inv {sz : Nat} {b : Bk} {off len : Nat} (h : At w S (.sl sz b off len) v) : ∃ a cap, v = .slice a len cap ∧ ((b.blk = none ∧ off = 0 ∧ len = 0 ∧ a = none ∧ cap = 0) ∨
    (∃ n, b.blk = some n ∧ a = some ⟨n, off * sz, none⟩ ∧ len ≤ cap ∧ off + cap ≤ b.cap) ∨ (∃ n ad, b.blk = some n ∧ a = some ad ∧ len = 0 ∧ cap = 0)) := by
  cases h with
  | slph _ _ hb => exact ⟨none, 0, rfl, .inl ⟨hb, rfl, rfl, rfl, rfl⟩⟩
  | sl _ _ _ _ n cap hb h1 h2 => exact ⟨_, cap, rfl, .inr (.inl ⟨n, hb, rfl, h1, h2⟩)⟩
  | sl0 _ _ _ n ad hb => exact ⟨_, 0, rfl, .inr (.inr ⟨n, ad, hb, rfl, rfl, rfl⟩)⟩
end inv

section rules
variable {P : Program} {all : Array Oper} {rest : List Oper} {n : Nat} {tm : List (Nat × AV)} {hp : Heap} {Q : St → Prop} {d : Nat} {ty : TypeId} {pos : String} {af : Array Edge}

theorem q_move {x : Operand} {av : AV} (hx : evA tm x = some av) : QV P ⟨some d, .move x, ty, pos, af, none⟩ ⟨n, tm, hp⟩ (av) :=
  (fun w S a r => ⟨a.eval x, fun _ _ => rfl, evA_at (σ := ⟨n, tm, hp⟩) r hx⟩)

theorem q_assign {x : Operand} {av : AV} (hx : evA tm x = some av) : QV P ⟨some d, .assign x, ty, pos, af, none⟩ ⟨n, tm, hp⟩ (av) :=
  (fun w S a r => ⟨a.eval x, fun _ _ => rfl, evA_at (σ := ⟨n, tm, hp⟩) r hx⟩)

theorem q_pick_t {c x y : Operand} {av : AV} (hc : evA tm c = some (.bool true)) (hx : evA tm x = some av) : QV P ⟨some d, .pick c x y, ty, pos, af, none⟩ ⟨n, tm, hp⟩ (av) :=
  (fun w S a r => ⟨a.eval x, fun w1 _ => by have h := (evA_at (σ := ⟨n, tm, hp⟩) r hc).bool_inv; simp [execOp, h, asBool], evA_at (σ := ⟨n, tm, hp⟩) r hx⟩)

theorem q_pick_f {c x y : Operand} {av : AV} (hc : evA tm c = some (.bool false)) (hx : evA tm y = some av) : QV P ⟨some d, .pick c x y, ty, pos, af, none⟩ ⟨n, tm, hp⟩ (av) :=
  (fun w S a r => ⟨a.eval y, fun w1 _ => by have h := (evA_at (σ := ⟨n, tm, hp⟩) r hc).bool_inv; simp [execOp, h, asBool], evA_at (σ := ⟨n, tm, hp⟩) r hx⟩)

/-! integers -/
theorem q_bin {op : BinOp} {xt yt : TypeId} {x y : Operand} {k : IntKind} {i j : Int} {av : AV} {v : Value} (hx : evA tm x = some (.int k i)) (hy : evA tm y = some (.int k j))
    (hrun : ∀ w, (binOp op xt (.int k i) (.int k j)).run P w = .ok v w) (hat : ∀ w S, At w S av v) : QV P ⟨some d, .binOp op xt x y yt, ty, pos, af, none⟩ ⟨n, tm, hp⟩ av := by
  intro w S a r
  refine ⟨v, fun w' _ => ?_, hat w S⟩
  simp [execOp, (evA_at (σ := ⟨n, tm, hp⟩) r hx).int_inv, (evA_at (σ := ⟨n, tm, hp⟩) r hy).int_inv, eqGuard_at_int, hrun]

def fits64 (i : Int) : Prop := -9223372036854775808 ≤ i ∧ i ≤ 9223372036854775807

theorem wrap_fits {i : Int} (h : fits64 i) : IntKind.i64.wrap i = i := IntWalk.i64_in _ h

theorem q_addw {xt yt : TypeId} {x y : Operand} {k : IntKind} {i j : Int} (hx : evA tm x = some (.int k i)) (hy : evA tm y = some (.int k j)) : QV P ⟨some d, .binOp .add xt x y yt, ty, pos, af, none⟩ ⟨n, tm, hp⟩ (.int k (k.wrap (i + j))) :=
  q_bin hx hy (v := _) (fun w => by simp [binOp, Op.intArith]) (fun w S => .int _ _)
theorem q_subw {xt yt : TypeId} {x y : Operand} {k : IntKind} {i j : Int} (hx : evA tm x = some (.int k i)) (hy : evA tm y = some (.int k j)) : QV P ⟨some d, .binOp .sub xt x y yt, ty, pos, af, none⟩ ⟨n, tm, hp⟩ (.int k (k.wrap (i - j))) :=
  q_bin hx hy (v := _) (fun w => by simp [binOp, Op.intArith]) (fun w S => .int _ _)
theorem q_mulw {xt yt : TypeId} {x y : Operand} {k : IntKind} {i j : Int} (hx : evA tm x = some (.int k i)) (hy : evA tm y = some (.int k j)) : QV P ⟨some d, .binOp .mul xt x y yt, ty, pos, af, none⟩ ⟨n, tm, hp⟩ (.int k (k.wrap (i * j))) :=
  q_bin hx hy (v := _) (fun w => by simp [binOp, Op.intArith]) (fun w S => .int _ _)

theorem q_rem {xt yt : TypeId} {x y : Operand} {k : IntKind} {i j : Int} (hx : evA tm x = some (.int k i)) (hy : evA tm y = some (.int k j)) (h0 : j ≠ 0) : QV P ⟨some d, .binOp .rem xt x y yt, ty, pos, af, none⟩ ⟨n, tm, hp⟩ (.int k (i.tmod j)) :=
  q_bin hx hy (v := .int k (i.tmod j)) (fun w => by simp [binOp, Op.intDiv, h0]) (fun w S => .int _ _)
theorem q_lss {xt yt : TypeId} {x y : Operand} {k : IntKind} {i j : Int} (hx : evA tm x = some (.int k i)) (hy : evA tm y = some (.int k j)) : QV P ⟨some d, .binOp .lss xt x y yt, ty, pos, af, none⟩ ⟨n, tm, hp⟩ (.bool (decide (i < j))) :=
  q_bin hx hy (v := .bool (decide (i < j))) (fun w => by simp [binOp, Op.intCmp]) (fun w S => .bool _)
theorem q_leq {xt yt : TypeId} {x y : Operand} {k : IntKind} {i j : Int} (hx : evA tm x = some (.int k i)) (hy : evA tm y = some (.int k j)) : QV P ⟨some d, .binOp .leq xt x y yt, ty, pos, af, none⟩ ⟨n, tm, hp⟩ (.bool (decide (i ≤ j))) :=
  q_bin hx hy (v := .bool (decide (i ≤ j))) (fun w => by simp [binOp, Op.intCmp]) (fun w S => .bool _)
theorem q_gtr {xt yt : TypeId} {x y : Operand} {k : IntKind} {i j : Int} (hx : evA tm x = some (.int k i)) (hy : evA tm y = some (.int k j)) : QV P ⟨some d, .binOp .gtr xt x y yt, ty, pos, af, none⟩ ⟨n, tm, hp⟩ (.bool (decide (j < i))) :=
  q_bin hx hy (v := .bool (decide (j < i))) (fun w => by simp [binOp, Op.intCmp]) (fun w S => .bool _)
theorem q_geq {xt yt : TypeId} {x y : Operand} {k : IntKind} {i j : Int} (hx : evA tm x = some (.int k i)) (hy : evA tm y = some (.int k j)) : QV P ⟨some d, .binOp .geq xt x y yt, ty, pos, af, none⟩ ⟨n, tm, hp⟩ (.bool (decide (j ≤ i))) :=
  q_bin hx hy (v := .bool (decide (j ≤ i))) (fun w => by simp [binOp, Op.intCmp]) (fun w S => .bool _)
theorem q_eql {xt yt : TypeId} {x y : Operand} {k : IntKind} {i j : Int} (hx : evA tm x = some (.int k i)) (hy : evA tm y = some (.int k j)) : QV P ⟨some d, .binOp .eql xt x y yt, ty, pos, af, none⟩ ⟨n, tm, hp⟩ (.bool (decide (i = j))) :=
  q_bin hx hy (v := .bool (decide (i = j))) (fun w => by simp [binOp, Op.intCmp]; rfl) (fun w S => .bool _)
theorem q_neq {xt yt : TypeId} {x y : Operand} {k : IntKind} {i j : Int} (hx : evA tm x = some (.int k i)) (hy : evA tm y = some (.int k j)) : QV P ⟨some d, .binOp .neq xt x y yt, ty, pos, af, none⟩ ⟨n, tm, hp⟩ (.bool (decide (i ≠ j))) :=
  q_bin hx hy (v := .bool (decide (i ≠ j))) (fun w => by simp [binOp, Op.intCmp, bne]; rfl) (fun w S => .bool _)

/-! strings -/
theorem q_seq {xt yt : TypeId} {x y : Operand} {s t : List UInt8} (hx : evA tm x = some (.str s)) (hy : evA tm y = some (.str t)) : QV P ⟨some d, .binOp .eql xt x y yt, ty, pos, af, none⟩ ⟨n, tm, hp⟩ (.bool (decide (s = t))) := by
  refine fun w S a r => ⟨.bool (decide (s = t)), fun w1 _ => ?_, .bool _⟩
  simp [execOp, (evA_at (σ := ⟨n, tm, hp⟩) r hx).str_inv, (evA_at (σ := ⟨n, tm, hp⟩) r hy).str_inv, eqGuard_at_string, binOp, Op.stringOp]
  rw [Bool.eq_iff_iff]; simp
theorem q_sne {xt yt : TypeId} {x y : Operand} {s t : List UInt8} (hx : evA tm x = some (.str s)) (hy : evA tm y = some (.str t)) : QV P ⟨some d, .binOp .neq xt x y yt, ty, pos, af, none⟩ ⟨n, tm, hp⟩ (.bool (decide (s ≠ t))) := by
  refine fun w S a r => ⟨.bool (decide (s ≠ t)), fun w1 _ => ?_, .bool _⟩
  simp [execOp, (evA_at (σ := ⟨n, tm, hp⟩) r hx).str_inv, (evA_at (σ := ⟨n, tm, hp⟩) r hy).str_inv, eqGuard_at_string, binOp, Op.stringOp]
  rw [Bool.eq_iff_iff]; simp
theorem ba_size (s : List UInt8) : (⟨s.toArray⟩ : ByteArray).size = s.length := rfl

theorem q_not {xt : TypeId} {x : Operand} {b : Bool} (hx : evA tm x = some (.bool b)) : QV P ⟨some d, .unOp .not xt x, ty, pos, af, none⟩ ⟨n, tm, hp⟩ (.bool (!b)) :=
  (fun w S a r => ⟨.bool (!b), fun w1 _ => by simp [execOp, (evA_at (σ := ⟨n, tm, hp⟩) r hx).bool_inv, Op.unary], .bool _⟩)

/-! min, max of two -/
theorem q_max {x y : Operand} {ts : Array TypeId} {k : IntKind} {i j : Int} (hx : evA tm x = some (.int k i)) (hy : evA tm y = some (.int k j)) : QV P ⟨some d, .call { callee := .builtin .max, args := #[x, y], argTypes := ts }, ty, pos, af, none⟩ ⟨n, tm, hp⟩ (.int k (max i j)) :=
  (fun w S a r => ⟨.int k (max i j), fun w1 _ => by
    have e : (if j > i then j else i) = max i j := by rw [Int.max_def]; split <;> split <;> omega
    simp [execOp, (evA_at (σ := ⟨n, tm, hp⟩) r hx).int_inv, (evA_at (σ := ⟨n, tm, hp⟩) r hy).int_inv, resolve, invoke, builtin, Builtin.max_, Builtin.max2, ← e], .int _ _⟩)

/-! len -/
theorem q_len_list {x : Operand} {t e : TypeId} {sz : Nat} {xs : List AV} [TUnder P t (.slice e)] (hx : evA tm x = some (.list sz xs)) : QV P ⟨some d, .call { callee := .builtin .len, args := #[x], argTypes := #[t] }, ty, pos, af, none⟩ ⟨n, tm, hp⟩ (.int .i64 (xs.length : Nat)) :=
  (fun w S a r => ⟨.int .i64 (xs.length : Nat), fun w1 _ => by
    obtain ⟨ad, cap, vs, h1, _⟩ := (evA_at (σ := ⟨n, tm, hp⟩) r hx).list_inv
    simp [execOp, h1, resolve, invoke, builtin, Builtin.len_, run_underlying (TUnder.h (P := P) (t := t)), goInt], .int _ _⟩)

theorem q_len_sl {x : Operand} {t e : TypeId} {sz off len : Nat} {b : Bk} [TUnder P t (.slice e)] (hx : evA tm x = some (.sl sz b off len)) : QV P ⟨some d, .call { callee := .builtin .len, args := #[x], argTypes := #[t] }, ty, pos, af, none⟩ ⟨n, tm, hp⟩ (.int .i64 (len : Nat)) :=
  (fun w S a r => ⟨.int .i64 (len : Nat), fun w1 _ => by
    obtain ⟨ad, cap, h1, _⟩ := (evA_at (σ := ⟨n, tm, hp⟩) r hx).sl_inv
    simp [execOp, h1, resolve, invoke, builtin, Builtin.len_, run_underlying (TUnder.h (P := P) (t := t)), goInt], .int _ _⟩)

theorem q_len_nil {x : Operand} {t e : TypeId} [TUnder P t (.slice e)] (hx : evA tm x = some .nil) : QV P ⟨some d, .call { callee := .builtin .len, args := #[x], argTypes := #[t] }, ty, pos, af, none⟩ ⟨n, tm, hp⟩ (.int .i64 0) :=
  (fun w S a r => ⟨.int .i64 0, fun w1 _ => by
    simp [execOp, (evA_at (σ := ⟨n, tm, hp⟩) r hx).nil_inv, resolve, invoke, builtin, Builtin.len_, run_underlying (TUnder.h (P := P) (t := t)), goInt], .int _ _⟩)

theorem q_len_str {x : Operand} {t : TypeId} {s : List UInt8} [TUnder P t .string] (hx : evA tm x = some (.str s)) : QV P ⟨some d, .call { callee := .builtin .len, args := #[x], argTypes := #[t] }, ty, pos, af, none⟩ ⟨n, tm, hp⟩ (.int .i64 (s.length : Nat)) :=
  (fun w S a r => ⟨.int .i64 (s.length : Nat), fun w1 _ => by
    simp [execOp, (evA_at (σ := ⟨n, tm, hp⟩) r hx).str_inv, resolve, invoke, builtin, Builtin.len_, run_underlying (TUnder.h (P := P) (t := t)), goInt, ba_size], .int _ _⟩)

/-! s[i] of a string -/
theorem q_index_str {x y : Operand} {t : TypeId} {s : List UInt8} {k : IntKind} {i : Int} {c : UInt8} [TUnder P t .string] (hx : evA tm x = some (.str s)) (hy : evA tm y = some (.int k i)) (h0 : 0 ≤ i) (hc : s[i.toNat]? = some c) : QV P ⟨some d, .index t x y, ty, pos, af, none⟩ ⟨n, tm, hp⟩ (.int .u8 (c.toNat : Nat)) :=
  (fun w S a r => ⟨.int .u8 (c.toNat : Nat), fun w1 _ => by
    have hc' : (⟨s.toArray⟩ : ByteArray)[i.toNat]? = some c := by
      obtain ⟨hl, he⟩ := List.getElem?_eq_some_iff.1 hc
      rw [getElem?_pos _ _ (by rw [ba_size]; exact hl)]
      simp only [Option.some.injEq]
      rw [← he]
      rfl
    simp [execOp, (evA_at (σ := ⟨n, tm, hp⟩) r hx).str_inv, (evA_at (σ := ⟨n, tm, hp⟩) r hy).int_inv, Instr.index, asIntOf, run_underlying (TUnder.h (P := P) (t := t)), h0, hc'], .int _ _⟩)

/-! tuples -/
theorem q_extract {x : Operand} {i : Nat} {vs : List AV} {av : AV} (hx : evA tm x = some (.tup vs)) (hi : vs[i]? = some av) : QV P ⟨some d, .extract x i, ty, pos, af, none⟩ ⟨n, tm, hp⟩ (av) :=
  (fun w S a r => by
    obtain ⟨us, h1, h2, h3⟩ := (evA_at (σ := ⟨n, tm, hp⟩) r hx).tup_inv
    have hlt : i < us.size := by rw [← h2]; exact (List.getElem?_eq_some_iff.1 hi).1
    have hu : us[i]? = some us[i] := by simp [hlt]
    exact ⟨us[i], fun _ _ => by simp [execOp, h1, Instr.extract, hu], h3 i av _ hi hu⟩)

/-! nil checks -/
theorem q_nilCheck_ptr {x : Operand} {b : Bk} {o : Nat} (hx : evA tm x = some (.ptr b o)) : QV P ⟨some d, .nilCheck x, ty, pos, af, none⟩ ⟨n, tm, hp⟩ (.ptr b o) :=
  (fun w S a r => by
    have h := evA_at (σ := ⟨n, tm, hp⟩) r hx
    obtain ⟨m, h1, h2⟩ := h.ptr_inv
    exact ⟨a.eval x, fun _ _ => by simp [execOp, h2], h⟩)

theorem q_nilCheck_aptr {x : Operand} {sz : Nat} {b : Bk} {i o : Nat} (hx : evA tm x = some (.aptr sz b i o)) : QV P ⟨some d, .nilCheck x, ty, pos, af, none⟩ ⟨n, tm, hp⟩ (.aptr sz b i o) :=
  (fun w S a r => by
    have h := evA_at (σ := ⟨n, tm, hp⟩) r hx
    obtain ⟨m, h1, h2⟩ := h.aptr_inv
    exact ⟨a.eval x, fun _ _ => by simp [execOp, h2], h⟩)

/-! closures -/
def evL (tm : List (Nat × AV)) : List Operand → Option (List AV)
  | [] => some []
  | x :: r => match evA tm x, evL tm r with
    | some a, some l => some (a :: l)
    | _, _ => none

theorem evL_at {w : World} {S : Nat → Prop} {σ : St} {a : Act} (r : StRel w S σ a) : ∀ {xs : List Operand} {l : List AV}, evL σ.tm xs = some l → l.length = xs.length ∧ ∀ (i : Nat) c v, l[i]? = some c → (xs.map a.eval)[i]? = some v → At w S c v
  | [], l, h => by simp [evL] at h; subst h; exact ⟨rfl, fun i c v hc => by simp at hc⟩
  | x :: xs, l, h => by
    simp only [evL] at h
    split at h
    · rename_i av l' ha hl
      obtain rfl := Option.some.inj h
      obtain ⟨h1, h2⟩ := evL_at r hl
      refine ⟨by simp [h1], fun i c v hc hv => ?_⟩
      match i with
      | 0 => simp at hc hv; subst hc; subst hv; exact evA_at r ha
      | i + 1 => simp at hc hv; exact h2 i c v hc (by simpa using hv)
    · cases h

theorem q_makeFunc {fn : Fn} {caps : List Operand} {l : List AV} (hl : evL tm caps = some l) : QV P ⟨some d, .makeFunc fn #[] caps.toArray, ty, pos, af, none⟩ ⟨n, tm, hp⟩ (.func fn l) :=
  (fun w S a r => by
    obtain ⟨h1, h2⟩ := evL_at (σ := ⟨n, tm, hp⟩) r hl
    exact ⟨.func fn #[] (caps.toArray.map a.eval), fun _ _ => by simp [execOp, Instr.makeFunc], .func _ _ _ (by simp [h1]) (fun i c v hc hv => h2 i c v hc (by simpa using hv))⟩)

end rules
end Go.Eng

/- The engine, part 4: rules for memory: boxes, fields, elements, loads, stores. No program in sight. -/
set_option linter.unusedVariables false
set_option linter.unusedSectionVars false
namespace Go.Eng
open Go
variable [GTab]

inductive Fnd : Heap → Bk → Ob → Prop
  | here {b : Bk} {o : Ob} {h : Heap} : Fnd ((b, o) :: h) b o
  | next {e : Bk × Ob} {b : Bk} {o : Ob} {h : Heap} (k : Fnd h b o) : Fnd (e :: h) b o
  | skip {l : Heap} {b : Bk} {o : Ob} {h : Heap} (k : Fnd h b o) : Fnd (l ++ h) b o

theorem Fnd.mem {h : Heap} {b : Bk} {o : Ob} (f : Fnd h b o) : (b, o) ∈ h := by
  induction f with
  | here => simp
  | next _ ih => simp [ih]
  | skip _ ih => simp [ih]

/-- An entry gives way to another. -/
inductive Upd : Heap → Bk → Ob → Bk → Ob → Heap → Prop
  | here {b b' : Bk} {o o' : Ob} {h : Heap} : Upd ((b, o) :: h) b o b' o' ((b', o') :: h)
  | next {e : Bk × Ob} {b b' : Bk} {o o' : Ob} {h h' : Heap} (k : Upd h b o b' o' h') : Upd (e :: h) b o b' o' (e :: h')
  | skip {l : Heap} {b b' : Bk} {o o' : Ob} {h h' : Heap} (k : Upd h b o b' o' h') : Upd (l ++ h) b o b' o' (l ++ h')

/-- An entry goes. -/
inductive Del : Heap → Bk → Ob → Heap → Prop
  | here {b : Bk} {o : Ob} {h : Heap} : Del ((b, o) :: h) b o h
  | next {e : Bk × Ob} {b : Bk} {o : Ob} {h h' : Heap} (k : Del h b o h') : Del (e :: h) b o (e :: h')
  | skip {l : Heap} {b : Bk} {o : Ob} {h h' : Heap} (k : Del h b o h') : Del (l ++ h) b o (l ++ h')

theorem Upd.split {h h' : Heap} {b b' : Bk} {o o' : Ob} (u : Upd h b o b' o' h') : ∃ pre post, h = pre ++ (b, o) :: post ∧ h' = pre ++ (b', o') :: post := by
  induction u with
  | here => exact ⟨[], _, rfl, rfl⟩
  | next _ ih => obtain ⟨p, q, rfl, rfl⟩ := ih; exact ⟨_ :: p, q, rfl, rfl⟩
  | @skip l _ _ _ _ _ _ _ ih => obtain ⟨p, q, rfl, rfl⟩ := ih; exact ⟨l ++ p, q, (List.append_assoc _ _ _).symm, (List.append_assoc _ _ _).symm⟩

theorem Del.split {h h' : Heap} {b : Bk} {o : Ob} (u : Del h b o h') : ∃ pre post, h = pre ++ (b, o) :: post ∧ h' = pre ++ post := by
  induction u with
  | here => exact ⟨[], _, rfl, rfl⟩
  | next _ ih => obtain ⟨p, q, rfl, rfl⟩ := ih; exact ⟨_ :: p, q, rfl, rfl⟩
  | @skip l _ _ _ _ _ ih => obtain ⟨p, q, rfl, rfl⟩ := ih; exact ⟨l ++ p, q, (List.append_assoc _ _ _).symm, (List.append_assoc _ _ _).symm⟩

theorem Upd.fnd {h h' : Heap} {b b' : Bk} {o o' : Ob} (u : Upd h b o b' o' h') : Fnd h b o := by
  induction u with
  | here => exact .here
  | next _ ih => exact .next ih
  | skip _ ih => exact .skip ih

theorem mem_mid {α : Type} {p q : List α} {x y : α} : y ∈ p ++ x :: q ↔ y = x ∨ y ∈ p ++ q := by
  simp only [List.mem_append, List.mem_cons]
  constructor
  · rintro (h | h | h)
    · exact .inr (.inl h)
    · exact .inl h
    · exact .inr (.inr h)
  · rintro (h | h | h)
    · exact .inr (.inl h)
    · exact .inl h
    · exact .inr (.inr h)

/-- New memory, and one block that may turn; draws. -/
def GB (w w' : World) (x : Option Nat) : Prop := w.grownBy w' x ∧ (GTab.dr → w.drawn ≤ w'.drawn)
/-- An entry's memory turns, or it goes over to new memory; all else stands. -/
theorem upd_rel {w w' : World} {S : Nat → Prop} {hp hp' : Heap} {b b' : Bk} {o o' : Ob} (r : HRel w S hp) (u : Upd hp b o b' o' hp') (cc : GB w w' b.blk) (hf : ¬ o.isFro) (hf' : ¬ o'.isFro)
    (hh : Holds w' S b' o') (hb' : b'.blk = b.blk ∨ b'.blk = none ∨ ∃ m, b'.blk = some m ∧ w.heap.size ≤ m) (hm : o'.more = [] := by rfl) :
    HRel w' S hp' ∧ Evo w S hp w' S hp' ∧ ∀ n, S n → S n ∧ w'.heap[n]? = w.heap[n]? := by
  obtain ⟨c, hd⟩ := cc
  obtain ⟨p, q, rfl, rfl⟩ := u.split
  have hin : (b, o) ∈ p ++ (b, o) :: q := by simp
  have nS : ∀ n, b.blk = some n → ¬ S n := fun n hn hs => hf ((r.sep _ hin n (eb_of hn)).1 hs)
  have keep : ∀ n, S n → S n ∧ w'.heap[n]? = w.heap[n]? := fun n hs => ⟨hs, c.block n (r.slt n hs) (fun e => nS n e.symm hs)⟩
  have hnd := r.nodup
  rw [List.flatMap_append, List.flatMap_cons, List.nodup_append, List.nodup_append] at hnd
  have others : ∀ e ∈ p ++ q, ∀ n, n ∈ eb e → n < w.heap.size ∧ b.blk ≠ some n := by
    intro e he n hn
    refine ⟨r.lt ⟨e, mem_mid.2 (.inr he), hn⟩, fun hb => ?_⟩
    rcases List.mem_append.1 he with h | h
    · exact hnd.2.2 n (List.mem_flatMap.2 ⟨e, h, hn⟩) n (List.mem_append_left _ (eb_of hb)) rfl
    · exact hnd.2.1.2.2 n (eb_of hb) n (List.mem_flatMap.2 ⟨e, h, hn⟩) rfl
  have hb'o : ∀ e ∈ p ++ q, ∀ n, n ∈ eb e → b'.blk ≠ some n := by
    intro e he n hn hb
    obtain ⟨h1, h2⟩ := others e he n hn
    rcases hb' with h | h | ⟨m, h, hm⟩
    · exact h2 (h ▸ hb)
    · rw [h] at hb; cases hb
    · rw [h] at hb; have := Option.some.inj hb; omega
  refine ⟨⟨?_, ?_, ?_, fun n hs => Nat.lt_of_lt_of_le (r.slt n hs) c.size, fun g o ho => ⟨(r.glob g o ho).1, gkeep (keep g (r.glob g o ho).1).2 (r.glob g o ho).2⟩⟩, ⟨c.os, c.tape, c.output, c.size, keep, ?_, ?_, hd⟩, keep⟩
  · rw [List.flatMap_append, List.flatMap_cons, List.nodup_append, List.nodup_append]
    have hebn : (eb (b', o')).Nodup := by
      unfold eb; rw [hm, List.append_nil]
      cases b'.blk <;> simp
    refine ⟨hnd.1, ⟨hebn, hnd.2.1.2.1, fun x hx y hy hxy => ?_⟩, fun x hx y hy hxy => ?_⟩
    · subst hxy
      obtain ⟨e, he, hen⟩ := List.mem_flatMap.1 hy
      exact hb'o e (List.mem_append_right _ he) x hen ((eb_one hm).1 hx)
    · subst hxy
      rcases List.mem_append.1 hy with hy | hy
      · obtain ⟨e, he, hen⟩ := List.mem_flatMap.1 hx
        exact hb'o e (List.mem_append_left _ he) x hen ((eb_one hm).1 hy)
      · exact hnd.2.2 x hx x (List.mem_append_right _ hy) rfl
  · intro e he
    rcases mem_mid.1 he with rfl | he
    · exact hh
    · exact (r.holds e (mem_mid.2 (.inr he))).mono keep (fun n hn => c.block n (others e he n hn).1 (fun h => (others e he n hn).2 h.symm))
  · intro e he n hn
    rcases mem_mid.1 he with rfl | he
    · replace hn := (eb_one hm).1 hn
      have ns : ¬ S n := by
        rcases hb' with h | h | ⟨m, h, hm⟩
        · exact nS n (h ▸ hn)
        · rw [h] at hn; cases hn
        · intro hs; have := r.slt n hs; rw [h] at hn; have := Option.some.inj hn; omega
      exact ⟨fun hs => (ns hs).elim, fun h => (hf' h).elim⟩
    · exact r.sep e (mem_mid.2 (.inr he)) n hn
  · intro n hn hhas
    exact ⟨c.block n hn (fun h => hhas ⟨(b, o), hin, eb_of h.symm⟩), id⟩
  · rintro n ⟨e, he, hen⟩
    rcases mem_mid.1 he with rfl | he
    · replace hen := (eb_one hm).1 hen
      rcases hb' with h | h | ⟨m, h, hm⟩
      · exact .inl ⟨(b, o), hin, eb_of (h ▸ hen)⟩
      · rw [h] at hen; cases hen
      · rw [h] at hen; have := Option.some.inj hen; exact .inr (by omega)
    · exact .inl ⟨e, mem_mid.2 (.inr he), hen⟩

/-- A new entry, in new memory or in none. -/
theorem add_rel {w w' : World} {S : Nat → Prop} {hp : Heap} {b : Bk} {o : Ob} (r : HRel w S hp) (e : Ext w w') (hf : ¬ o.isFro) (hh : Holds w' S b o) (hb : b.blk = none ∨ ∃ m, b.blk = some m ∧ w.heap.size ≤ m) (hm : o.more = [] := by rfl) :
    HRel w' S ((b, o) :: hp) ∧ Evo w S hp w' S ((b, o) :: hp) ∧ ∀ n, S n → S n ∧ w'.heap[n]? = w.heap[n]? := by
  have r' := r.ext e
  have keep : ∀ n, S n → S n ∧ w'.heap[n]? = w.heap[n]? := fun n hs => ⟨hs, e.same n (r.slt n hs)⟩
  have fresh : ∀ n, n ∈ eb (b, o) → w.heap.size ≤ n := by
    intro n hn
    replace hn := (eb_one hm).1 hn
    rcases hb with h | ⟨m, h, hm⟩
    · rw [h] at hn; cases hn
    · rw [h] at hn; have := Option.some.inj hn; omega
  refine ⟨⟨?_, ?_, ?_, r'.slt, r'.glob⟩, ⟨e.os, e.tape, e.output, e.size, keep, fun n hn _ => ⟨e.same n hn, id⟩, ?_, e.drawn⟩, keep⟩
  · rw [List.flatMap_cons, List.nodup_append]
    refine ⟨?_, r.nodup, fun x hx y hy hxy => ?_⟩
    · unfold eb; rw [hm, List.append_nil]
      cases b.blk <;> simp
    · subst hxy
      obtain ⟨z, hz, hzn⟩ := List.mem_flatMap.1 hy
      have := r.lt ⟨z, hz, hzn⟩
      have := fresh x hx
      omega
  · intro x hx
    rcases List.mem_cons.1 hx with rfl | hx
    · exact hh
    · exact r'.holds x hx
  · intro x hx n hn
    rcases List.mem_cons.1 hx with rfl | hx
    · refine ⟨fun hs => ?_, fun h => (hf h).elim⟩
      have := r.slt n hs
      have := fresh n hn
      omega
    · exact r.sep x hx n hn
  · rintro n ⟨x, hx, hxn⟩
    rcases List.mem_cons.1 hx with rfl | hx
    · exact .inr (fresh n hxn)
    · exact .inl ⟨x, hx, hxn⟩

/-! ### the cells of a value -/
theorem cells_at {w : World} {S : Nat → Prop} {av : AV} {v : Value} (h : At w S av v) (h1 : ∀ c ∈ av.cells, c.one = true) : av.cells.length = v.cells.size ∧ AtA w S av.cells v.cells := by
  have single : ∀ (c : AV) (u : Value), At w S c u → AtA w S [c] #[u] := by
    intro c u hc i c' u' h1 h2
    match i with
    | 0 => simp at h1 h2; subst h1; subst h2; exact hc
    | i + 1 => simp at h1
  cases h with
  | agg cs vs hl h => exact ⟨hl, h⟩
  | raw v =>
    have : v.oneCell' = true := h1 (.raw v) (by simp [AV.cells])
    have hv : v.cells = #[v] := by cases v <;> first | rfl | (simp [Value.oneCell'] at this)
    rw [hv]
    exact ⟨rfl, single _ _ (.raw v)⟩
  | sem φ v hm g1 g =>
    have this : v.oneCell' = true := g1 _ _ _ g
    have hv : v.cells = #[v] := by cases v <;> first | rfl | (simp [Value.oneCell'] at this)
    rw [hv]
    exact ⟨rfl, single _ _ (.sem φ v hm g1 g)⟩
  | tup cs vs hl h => exact ⟨rfl, single _ _ (.tup cs vs hl h)⟩
  | int k n => exact ⟨rfl, single _ _ (.int k n)⟩
  | bool b => exact ⟨rfl, single _ _ (.bool b)⟩
  | str s => exact ⟨rfl, single _ _ (.str s)⟩
  | list sz xs a cap vs hsz hl h hm hc => exact ⟨rfl, single _ _ (.list sz xs a cap vs hsz hl h hm hc)⟩
  | nil => exact ⟨rfl, single _ _ .nil⟩
  | ptr b o n hb => exact ⟨rfl, single _ _ (.ptr b o n hb)⟩
  | slph sz b hb => exact ⟨rfl, single _ _ (.slph sz b hb)⟩
  | sl sz b off len n cap hb g1 g2 => exact ⟨rfl, single _ _ (.sl sz b off len n cap hb g1 g2)⟩
  | sl0 sz b off n ad hb => exact ⟨rfl, single _ _ (.sl0 sz b off n ad hb)⟩
  | rptr cs ad vs hl h hs hS hm => exact ⟨rfl, single _ _ (.rptr cs ad vs hl h hs hS hm)⟩
  | aptr sz b i o n hb => exact ⟨rfl, single _ _ (.aptr sz b i o n hb)⟩
  | mref b n hb => exact ⟨rfl, single _ _ (.mref b n hb)⟩
  | func fn cs vs hl h => exact ⟨rfl, single _ _ (.func fn cs vs hl h)⟩

theorem one_vals {w : World} {S : Nat → Prop} {cs : List AV} {vs : Array Value} (hl : cs.length = vs.size) (h : AtA w S cs vs) (h1 : ∀ c ∈ cs, c.one = true) : ∀ v ∈ vs.toList, v.oneCell' = true := by
  intro v hv
  obtain ⟨i, hi, he⟩ := List.mem_iff_getElem.1 hv
  have hi' : i < cs.length := by rw [hl]; simpa using hi
  have := h i cs[i] v (by simp [hi']) (by rw [← he]; simp at hi ⊢)
  exact this.one_ok (h1 _ (List.getElem_mem hi'))

def allOne : List AV → Bool
  | [] => true
  | c :: r => c.one && allOne r

theorem allOne_spec {cs : List AV} (h : allOne cs = true) : ∀ c ∈ cs, c.one = true := by
  induction cs with
  | nil => simp
  | cons x r ih =>
    simp only [allOne, Bool.and_eq_true] at h
    intro c hc
    rcases List.mem_cons.1 hc with rfl | hc
    · exact h.1
    · exact ih h.2 c hc

section rules
variable {P : Program} {all : Array Oper} {rest : List Oper} {n : Nat} {tm : List (Nat × AV)} {hp : Heap} {Q : St → Prop} {d : Nat} {ty : TypeId} {pos : String} {af : Array Edge}

/-- A new block for the rules: its address in the state. -/
theorem new_box {w : World} {S : Nat → Prop} {hp : Heap} (r : HRel w S hp) {cs : List AV} {vs : Array Value} (E : TypeId) (hl : cs.length = vs.size) (h : AtA w S cs vs) (h1 : ∀ c ∈ cs, c.one = true) :
    HRel (w.alloc (.cells vs E)) S ((⟨some w.heap.size, 0⟩, .cells cs) :: hp) ∧ Evo w S hp (w.alloc (.cells vs E)) S ((⟨some w.heap.size, 0⟩, .cells cs) :: hp) ∧ ∀ n, S n → S n ∧ (w.alloc (.cells vs E)).heap[n]? = w.heap[n]? := by
  have e := Ext.alloc w (.cells vs E)
  refine add_rel r e id ⟨h1, w.heap.size, vs, E, rfl, ?_, hl.symm, h.mono fun n hn => ⟨hn, e.same n (r.slt n hn)⟩⟩ (.inr ⟨_, rfl, Nat.le_refl _⟩)
  show (w.heap.push _)[w.heap.size]? = _
  simp

theorem r_box {x : Operand} {E : TypeId} {av : AV} (hx : evA tm x = some av) (h1 : allOne av.cells = true) (hn : Nat.blt d n = true)
    (kk : ∀ b : Bk, ARun P all rest ⟨n, (d, .ptr b 0) :: tm, (b, .cells av.cells) :: hp⟩ Q) : ARun P all (⟨some d, .box E x, ty, pos, af, none⟩ :: rest) ⟨n, tm, hp⟩ Q := by
  refine ARun.opx rfl fun w S a r => ?_
  have hv := evA_at (σ := ⟨n, tm, hp⟩) r hx
  obtain ⟨hl, hat⟩ := cells_at hv (allOne_spec h1)
  obtain ⟨g1, g2, g3⟩ := new_box r.hp E hl hat (allOne_spec h1)
  refine ⟨.pointer (some ⟨w.heap.size, 0, none⟩), w.alloc (.cells (a.eval x).cells E), S, _, ?_, (r.heap g3 g1).put hn (.ptr ⟨some w.heap.size, 0⟩ 0 _ rfl), g2, kk ⟨some w.heap.size, 0⟩⟩
  simp [execOp, Instr.box, newVar, newRow]

def zAV : Value → AV
  | .agg cs => .agg (cs.toList.map cst)
  | v => cst v

theorem zAV_cells_at (w : World) (S : Nat → Prop) (z : Value) (h1 : ∀ c ∈ (zAV z).cells, c.one = true) : (zAV z).cells.length = z.cells.size ∧ AtA w S (zAV z).cells z.cells := by
  by_cases hz : ∃ cs, z = .agg cs
  · obtain ⟨cs, rfl⟩ := hz
    refine ⟨by simp [zAV, AV.cells, Value.cells], ?_⟩
    intro i c v hc hv
    simp only [zAV, AV.cells, List.getElem?_map, Array.getElem?_toList] at hc
    simp only [Value.cells] at hv
    rw [hv] at hc
    simp at hc
    subst hc
    exact cst_at _ _ _
  · have hzc : zAV z = cst z := by
      cases z <;> first | rfl | (exact (hz ⟨_, rfl⟩).elim)
    rw [hzc] at h1 ⊢
    exact cells_at (cst_at w S z) h1

theorem r_alloc {E : TypeId} {i : TypeInfo} {z : Value} [TInfo P E i] (hz : i.zero = some z) (h1 : allOne (zAV z).cells = true) (hn : Nat.blt d n = true)
    (kk : ∀ b : Bk, ARun P all rest ⟨n, (d, .ptr b 0) :: tm, (b, .cells (zAV z).cells) :: hp⟩ Q) : ARun P all (⟨some d, .alloc E, ty, pos, af, none⟩ :: rest) ⟨n, tm, hp⟩ Q := by
  refine ARun.opx rfl fun w S a r => ?_
  obtain ⟨hl, hat⟩ := zAV_cells_at w S z (allOne_spec h1)
  obtain ⟨g1, g2, g3⟩ := new_box r.hp E hl hat (allOne_spec h1)
  refine ⟨.pointer (some ⟨w.heap.size, 0, none⟩), w.alloc (.cells z.cells E), S, _, ?_, (r.heap g3 g1).put hn (.ptr ⟨some w.heap.size, 0⟩ 0 _ rfl), g2, kk ⟨some w.heap.size, 0⟩⟩
  have hi := TInfo.h (P := P) (t := E)
  simp [execOp, Instr.alloc, newVar, newRow, zeroValue, typeInfo, hi, hz]

/-! ### addresses of fields -/
theorem add_at (m o k : Nat) : (⟨m, o, none⟩ : Addr).add k = ⟨m, o + k, none⟩ := Addr.add_lit m o k

theorem run_fieldAt {s : TypeId} {fs : Array Field} {j : Nat} {f : Field} {i : TypeInfo} (hs : P.underlying s = some (.struct fs)) (hj : fs[j]? = some f) (hi : P.info? f.type = some i) (h0 : i.size ≠ 0) (ad : Addr) (w : World) :
    (Instr.fieldAt s (.pointer (some ad)) j).run P w = .ok (.pointer (some (ad.add f.offset))) w := by
  simp [Instr.fieldAt, run_underlying hs, hj, Instr.sureAddr, fieldPlace, sizeOf, typeInfo, hi, h0]

class Fld (P : Program) (s : TypeId) (j : Nat) (off : outParam Nat) : Prop where
  h : ∃ fs f i, P.underlying s = some (.struct fs) ∧ fs[j]? = some f ∧ P.info? f.type = some i ∧ (Nat.beq i.size 0) = false ∧ f.offset = off

theorem q_field_ptr {x : Operand} {s : TypeId} {j : Nat} {off : Nat} {b : Bk} {o : Nat} [Fld P s j off]
    (hx : evA tm x = some (.ptr b o)) : QV P ⟨some d, .fieldAddr s x j, ty, pos, af, none⟩ ⟨n, tm, hp⟩ (.ptr b (o + off)) :=
  (fun w S a r => by
    obtain ⟨fs, f, i, hu, hj, hi, h0, rfl⟩ := Fld.h (P := P) (s := s) (j := j)
    obtain ⟨m, h1, h2⟩ := (evA_at (σ := ⟨n, tm, hp⟩) r hx).ptr_inv
    refine ⟨.pointer (some ⟨m, o + f.offset, none⟩), fun w1 _ => ?_, .ptr b _ m h1⟩
    have hr := run_fieldAt (P := P) hu hj hi (nbeq_f h0) ⟨m, o, none⟩ w1
    rw [add_at] at hr
    simp [execOp, h2, hr])

theorem q_field_aptr {x : Operand} {s : TypeId} {j : Nat} {off : Nat} {sz : Nat} {b : Bk} {q o : Nat} [Fld P s j off]
    (hx : evA tm x = some (.aptr sz b q o)) : QV P ⟨some d, .fieldAddr s x j, ty, pos, af, none⟩ ⟨n, tm, hp⟩ (.aptr sz b q (o + off)) :=
  (fun w S a r => by
    obtain ⟨fs, f, i, hu, hj, hi, h0, rfl⟩ := Fld.h (P := P) (s := s) (j := j)
    obtain ⟨m, h1, h2⟩ := (evA_at (σ := ⟨n, tm, hp⟩) r hx).aptr_inv
    refine ⟨.pointer (some ⟨m, q * sz + (o + f.offset), none⟩), fun w1 _ => ?_, .aptr sz b q _ m h1⟩
    have hr := run_fieldAt (P := P) hu hj hi (nbeq_f h0) ⟨m, q * sz + o, none⟩ w1
    rw [add_at, Nat.add_assoc] at hr
    simp [execOp, h2, hr])

theorem rptr_drop {w : World} {S : Nat → Prop} {cs : List AV} {ad : Addr} {vs : List Value} (k : Nat) (hl : cs.length = vs.length) (h : ∀ (i : Nat) c u, cs[i]? = some c → vs[i]? = some u → At w S c u) (hs : ad.spot = none) (hS : S ad.block)
    (hm : ∀ (i : Nat) u, vs[i]? = some u → w.cell? ⟨ad.block, ad.off + i, none⟩ = some u) : At w S (.rptr (cs.drop k)) (.pointer (some (ad.add k))) := by
  obtain ⟨bk, of, sp⟩ := ad
  simp only at hs hS hm
  subst hs
  rw [add_at]
  refine .rptr _ _ (vs.drop k) (by simp [hl]) (fun i c u hc hu => h (k + i) c u (by simpa using hc) (by simpa using hu)) rfl hS (fun i u hu => ?_)
  have := hm (k + i) u (by simpa using hu)
  simpa [Nat.add_assoc] using this

theorem q_field_rptr {x : Operand} {s : TypeId} {j : Nat} {off : Nat} {cs : List AV} [Fld P s j off]
    (hx : evA tm x = some (.rptr cs)) : QV P ⟨some d, .fieldAddr s x j, ty, pos, af, none⟩ ⟨n, tm, hp⟩ (.rptr (cs.drop off)) :=
  (fun w S a r => by
    obtain ⟨fs, f, i, hu, hj, hi, h0, rfl⟩ := Fld.h (P := P) (s := s) (j := j)
    obtain ⟨ad, vs, h2, h3, h4, h5, h6, h7⟩ := (evA_at (σ := ⟨n, tm, hp⟩) r hx).rptr_inv
    refine ⟨.pointer (some (ad.add f.offset)), fun w1 _ => ?_, rptr_drop f.offset h3 h4 h5 h6 h7⟩
    have hr := run_fieldAt (P := P) hu hj hi (nbeq_f h0) ad w1
    simp [execOp, h2, hr])

/-! ### loads -/
def TypeDesc.isAggB : TypeDesc → Bool
  | .struct _ => true
  | .array _ _ => true
  | _ => false

theorem run_loadVar_one {t : TypeId} {D : TypeDesc} (ht : P.underlying t = some D) (hD : TypeDesc.isAggB D = false) {ad : Addr} {v : Value} {w : World} (hc : w.cell? ad = some v) : (loadVar t ad).run P w = .ok v w := by
  have : (isAgg t).run P w = .ok false w := by
    simp only [isAgg, Sem.run_bind, run_underlying ht, Result.andThen_ok]
    cases D <;> first | rfl | (simp [TypeDesc.isAggB] at hD)
  simp [loadVar, this, hc]

theorem run_loadVar_agg {t : TypeId} {D : TypeDesc} {i : TypeInfo} (ht : P.underlying t = some D) (hD : TypeDesc.isAggB D = true) (hi : P.info? t = some i) {ad : Addr} {vs : List Value} {w : World} (hl : vs.length = i.size)
    (hc : ∀ (j : Nat) v, vs[j]? = some v → w.cell? (ad.add j) = some v) : (loadVar t ad).run P w = .ok (.agg vs.toArray) w := by
  have h1 : (isAgg t).run P w = .ok true w := by
    simp only [isAgg, Sem.run_bind, run_underlying ht, Result.andThen_ok]
    cases D <;> first | rfl | (simp [TypeDesc.isAggB] at hD)
  have h2 := run_loadCells_list (P := P) w ad vs hc
  rw [hl] at h2
  simp [loadVar, h1, sizeOf, typeInfo, hi, h2]

theorem heap_lt {w : World} {m : Nat} {ob : Obj} (h : w.heap[m]? = some ob) : m < w.heap.size := by
  rcases Nat.lt_or_ge m w.heap.size with h' | h'
  · exact h'
  · simp [Array.getElem?_eq_none h'] at h
theorem Ext.at {w w' : World} (e : Ext w w') {m : Nat} {ob : Obj} (h : w.heap[m]? = some ob) : w'.heap[m]? = some ob := by rw [e.same m (heap_lt h)]; exact h
theorem Ext.cell {w w' : World} (e : Ext w w') {m o : Nat} {v : Value} (h : w.cell? ⟨m, o, none⟩ = some v) : w'.cell? ⟨m, o, none⟩ = some v := by
  rw [cell_of_heap (e.same m (World.block_lt_of_cell? _ _ h))]; exact h

theorem box_cells {w : World} {S : Nat → Prop} {hp : Heap} (r : HRel w S hp) {b : Bk} {cs : List AV} (f : Fnd hp b (.cells cs)) : (∀ c ∈ cs, c.one = true) ∧ ∃ m vs E, b.blk = some m ∧ w.heap[m]? = some (.cells vs E (0, 0)) ∧ vs.size = cs.length ∧ AtA w S cs vs :=
  r.holds _ f.mem

theorem cell_at {w : World} {m : Nat} {vs : Array Value} {E : TypeId} (h : w.heap[m]? = some (.cells vs E (0, 0))) (o : Nat) : w.cell? ⟨m, o, none⟩ = vs[o]? := cell_of_row w m o vs E (0, 0) h

theorem q_load_ptr {t : TypeId} {D : TypeDesc} {x : Operand} {b : Bk} {o : Nat} {cs : List AV} {av : AV} [TUnder P t D] (hD : TypeDesc.isAggB D = false) (hx : evA tm x = some (.ptr b o)) (f : Fnd hp b (.cells cs)) (ho : cs[o]? = some av) : QV P ⟨some d, .load t x, ty, pos, af, none⟩ ⟨n, tm, hp⟩ (av) :=
  (fun w S a r => by
    obtain ⟨m, h1, h2⟩ := (evA_at (σ := ⟨n, tm, hp⟩) r hx).ptr_inv
    obtain ⟨_, m', vs, E, g1, g2, g3, g4⟩ := box_cells r.hp f
    obtain rfl : m' = m := by rw [g1] at h1; exact Option.some.inj h1
    have hlt : o < vs.size := by rw [g3]; exact (List.getElem?_eq_some_iff.1 ho).1
    have hv : vs[o]? = some vs[o] := by simp [hlt]
    refine ⟨vs[o], fun w1 ex => ?_, g4 o av _ ho hv⟩
    have := run_loadVar_one (P := P) (TUnder.h (P := P) (t := t)) hD (w := w1) (ad := ⟨m', o, none⟩) (v := vs[o]) (by rw [cell_at (ex.at g2), hv])
    simp [execOp, h2, Instr.loadAt, Instr.sureAddr, this])

theorem q_load_ptr_all {t : TypeId} {D : TypeDesc} {i : TypeInfo} {x : Operand} {b : Bk} {cs : List AV} [TUnder P t D] [TInfo P t i] (hD : TypeDesc.isAggB D = true) (hx : evA tm x = some (.ptr b 0)) (f : Fnd hp b (.cells cs)) (ho : Nat.beq cs.length i.size = true) : QV P ⟨some d, .load t x, ty, pos, af, none⟩ ⟨n, tm, hp⟩ (.agg cs) :=
  (fun w S a r => by
    obtain ⟨m, h1, h2⟩ := (evA_at (σ := ⟨n, tm, hp⟩) r hx).ptr_inv
    obtain ⟨_, m', vs, E, g1, g2, g3, g4⟩ := box_cells r.hp f
    obtain rfl : m' = m := by rw [g1] at h1; exact Option.some.inj h1
    have hlen : vs.toList.length = i.size := by simp [g3]; exact Nat.eq_of_beq_eq_true ho
    refine ⟨.agg vs, fun w1 ex => ?_, .agg cs vs g3.symm g4⟩
    have := run_loadVar_agg (P := P) (TUnder.h (P := P) (t := t)) hD (TInfo.h (P := P) (t := t)) (w := w1) (ad := ⟨m', 0, none⟩) (vs := vs.toList) hlen (fun j v hv => by rw [add_at, cell_at (ex.at g2)]; simpa using hv)
    simp [execOp, h2, Instr.loadAt, Instr.sureAddr, this])

theorem q_load_ptr_part {t : TypeId} {D : TypeDesc} {i : TypeInfo} {x : Operand} {b : Bk} {o : Nat} {cs : List AV} [TUnder P t D] [TInfo P t i] (hD : TypeDesc.isAggB D = true) (hx : evA tm x = some (.ptr b o)) (f : Fnd hp b (.cells cs)) (ho : Nat.ble (o + i.size) cs.length = true) : QV P ⟨some d, .load t x, ty, pos, af, none⟩ ⟨n, tm, hp⟩ (.agg ((cs.drop o).take i.size)) :=
  (fun w S a r => by
    obtain ⟨m, h1, h2⟩ := (evA_at (σ := ⟨n, tm, hp⟩) r hx).ptr_inv
    obtain ⟨_, m', vs, E, g1, g2, g3, g4⟩ := box_cells r.hp f
    obtain rfl : m' = m := by rw [g1] at h1; exact Option.some.inj h1
    have hle : o + i.size ≤ cs.length := Nat.le_of_ble_eq_true ho
    have hlen : ((vs.toList.drop o).take i.size).length = i.size := by simp [g3]; omega
    refine ⟨.agg ((vs.toList.drop o).take i.size).toArray, fun w1 ex => ?_, .agg _ _ (by simp [g3]) (fun j c v hc hv => ?_)⟩
    · have := run_loadVar_agg (P := P) (TUnder.h (P := P) (t := t)) hD (TInfo.h (P := P) (t := t)) (w := w1) (ad := ⟨m', o, none⟩) (vs := (vs.toList.drop o).take i.size) hlen (fun j v hv => by
        rw [add_at, cell_at (ex.at g2)]
        simp only [List.getElem?_take, List.getElem?_drop] at hv
        split at hv
        · simpa using hv
        · cases hv)
      simp [execOp, h2, Instr.loadAt, Instr.sureAddr, this]
    · simp only [List.getElem?_toArray, List.getElem?_take, List.getElem?_drop] at hc hv
      split at hv
      · rename_i hlt; rw [if_pos hlt] at hc; exact g4 (o + j) c v hc (by simpa using hv)
      · cases hv)

theorem q_load_rptr {t : TypeId} {D : TypeDesc} {x : Operand} {cs : List AV} {av : AV} [TUnder P t D] (hD : TypeDesc.isAggB D = false) (hx : evA tm x = some (.rptr cs)) (ho : cs[0]? = some av) : QV P ⟨some d, .load t x, ty, pos, af, none⟩ ⟨n, tm, hp⟩ (av) :=
  (fun w S a r => by
    obtain ⟨ad, vs, h2, h3, h4, h5, h6, h7⟩ := (evA_at (σ := ⟨n, tm, hp⟩) r hx).rptr_inv
    have hlt : 0 < vs.length := by rw [← h3]; exact (List.getElem?_eq_some_iff.1 ho).1
    have hv : vs[0]? = some vs[0] := by simp [hlt]
    refine ⟨vs[0], fun w1 ex => ?_, h4 0 av _ ho hv⟩
    have hc := ex.cell (h7 0 _ hv)
    have he : (⟨ad.block, ad.off + 0, none⟩ : Addr) = ad := by cases ad; simp at h5; simp [h5]
    rw [he] at hc
    have := run_loadVar_one (P := P) (TUnder.h (P := P) (t := t)) hD hc
    simp [execOp, h2, Instr.loadAt, Instr.sureAddr, this])

theorem q_load_rptr_agg {t : TypeId} {D : TypeDesc} {i : TypeInfo} {x : Operand} {cs : List AV} [TUnder P t D] [TInfo P t i] (hD : TypeDesc.isAggB D = true) (hx : evA tm x = some (.rptr cs)) (ho : Nat.beq cs.length i.size = true) : QV P ⟨some d, .load t x, ty, pos, af, none⟩ ⟨n, tm, hp⟩ (.agg cs) :=
  (fun w S a r => by
    obtain ⟨ad, vs, h2, h3, h4, h5, h6, h7⟩ := (evA_at (σ := ⟨n, tm, hp⟩) r hx).rptr_inv
    refine ⟨.agg vs.toArray, fun w1 ex => ?_, .agg cs _ (by simp [h3]) (fun j c v hc hv => h4 j c v hc (by simpa using hv))⟩
    have := run_loadVar_agg (P := P) (TUnder.h (P := P) (t := t)) hD (TInfo.h (P := P) (t := t)) (w := w1) (ad := ad) (vs := vs) (by rw [← h3]; exact Nat.eq_of_beq_eq_true ho) (fun j v hv => by
      obtain ⟨bk, of, sp⟩ := ad
      simp only at h5; subst h5
      rw [add_at]; exact ex.cell (h7 j v hv))
    simp [execOp, h2, Instr.loadAt, Instr.sureAddr, this])

/-! ### stores into a box -/
def splice (cs : List AV) (o : Nat) (new : List AV) : List AV := cs.take o ++ new ++ cs.drop (o + new.length)

theorem AtA_splice {w : World} {S : Nat → Prop} {cs new : List AV} {vs nvs : Array Value} (o : Nat) (hl : vs.size = cs.length) (h : AtA w S cs vs) (hl' : new.length = nvs.size) (h' : AtA w S new nvs) (ho : o + new.length ≤ cs.length) :
    AtA w S (splice cs o new) (vs.toList.take o ++ nvs.toList ++ vs.toList.drop (o + nvs.toList.length)).toArray := by
  intro i c v hc hv
  simp only [splice, List.getElem?_toArray] at hc hv
  have l1 : (cs.take o).length = o := by simp; omega
  have l2 : (vs.toList.take o).length = o := by simp; omega
  have l3 : nvs.toList.length = new.length := by simp [hl']
  rw [List.append_assoc] at hc hv
  by_cases h1 : i < o
  · rw [List.getElem?_append_left (by omega)] at hc hv
    rw [List.getElem?_take, if_pos h1] at hc hv
    exact h i c v hc (by simpa using hv)
  · rw [List.getElem?_append_right (by omega)] at hc hv
    rw [l1] at hc
    rw [l2] at hv
    by_cases h2 : i - o < new.length
    · rw [List.getElem?_append_left (by omega)] at hc hv
      exact h' (i - o) c v hc (by simpa using hv)
    · rw [List.getElem?_append_right (by omega)] at hc hv
      rw [l3] at hv
      rw [List.getElem?_drop] at hc hv
      rw [show o + new.length + (i - o - new.length) = i from by omega] at hc
      rw [show o + new.length + (i - o - new.length) = i from by omega] at hv
      exact h i c v hc (by simpa using hv)

theorem r_store_ptr {t : TypeId} {i : TypeInfo} {x y : Operand} {b : Bk} {o : Nat} {cs : List AV} {av : AV} {hp' : Heap} [TInfo P t i] (hx : evA tm x = some (.ptr b o)) (hy : evA tm y = some av) (h1 : allOne av.cells = true) (hsz : Nat.beq av.cells.length i.size = true)
    (u : Upd hp b (.cells cs) b (.cells (splice cs o av.cells)) hp') (ho : Nat.ble (o + av.cells.length) cs.length = true) (kk : ARun P all rest ⟨n, tm, hp'⟩ Q) : ARun P all (⟨none, .store t x y, ty, pos, af, none⟩ :: rest) ⟨n, tm, hp⟩ Q := by
  refine ARun.act rfl rfl (σ' := ⟨n, tm, hp'⟩) (fun w S a r => ?_) kk
  obtain ⟨m, e1, e2⟩ := (evA_at (σ := ⟨n, tm, hp⟩) r hx).ptr_inv
  obtain ⟨g0, m', vs, E, g1, g2, g3, g4⟩ := box_cells r.hp u.fnd
  obtain rfl : m' = m := by rw [g1] at e1; exact Option.some.inj e1
  have hv := evA_at (σ := ⟨n, tm, hp⟩) r hy
  obtain ⟨hl, hat⟩ := cells_at hv (allOne_spec h1)
  have hle : o + av.cells.length ≤ cs.length := Nat.le_of_ble_eq_true ho
  have hone := one_vals hl hat (allOne_spec h1)
  have hst := run_storeCells_at (P := P) m' o E (a.eval y).cells.toList 0 vs w g2 (by simp; omega) hone
  simp only [Nat.add_zero] at hst
  have hsize : (a.eval y).cells.size = i.size := by rw [← hl]; exact Nat.eq_of_beq_eq_true hsz
  have hspl := fun (w' : World) (ha : AtA w' S cs vs) (hb : AtA w' S av.cells (a.eval y).cells) => AtA_splice o g3 ha hl hb hle
  have hspl2 : (vs.toList.take o ++ (a.eval y).cells.toList ++ vs.toList.drop (o + (a.eval y).cells.toList.length)).toArray.size = (splice cs o av.cells).length := by
    simp [splice]; omega
  generalize (vs.toList.take o ++ (a.eval y).cells.toList ++ vs.toList.drop (o + (a.eval y).cells.toList.length)).toArray = vs' at hst hspl hspl2
  have c : GB w (w.setRow m' vs') b.blk := ⟨⟨rfl, rfl, rfl, by simp, fun k hk hne => setRow_other w m' k _ (fun e => hne (by rw [e1, e]))⟩, fun _ => Nat.le_refl _⟩
  have k1 : ∀ n, S n → S n ∧ (w.setRow m' vs').heap[n]? = w.heap[n]? := by
    intro k hk
    refine ⟨hk, setRow_other w m' k _ (fun e => ?_)⟩
    subst e
    exact (r.hp.sep _ u.fnd.mem k (eb_of e1)).1 hk
  have hh := upd_rel r.hp u c id id ⟨?_, m', vs', E, e1, setRow_heap w m' vs _ E _ g2, hspl2, hspl _ (g4.mono k1) (hat.mono k1)⟩ (.inl rfl)
  · refine ⟨w.setRow m' vs', S, ?_, r.heap hh.2.2 hh.1, hh.2.1⟩
    simp [execOp, e2, Instr.storeAt, Instr.sureAddr, storeVar, sizeOf, typeInfo, TInfo.h (P := P) (t := t), hsize, hst]
  · intro c hc
    simp only [splice, List.mem_append] at hc
    rcases hc with (hc | hc) | hc
    · exact g0 c (List.mem_of_mem_take hc)
    · exact allOne_spec h1 c hc
    · exact g0 c (List.mem_of_mem_drop hc)

end rules
end Go.Eng

/- The engine, part 5: rules for slices: elements, literals, append; calls. No program in sight. -/
set_option linter.unusedVariables false
set_option linter.unusedSectionVars false
namespace Go.Eng
open Go
variable [GTab]

/-! ### elements of slices -/
def getI (xs : List AV) (i : Int) : Option AV := if 0 ≤ i then xs[i.toNat]? else none

theorem getI_spec {xs : List AV} {i : Int} {x : AV} (h : getI xs i = some x) : 0 ≤ i ∧ i < xs.length ∧ xs[i.toNat]? = some x := by
  unfold getI at h
  split at h
  · rename_i h0
    have := (List.getElem?_eq_some_iff.1 h).1
    exact ⟨h0, by omega, h⟩
  · cases h

theorem run_indexAt {P : Program} {t e : TypeId} {i : TypeInfo} (ht : P.underlying t = some (.slice e)) (hi : P.info? e = some i) (ad : Addr) (len cap : Nat) (k : IntKind) (j : Int) (h0 : 0 ≤ j) (h1 : j < len) (w : World) :
    (Instr.indexAt t (.slice (some ad) len cap) (.int k j)).run P w = .ok (.pointer (some (ad.add (j.toNat * i.size)))) w := by
  simp [Instr.indexAt, asIntOf, run_underlying ht, h0, h1, sizeOf, typeInfo, hi]

section rules
variable {P : Program} {all : Array Oper} {rest : List Oper} {n : Nat} {tm : List (Nat × AV)} {hp : Heap} {Q : St → Prop} {d : Nat} {ty : TypeId} {pos : String} {af : Array Edge}

theorem q_index_list {t e : TypeId} {i : TypeInfo} {x y : Operand} {xs : List AV} {k : IntKind} {j : Int} {av : AV} {sz : Nat} [TUnder P t (.slice e)] [TInfo P e i] (hx : evA tm x = some (.list sz xs)) (hsz : Nat.beq i.size sz = true) (hy : evA tm y = some (.int k j))
    (hg : getI xs j = some av) (h0 : Nat.blt 0 sz = true) : QV P ⟨some d, .indexAddr t x y, ty, pos, af, none⟩ ⟨n, tm, hp⟩ (.rptr av.cells) :=
  (fun w S a r => by
    obtain rfl : i.size = sz := Nat.eq_of_beq_eq_true hsz
    obtain ⟨g0, g1, g2⟩ := getI_spec hg
    obtain ⟨oa, cap, vs, e1, e2, e3, e4, e5, e6⟩ := (evA_at (σ := ⟨n, tm, hp⟩) r hx).list_inv
    have hpos : 0 < i.size := by simpa using h0
    have hav : av ∈ xs := List.mem_of_getElem? g2
    have hfl := flat_length e2
    have hjl : j.toNat < xs.length := by omega
    have hmul : (j.toNat + 1) * i.size ≤ xs.length * i.size := Nat.mul_le_mul_right _ (by omega)
    rw [Nat.add_mul, Nat.one_mul] at hmul
    have hb : j.toNat * i.size < vs.length := by rw [← e3, hfl]; omega
    obtain ⟨ad, rfl, hsp, hS, _⟩ := e5 (j.toNat * i.size) _ (List.getElem?_eq_getElem hb)
    obtain ⟨bk, of, sp⟩ := ad
    simp only at hsp hS
    subst hsp
    refine ⟨.pointer (some ⟨bk, of + j.toNat * i.size, none⟩), fun w1 _ => ?_, .rptr _ _ ((vs.drop (j.toNat * i.size)).take i.size) ?_ ?_ rfl hS ?_⟩
    · have := run_indexAt (P := P) (TUnder.h (P := P) (t := t)) (TInfo.h (P := P) (t := e)) ⟨bk, of, none⟩ xs.length cap k j g0 g1 w1
      rw [add_at] at this
      simp [execOp, e1, (evA_at (σ := ⟨n, tm, hp⟩) r hy).int_inv, this]
    · rw [(e2 av hav).1]; simp; omega
    · intro q c u hc hu
      have hq : q < i.size := by rw [← (e2 av hav).1]; exact (List.getElem?_eq_some_iff.1 hc).1
      have hf := flat_get e2 g2 q hq
      rw [hc] at hf
      rw [List.getElem?_take, if_pos hq, List.getElem?_drop] at hu
      exact e4 _ c u hf hu
    · intro q u hu
      rw [List.getElem?_take] at hu
      split at hu
      · rw [List.getElem?_drop] at hu
        obtain ⟨ad', h1, h2, h3, h4⟩ := e5 _ u hu
        obtain rfl := Option.some.inj h1
        simpa [Nat.add_assoc] using h4
      · cases hu)

theorem q_index_sl {t e : TypeId} {i : TypeInfo} {x y : Operand} {k : IntKind} {j : Int} {sz off len : Nat} {b : Bk} [TUnder P t (.slice e)] [TInfo P e i] (hx : evA tm x = some (.sl sz b off len)) (hsz : Nat.beq i.size sz = true) (hy : evA tm y = some (.int k j))
    (h0 : 0 ≤ j ∧ j < (len : Int)) : QV P ⟨some d, .indexAddr t x y, ty, pos, af, none⟩ ⟨n, tm, hp⟩ (.aptr sz b (off + j.toNat) 0) :=
  (fun w S a r => by
    obtain rfl : i.size = sz := Nat.eq_of_beq_eq_true hsz
    obtain ⟨oa, cap, e1, e2⟩ := (evA_at (σ := ⟨n, tm, hp⟩) r hx).sl_inv
    rcases e2 with ⟨_, _, hl, _⟩ | ⟨m, hb, rfl, h1, h2⟩ | ⟨m, ad, hb, _, hl, _⟩
    · omega
    · refine ⟨.pointer (some ⟨m, (off + j.toNat) * i.size + 0, none⟩), fun w1 _ => ?_, .aptr _ _ _ _ m hb⟩
      have := run_indexAt (P := P) (TUnder.h (P := P) (t := t)) (TInfo.h (P := P) (t := e)) ⟨m, off * i.size, none⟩ len cap k j h0.1 h0.2 w1
      rw [add_at, ← Nat.add_mul] at this
      simp [execOp, e1, (evA_at (σ := ⟨n, tm, hp⟩) r hy).int_inv, this]
    · omega)

/-- The memory of an array that the state holds. -/
theorem arr_cells {w : World} {S : Nat → Prop} {hp : Heap} (r : HRel w S hp) {b : Bk} {sz : Nat} {xs : List AV} (f : Fnd hp b (.arr sz xs) ∨ Fnd hp b (.fro sz xs)) : (∀ x ∈ xs, El sz x) ∧ xs.length ≤ b.cap ∧
    ((b.blk = none ∧ b.cap = 0) ∨ ∃ m vs E, b.blk = some m ∧ w.heap[m]? = some (.cells vs E (0, 0)) ∧ vs.size = b.cap * sz ∧ AtA w S (flat xs) vs) := by
  rcases f with f | f <;> exact r.holds _ f.mem

theorem q_load_aptr {t : TypeId} {D : TypeDesc} {x : Operand} {b : Bk} {sz q o : Nat} {xs : List AV} {el av : AV} [TUnder P t D] (hD : TypeDesc.isAggB D = false) (hx : evA tm x = some (.aptr sz b q o)) (f : Fnd hp b (.arr sz xs) ∨ Fnd hp b (.fro sz xs))
    (hq : xs[q]? = some el) (ho : el.cells[o]? = some av) : QV P ⟨some d, .load t x, ty, pos, af, none⟩ ⟨n, tm, hp⟩ (av) :=
  (fun w S a r => by
    obtain ⟨m, h1, h2⟩ := (evA_at (σ := ⟨n, tm, hp⟩) r hx).aptr_inv
    obtain ⟨g0, g1, ⟨g2, _⟩ | ⟨m', vs, E, g2, g3, g4, g5⟩⟩ := arr_cells r.hp f
    · rw [g2] at h1; cases h1
    · obtain rfl : m' = m := by rw [g2] at h1; exact Option.some.inj h1
      have hel := g0 el (List.mem_of_getElem? hq)
      have hos : o < sz := by rw [← hel.1]; exact (List.getElem?_eq_some_iff.1 ho).1
      have hqx : q < xs.length := (List.getElem?_eq_some_iff.1 hq).1
      have hf := flat_get g0 hq o hos
      rw [ho] at hf
      have hmul : (q + 1) * sz ≤ b.cap * sz := Nat.mul_le_mul_right _ (by omega)
      rw [Nat.add_mul, Nat.one_mul] at hmul
      have hlt : q * sz + o < vs.size := by omega
      have hv : vs[q * sz + o]? = some vs[q * sz + o] := by simp [hlt]
      refine ⟨vs[q * sz + o], fun w1 ex => ?_, g5 _ av _ hf hv⟩
      have := run_loadVar_one (P := P) (TUnder.h (P := P) (t := t)) hD (w := w1) (ad := ⟨m', q * sz + o, none⟩) (v := vs[q * sz + o]) (by rw [cell_at (ex.at g3), hv])
      simp [execOp, h2, Instr.loadAt, Instr.sureAddr, this])

theorem q_load_aptr_agg {t : TypeId} {D : TypeDesc} {i : TypeInfo} {x : Operand} {b : Bk} {sz q : Nat} {xs cs : List AV} [TUnder P t D] [TInfo P t i] (hD : TypeDesc.isAggB D = true) (hx : evA tm x = some (.aptr sz b q 0)) (f : Fnd hp b (.arr sz xs) ∨ Fnd hp b (.fro sz xs)) (hsz : Nat.beq i.size sz = true)
    (hq : xs[q]? = some (.agg cs)) : QV P ⟨some d, .load t x, ty, pos, af, none⟩ ⟨n, tm, hp⟩ (.agg cs) :=
  (fun w S a r => by
    obtain ⟨m, h1, h2⟩ := (evA_at (σ := ⟨n, tm, hp⟩) r hx).aptr_inv
    obtain ⟨g0, g1, ⟨g2, _⟩ | ⟨m', vs, E, g2, g3, g4, g5⟩⟩ := arr_cells r.hp f
    · rw [g2] at h1; cases h1
    · obtain rfl : m' = m := by rw [g2] at h1; exact Option.some.inj h1
      have hel := g0 (.agg cs) (List.mem_of_getElem? hq)
      have hcl : cs.length = sz := hel.1
      have hi : i.size = sz := Nat.eq_of_beq_eq_true hsz
      have hqx : q < xs.length := (List.getElem?_eq_some_iff.1 hq).1
      have hmul : (q + 1) * sz ≤ b.cap * sz := Nat.mul_le_mul_right _ (by omega)
      rw [Nat.add_mul, Nat.one_mul] at hmul
      have hlen : ((vs.toList.drop (q * sz)).take sz).length = i.size := by simp; omega
      refine ⟨.agg ((vs.toList.drop (q * sz)).take sz).toArray, fun w1 ex => ?_, .agg _ _ (by simp; omega) (fun j c v hc hv => ?_)⟩
      · have := run_loadVar_agg (P := P) (TUnder.h (P := P) (t := t)) hD (TInfo.h (P := P) (t := t)) (w := w1) (ad := ⟨m', q * sz + 0, none⟩) (vs := (vs.toList.drop (q * sz)).take sz) hlen (fun j v hv => by
          rw [add_at, cell_at (ex.at g3)]
          simp only [List.getElem?_take, List.getElem?_drop] at hv
          split at hv
          · simpa using hv
          · cases hv)
        simp only [Nat.add_zero] at this
        simp [execOp, h2, Instr.loadAt, Instr.sureAddr, this]
      · simp only [List.getElem?_toArray, List.getElem?_take, List.getElem?_drop] at hv
        split at hv
        · rename_i hlt
          have hf := flat_get g0 hq j hlt
          rw [show (AV.agg cs).cells = cs from rfl, hc] at hf
          exact g5 _ c v hf (by simpa using hv)
        · cases hv)

/-! ### literals: 'T{..}', '[]T{..}' -/
theorem fold_set (off : Nat) : ∀ (l : List Value) (j : Nat) (cs : Array Value), off + j + l.length ≤ cs.size →
    (l.zipIdx j).foldl (fun (cs : Array Value) (p : Value × Nat) => cs.setIfInBounds (off + p.2) p.1) cs = (cs.toList.take (off + j) ++ l ++ cs.toList.drop (off + j + l.length)).toArray
  | [], j, cs, h => by simp
  | v :: l, j, cs, h => by
    simp only [List.length_cons] at h
    rw [List.zipIdx_cons, List.foldl_cons, fold_set off l (j + 1) _ (by simp; omega)]
    have hlt : off + j < cs.size := by omega
    apply Array.ext'
    simp only [Array.toList_setIfInBounds]
    rw [show off + (j + 1) = (off + j) + 1 from by omega]
    rw [List.take_add_one, List.take_set_of_le (Nat.le_refl _), List.drop_set_of_lt (by omega)]
    simp [hlt, List.append_assoc]
    rw [show off + j + 1 + l.length = off + j + (l.length + 1) from by omega]

theorem fill_step {place : Nat → Option (Nat × Nat)} {cells : Array Value} {i off size : Nat} {v : Value} {rest : List (Nat × Value)} (hp : place i = some (off, size)) (hs : v.cells.size = size) (ho : off + size ≤ cells.size) :
    Instr.fill place cells ((i, v) :: rest) = Instr.fill place (cells.toList.take off ++ v.cells.toList ++ cells.toList.drop (off + v.cells.toList.length)).toArray rest := by
  rw [Instr.fill, hp]
  simp only
  rw [if_neg (by simp [hs]; omega)]
  congr 1
  have := fold_set off v.cells.toList 0 cells (by simp [hs]; omega)
  simp only [Nat.add_zero] at this
  rw [← this, ← Array.toList_zipIdx, Array.foldl_toList]

def fillA (pl : List (Nat × Nat)) : List AV → List (Nat × AV) → Option (List AV)
  | cells, [] => some cells
  | cells, (i, v) :: rest => match pl[i]? with
    | none => none
    | some (off, size) => match Nat.beq v.cells.length size && Nat.ble (off + v.cells.length) cells.length && allOne v.cells with
      | true => fillA pl (splice cells off v.cells) rest
      | false => none

def evP (tm : List (Nat × AV)) : List (Nat × Operand) → Option (List (Nat × AV))
  | [] => some []
  | (i, x) :: r => match evA tm x, evP tm r with
    | some a, some l => some ((i, a) :: l)
    | _, _ => none

theorem fillA_run {w : World} {S : Nat → Prop} {σ : St} {a : Act} (r : StRel w S σ a) (pl : List (Nat × Nat)) : ∀ (parts : List (Nat × Operand)) (l : List (Nat × AV)) (cells cells' : List AV) (vs : Array Value), evP σ.tm parts = some l → fillA pl cells l = some cells' →
    cells.length = vs.size → AtA w S cells vs → (∀ c ∈ cells, c.one = true) → ∃ vs', Instr.fill (pl.toArray[·]?) vs (parts.map fun p => (p.1, a.eval p.2)) = some vs' ∧ cells'.length = vs'.size ∧ AtA w S cells' vs' ∧ ∀ c ∈ cells', c.one = true
  | [], l, cells, cells', vs, h1, h2, h3, h4, h5 => by
    simp only [evP, Option.some.injEq] at h1
    subst h1
    simp only [fillA, Option.some.injEq] at h2
    subst h2
    exact ⟨vs, rfl, h3, h4, h5⟩
  | (i, x) :: parts, l, cells, cells', vs, h1, h2, h3, h4, h5 => by
    simp only [evP] at h1
    split at h1
    · rename_i av l' ha hl
      obtain rfl := Option.some.inj h1
      simp only [fillA] at h2
      split at h2
      · cases h2
      · rename_i off size hpl
        split at h2
        · rename_i hc
          simp only [Bool.and_eq_true] at hc
          obtain ⟨⟨c1, c2⟩, c3⟩ := hc
          have c1 := Nat.eq_of_beq_eq_true c1
          have c2 := Nat.le_of_ble_eq_true c2
          obtain ⟨hl1, hl2⟩ := cells_at (evA_at r ha) (allOne_spec c3)
          have hsp := AtA_splice off h3.symm h4 hl1 hl2 c2
          obtain ⟨vs', g1, g2, g3, g4⟩ := fillA_run r pl parts l' (splice cells off av.cells) cells' _ hl h2 (by simp [splice]; omega) hsp (by
            intro c hc
            simp only [splice, List.mem_append] at hc
            rcases hc with (hc | hc) | hc
            · exact h5 c (List.mem_of_mem_take hc)
            · exact allOne_spec c3 c hc
            · exact h5 c (List.mem_of_mem_drop hc))
          refine ⟨vs', ?_, g2, g3, g4⟩
          rw [List.map_cons, fill_step (off := off) (size := size) (by simpa using hpl) (by rw [← hl1]; exact c1) (by omega)]
          exact g1
        · cases h2
    · cases h1

def placesOf (P : Program) : List Field → Option (List (Nat × Nat))
  | [] => some []
  | f :: r => match P.info? f.type, placesOf P r with
    | some i, some l => some ((f.offset, i.size) :: l)
    | _, _ => none

theorem run_places {P : Program} : ∀ (fs : List Field) (pl : List (Nat × Nat)) (w : World), placesOf P fs = some pl → (fs.mapM (fun f => do pure (f.offset, ← sizeOf f.type)) : Sem (List (Nat × Nat))).run P w = .ok pl w
  | [], pl, w, h => by simp [placesOf] at h; subst h; simp
  | f :: fs, pl, w, h => by
    simp only [placesOf] at h
    split at h
    · rename_i i l hi hl
      obtain rfl := Option.some.inj h
      have ih := run_places fs l w hl
      simp only [List.mapM_cons, Sem.run_bind, sizeOf, typeInfo, hi, run_program, Result.andThen_ok, Sem.run_pure] at ih ⊢
      rw [ih]
      simp
    · cases h

class Places (P : Program) (t : TypeId) (pl : outParam (List (Nat × Nat))) : Prop where
  h : ∃ fs, P.underlying t = some (.struct fs) ∧ placesOf P fs.toList = some pl

theorem q_build {t : TypeId} {i : TypeInfo} {z : Value} {parts : List (Nat × Operand)} {l : List (Nat × AV)} {cs : List AV} {pl : List (Nat × Nat)} [TInfo P t i] [Places P t pl] (hz : i.zero = some z) (hl : evP tm parts = some l) (h1 : allOne (zAV z).cells = true)
    (hc : fillA pl (zAV z).cells l = some cs) : QV P ⟨some d, .build t parts.toArray, ty, pos, af, none⟩ ⟨n, tm, hp⟩ (.agg cs) :=
  (fun w S a r => by
    obtain ⟨z1, z2⟩ := zAV_cells_at w S z (allOne_spec h1)
    obtain ⟨vs, g1, g2, g3, g4⟩ := fillA_run (σ := ⟨n, tm, hp⟩) r pl parts l _ _ _ hl hc z1 z2 (allOne_spec h1)
    refine ⟨.agg vs, fun w1 _ => ?_, .agg _ _ g2 g3⟩
    obtain ⟨fs, hu, hpl⟩ := Places.h (P := P) (t := t)
    have hpr := run_places fs.toList pl w1 hpl
    have hpa : (fs.mapM (fun f => do pure (f.offset, ← sizeOf f.type)) : Sem (Array (Nat × Nat))).run P w1 = .ok pl.toArray w1 := by
      have : (fs.mapM (fun f => do pure (f.offset, ← sizeOf f.type)) : Sem (Array (Nat × Nat))) = Functor.map List.toArray (fs.toList.mapM (fun f => do pure (f.offset, ← sizeOf f.type))) := by
        rw [← List.mapM_toArray]
      rw [this, Sem.run_map, hpr]
      rfl
    simp only [execOp, Instr.build, Sem.run_bind, zeroValue, typeInfo, run_program, Result.andThen_ok, TInfo.h (P := P) (t := t), hz, Sem.run_pure, run_underlying hu, hpa]
    have : ((parts.toArray.map fun p => (p.1, a.eval p.2))).toList = parts.map fun p => (p.1, a.eval p.2) := by simp
    simp only [this, g1, Sem.run_pure, Result.andThen_ok])

end rules
end Go.Eng

/- The engine, part 6: rules for slice literals and append. No program in sight. -/
set_option linter.unusedVariables false
set_option linter.unusedSectionVars false
namespace Go.Eng
open Go
variable [GTab]

/-! ### slice literals -/
def elB (sz : Nat) (x : AV) : Bool := Nat.beq x.cells.length sz && allOne x.cells
def allEl (sz : Nat) : List AV → Bool
  | [] => true
  | x :: r => elB sz x && allEl sz r

theorem elB_spec {sz : Nat} {x : AV} (h : elB sz x = true) : El sz x := by
  simp only [elB, Bool.and_eq_true] at h
  exact ⟨Nat.eq_of_beq_eq_true h.1, allOne_spec h.2⟩
theorem allEl_spec {sz : Nat} : ∀ {xs : List AV}, allEl sz xs = true → ∀ x ∈ xs, El sz x
  | [], _, x, hx => by simp at hx
  | y :: r, h, x, hx => by
    simp only [allEl, Bool.and_eq_true] at h
    rcases List.mem_cons.1 hx with rfl | hx
    · exact elB_spec h.1
    · exact allEl_spec h.2 x hx

def evS (tm : List (Nat × AV)) : List (Nat × Operand) → Nat → Option (List AV)
  | [], _ => some []
  | (i, x) :: r, k => match Nat.beq i k, evA tm x, evS tm r (k + 1) with
    | true, some a, some l => some (a :: l)
    | _, _, _ => none

/-- The cells of values, one behind the other. -/
theorem AtA_cons {w : World} {S : Nat → Prop} {cs ds : List AV} {us vs : List Value} (hl : cs.length = us.length) (h1 : AtA w S cs us.toArray) (h2 : AtA w S ds vs.toArray) : AtA w S (cs ++ ds) (us ++ vs).toArray := by
  intro i c v hc hv
  simp only [List.getElem?_toArray] at hv
  by_cases hi : i < cs.length
  · rw [List.getElem?_append_left hi] at hc
    rw [List.getElem?_append_left (by omega)] at hv
    exact h1 i c v hc (by simpa using hv)
  · rw [List.getElem?_append_right (by omega)] at hc
    rw [List.getElem?_append_right (by omega), ← hl] at hv
    exact h2 _ c v hc (by simpa using hv)

theorem fill_seq {w : World} {S : Nat → Prop} {σ : St} {a : Act} (r : StRel w S σ a) (size : Nat) : ∀ (parts : List (Nat × Operand)) (k : Nat) (xs : List AV) (cells : Array Value), evS σ.tm parts k = some xs → (∀ x ∈ xs, El size x) → cells.size = (k + parts.length) * size →
    ∃ vs : List Value, Instr.fill (fun i => some (i * size, size)) cells (parts.map fun p => (p.1, a.eval p.2)) = some (cells.toList.take (k * size) ++ vs).toArray ∧ vs.length = xs.length * size ∧ xs.length = parts.length ∧ AtA w S (flat xs) vs.toArray
  | [], k, xs, cells, h1, h2, h3 => by
    simp only [evS, Option.some.injEq] at h1
    subst h1
    refine ⟨[], ?_, by simp, rfl, fun i c v hc => by simp [flat] at hc⟩
    simp only [List.length_nil, Nat.add_zero] at h3
    simp only [Instr.fill, List.map_nil, ← h3, Option.some.injEq, List.append_nil]
    rw [List.take_of_length_le (by simp)]
  | (i, x) :: parts, k, xs, cells, h1, h2, h3 => by
    simp only [evS] at h1
    split at h1
    · rename_i av l hi ha hl
      obtain rfl : i = k := Nat.eq_of_beq_eq_true hi
      obtain rfl := Option.some.inj h1
      have hel := h2 av (by simp)
      obtain ⟨c1, c2⟩ := cells_at (evA_at r ha) hel.2
      simp only [List.length_cons] at h3
      have hsz : (a.eval x).cells.size = size := by rw [← c1]; exact hel.1
      have e1 : (i + (parts.length + 1)) * size = i * size + size + parts.length * size := by rw [Nat.add_mul, Nat.add_mul, Nat.one_mul]; omega
      have hle : i * size + size ≤ cells.size := by rw [h3, e1]; omega
      obtain ⟨vs, g1, g2, g3, g4⟩ := fill_seq r size parts (i + 1) l (cells.toList.take (i * size) ++ (a.eval x).cells.toList ++ cells.toList.drop (i * size + (a.eval x).cells.toList.length)).toArray hl (fun y hy => h2 y (by simp [hy])) (by
        simp [hsz]; rw [show i + 1 + parts.length = i + (parts.length + 1) from by omega, e1]; omega)
      refine ⟨(a.eval x).cells.toList ++ vs, ?_, ?_, by simp [g3], ?_⟩
      · rw [List.map_cons, fill_step (off := i * size) (size := size) rfl hsz hle, g1]
        congr 2
        have l1 : (cells.toList.take (i * size)).length = i * size := by simp; omega
        have l2 : (a.eval x).cells.toList.length = size := by simp [hsz]
        rw [← List.append_assoc]
        congr 1
        rw [show (i + 1) * size = (cells.toList.take (i * size) ++ (a.eval x).cells.toList).length from by rw [List.length_append, l1, l2, Nat.add_mul, Nat.one_mul]]
        exact List.take_left
      · simp [g2, hsz, Nat.add_mul]; omega
      · rw [flat_cons]
        exact AtA_cons (by simpa using c1) (by simpa using c2) g4
    · cases h1

section rules
variable {P : Program} {all : Array Oper} {rest : List Oper} {n : Nat} {tm : List (Nat × AV)} {hp : Heap} {Q : St → Prop} {d : Nat} {ty : TypeId} {pos : String} {af : Array Edge}

theorem run_newRow {P : Program} (w : World) (E : TypeId) (vs : Array Value) : (newRow E vs).run P w = .ok ⟨w.heap.size, 0, none⟩ (w.alloc (.cells vs E)) := by simp [newRow]

theorem r_buildSlice {t e : TypeId} {i : TypeInfo} {z : Value} {len : Nat} {parts : List (Nat × Operand)} {xs : List AV} [TUnder P t (.slice e)] [TInfo P e i] (hz : i.zero = some z) (hl : evS tm parts 0 = some xs) (hlen : Nat.beq parts.length len = true) (hel : allEl i.size xs = true)
    (h24 : Nat.ble (len * i.size) 16777216 = true) (hn : Nat.blt d n = true) (kk : ∀ b : Bk, ARun P all rest ⟨n, (d, .sl i.size b 0 len) :: tm, (b, .arr i.size xs) :: hp⟩ Q) : ARun P all (⟨some d, .buildSlice t len parts.toArray, ty, pos, af, none⟩ :: rest) ⟨n, tm, hp⟩ Q := by
  refine ARun.opx rfl fun w S a r => ?_
  obtain rfl : parts.length = len := Nat.eq_of_beq_eq_true hlen
  have h24 := Nat.le_of_ble_eq_true h24
  obtain ⟨zz, hzz⟩ : ∃ zz : Array Value, zz = if parts.length * i.size = 0 then #[] else z.cells := ⟨_, rfl⟩
  obtain ⟨vs, g1, g2, g3, g4⟩ := fill_seq (σ := ⟨n, tm, hp⟩) r i.size parts 0 xs ((Array.range (parts.length * i.size)).map (zz[· % zz.size]!)) hl (allEl_spec hel) (by simp)
  simp only [Nat.zero_mul, List.take_zero, List.nil_append] at g1
  have e0 := Ext.alloc w (.cells vs.toArray e)
  have hh : Holds (w.alloc (.cells vs.toArray e)) S ⟨some w.heap.size, parts.length⟩ (.arr i.size xs) := by
    refine ⟨allEl_spec hel, by simp [g3], .inr ⟨w.heap.size, vs.toArray, e, rfl, ?_, by simp [g2, g3], g4.mono fun m hm => ⟨hm, e0.same m (r.hp.slt m hm)⟩⟩⟩
    show (w.heap.push _)[w.heap.size]? = _
    simp
  obtain ⟨k1, k2, k3⟩ := add_rel r.hp e0 id hh (.inr ⟨_, rfl, Nat.le_refl _⟩)
  refine ⟨.slice (some ⟨w.heap.size, 0, none⟩) parts.length parts.length, w.alloc (.cells vs.toArray e), S, _, ?_, (r.heap k3 k1).put hn ?_, k2, kk ⟨some w.heap.size, parts.length⟩⟩
  · have hm : ((parts.toArray.map fun p => (p.1, a.eval p.2))).toList = parts.map fun p => (p.1, a.eval p.2) := by simp
    simp only [execOp, Instr.buildSlice, Sem.run_bind, run_underlying (TUnder.h (P := P) (t := t)), Result.andThen_ok, sizeOf, typeInfo, run_program, TInfo.h (P := P) (t := e), Sem.run_pure]
    rw [if_neg (by omega)]
    by_cases h0 : parts.length * i.size = 0
    · rw [if_pos h0] at hzz ⊢
      subst hzz
      simp only [Sem.run_bind, Result.andThen_ok, Sem.run_pure, hm, g1, run_newRow]
    · rw [if_neg h0] at hzz ⊢
      subst hzz
      simp only [Sem.run_bind, Result.andThen_ok, Sem.run_pure, zeroValue, typeInfo, run_program, TInfo.h (P := P) (t := e), hz, hm, g1, run_newRow]
  · have := At.sl (w := w.alloc (.cells vs.toArray e)) (S := S) i.size ⟨some w.heap.size, parts.length⟩ 0 parts.length w.heap.size parts.length rfl (Nat.le_refl _) (by simp)
    simpa using this

/-! ### append -/
def SrcV (w : World) (S : Nat → Prop) (sz : Nat) (ys : List AV) (v : Value) : Prop :=
  (∀ y ∈ ys, El sz y) ∧ ∃ (a : Option Addr) (c : Nat) (nvs : List Value), v = .slice a ys.length c ∧ nvs.length = ys.length * sz ∧ AtA w S (flat ys) nvs.toArray ∧ ∀ (i : Nat) u, nvs[i]? = some u → ∃ ad, a = some ad ∧ w.cell? (ad.add i) = some u

/-- What a slice value reads as, in the state. -/
inductive Src (hp : Heap) (sz : Nat) : AV → List AV → Prop
  | nil : Src hp sz .nil []
  | list (ys : List AV) : Src hp sz (.list sz ys) ys
  | whole (b : Bk) (len : Nat) (xs : List AV) (f : Fnd hp b (.arr sz xs) ∨ Fnd hp b (.fro sz xs)) (h : len = xs.length) : Src hp sz (.sl sz b 0 len) xs
  | part (b : Bk) (off len : Nat) (xs : List AV) (f : Fnd hp b (.arr sz xs) ∨ Fnd hp b (.fro sz xs)) (h : off + len ≤ xs.length) : Src hp sz (.sl sz b off len) ((xs.drop off).take len)

theorem flat_drop {sz : Nat} : ∀ (xs : List AV) (k : Nat), (∀ x ∈ xs, El sz x) → flat (xs.drop k) = (flat xs).drop (k * sz)
  | xs, 0, _ => by simp
  | [], k + 1, _ => by simp [flat]
  | x :: xs, k + 1, h => by
    rw [List.drop_succ_cons, flat_drop xs k (fun y hy => h y (by simp [hy])), flat_cons, Nat.add_mul, Nat.one_mul, Nat.add_comm (k * sz), ← List.drop_drop]
    rw [List.drop_left' ((h x (by simp)).1)]

theorem flat_take {sz : Nat} : ∀ (xs : List AV) (k : Nat), (∀ x ∈ xs, El sz x) → flat (xs.take k) = (flat xs).take (k * sz)
  | xs, 0, _ => by simp [flat]
  | [], k + 1, _ => by simp [flat]
  | x :: xs, k + 1, h => by
    rw [List.take_succ_cons, flat_cons, flat_take xs k (fun y hy => h y (by simp [hy])), flat_cons, Nat.add_mul, Nat.one_mul, Nat.add_comm (k * sz)]
    have hx := (h x (by simp)).1
    rw [List.take_append, List.take_of_length_le (l := x.cells) (by omega), hx, Nat.add_sub_cancel_left]

theorem srcV_part {w : World} {S : Nat → Prop} {hp : Heap} (r : HRel w S hp) {b : Bk} {sz off len : Nat} {xs : List AV} {v : Value} (f : Fnd hp b (.arr sz xs) ∨ Fnd hp b (.fro sz xs)) (hle : off + len ≤ xs.length) (h : At w S (.sl sz b off len) v) :
    SrcV w S sz ((xs.drop off).take len) v := by
  obtain ⟨g0, g1, g2⟩ := arr_cells r f
  have hmem : ∀ y ∈ (xs.drop off).take len, El sz y := fun y hy => g0 y (List.mem_of_mem_drop (List.mem_of_mem_take hy))
  have hlen : ((xs.drop off).take len).length = len := by simp; omega
  obtain ⟨oa, cap, e1, e2⟩ := h.sl_inv
  refine ⟨hmem, ?_⟩
  rw [hlen, e1]
  rcases e2 with ⟨_, _, hl, ha, hc⟩ | ⟨m, hb, ha, h1, h2⟩ | ⟨m, ad, hb, ha, hl, hc⟩
  · subst hl
    exact ⟨oa, cap, [], rfl, by simp, fun i c v hc hv => by simp at hv, fun i u hu => by simp at hu⟩
  · rcases g2 with ⟨g2, _⟩ | ⟨m', vs, E, g2, g3, g4, g5⟩
    · rw [g2] at hb; cases hb
    · obtain rfl : m' = m := by rw [g2] at hb; exact Option.some.inj hb
      subst ha
      have hb1 : (off + len) * sz ≤ b.cap * sz := Nat.mul_le_mul_right _ (by omega)
      rw [Nat.add_mul] at hb1
      refine ⟨_, cap, (vs.toList.drop (off * sz)).take (len * sz), rfl, by simp; omega, ?_, ?_⟩
      · rw [flat_take _ _ (fun y hy => g0 y (List.mem_of_mem_drop hy)), flat_drop _ _ g0]
        intro i c v hc hv
        simp only [List.getElem?_toArray, List.getElem?_take, List.getElem?_drop] at hc hv
        split at hv
        · rename_i hlt
          rw [if_pos hlt] at hc
          exact g5 _ c v hc (by simpa using hv)
        · cases hv
      · intro i u hu
        refine ⟨_, rfl, ?_⟩
        rw [add_at, cell_at g3]
        simp only [List.getElem?_take, List.getElem?_drop] at hu
        split at hu
        · simpa using hu
        · cases hu
  · subst hl
    exact ⟨oa, cap, [], rfl, by simp, fun i c v hc hv => by simp at hv, fun i u hu => by simp at hu⟩

theorem Src.at {w : World} {S : Nat → Prop} {hp : Heap} {sz : Nat} {av : AV} {ys : List AV} {v : Value} (s : Src hp sz av ys) (r : HRel w S hp) (h : At w S av v) : SrcV w S sz ys v := by
  cases s with
  | nil => exact ⟨by simp, none, 0, [], h.nil_inv, by simp, fun i c v hc hv => by simp at hv, fun i u hu => by simp at hu⟩
  | list ys =>
    obtain ⟨a, cap, vs, e1, e2, e3, e4, e5, e6⟩ := h.list_inv
    refine ⟨e2, a, cap, vs, e1, by rw [← e3, flat_length e2], fun i c v hc hv => e4 i c v hc (by simpa using hv), fun i u hu => ?_⟩
    obtain ⟨ad, h1, h2, h3, h4⟩ := e5 i u hu
    refine ⟨ad, h1, ?_⟩
    obtain ⟨bk, of, sp⟩ := ad
    simp only at h2; subst h2
    rw [add_at]; exact h4
  | whole b len xs f hl =>
    subst hl
    have := srcV_part r (off := 0) (len := ys.length) f (by omega) h
    simpa using this
  | part b off len xs f hle => exact srcV_part r f hle h

theorem run_append_none {P : Program} {t e : TypeId} {i : TypeInfo} (ht : P.underlying t = some (.slice e)) (hi : P.info? e = some i) (ob a : Option Addr) (sLen sCap c : Nat) (h : sLen ≤ sCap) (w : World) :
    (Builtin.append_ #[t, t] ty #[.slice ob sLen sCap, .slice a 0 c]).run P w = .ok (.slice ob sLen sCap) w := by
  cases a <;> cases ob <;> simp [Builtin.append_, run_underlying ht, sizeOf, typeInfo, hi, Builtin.lenOf, h, Builtin.firstCells, loadCells, loadCellsFrom, storeCells]

theorem run_append_in {P : Program} {t e E : TypeId} {i : TypeInfo} {w : World} (ht : P.underlying t = some (.slice e)) (hi : P.info? e = some i) (g sLen sCap : Nat) (cur : Array Value) (hg : w.heap[g]? = some (.cells cur E (0, 0)))
    (a : Addr) (m c : Nat) (news : List Value) (hl : news.length = m * i.size) (hnews : ∀ (j : Nat) u, news[j]? = some u → w.cell? (a.add j) = some u) (h1 : ∀ u ∈ news, u.oneCell' = true)
    (hroom : sLen + m ≤ sCap) (hfit : sLen * i.size + news.length ≤ cur.size) :
    (Builtin.append_ #[t, t] ty #[.slice (some ⟨g, 0, none⟩) sLen sCap, .slice (some a) m c]).run P w =
      .ok (.slice (some ⟨g, 0, none⟩) (sLen + m) sCap) (w.setRow g (cur.toList.take (sLen * i.size) ++ news ++ cur.toList.drop (sLen * i.size + news.length)).toArray) := by
  have hf := run_firstCells_some (P := P) w i.size m a m c news hl hnews
  have hst := run_storeCells_at P g (sLen * i.size) E news 0 cur w hg (by simpa using hfit) h1
  simp only [Nat.add_zero] at hst
  simp [Builtin.append_, run_underlying ht, sizeOf, typeInfo, hi, Builtin.lenOf, hroom, hf, Addr.add_lit, hst]

theorem append_run {w : World} {S : Nat → Prop} {hp : Heap} {t e : TypeId} {i : TypeInfo} {z : Value} {b : Bk} {xs ys : List AV} {v1 v2 : Value} (r : HRel w S hp) (ht : P.underlying t = some (.slice e)) (hi : P.info? e = some i) (hz : i.zero = some z) (hzs : z.cells.size = i.size) (h0 : 0 < i.size)
    (f : Fnd hp b (.arr i.size xs)) (hv1 : At w S (.sl i.size b 0 xs.length) v1) (hs : SrcV w S i.size ys v2) (hb : (xs.length + ys.length) * i.bytes ≤ 140737488355328) (h63 : xs.length + ys.length ≤ 9223372036854775807) :
    ∃ v' w' b', (Builtin.append_ #[t, t] ty #[v1, v2]).run P w = .ok v' w' ∧ At w' S (.sl i.size b' 0 (xs.length + ys.length)) v' ∧ GB w w' b.blk ∧ Holds w' S b' (.arr i.size (xs ++ ys)) ∧
      (b'.blk = b.blk ∨ b'.blk = none ∨ ∃ m, b'.blk = some m ∧ w.heap.size ≤ m) := by
  obtain ⟨k0, a, c, nvs, rfl, k1, k2, k3⟩ := hs
  have hold := r.holds _ f.mem
  obtain ⟨g0, g1, g2⟩ := arr_cells r (.inl f)
  obtain ⟨oa, cap, rfl, e2⟩ := hv1.sl_inv
  by_cases hy : ys = []
  · subst hy
    have hle : xs.length ≤ cap := by
      rcases e2 with ⟨_, _, hl, _, _⟩ | ⟨m, hb', ha, h1, h2⟩ | ⟨m, ad, hb', ha, hl, hc⟩ <;> omega
    refine ⟨_, w, b, run_append_none ht hi oa a xs.length cap c hle w, by simpa using hv1, ⟨⟨rfl, rfl, rfl, Nat.le_refl _, fun _ _ _ => rfl⟩, fun _ => Nat.le_refl _⟩, by simpa using hold, .inl rfl⟩
  · have hm : 0 < ys.length := List.length_pos_iff.2 hy
    have hnl : 0 < nvs.length := by rw [k1]; exact Nat.mul_pos hm h0
    obtain ⟨ad, rfl, _⟩ := k3 0 nvs[0] (by simp [hnl])
    have k3' : ∀ (j : Nat) u, nvs[j]? = some u → w.cell? (ad.add j) = some u := fun j u hu => by
      obtain ⟨ad', h1, h2⟩ := k3 j u hu
      obtain rfl := Option.some.inj h1
      exact h2
    have hone : ∀ u ∈ nvs, u.oneCell' = true := one_vals (cs := flat ys) (vs := nvs.toArray) (by simp [k1, flat_length k0]) k2 (flat_one k0)
    have elx : ∀ x ∈ xs ++ ys, El i.size x := fun x hx => by rcases List.mem_append.1 hx with h | h; exact g0 x h; exact k0 x h
    /- a new block -/
    have grown : ∀ (old : Nat) (olds : List Value) (wr : Option Nat), olds.length = xs.length * i.size → AtA w S (flat xs) olds.toArray →
        At (w.drew.alloc (.cells (olds.toArray ++ nvs.toArray ++ Builtin.zeroCells z.cells (grownCap w (xs.length + ys.length) old e - (xs.length + ys.length))) e)) S (.sl i.size ⟨some w.heap.size, grownCap w (xs.length + ys.length) old e⟩ 0 (xs.length + ys.length))
          (.slice (some ⟨w.heap.size, 0, none⟩) (xs.length + ys.length) (grownCap w (xs.length + ys.length) old e)) ∧
        GB w (w.drew.alloc (.cells (olds.toArray ++ nvs.toArray ++ Builtin.zeroCells z.cells (grownCap w (xs.length + ys.length) old e - (xs.length + ys.length))) e)) wr ∧
        Holds (w.drew.alloc (.cells (olds.toArray ++ nvs.toArray ++ Builtin.zeroCells z.cells (grownCap w (xs.length + ys.length) old e - (xs.length + ys.length))) e)) S ⟨some w.heap.size, grownCap w (xs.length + ys.length) old e⟩ (.arr i.size (xs ++ ys)) := by
      intro old olds wr ho1 ho2
      have hge := grownCap_ge w (xs.length + ys.length) old e
      have ex : Ext w (w.drew.alloc (.cells (olds.toArray ++ nvs.toArray ++ Builtin.zeroCells z.cells (grownCap w (xs.length + ys.length) old e - (xs.length + ys.length))) e)) := (Ext.draws w _ (Nat.le_succ _)).trans (Ext.alloc w.drew _)
      generalize grownCap w (xs.length + ys.length) old e = cp at *
      refine ⟨?_, ⟨⟨ex.os, ex.tape, ex.output, ex.size, fun k hk _ => ex.same k hk⟩, ex.drawn⟩, elx, by simpa using hge, .inr ⟨w.heap.size, olds.toArray ++ nvs.toArray ++ Builtin.zeroCells z.cells (cp - (xs.length + ys.length)), e, rfl, ?_, ?_, ?_⟩⟩
      · have := At.sl (w := w.drew.alloc (.cells (olds.toArray ++ nvs.toArray ++ Builtin.zeroCells z.cells (cp - (xs.length + ys.length))) e)) (S := S) i.size ⟨some w.heap.size, cp⟩ 0 (xs.length + ys.length) w.heap.size cp rfl hge (by simp)
        simpa using this
      · show (w.heap.push _)[w.heap.size]? = _
        simp
      · simp only [Array.size_append, List.size_toArray, size_zeroCells, hzs, ho1, k1]
        rw [← Nat.add_mul, ← Nat.add_mul]
        congr 1
        omega
      · rw [flat_append]
        have h2 : AtA w S (flat xs ++ flat ys) (olds ++ nvs).toArray := AtA_cons (by rw [flat_length g0, ho1]) ho2 k2
        intro j c' u hc hu
        have hj : j < (olds ++ nvs).length := by
          have := (List.getElem?_eq_some_iff.1 hc).1
          simp only [List.length_append, flat_length g0, flat_length k0] at this
          simp only [List.length_append, ho1, k1]
          exact this
        have hu' : (olds ++ nvs).toArray[j]? = some u := by
          rw [Array.getElem?_append_left (by simpa using hj)] at hu
          simpa using hu
        exact (h2 j c' u hc hu').mono fun m hm' => ⟨hm', ex.same m (r.slt m hm')⟩
    rcases e2 with ⟨hbn, _, hl, rfl, rfl⟩ | ⟨m, hbm, rfl, h1, h2⟩ | ⟨m, ad', hbm, rfl, hl, rfl⟩
    · have hx : xs = [] := List.eq_nil_of_length_eq_zero hl
      subst hx
      have hr := run_append_nil (P := P) (ty := ty) w t e i z ht hi hz ad ys.length c nvs k1 k3' hm (by simp at h63; omega) (by simp only [List.length_nil, Nat.zero_add] at hb; omega)
      obtain ⟨q1, q2, q3⟩ := grown 0 [] b.blk (by simp) (fun j c' u hc => by simp [flat] at hc)
      simp only [List.length_nil, Nat.zero_add, Array.empty_append] at q1 q2 q3 ⊢
      exact ⟨_, _, _, hr, q1, q2, q3, .inr (.inr ⟨_, rfl, Nat.le_refl _⟩)⟩
    · rcases g2 with ⟨g2, _⟩ | ⟨m', vs, E, g2, g3, g4, g5⟩
      · rw [g2] at hbm; cases hbm
      · obtain rfl : m' = m := by rw [g2] at hbm; exact Option.some.inj hbm
        simp only [Nat.zero_mul, Nat.zero_add] at *
        by_cases hroom : xs.length + ys.length ≤ cap
        · have hmul : (xs.length + ys.length) * i.size ≤ b.cap * i.size := Nat.mul_le_mul_right _ (by omega)
          have hfit : xs.length * i.size + nvs.length ≤ vs.size := by rw [k1, ← Nat.add_mul, g4]; exact hmul
          have hr := run_append_in (P := P) (ty := ty) ht hi m' xs.length cap vs g3 ad ys.length c nvs k1 k3' hone hroom hfit
          have nS : ¬ S m' := fun hs => (r.sep _ f.mem m' (eb_of hbm)).1 hs
          have ex : ∀ k, S k → S k ∧ (w.setRow m' (vs.toList.take (xs.length * i.size) ++ nvs ++ vs.toList.drop (xs.length * i.size + nvs.length)).toArray).heap[k]? = w.heap[k]? := fun k hk => ⟨hk, setRow_other w m' k _ (fun e => nS (e ▸ hk))⟩
          refine ⟨_, _, b, hr, ?_, ⟨⟨rfl, rfl, rfl, by simp, fun k _ hk => setRow_other w m' k _ (fun e => hk (by rw [hbm, e]))⟩, fun _ => Nat.le_refl _⟩, ⟨elx, by simp; omega, .inr ⟨m', (vs.toList.take (xs.length * i.size) ++ nvs ++ vs.toList.drop (xs.length * i.size + nvs.length)).toArray, E, hbm, setRow_heap w m' vs _ E _ g3, ?_, ?_⟩⟩, .inl rfl⟩
          · have := At.sl (w := w.setRow m' (vs.toList.take (xs.length * i.size) ++ nvs ++ vs.toList.drop (xs.length * i.size + nvs.length)).toArray) (S := S) i.size b 0 (xs.length + ys.length) m' cap hbm hroom (by omega)
            simpa using this
          · simp; omega
          · rw [flat_append]
            have hA : AtA w S (flat xs ++ flat ys) (vs.toList.take (xs.length * i.size) ++ nvs).toArray := AtA_cons (by simp [flat_length g0]; omega) (fun j c' u hc hu => by
              simp only [List.getElem?_toArray, List.getElem?_take] at hu
              split at hu
              · exact g5 j c' u hc (by simpa using hu)
              · cases hu) k2
            intro j c' u hc hu
            have hj : j < (vs.toList.take (xs.length * i.size) ++ nvs).length := by
              have := (List.getElem?_eq_some_iff.1 hc).1
              simp only [List.length_append, flat_length g0, flat_length k0] at this
              simp; omega
            simp only [List.getElem?_toArray] at hu
            rw [List.getElem?_append_left hj] at hu
            exact (hA j c' u hc (by simpa using hu)).mono ex
        · have hr := run_append_grow (P := P) (ty := ty) w t e i z ht hi hz ⟨m', 0, none⟩ xs.length cap (vs.toList.take (xs.length * i.size)) (by
            have := Nat.mul_le_mul_right i.size g1
            simp; omega) (fun j u hu => by
              rw [add_at, Nat.zero_add, cell_at g3]
              rw [List.getElem?_take] at hu
              split at hu
              · simpa using hu
              · cases hu) ad ys.length c nvs k1 k3' (by omega) (by omega) (growslice_fits (by omega) hb)
          obtain ⟨q1, q2, q3⟩ := grown cap (vs.toList.take (xs.length * i.size)) b.blk (by
            have := Nat.mul_le_mul_right i.size g1
            simp; omega) (fun j c' u hc hu => by
              simp only [List.getElem?_toArray, List.getElem?_take] at hu
              split at hu
              · exact g5 j c' u hc (by simpa using hu)
              · cases hu)
          exact ⟨_, _, _, hr, q1, q2, q3, .inr (.inr ⟨_, rfl, Nat.le_refl _⟩)⟩
    · have hx : xs = [] := List.eq_nil_of_length_eq_zero hl
      subst hx
      have hr := run_append_grow (P := P) (ty := ty) w t e i z ht hi hz ad' 0 0 [] (by simp) (fun j u hu => by simp at hu) ad ys.length c nvs k1 k3' (by omega) (by simp at h63; omega) (growslice_fits (by omega) (by simpa using hb))
      obtain ⟨q1, q2, q3⟩ := grown 0 [] b.blk (by simp) (fun j c' u hc => by simp [flat] at hc)
      simp only [List.length_nil, Nat.zero_add] at q1 q2 q3 hr ⊢
      exact ⟨_, _, _, hr, q1, q2, q3, .inr (.inr ⟨_, rfl, Nat.le_refl _⟩)⟩

theorem r_append {t e : TypeId} {i : TypeInfo} {z : Value} {x y : Operand} {src : AV} {b : Bk} {len sz : Nat} {xs ys : List AV} {hp' : Bk → Heap} [TUnder P t (.slice e)] [TInfo P e i] (hx : evA tm x = some (.sl sz b 0 len)) (hy : evA tm y = some src) (hz : i.zero = some z)
    (hzs : Nat.beq z.cells.size i.size = true) (hsz : Nat.beq i.size sz = true) (h0 : Nat.blt 0 sz = true) (hn : Nat.blt d n = true) (hs : Src hp sz src ys) (u : ∀ b', Upd hp b (.arr sz xs) b' (.arr sz (xs ++ ys)) (hp' b')) (hlen : len = xs.length)
    (hb : (xs.length + ys.length) * i.bytes ≤ 140737488355328) (h63 : xs.length + ys.length ≤ 9223372036854775807)
    (kk : ∀ b' : Bk, ARun P all rest ⟨n, (d, .sl sz b' 0 (len + ys.length)) :: tm, hp' b'⟩ Q) : ARun P all (⟨some d, .call { callee := .builtin .append, args := #[x, y], argTypes := #[t, t] }, ty, pos, af, none⟩ :: rest) ⟨n, tm, hp⟩ Q := by
  refine ARun.opx rfl fun w S a r => ?_
  subst hlen
  obtain rfl : i.size = sz := Nat.eq_of_beq_eq_true hsz
  obtain ⟨v', w', b', g1, g2, g3, g4, g5⟩ := append_run (P := P) (ty := ty) r.hp (TUnder.h (P := P) (t := t)) (TInfo.h (P := P) (t := e)) hz (Nat.eq_of_beq_eq_true hzs) (by simpa using h0) (u b).fnd (evA_at (σ := ⟨n, tm, hp⟩) r hx) (hs.at r.hp (evA_at (σ := ⟨n, tm, hp⟩) r hy)) hb h63
  obtain ⟨k1, k2, k3⟩ := upd_rel r.hp (u b') g3 id id g4 g5
  refine ⟨v', w', S, _, ?_, (r.heap k3 k1).put hn g2, k2, kk b'⟩
  simp [execOp, resolve, invoke, builtin, g1]

end rules
end Go.Eng

/- The engine, part 7: weakening, loops, calls, regions that draw their order. No program in sight. -/
set_option linter.unusedVariables false
set_option linter.unusedSectionVars false
namespace Go.Eng
open Go
variable [GTab]

/-! ### weakening -/
def ImpX (σ : St) (T : St → Prop) : Prop := ∀ w S a, StRel w S σ a → ∃ σ' S', T σ' ∧ StRel w S' σ' a ∧ Evo w S σ.hp w S' σ'.hp

theorem ImpX.here {σ : St} {T : St → Prop} (h : T σ) : ImpX σ T := fun w S a r => ⟨σ, S, h, r, Evo.refl _ _ _⟩
theorem ImpX.step {σ σ1 : St} {T : St → Prop} (h : ImpX σ (· = σ1)) (k : ImpX σ1 T) : ImpX σ T := by
  intro w S a r
  obtain ⟨σ', S', rfl, r', e⟩ := h w S a r
  obtain ⟨σ2, S2, h2, r2, e2⟩ := k w S' a r'
  exact ⟨σ2, S2, h2, r2, e.trans e2⟩
theorem ImpX.mono {σ : St} {T T' : St → Prop} (h : ImpX σ T) (ht : ∀ σ, T σ → T' σ) : ImpX σ T' := fun w S a r =>
  let ⟨σ', S', h1, h2, h3⟩ := h w S a r
  ⟨σ', S', ht _ h1, h2, h3⟩

def AllIn (tm : List (Nat × AV)) : List (Nat × AV) → Prop
  | [] => True
  | (s, av) :: r => lk tm s = some av ∧ AllIn tm r

theorem AllIn.lk {tm : List (Nat × AV)} : ∀ {tm' : List (Nat × AV)}, AllIn tm tm' → ∀ s av, Eng.lk tm' s = some av → Eng.lk tm s = some av
  | [], _, s, av, h => by simp [Eng.lk] at h
  | (k, v) :: r, h, s, av, hh => by
    simp only [Eng.lk] at hh
    split at hh
    · rename_i hb
      obtain rfl : k = s := by simpa using hb
      obtain rfl := Option.some.inj hh
      exact h.1
    · exact AllIn.lk h.2 s av hh

theorem ImpX.less {n : Nat} {tm tm' : List (Nat × AV)} {hp hp' : Heap} {T : St → Prop} (h : AllIn tm tm') (hs : hp'.Sublist hp) (k : ImpX ⟨n, tm', hp'⟩ T) : ImpX ⟨n, tm, hp⟩ T :=
  ImpX.step (σ1 := ⟨n, tm', hp'⟩) (fun w S a r => ⟨_, S, rfl, r.less ⟨rfl, h.lk, hs⟩, Evo.less (Evo.refl w S hp) fun _ hn => hn.sub hs⟩) k

theorem ImpX.arr {n s : Nat} {tm : List (Nat × AV)} {hp : Heap} {T : St → Prop} (sz : Nat) (hs : lk tm s = some .nil) (k : ∀ b, ImpX ⟨n, (s, .sl sz b 0 0) :: tm, (b, .arr sz []) :: hp⟩ T) : ImpX ⟨n, tm, hp⟩ T := by
  refine ImpX.step (σ1 := ⟨n, (s, .sl sz ⟨none, 0⟩ 0 0) :: tm, (⟨none, 0⟩, .arr sz []) :: hp⟩) (fun w S a r => ?_) (k ⟨none, 0⟩)
  obtain ⟨g1, g2, g3⟩ := add_rel (b := ⟨none, 0⟩) (o := .arr sz []) r.hp (Ext.refl w) id ⟨by simp, by simp, .inl ⟨rfl, rfl⟩⟩ (.inl rfl)
  refine ⟨_, S, rfl, ⟨r.size, r.defers, fun t av h => ?_, g1⟩, g2⟩
  simp only [lk] at h
  split at h
  · rename_i hb
    obtain rfl : s = t := by simpa using hb
    obtain rfl := Option.some.inj h
    obtain ⟨v, h1, h2⟩ := r.tm s _ hs
    cases h2
    exact ⟨_, h1, .slph sz _ rfl⟩
  · exact r.tm t av h

/-- What lies in the state's heap, frozen. -/
theorem ImpX.freeze {n sz : Nat} {tm : List (Nat × AV)} {hp hp' : Heap} {T : St → Prop} {b : Bk} {xs : List AV} (u : Upd hp b (.arr sz xs) b (.fro sz xs) hp') (k : ImpX ⟨n, tm, hp'⟩ T) : ImpX ⟨n, tm, hp⟩ T := by
  refine ImpX.step (σ1 := ⟨n, tm, hp'⟩) (fun w S a r => ?_) k
  have hmem := u.fnd.mem
  have hin : ∀ m, b.blk = some m → m < w.heap.size := fun m hm => r.hp.lt ⟨_, hmem, eb_of hm⟩
  let S' : Nat → Prop := fun m => S m ∨ b.blk = some m
  have mono : ∀ m, S m → S' m ∧ w.heap[m]? = w.heap[m]? := fun m hm => ⟨.inl hm, rfl⟩
  obtain ⟨p, q, rfl, rfl⟩ := u.split
  have hnd := r.hp.nodup
  have hrel : HRel w S' (p ++ (b, .fro sz xs) :: q) := by
    refine ⟨?_, ?_, ?_, ?_, fun g o ho => ⟨.inl (r.hp.glob g o ho).1, (r.hp.glob g o ho).2⟩⟩
    · simpa [List.flatMap_append, List.flatMap_cons, eb, Ob.more] using hnd
    · intro e he
      rcases mem_mid.1 he with rfl | he
      · exact Holds.mono (o := .fro sz xs) mono (fun _ _ => rfl) (show Holds w S b (.arr sz xs) from r.hp.holds (b, .arr sz xs) hmem)
      · exact (r.hp.holds e (mem_mid.2 (.inr he))).mono mono (fun _ _ => rfl)
    · intro e he m hm
      rcases mem_mid.1 he with rfl | he
      · exact ⟨fun _ => trivial, fun _ => .inr ((eb_one rfl).1 hm)⟩
      · rw [← r.hp.sep e (mem_mid.2 (.inr he)) m hm]
        refine ⟨fun hs => hs.elim id fun hb => ?_, .inl⟩
        exfalso
        rw [List.flatMap_append, List.flatMap_cons, List.nodup_append, List.nodup_append] at hnd
        rcases List.mem_append.1 he with h | h
        · exact hnd.2.2 m (List.mem_flatMap.2 ⟨e, h, hm⟩) m (List.mem_append_left _ (eb_of hb)) rfl
        · exact hnd.2.1.2.2 m (eb_of hb) m (List.mem_flatMap.2 ⟨e, h, hm⟩) rfl
    · intro m hm
      rcases hm with h | h
      · exact r.hp.slt m h
      · exact hin m h
  refine ⟨_, S', rfl, r.heap mono hrel, rfl, rfl, rfl, Nat.le_refl _, mono, fun m hm hh => ⟨rfl, fun hs => hs.elim id fun hb => (hh ⟨_, hmem, eb_of hb⟩).elim⟩, fun m hm => .inl ?_, fun _ => Nat.le_refl _⟩
  obtain ⟨e, he, hb⟩ := hm
  rcases mem_mid.1 he with rfl | he
  · exact ⟨_, hmem, hb⟩
  · exact ⟨e, mem_mid.2 (.inr he), hb⟩

/-! ### one value for another that says less -/
inductive Co (hp : Heap) : AV → AV → Prop
  | refl (a : AV) : Co hp a a
  | nil (sz : Nat) : Co hp .nil (.list sz [])
  | fro (sz : Nat) (b : Bk) (len : Nat) (xs : List AV) (f : Fnd hp b (.fro sz xs)) (h : len = xs.length) : Co hp (.sl sz b 0 len) (.list sz xs)
  | part (sz : Nat) (b : Bk) (off len : Nat) (xs : List AV) (f : Fnd hp b (.fro sz xs)) (h : off + len ≤ xs.length) : Co hp (.sl sz b off len) (.list sz ((xs.drop off).take len))

theorem at_list_of_src {w : World} {S : Nat → Prop} {sz : Nat} {ys : List AV} {v : Value} (h : SrcV w S sz ys v) (hS : ∀ ad len cap, v = .slice (some ad) len cap → 0 < len → ad.spot = none ∧ S ad.block) (hc : ∀ ob len cap, v = .slice ob len cap → len ≤ cap) : At w S (.list sz ys) v := by
  obtain ⟨h0, a, c, nvs, rfl, h1, h2, h3⟩ := h
  refine .list sz ys a c nvs h0 (by rw [flat_length h0, h1]) (fun i c v hc hv => h2 i c v hc (by simpa using hv)) (fun i v hv => ?_) (hc _ _ _ rfl)
  obtain ⟨ad, rfl, h4⟩ := h3 i v hv
  have hlt : i < nvs.length := (List.getElem?_eq_some_iff.1 hv).1
  have hpos : 0 < ys.length := by
    rcases Nat.eq_zero_or_pos ys.length with h | h
    · rw [h1, h] at hlt; simp at hlt
    · exact h
  obtain ⟨g1, g2⟩ := hS ad _ _ rfl hpos
  refine ⟨ad, rfl, g1, g2, ?_⟩
  obtain ⟨bk, of, sp⟩ := ad
  simp only at g1; subst g1
  rw [add_at] at h4; exact h4

theorem sl_block {w : World} {S : Nat → Prop} {sz off len : Nat} {b : Bk} {v : Value} (h : At w S (.sl sz b off len) v) : (∀ ad l c, v = .slice (some ad) l c → 0 < l → ad.spot = none ∧ b.blk = some ad.block) ∧ ∀ ob l c, v = .slice ob l c → l ≤ c := by
  obtain ⟨oa, cap, rfl, e2⟩ := h.sl_inv
  rcases e2 with ⟨_, _, hl, rfl, rfl⟩ | ⟨m, hb, rfl, h1, h2⟩ | ⟨m, ad, hb, rfl, hl, rfl⟩
  · exact ⟨(fun ad l c h => by cases h), (fun ob l c h => by cases h; omega)⟩
  · exact ⟨(fun ad l c h _ => by cases h; exact ⟨rfl, hb⟩), (fun ob l c h => by cases h; omega)⟩
  · exact ⟨(fun ad l c h hl' => by cases h; omega), (fun ob l c h => by cases h; omega)⟩

theorem Co.at {w : World} {S : Nat → Prop} {hp : Heap} {a a' : AV} {v : Value} (c : Co hp a a') (r : HRel w S hp) (h : At w S a v) : At w S a' v := by
  cases c with
  | refl => exact h
  | nil sz => rw [h.nil_inv]; exact .list sz [] none 0 [] (by simp) rfl (fun i c v hc => by simp [flat] at hc) (fun i v hv => by simp at hv) (by simp)
  | fro sz b len xs f hl =>
    have hs := (Src.whole (hp := hp) (sz := sz) b len xs (.inr f) hl).at r h
    exact at_list_of_src hs (fun ad l c hv hp => let ⟨g1, g2⟩ := (sl_block h).1 ad l c hv hp; ⟨g1, (r.sep _ f.mem _ (eb_of g2)).2 trivial⟩) (sl_block h).2
  | part sz b off len xs f hl =>
    have hs := (Src.part (hp := hp) (sz := sz) b off len xs (.inr f) hl).at r h
    exact at_list_of_src hs (fun ad l c hv hp => let ⟨g1, g2⟩ := (sl_block h).1 ad l c hv hp; ⟨g1, (r.sep _ f.mem _ (eb_of g2)).2 trivial⟩) (sl_block h).2

theorem ImpX.co {n s : Nat} {tm : List (Nat × AV)} {hp : Heap} {T : St → Prop} {av av' : AV} (hs : lk tm s = some av) (c : Co hp av av') (k : ImpX ⟨n, (s, av') :: tm, hp⟩ T) : ImpX ⟨n, tm, hp⟩ T := by
  refine ImpX.step (σ1 := ⟨n, (s, av') :: tm, hp⟩) (fun w S a r => ⟨_, S, rfl, ⟨r.size, r.defers, fun t av h => ?_, r.hp⟩, Evo.refl _ _ _⟩) k
  simp only [lk] at h
  split at h
  · rename_i hb
    obtain rfl : s = t := by simpa using hb
    obtain rfl := Option.some.inj h
    obtain ⟨v, h1, h2⟩ := r.tm s _ hs
    exact ⟨v, h1, c.at r.hp h2⟩
  · exact r.tm t av h

section
variable {P : Program} {R : St → Prop} {k : List It} {σ : St}
theorem ATodo.ghost {c : Code} (h : ImpX σ (ATodo P R (.code c :: k))) : ATodo P R (.code c :: k) σ := by
  intro w S a r
  obtain ⟨σ', S', h1, h2, h3⟩ := h w S a r
  exact ATodo.go h1 h2 h3

theorem ARun.ghost {all : Array Oper} {l : List Oper} {Q : St → Prop} (h : ImpX σ (fun σ' => ARun P all l σ' Q)) : ARun P all l σ Q := by
  intro w S a r
  obtain ⟨σ', S', h1, h2, h3⟩ := h w S a r
  exact h1.go h2 h3

theorem ATodo.loopx {body : Code} (I : Nat → St → Prop) (m : Nat) (h0 : ImpX σ (I m)) (hs : ∀ m σ, I m σ → ATodo P R (.code body :: .stop (fun σ' => ∃ m', m' < m ∧ ImpX σ' (I m')) :: k) σ) :
    ATodo P R (.code (.loop body) :: k) σ := by
  refine ATodo.loop (fun m σ => ImpX σ (I m)) m h0 (fun m σ hI => ?_)
  exact ATodo.ghost (hI.mono fun σ' h => hs m σ' h)

theorem ACall.body {f : FuncId} {fn : Func} {c : Code} {args : List AV} {h : Heap} {Q : AV → Heap → Prop} {n : Nat} (hf : P.funcs[f]? = some fn) (hb : fn.body = some c) (hn : fn.ntmps = n)
    (hle : Nat.ble args.length n = true) (kk : ATodo P (fun σ => ImpX σ (fun σ' => ∃ r, Res P fn σ' r ∧ Q r σ'.hp)) [.code c] ⟨n, tm0 args 0, h⟩) : ACall P f args h Q := by
  intro w S vs hr hl ha
  refine calls_of_wp hf hb ?_
  have r0 : StRel w S ⟨n, tm0 args 0, h⟩ { tmps := vs ++ Array.replicate (fn.ntmps - vs.size) undef, defers := [] } := by
    have := Nat.le_of_ble_eq_true hle
    refine ⟨by simp [hn]; omega, rfl, fun s av hs => ?_, hr⟩
    obtain ⟨_, h2⟩ := lk_tm0 args 0 s av hs
    simp only [Nat.sub_zero] at h2
    have hlt : s < args.length := (List.getElem?_eq_some_iff.1 h2).1
    have hlt' : s < vs.size := by omega
    refine ⟨vs[s], by simp [Array.getElem?_append, hlt'], ha s av _ h2 (by simp [hlt'])⟩
  refine wp_mono (kk w S _ r0) ?_
  rintro e a' w' ⟨σ', S', h1, h2, h3⟩
  have fin : ImpX σ' (fun σ'' => ∃ r, Res P fn σ'' r ∧ Q r σ''.hp) → a'.defers = [] ∧ ∃ v, (results fn a'.tmps).run P w' = .ok v w' ∧ ∃ v' r h' S', (Ending.returned v : Ending) = .returned v' ∧ Q r h' ∧ At w' S' r v' ∧ HRel w' S' h' ∧ Evo w S h w' S' h' := by
    intro hi
    obtain ⟨σ2, S2, ⟨r, hres, hq⟩, g2, g3⟩ := hi w' S' a' h2
    obtain ⟨v, hv1, hv2⟩ := hres.run g2
    exact ⟨g2.defers, v, hv1, v, r, σ2.hp, S2, rfl, hq, hv2, g2.hp, h3.trans g3⟩
  cases e with
  | normal => exact fin h1
  | ret => exact fin h1
  | exit id => exact h1.elim
  | goto l => exact h1.elim
  | panic c => exact h1.elim
  | outgrown => exact h1.elim
end

/-! ### calls -/
class IsFn (P : Program) (f : FuncId) : Prop where
  h : ∃ fn, P.funcs[f]? = some fn ∧ (fn.name == "runtime.NumGoroutine") = false ∧ fn.body.isNone = false

theorem run_callFunc {P : Program} (f : FuncId) [IsFn P f] (args : Array Value) (w : World) : (callFunc f args).run P w = .ok (.enter f args) w := by
  obtain ⟨fn, h1, h2, h3⟩ := IsFn.h (P := P) (f := f)
  have h2' : ¬ (fn.name = "runtime.NumGoroutine") := by simpa using h2
  have h3' : ¬ (fn.body = none) := fun h => by simp [h] at h3
  simp [callFunc, h1, h2', h3']

inductive CoL (hp : Heap) : List AV → List AV → Prop
  | nil : CoL hp [] []
  | cons {a a' : AV} {l l' : List AV} (c : Co hp a a') (k : CoL hp l l') : CoL hp (a :: l) (a' :: l')

theorem CoL.at {w : World} {S : Nat → Prop} {hp : Heap} (r : HRel w S hp) : ∀ {l l' : List AV}, CoL hp l l' → ∀ {vs : List Value}, l.length = vs.length → AtA w S l vs.toArray → l'.length = vs.length ∧ AtA w S l' vs.toArray
  | [], _, .nil, vs, hl, h => ⟨hl, h⟩
  | a :: l, _, .cons (a' := a') (l' := l') c k, vs, hl, h => by
    match vs, hl with
    | v :: vs, hl =>
      obtain ⟨g1, g2⟩ := CoL.at r k (vs := vs) (by simpa using hl) (fun i c u hc hu => h (i + 1) c u (by simpa using hc) (by simpa using hu))
      refine ⟨by simpa using g1, fun i c u hc hu => ?_⟩
      match i with
      | 0 =>
        simp at hc hu
        subst hc
        subst hu
        exact Co.at ‹Co hp a a'› r (h 0 a v (by simp) (by simp))
      | i + 1 => exact g2 i c u (by simpa using hc) (by simpa using hu)

section rules
variable {P : Program} {all : Array Oper} {rest : List Oper} {n : Nat} {tm : List (Nat × AV)} {hp : Heap} {Q : St → Prop} {d : Nat} {ty : TypeId} {pos : String} {af : Array Edge}

theorem evL_vals {w : World} {S : Nat → Prop} {σ : St} {a : Act} (r : StRel w S σ a) {xs : List Operand} {l : List AV} (h : evL σ.tm xs = some l) : l.length = (xs.map a.eval).length ∧ AtA w S l (xs.map a.eval).toArray := by
  obtain ⟨h1, h2⟩ := evL_at r h
  exact ⟨by simp [h1], fun i c v hc hv => h2 i c v hc (by simpa using hv)⟩

theorem run_exec_call {f : FuncId} {args : List Operand} {ts : Array TypeId} {dd : Option Nat} [IsFn P f] (a : Act) (w : World) :
    (execOp a.eval ⟨dd, .call { callee := .value (.func f), args := args.toArray, argTypes := ts }, ty, pos, af, none⟩).run P w = .ok (.enter f (args.map a.eval).toArray) w := by
  simp [execOp, resolve, Act.eval, Deferred.ofValue, invoke, run_callFunc]

theorem run_exec_callv {f : FuncId} {x : Operand} {args : List Operand} {ts : Array TypeId} {dd : Option Nat} {caps : Array Value} [IsFn P f] (a : Act) (w : World) (hx : a.eval x = .func (.func f) #[] caps) :
    (execOp a.eval ⟨dd, .call { callee := .value x, args := args.toArray, argTypes := ts }, ty, pos, af, none⟩).run P w = .ok (.enter f ((args.map a.eval) ++ caps.toList).toArray) w := by
  simp [execOp, resolve, hx, Deferred.ofValue, invoke, run_callFunc]

/-- A call, its heap a part of ours. -/
theorem r_call {f : FuncId} {args : List Operand} {ts : Array TypeId} {l l' : List AV} {h0 hr : Heap} {Qc : AV → Heap → Prop} [IsFn P f] (hl : evL tm args = some l) (c : ACall P f l' h0 Qc) (co : CoL hp l l') (hs : hp.Perm (h0 ++ hr)) (hn : Nat.blt d n = true)
    (kk : ∀ r h', Qc r h' → ARun P all rest ⟨n, (d, r) :: tm, h' ++ hr⟩ Q) : ARun P all (⟨some d, .call { callee := .value (.func f), args := args.toArray, argTypes := ts }, ty, pos, af, none⟩ :: rest) ⟨n, tm, hp⟩ Q := by
  refine ARun.callx rfl fun w S a r => ⟨f, _, run_exec_call a w, ?_⟩
  obtain ⟨g1, g2⟩ := evL_vals (σ := ⟨n, tm, hp⟩) r hl
  obtain ⟨g3, g4⟩ := CoL.at r.hp co g1 g2
  have rp := r.hp.perm hs
  refine (c.frame hr w S _ rp (by simpa using g3) g4).mono ?_
  rintro e w' ⟨v, rr, h', S', rfl, ⟨h1, rfl, hq⟩, h3, h4, h5⟩
  have hkeep := h5.keep
  have ev : Evo w S hp w' S' (h1 ++ hr) := { h5 with
    other := fun m hm hh => h5.other m hm (fun ⟨x, hx, hb⟩ => hh ⟨x, hs.mem_iff.2 hx, hb⟩)
    new := fun m hm => (h5.new m hm).imp (fun ⟨x, hx, hb⟩ => ⟨x, hs.mem_iff.2 hx, hb⟩) id }
  exact ⟨v, S', ⟨n, (d, rr) :: tm, h1 ++ hr⟩, rfl, (r.heap hkeep h4).put hn h3, ev, kk rr h1 hq⟩

/-- A call of a function that needs nothing of our heap. -/
theorem r_call0 {f : FuncId} {args : List Operand} {ts : Array TypeId} {l l' : List AV} {Qc : AV → Heap → Prop} [IsFn P f] (hl : evL tm args = some l) (c : ACall P f l' [] Qc) (co : CoL hp l l') (hn : Nat.blt d n = true)
    (kk : ∀ r h', Qc r h' → ARun P all rest ⟨n, (d, r) :: tm, h' ++ hp⟩ Q) : ARun P all (⟨some d, .call { callee := .value (.func f), args := args.toArray, argTypes := ts }, ty, pos, af, none⟩ :: rest) ⟨n, tm, hp⟩ Q :=
  r_call hl c co (List.Perm.refl _) hn kk

theorem Del.perm {h h' : Heap} {b : Bk} {o : Ob} (u : Del h b o h') : h.Perm ([(b, o)] ++ h') := by
  obtain ⟨p, q, rfl, rfl⟩ := u.split
  exact List.perm_middle

/-- A call of a function value. -/
theorem r_callv {f : FuncId} {x : Operand} {args : List Operand} {ts : Array TypeId} {caps l l' : List AV} {h0 hr : Heap} {Qc : AV → Heap → Prop} [IsFn P f] (hx : evA tm x = some (.func (.func f) caps)) (hl : evL tm args = some l) (c : ACall P f l' h0 Qc) (co : CoL hp (l ++ caps) l') (hs : hp.Perm (h0 ++ hr)) (hn : Nat.blt d n = true)
    (kk : ∀ r h', Qc r h' → ARun P all rest ⟨n, (d, r) :: tm, h' ++ hr⟩ Q) : ARun P all (⟨some d, .call { callee := .value x, args := args.toArray, argTypes := ts }, ty, pos, af, none⟩ :: rest) ⟨n, tm, hp⟩ Q := by
  refine ARun.callx rfl fun w S a r => ?_
  obtain ⟨cv, e1, e2, e3⟩ := (evA_at (σ := ⟨n, tm, hp⟩) r hx).func_inv
  refine ⟨f, _, run_exec_callv a w e1, ?_⟩
  obtain ⟨g1, g2⟩ := evL_vals (σ := ⟨n, tm, hp⟩) r hl
  obtain ⟨g3, g4⟩ := CoL.at r.hp co (vs := args.map a.eval ++ cv.toList) (by simp [g1, e2]) (AtA_cons g1 g2 (by simpa using e3))
  have rp := r.hp.perm hs
  refine (c.frame hr w S _ rp (by simpa using g3) g4).mono ?_
  rintro e w' ⟨v, rr, h', S', rfl, ⟨h1, rfl, hq⟩, h3, h4, h5⟩
  have ev : Evo w S hp w' S' (h1 ++ hr) := { h5 with
    other := fun m hm hh => h5.other m hm (fun ⟨x, hx, hb⟩ => hh ⟨x, hs.mem_iff.2 hx, hb⟩)
    new := fun m hm => (h5.new m hm).imp (fun ⟨x, hx, hb⟩ => ⟨x, hs.mem_iff.2 hx, hb⟩) id }
  exact ⟨v, S', ⟨n, (d, rr) :: tm, h1 ++ hr⟩, rfl, (r.heap h5.keep h4).put hn h3, ev, kk rr h1 hq⟩

/-! a call that looks into arrays which stay ours: its results are plain -/
def AV.noL1 : AV → Bool
  | .int _ _ | .bool _ | .str _ | .nil | .raw _ => true
  | _ => false
def noLL : List AV → Bool
  | [] => true
  | c :: r => c.noL1 && noLL r
def AV.noL2 : AV → Bool
  | .agg cs => noLL cs
  | v => v.noL1
def noLT : List AV → Bool
  | [] => true
  | c :: r => c.noL2 && noLT r
def AV.noL : AV → Bool
  | .agg cs => noLL cs
  | .tup cs => noLT cs
  | v => v.noL1

theorem noL1x_at {w w' : World} {S S' : Nat → Prop} {av : AV} {v : Value} (h : At w S av v) (hn : av.noL1 = true) : At w' S' av v := by
  cases h <;> first | (simp [AV.noL1] at hn; done) | constructor
theorem noLL_mem : ∀ {cs : List AV}, noLL cs = true → ∀ c ∈ cs, c.noL1 = true
  | [], _, c, hc => by simp at hc
  | x :: r, h, c, hc => by
    simp only [noLL, Bool.and_eq_true] at h
    rcases List.mem_cons.1 hc with rfl | hc
    · exact h.1
    · exact noLL_mem h.2 c hc
theorem noLT_mem : ∀ {cs : List AV}, noLT cs = true → ∀ c ∈ cs, c.noL2 = true
  | [], _, c, hc => by simp at hc
  | x :: r, h, c, hc => by
    simp only [noLT, Bool.and_eq_true] at h
    rcases List.mem_cons.1 hc with rfl | hc
    · exact h.1
    · exact noLT_mem h.2 c hc
theorem noL2_at {w w' : World} {S S' : Nat → Prop} {av : AV} {v : Value} (h : At w S av v) (hn : av.noL2 = true) : At w' S' av v := by
  cases av with
  | agg cs =>
    cases h with
    | agg _ vs hl h => exact .agg cs vs hl fun i c u hc hu => noL1x_at (h i c u hc hu) (noLL_mem hn c (List.mem_of_getElem? hc))
  | _ => exact noL1x_at h hn
theorem noL_at {w w' : World} {S S' : Nat → Prop} {av : AV} {v : Value} (h : At w S av v) (hn : av.noL = true) : At w' S' av v := by
  cases h with
  | agg cs vs hl h => exact .agg cs vs hl fun i c u hc hu => noL1x_at (h i c u hc hu) (noLL_mem hn c (List.mem_of_getElem? hc))
  | tup cs vs hl h => exact .tup cs vs hl fun i c u hc hu => noL2_at (h i c u hc hu) (noLT_mem hn c (List.mem_of_getElem? hc))
  | int k n => exact .int k n
  | bool b => exact .bool b
  | str s => exact .str s
  | nil => exact .nil
  | raw v => exact .raw v
  | _ => simp [AV.noL, AV.noL1] at hn

inductive CoB (hp : Heap) : AV → AV → Prop
  | co {a a' : AV} (c : Co hp a a') : CoB hp a a'
  | arr (sz : Nat) (b : Bk) (len : Nat) (xs : List AV) (f : Fnd hp b (.arr sz xs)) (h : len = xs.length) : CoB hp (.sl sz b 0 len) (.list sz xs)
  | part (sz : Nat) (b : Bk) (off len : Nat) (xs : List AV) (f : Fnd hp b (.arr sz xs)) (h : off + len ≤ xs.length) : CoB hp (.sl sz b off len) (.list sz ((xs.drop off).take len))
  | box (b : Bk) (cs cs' : List AV) (f : Fnd hp b (.cells cs)) (hl : cs'.length = cs.length) (h : ∀ (i : Nat) c c', cs[i]? = some c → cs'[i]? = some c' → CoB hp c c') : CoB hp (.ptr b 0) (.rptr cs')
  | func (fn : Fn) (cs cs' : List AV) (hl : cs'.length = cs.length) (h : ∀ (i : Nat) c c', cs[i]? = some c → cs'[i]? = some c' → CoB hp c c') : CoB hp (.func fn cs) (.func fn cs')
  | agg (cs cs' : List AV) (hl : cs'.length = cs.length) (h : ∀ (i : Nat) c c', cs[i]? = some c → cs'[i]? = some c' → CoB hp c c') : CoB hp (.agg cs) (.agg cs')
  | sem {a a' : AV} (h : ∀ (w : World) (S : Nat → Prop) v, HRel w S hp → At w S a v → At w (fun m => S m ∨ Has hp m) a' v) : CoB hp a a'
inductive CoBL (hp : Heap) : List AV → List AV → Prop
  | nil : CoBL hp [] []
  | cons {a a' : AV} {l l' : List AV} (c : CoB hp a a') (k : CoBL hp l l') : CoBL hp (a :: l) (a' :: l')

/-- All that is immutable while a call looks: the arrays of our heap, too. -/
def SB (S : Nat → Prop) (hp : Heap) : Nat → Prop := fun m => S m ∨ Has hp m

theorem CoBL.each {hp : Heap} : ∀ {l l' : List AV}, CoBL hp l l' → l'.length = l.length ∧ ∀ (i : Nat) c c', l[i]? = some c → l'[i]? = some c' → CoB hp c c'
  | [], _, .nil => ⟨rfl, fun i c c' h => by simp at h⟩
  | _ :: _, _, .cons c k => by
    obtain ⟨g1, g2⟩ := CoBL.each k
    refine ⟨by simp [g1], fun i c1 c2 h1 h2 => ?_⟩
    match i with
    | 0 => simp at h1 h2; subst h1; subst h2; assumption
    | i + 1 => exact g2 i c1 c2 (by simpa using h1) (by simpa using h2)
theorem CoB.boxL {hp : Heap} (b : Bk) (cs cs' : List AV) (f : Fnd hp b (.cells cs)) (k : CoBL hp cs cs') : CoB hp (.ptr b 0) (.rptr cs') := .box b cs cs' f k.each.1 k.each.2
theorem CoB.funcL {hp : Heap} (fn : Fn) (cs cs' : List AV) (k : CoBL hp cs cs') : CoB hp (.func fn cs) (.func fn cs') := .func fn cs cs' k.each.1 k.each.2

theorem CoB.at {w : World} {S : Nat → Prop} {hp : Heap} {a a' : AV} {v : Value} (c : CoB hp a a') (r : HRel w S hp) (h : At w S a v) : At w (SB S hp) a' v := by
  have mono : ∀ m, S m → SB S hp m ∧ w.heap[m]? = w.heap[m]? := fun m hm => ⟨.inl hm, rfl⟩
  induction c generalizing v with
  | box b cs cs' f hl _ ih =>
    cases h with
    | ptr _ _ n hb =>
      obtain ⟨h1, n', vs, E, hb', hh, hs, ha⟩ := r.holds _ f.mem
      obtain rfl := Option.some.inj (hb.symm.trans hb')
      refine .rptr cs' ⟨n, 0, none⟩ vs.toList (by simp [hl, hs]) (fun i c v hc hv => ?_) rfl (.inr ⟨_, f.mem, eb_of hb⟩) (fun i v hv => ?_)
      · have hi : i < cs.length := by rw [← hl]; exact (List.getElem?_eq_some_iff.1 hc).1
        exact ih i cs[i] c (by simp [hi]) hc (ha i _ _ (by simp [hi]) (by simpa using hv))
      · rw [cell_at hh]; simpa using hv
  | func fn cs cs' hl _ ih =>
    cases h with
    | func _ _ vs hl2 h2 =>
      refine .func fn cs' vs (by rw [hl, hl2]) (fun i c v hc hv => ?_)
      have hi : i < cs.length := by rw [← hl]; exact (List.getElem?_eq_some_iff.1 hc).1
      exact ih i cs[i] c (by simp [hi]) hc (h2 i _ _ (by simp [hi]) hv)
  | agg cs cs' hl _ ih =>
    cases h with
    | agg _ vs h1 h2 =>
      refine .agg cs' vs (by rw [hl, h1]) (fun i c v hc hv => ?_)
      have hi : i < cs.length := by rw [← hl]; exact (List.getElem?_eq_some_iff.1 hc).1
      exact ih i cs[i] c (by simp [hi]) hc (h2 i _ _ (by simp [hi]) hv)
  | co c => exact (c.at r h).mono mono
  | sem q => exact q w S v r h
  | arr sz b len xs f hl =>
    obtain ⟨h0, a, c, nvs, e1, h1, h2, h3⟩ := (Src.whole (hp := hp) (sz := sz) b len xs (.inl f) hl).at r h
    exact at_list_of_src ⟨h0, a, c, nvs, e1, h1, h2.mono mono, h3⟩ (fun ad l c hv hp => let ⟨g1, g2⟩ := (sl_block h).1 ad l c hv hp; ⟨g1, .inr ⟨_, f.mem, eb_of g2⟩⟩) (sl_block h).2
  | part sz b off len xs f hl =>
    obtain ⟨h0, a, c, nvs, e1, h1, h2, h3⟩ := (Src.part (hp := hp) (sz := sz) b off len xs (.inl f) hl).at r h
    exact at_list_of_src ⟨h0, a, c, nvs, e1, h1, h2.mono mono, h3⟩ (fun ad l c hv hp => let ⟨g1, g2⟩ := (sl_block h).1 ad l c hv hp; ⟨g1, .inr ⟨_, f.mem, eb_of g2⟩⟩) (sl_block h).2

theorem CoBL.at {w : World} {S : Nat → Prop} {hp : Heap} (r : HRel w S hp) : ∀ {l l' : List AV}, CoBL hp l l' → ∀ {vs : List Value}, l.length = vs.length → AtA w S l vs.toArray → l'.length = vs.length ∧ AtA w (SB S hp) l' vs.toArray
  | [], _, .nil, vs, hl, h => ⟨hl, fun i c v hc => by simp at hc⟩
  | a :: l, _, .cons (a' := a') (l' := l') c k, vs, hl, h => by
    match vs, hl with
    | v :: vs, hl =>
      obtain ⟨g1, g2⟩ := CoBL.at r k (vs := vs) (by simpa using hl) (fun i c u hc hu => h (i + 1) c u (by simpa using hc) (by simpa using hu))
      refine ⟨by simpa using g1, fun i c u hc hu => ?_⟩
      match i with
      | 0 =>
        simp at hc hu
        subst hc
        subst hu
        exact CoB.at ‹CoB hp a a'› r (h 0 a v (by simp) (by simp))
      | i + 1 => exact g2 i c u (by simpa using hc) (by simpa using hu)

/-- What a call without a heap does to the world: new blocks. -/
theorem Evo.toExt {w w' : World} {S S' : Nat → Prop} {h' : Heap} (e : Evo w S [] w' S' h') : Ext w w' :=
  ⟨e.os, e.tape, e.output, e.size, fun m hm => (e.other m hm (fun ⟨x, hx, _⟩ => by simp at hx)).1, e.drawn⟩

theorem hrel_nil {w : World} {S : Nat → Prop} (h : ∀ n, S n → n < w.heap.size) (hg : ∀ g o, GTab.tab g = some o → S g ∧ o (w.heap[g]?)) : HRel w S [] := ⟨by simp, by simp, by simp, h, hg⟩

theorem r_callB {f : FuncId} {args : List Operand} {ts : Array TypeId} {l l' : List AV} {Qc : AV → Heap → Prop} [IsFn P f] (hl : evL tm args = some l) (c : ACall P f l' [] Qc) (co : CoBL hp l l') (hn : Nat.blt d n = true)
    (kk : ∀ r h', Qc r h' → r.noL = true ∧ ARun P all rest ⟨n, (d, r) :: tm, hp⟩ Q) : ARun P all (⟨some d, .call { callee := .value (.func f), args := args.toArray, argTypes := ts }, ty, pos, af, none⟩ :: rest) ⟨n, tm, hp⟩ Q := by
  refine ARun.callx rfl fun w S a r => ⟨f, _, run_exec_call a w, ?_⟩
  obtain ⟨g1, g2⟩ := evL_vals (σ := ⟨n, tm, hp⟩) r hl
  obtain ⟨g3, g4⟩ := CoBL.at r.hp co g1 g2
  refine (c w (SB S hp) _ (hrel_nil (fun m hm => hm.elim (r.hp.slt m) fun h => r.hp.lt h) (fun g o ho => ⟨.inl (r.hp.glob g o ho).1, (r.hp.glob g o ho).2⟩)) (by simpa using g3) g4).mono ?_
  rintro e w' ⟨v, rr, h', S', rfl, hq, h3, h4, h5⟩
  obtain ⟨k1, k2⟩ := kk rr h' hq
  have ex := h5.toExt
  exact ⟨v, S, ⟨n, (d, rr) :: tm, hp⟩, rfl, (r.ext ex).put hn (noL_at h3 k1), Evo.ext r.hp.slt ex, k2⟩

/-! ### regions that draw their order and only look -/
def AQ (P : Program) (all : Array Oper) (l : List Oper) (σ : St) (Q : St → Prop) : Prop :=
  ∀ w S a, StRel w S σ a → wpQuiet P all (Ext w) (fun a' => ∃ tm', Q ⟨σ.n, tm', σ.hp⟩ ∧ StRel w S ⟨σ.n, tm', σ.hp⟩ a') l a

theorem AQ.nil (h : Q ⟨n, tm, hp⟩) : AQ P all [] ⟨n, tm, hp⟩ Q := fun w S a r => wpQuiet_nil ⟨tm, h, r⟩

theorem AQ.qv {av : AV} {op : Op} (q : QV P ⟨some d, op, ty, pos, af, none⟩ ⟨n, tm, hp⟩ av) (hn : Nat.blt d n = true) (k : AQ P all rest ⟨n, (d, av) :: tm, hp⟩ Q) : AQ P all (⟨some d, op, ty, pos, af, none⟩ :: rest) ⟨n, tm, hp⟩ Q := by
  intro w S a r
  obtain ⟨v, h1, h2⟩ := q w S a r
  show (if Region.wanted _ _ then _ else _)
  rw [if_pos (by simp [Region.wanted])]
  refine ⟨v, fun w' hw' => ?_, k w S _ (r.put hn h2)⟩
  show Oper.quietUpon P (Ext w) w' v _
  rw [h1 w' hw']
  exact ⟨rfl, rfl⟩

theorem AQ.guard_no {op : Op} {j : Nat} {want b : Bool} {s : Nat} (hj : (all[j]?).bind (·.dst) = some s) (hs : lk tm s = some (.bool b)) (hb : b = !want) (hn : Nat.blt d n = true)
    (k : AQ P all rest ⟨n, (d, .raw undef) :: tm, hp⟩ Q) : AQ P all (⟨some d, op, ty, pos, af, some (j, want)⟩ :: rest) ⟨n, tm, hp⟩ Q := by
  intro w S a r
  obtain ⟨v, h1, h2⟩ := r.tm s _ hs
  cases h2
  show (if Region.wanted _ _ then _ else _)
  rw [if_neg (by simp [Region.wanted, yielded, hj, h1, hb])]
  exact k w S _ (r.put hn (.raw undef))

theorem AQ.guard_yes {op : Op} {j : Nat} {want b : Bool} {s : Nat} {dd : Option Nat} (hj : (all[j]?).bind (·.dst) = some s) (hs : lk tm s = some (.bool b)) (hb : b = want)
    (k : AQ P all (⟨dd, op, ty, pos, af, none⟩ :: rest) ⟨n, tm, hp⟩ Q) : AQ P all (⟨dd, op, ty, pos, af, some (j, want)⟩ :: rest) ⟨n, tm, hp⟩ Q := by
  intro w S a r
  obtain ⟨v, h1, h2⟩ := r.tm s _ hs
  cases h2
  have := k w S a r
  change (if Region.wanted _ _ then _ else _) at this
  rw [if_pos (by simp [Region.wanted])] at this
  show (if Region.wanted _ _ then _ else _)
  rw [if_pos (by simp [Region.wanted, yielded, hj, h1, hb])]
  exact this

def exV1 : AV → Option Value
  | .int k n => some (.int k n)
  | .bool b => some (.bool b)
  | .str s => some (.string ⟨s.toArray⟩)
  | .raw v => some v
  | _ => none
def exVL : List AV → Option (List Value)
  | [] => some []
  | c :: r => match exV1 c, exVL r with
    | some v, some l => some (v :: l)
    | _, _ => none
def exV : AV → Option Value
  | .agg cs => (exVL cs).map fun l => .agg l.toArray
  | .tup cs => (exVL cs).map fun l => .tuple l.toArray
  | v => exV1 v

theorem exV1x_at {w : World} {S : Nat → Prop} {av : AV} {v V : Value} (h : At w S av v) (he : exV1 av = some V) : v = V := by
  cases h <;> first | (simp [exV1] at he; done) | (simp [exV1] at he; exact he)
theorem exVL_at {w : World} {S : Nat → Prop} : ∀ {cs : List AV} {L vs : List Value}, exVL cs = some L → cs.length = vs.length → (∀ (i : Nat) c v, cs[i]? = some c → vs[i]? = some v → At w S c v) → vs = L
  | [], L, vs, he, hl, h => by simp [exVL] at he; subst he; exact List.eq_nil_of_length_eq_zero (by simpa using hl.symm)
  | c :: cs, L, vs, he, hl, h => by
    match vs, hl with
    | v :: vs, hl =>
      simp only [exVL] at he
      split at he
      · rename_i V L' h1 h2
        obtain rfl := Option.some.inj he
        have e1 := exV1x_at (h 0 c v rfl rfl) h1
        have e2 := exVL_at (vs := vs) h2 (by simpa using hl) (fun i c u hc hu => h (i + 1) c u (by simpa using hc) (by simpa using hu))
        rw [e1, e2]
      · cases he
theorem exV_at {w : World} {S : Nat → Prop} {av : AV} {v V : Value} (h : At w S av v) (he : exV av = some V) : v = V := by
  cases h with
  | agg cs vs hl h =>
    simp only [exV, Option.map_eq_some_iff] at he
    obtain ⟨L, h1, rfl⟩ := he
    have := exVL_at (vs := vs.toList) h1 (by simpa using hl) (fun i c u hc hu => h i c u hc (by simpa using hu))
    rw [← this]
  | tup cs vs hl h =>
    simp only [exV, Option.map_eq_some_iff] at he
    obtain ⟨L, h1, rfl⟩ := he
    have := exVL_at (vs := vs.toList) h1 (by simpa using hl) (fun i c u hc hu => h i c u hc (by simpa using hu))
    rw [← this]
  | int k n => simp [exV, exV1] at he; exact he
  | bool b => simp [exV, exV1] at he; exact he
  | str s => simp [exV, exV1] at he; exact he
  | raw v => simp [exV, exV1] at he; exact he
  | _ => simp [exV, exV1] at he

theorem exV_any {w : World} {S : Nat → Prop} {av : AV} {V : Value} (he : exV av = some V) : At w S av V := by
  have one : ∀ {c : AV} {v : Value}, exV1 c = some v → At w S c v := by
    intro c v h
    cases c <;> first | (simp [exV1] at h; done) | (simp [exV1] at h; subst h; constructor)
  have lst : ∀ {cs : List AV} {L : List Value}, exVL cs = some L → cs.length = L.length ∧ ∀ (i : Nat) c v, cs[i]? = some c → L[i]? = some v → At w S c v := by
    intro cs
    induction cs with
    | nil => intro L h; simp [exVL] at h; subst h; exact ⟨rfl, fun i c v hc => by simp at hc⟩
    | cons c cs ih =>
      intro L h
      simp only [exVL] at h
      split at h
      · rename_i V L' h1 h2
        obtain rfl := Option.some.inj h
        obtain ⟨g1, g2⟩ := ih h2
        refine ⟨by simp [g1], fun i c' v hc hv => ?_⟩
        match i with
        | 0 => simp at hc hv; subst hc; subst hv; exact one h1
        | i + 1 => exact g2 i c' v (by simpa using hc) (by simpa using hv)
      · cases h
  cases av with
  | agg cs =>
    simp only [exV, Option.map_eq_some_iff] at he
    obtain ⟨L, h1, rfl⟩ := he
    obtain ⟨g1, g2⟩ := lst h1
    exact .agg cs _ (by simp [g1]) fun i c v hc hv => g2 i c v hc (by simpa using hv)
  | tup cs =>
    simp only [exV, Option.map_eq_some_iff] at he
    obtain ⟨L, h1, rfl⟩ := he
    obtain ⟨g1, g2⟩ := lst h1
    exact .tup cs _ (by simp [g1]) fun i c v hc hv => g2 i c v hc (by simpa using hv)
  | _ => exact one he

theorem AQ.call {f : FuncId} {args : List Operand} {ts : Array TypeId} {l l' : List AV} {R : AV} {V : Value} {Qc : AV → Heap → Prop} [IsFn P f] (hl : evL tm args = some l) (c : ACall P f l' [] Qc) (co : CoBL hp l l') (hn : Nat.blt d n = true) (hR : ∀ r h', Qc r h' → r = R) (hV : exV R = some V)
    (k : AQ P all rest ⟨n, (d, R) :: tm, hp⟩ Q) : AQ P all (⟨some d, .call { callee := .value (.func f), args := args.toArray, argTypes := ts }, ty, pos, af, none⟩ :: rest) ⟨n, tm, hp⟩ Q := by
  intro w S a r
  show (if Region.wanted _ _ then _ else _)
  rw [if_pos (by simp [Region.wanted])]
  refine ⟨V, fun w' hw' => ?_, k w S _ (r.put hn (exV_any hV))⟩
  show Oper.quietUpon P (Ext w) w' V _
  rw [run_exec_call]
  refine ⟨rfl, ?_⟩
  have r' := r.ext hw'
  obtain ⟨g1, g2⟩ := evL_vals (σ := ⟨n, tm, hp⟩) r' hl
  obtain ⟨g3, g4⟩ := CoBL.at r'.hp co g1 g2
  refine (c w' (SB S hp) _ (hrel_nil (fun m hm => hm.elim (r'.hp.slt m) fun h => r'.hp.lt h) (fun g o ho => ⟨.inl (r'.hp.glob g o ho).1, (r'.hp.glob g o ho).2⟩)) (by simpa using g3) g4).mono ?_
  rintro e w'' ⟨v, rr, h', S', rfl, hq, h3, h4, h5⟩
  obtain rfl := hR rr h' hq
  rw [exV_at h3 hV]
  exact ⟨rfl, hw'.trans h5.toExt⟩

end rules
end Go.Eng

/- The engine, part 8: tests. No program in sight. -/
set_option linter.unusedVariables false
set_option linter.unusedSectionVars false
namespace Go.Eng
open Go
variable [GTab]

section
variable {P : Program} {R : St → Prop} {k : List It} {σ : St}
theorem ATodo.cond_d {c : Operand} {x y : Code} {p : Prop} [Decidable p] (hc : evA σ.tm c = some (.bool (decide p))) (h1 : p → ATodo P R (.code x :: k) σ) (h2 : ¬ p → ATodo P R (.code y :: k) σ) : ATodo P R (.code (.cond c x y) :: k) σ :=
  ATodo.cond hc (fun h => h1 (of_decide_eq_true h)) (fun h => h2 (of_decide_eq_false h))
end

/-- A test's outcome, written into its slot. -/
theorem StRel.lit {w : World} {S : Nat → Prop} {n : Nat} {tm : List (Nat × AV)} {hp : Heap} {a : Act} {s : Nat} {b c : Bool} (r : StRel w S ⟨n, tm, hp⟩ a) (hs : lk tm s = some (.bool b)) (hb : b = c) : StRel w S ⟨n, (s, .bool c) :: tm, hp⟩ a := by
  subst hb
  refine ⟨r.size, r.defers, fun t av h => ?_, r.hp⟩
  simp only [lk] at h
  split at h
  · rename_i hb
    obtain rfl : s = t := by simpa using hb
    obtain rfl := Option.some.inj h
    exact r.tm s _ hs
  · exact r.tm t av h

section rules
variable {P : Program} {all : Array Oper} {rest : List Oper} {n : Nat} {tm : List (Nat × AV)} {hp : Heap} {Q : St → Prop} {d : Nat} {ty : TypeId} {pos : String} {af : Array Edge} {op : Op} {j s : Nat}

theorem ARun.lit {l : List Oper} {b c : Bool} (hs : lk tm s = some (.bool b)) (hb : b = c) (k : ARun P all l ⟨n, (s, .bool c) :: tm, hp⟩ Q) : ARun P all l ⟨n, tm, hp⟩ Q :=
  fun w S a r => k w S a (r.lit hs hb)
theorem AQ.lit {l : List Oper} {b c : Bool} (hs : lk tm s = some (.bool b)) (hb : b = c) (k : AQ P all l ⟨n, (s, .bool c) :: tm, hp⟩ Q) : AQ P all l ⟨n, tm, hp⟩ Q :=
  fun w S a r => k w S a (r.lit hs hb)

theorem ARun.guard {want b : Bool} (hj : (all[j]?).bind (·.dst) = some s) (hs : lk tm s = some (.bool b)) (hn : Nat.blt d n = true) (h1 : b = want → ARun P all (⟨some d, op, ty, pos, af, none⟩ :: rest) ⟨n, (s, .bool want) :: tm, hp⟩ Q)
    (h2 : b = !want → ARun P all rest ⟨n, (d, .raw undef) :: (s, .bool (!want)) :: tm, hp⟩ Q) : ARun P all (⟨some d, op, ty, pos, af, some (j, want)⟩ :: rest) ⟨n, tm, hp⟩ Q := by
  by_cases hb : b = want
  · exact ARun.lit hs hb (ARun.guard_yes hj (by simp [lk]) rfl (h1 hb))
  · have hb' : b = !want := by cases b <;> cases want <;> simp_all
    exact ARun.lit hs hb' (ARun.guard_no hj (b := !want) (by simp [lk]) rfl hn (h2 hb'))
theorem AQ.guard {want b : Bool} (hj : (all[j]?).bind (·.dst) = some s) (hs : lk tm s = some (.bool b)) (hn : Nat.blt d n = true) (h1 : b = want → AQ P all (⟨some d, op, ty, pos, af, none⟩ :: rest) ⟨n, (s, .bool want) :: tm, hp⟩ Q)
    (h2 : b = !want → AQ P all rest ⟨n, (d, .raw undef) :: (s, .bool (!want)) :: tm, hp⟩ Q) : AQ P all (⟨some d, op, ty, pos, af, some (j, want)⟩ :: rest) ⟨n, tm, hp⟩ Q := by
  by_cases hb : b = want
  · exact AQ.lit hs hb (AQ.guard_yes hj (by simp [lk]) rfl (h1 hb))
  · have hb' : b = !want := by cases b <;> cases want <;> simp_all
    exact AQ.lit hs hb' (AQ.guard_no hj (b := !want) (by simp [lk]) rfl hn (h2 hb'))

theorem ARun.guard_dt {p : Prop} [Decidable p] (hj : (all[j]?).bind (·.dst) = some s) (hs : lk tm s = some (.bool (decide p))) (hn : Nat.blt d n = true) (h1 : p → ARun P all (⟨some d, op, ty, pos, af, none⟩ :: rest) ⟨n, (s, .bool true) :: tm, hp⟩ Q)
    (h2 : ¬ p → ARun P all rest ⟨n, (d, .raw undef) :: (s, .bool false) :: tm, hp⟩ Q) : ARun P all (⟨some d, op, ty, pos, af, some (j, true)⟩ :: rest) ⟨n, tm, hp⟩ Q :=
  ARun.guard hj hs hn (fun h => h1 (of_decide_eq_true h)) (fun h => h2 (of_decide_eq_false h))
theorem ARun.guard_df {p : Prop} [Decidable p] (hj : (all[j]?).bind (·.dst) = some s) (hs : lk tm s = some (.bool (decide p))) (hn : Nat.blt d n = true) (h1 : ¬ p → ARun P all (⟨some d, op, ty, pos, af, none⟩ :: rest) ⟨n, (s, .bool false) :: tm, hp⟩ Q)
    (h2 : p → ARun P all rest ⟨n, (d, .raw undef) :: (s, .bool true) :: tm, hp⟩ Q) : ARun P all (⟨some d, op, ty, pos, af, some (j, false)⟩ :: rest) ⟨n, tm, hp⟩ Q :=
  ARun.guard hj hs hn (fun h => h1 (of_decide_eq_false h)) (fun h => h2 (of_decide_eq_true h))
theorem AQ.guard_dt {p : Prop} [Decidable p] (hj : (all[j]?).bind (·.dst) = some s) (hs : lk tm s = some (.bool (decide p))) (hn : Nat.blt d n = true) (h1 : p → AQ P all (⟨some d, op, ty, pos, af, none⟩ :: rest) ⟨n, (s, .bool true) :: tm, hp⟩ Q)
    (h2 : ¬ p → AQ P all rest ⟨n, (d, .raw undef) :: (s, .bool false) :: tm, hp⟩ Q) : AQ P all (⟨some d, op, ty, pos, af, some (j, true)⟩ :: rest) ⟨n, tm, hp⟩ Q :=
  AQ.guard hj hs hn (fun h => h1 (of_decide_eq_true h)) (fun h => h2 (of_decide_eq_false h))
theorem AQ.guard_df {p : Prop} [Decidable p] (hj : (all[j]?).bind (·.dst) = some s) (hs : lk tm s = some (.bool (decide p))) (hn : Nat.blt d n = true) (h1 : ¬ p → AQ P all (⟨some d, op, ty, pos, af, none⟩ :: rest) ⟨n, (s, .bool false) :: tm, hp⟩ Q)
    (h2 : p → AQ P all rest ⟨n, (d, .raw undef) :: (s, .bool true) :: tm, hp⟩ Q) : AQ P all (⟨some d, op, ty, pos, af, some (j, false)⟩ :: rest) ⟨n, tm, hp⟩ Q :=
  AQ.guard hj hs hn (fun h => h1 (of_decide_eq_false h)) (fun h => h2 (of_decide_eq_true h))

/-- A negated test: as a test of the contrary. -/
theorem q_not_d {xt : TypeId} {x : Operand} {p : Prop} [Decidable p] (hx : evA tm x = some (.bool (decide p))) : QV P ⟨some d, .unOp .not xt x, ty, pos, af, none⟩ ⟨n, tm, hp⟩ (.bool (decide (¬ p))) := by
  have h : (!decide p) = decide (¬ p) := by by_cases h : p <;> simp [h]
  rw [← h]
  exact q_not hx
end rules

end Go.Eng

