/- The engine: abstract values, the symbolic heap, one rule for each operation. No program in sight. -/
import Derived.Test.YtkggljololbmiaaGreatDoorEngC
import Derived.Laws.BytesArg
import Derived.Shelf.SlSortCmp.NoneTotal
/- The engine, part 25: bytes and strings. No program in sight. -/
set_option linter.unusedVariables false
set_option linter.unusedSectionVars false
namespace Go.Eng
open Go
variable [GTab]
/-- How deep a function that calls itself is followed. -/
def depth : Nat := 100000
/-- The string of some bytes. -/
def strB (l : List Int) : Str := l.map (fun n => UInt8.ofNat n.toNat)
theorem flat_u8 : ∀ l : List Int, flat (l.map (AV.int .u8)) = l.map (AV.int .u8)
  | [] => rfl
  | x :: l => by
    show (AV.int .u8 x).cells ++ flat (l.map (AV.int .u8)) = _
    rw [flat_u8 l]; rfl
section rules
variable {P : Program} {all : Array Oper} {rest : List Oper} {n : Nat} {tm : List (Nat × AV)} {hp : Heap} {Q : St → Prop} {d : Nat} {ty : TypeId} {pos : String} {af : Array Edge}
theorem q_conv_bs {src dst e : TypeId} {x : Operand} {av : AV} {l : List Int} [TUnder P src (.slice e)] [TUnder P e (.int .u8)] [TUnder P dst .string] (hx : evA tm x = some av) (co : CoB hp av (.list 1 (l.map (AV.int .u8)))) : QV P ⟨some d, .convert src dst x, ty, pos, af, none⟩ ⟨n, tm, hp⟩ (.str (strB l)) := by
  intro w S a r
  obtain ⟨v, hv, hat⟩ : ∃ v, a.eval x = v ∧ At w S av v := ⟨_, rfl, evA_at (σ := ⟨n, tm, hp⟩) r hx⟩
  obtain ⟨oa, cap, vs, e1, e2, e3, e4, e5, e6⟩ := (co.at r.hp hat).list_inv
  rw [flat_u8] at e3 e4
  have hvs : vs = l.map (Value.int .u8) := by
    apply List.ext_getElem?
    intro i
    rcases Nat.lt_or_ge i vs.length with h | h
    · have hl : i < l.length := by simpa [← e3] using h
      have := e4 i (.int .u8 l[i]) vs[i] (by simp [hl]) (by simp [h])
      have := this.int_inv
      simp [h, hl, this]
    · have hl : l.length ≤ i := by simpa [← e3] using h
      simp [h, hl]
  refine ⟨.string ⟨(strB l).toArray⟩, fun w1 ex => ?_, .str _⟩
  have hconv : (convert src dst (.slice oa l.length cap)).run P w1 = .ok (.string ⟨(strB l).toArray⟩) w1 := by
    cases l with
    | nil =>
      cases oa with
      | none => rw [run_convert_bytes_nil w1 src e TUnder.h TUnder.h _ _ dst TUnder.h]; rfl
      | some ad =>
        obtain ⟨b, off, sp⟩ := ad
        rw [run_convert_bytes_string w1 src dst e _ _ _ TUnder.h TUnder.h TUnder.h]
        simp [Conv.bytesToString, loadCells, loadCellsFrom, strB]
        rfl
    | cons y l =>
      obtain ⟨ad, h1, h2, h3, h4⟩ := e5 0 (.int .u8 y) (by rw [hvs]; rfl)
      obtain ⟨b, off, sp⟩ := ad
      obtain rfl : sp = none := h2
      rw [h1]
      exact run_convert_bytes_arg w1 src e TUnder.h TUnder.h b off _ cap (y :: l) rfl (fun i hi => by
        obtain ⟨ad, g1, g2, g3, g4⟩ := e5 i (.int .u8 (y :: l)[i]) (by rw [hvs, List.getElem?_map, List.getElem?_eq_getElem hi]; rfl)
        rw [h1] at g1
        obtain rfl := Option.some.inj g1
        have := ex.cell g4
        rw [this, List.getD, List.getElem?_eq_getElem hi]; rfl) dst TUnder.h
  simp only [List.length_map] at e1
  simp [execOp, hv, e1, hconv]
end rules
end Go.Eng

/- The engine, part 26: parts of arrays that are ours. No program in sight. -/
set_option linter.unusedVariables false
set_option linter.unusedSectionVars false
namespace Go.Eng
open Go
variable [GTab]
theorem upd_take {w : World} {S : Nat → Prop} {hp hp' : Heap} {b : Bk} {sz k : Nat} {xs : List AV} (r : HRel w S hp) (u : Upd hp b (.arr sz xs) b (.arr sz (xs.take k)) hp') : HRel w S hp' ∧ Evo w S hp w S hp' := by
  obtain ⟨pre, post, e1, e2⟩ := u.split
  subst e1; subst e2
  have hblk : ∀ n, Has (pre ++ (b, Ob.arr sz (xs.take k)) :: post) n ↔ Has (pre ++ (b, Ob.arr sz xs) :: post) n := by
    intro n
    constructor <;> rintro ⟨x, hx, hb⟩ <;> rcases mem_mid.1 hx with rfl | hx
    · exact ⟨(b, .arr sz xs), mem_mid.2 (.inl rfl), hb⟩
    · exact ⟨x, mem_mid.2 (.inr hx), hb⟩
    · exact ⟨(b, .arr sz (xs.take k)), mem_mid.2 (.inl rfl), hb⟩
    · exact ⟨x, mem_mid.2 (.inr hx), hb⟩
  refine ⟨⟨?_, ?_, ?_, r.slt, r.glob⟩, ⟨rfl, rfl, rfl, Nat.le_refl _, fun n hn => ⟨hn, rfl⟩, fun n _ _ => ⟨rfl, id⟩, fun n hn => .inl ((hblk n).1 hn), fun _ => Nat.le_refl _⟩⟩
  · have := r.nodup
    simpa [List.flatMap_append, List.flatMap_cons, eb, Ob.more] using this
  · intro x hx
    rcases mem_mid.1 hx with rfl | hx
    · obtain ⟨h0, h1, h2⟩ := r.holds (b, .arr sz xs) (mem_mid.2 (.inl rfl))
      refine ⟨fun x hx => h0 x (List.mem_of_mem_take hx), Nat.le_trans (by simp only [List.length_take]; omega) h1, h2.imp id ?_⟩
      rintro ⟨n, vs, E, g1, g2, g3, g4⟩
      refine ⟨n, vs, E, g1, g2, g3, fun i c v hc hv => ?_⟩
      have hp : ∃ t, flat xs = flat (xs.take k) ++ t := ⟨flat (xs.drop k), by
        show xs.flatMap AV.cells = (xs.take k).flatMap AV.cells ++ (xs.drop k).flatMap AV.cells
        rw [← List.flatMap_append, List.take_append_drop]⟩
      obtain ⟨t, ht⟩ := hp
      refine g4 i c v ?_ hv
      rw [ht, List.getElem?_append_left (List.getElem?_eq_some_iff.1 hc).1]
      exact hc
    · exact r.holds x (mem_mid.2 (.inr hx))
  · intro x hx n hn
    rcases mem_mid.1 hx with rfl | hx
    · have := r.sep (b, .arr sz xs) (mem_mid.2 (.inl rfl)) n hn
      exact ⟨fun h => (this.1 h).elim, fun h => h.elim⟩
    · exact r.sep x (mem_mid.2 (.inr hx)) n hn
/-- An array is told of as far as some element. -/
theorem ImpX.take {n k : Nat} {tm : List (Nat × AV)} {hp hp' : Heap} {T : St → Prop} {b : Bk} {sz : Nat} {xs : List AV} (u : Upd hp b (.arr sz xs) b (.arr sz (xs.take k)) hp') (kk : ImpX ⟨n, tm, hp'⟩ T) : ImpX ⟨n, tm, hp⟩ T := by
  refine ImpX.step (σ1 := ⟨n, tm, hp'⟩) (fun w S a r => ?_) kk
  obtain ⟨g1, g2⟩ := upd_take r.hp u
  exact ⟨_, S, rfl, ⟨r.size, r.defers, r.tm, g1⟩, g2⟩
section rules
variable {P : Program} {all : Array Oper} {rest : List Oper} {n : Nat} {tm : List (Nat × AV)} {hp : Heap} {Q : St → Prop} {d : Nat} {ty : TypeId} {pos : String} {af : Array Edge}
end rules
end Go.Eng

/- The engine, part 27: reading the insides of values otherwise; make of slices. No program in sight. -/
set_option linter.unusedVariables false
set_option linter.unusedSectionVars false
namespace Go.Eng
open Go
variable [GTab]

/-- What a value reads as too: lists without memory and frozen arrays, inside of structs and lists as well. -/
inductive CoX (hp : Heap) : AV → AV → Prop
  | co {a a' : AV} (c : Co hp a a') : CoX hp a a'
  | agg (cs cs' : List AV) (hl : cs'.length = cs.length) (h : ∀ (i : Nat) c c', cs[i]? = some c → cs'[i]? = some c' → CoX hp c c') : CoX hp (.agg cs) (.agg cs')
  | tup (cs cs' : List AV) (hl : cs'.length = cs.length) (h : ∀ (i : Nat) c c', cs[i]? = some c → cs'[i]? = some c' → CoX hp c c') : CoX hp (.tup cs) (.tup cs')
  | list (sz : Nat) (xs ys : List AV) (hn : ys.length = xs.length) (hl : (flat ys).length = (flat xs).length) (he : ∀ y ∈ ys, El sz y) (h : ∀ (i : Nat) c c', (flat xs)[i]? = some c → (flat ys)[i]? = some c' → CoX hp c c') : CoX hp (.list sz xs) (.list sz ys)
inductive CoXL (hp : Heap) : List AV → List AV → Prop
  | nil : CoXL hp [] []
  | cons {a a' : AV} {l l' : List AV} (c : CoX hp a a') (k : CoXL hp l l') : CoXL hp (a :: l) (a' :: l')
theorem CoX.r {hp : Heap} {a : AV} : CoX hp a a := .co (.refl _)
theorem CoX.n {hp : Heap} {sz : Nat} : CoX hp .nil (.list sz []) := .co (.nil _)
theorem CoXL.refl {hp : Heap} : ∀ l : List AV, CoXL hp l l
  | [] => .nil
  | _ :: l => .cons .r (CoXL.refl l)
theorem CoXL.each {hp : Heap} : ∀ {l l' : List AV}, CoXL hp l l' → l'.length = l.length ∧ ∀ (i : Nat) c c', l[i]? = some c → l'[i]? = some c' → CoX hp c c'
  | [], _, .nil => ⟨rfl, fun i c c' h => by simp at h⟩
  | _ :: _, _, .cons c k => by
    obtain ⟨g1, g2⟩ := CoXL.each k
    refine ⟨by simp [g1], fun i c1 c2 h1 h2 => ?_⟩
    match i with
    | 0 => simp at h1 h2; subst h1; subst h2; assumption
    | i + 1 => exact g2 i c1 c2 (by simpa using h1) (by simpa using h2)
theorem CoX.listL {hp : Heap} {sz : Nat} {xs ys : List AV} (k : CoXL hp (flat xs) (flat ys)) (hn : Nat.beq ys.length xs.length = true) (he : allEl sz ys = true) : CoX hp (.list sz xs) (.list sz ys) :=
  .list sz xs ys (Nat.eq_of_beq_eq_true hn) k.each.1 (allEl_spec he) k.each.2
theorem CoX.at {w : World} {S : Nat → Prop} {hp : Heap} {a a' : AV} {v : Value} (c : CoX hp a a') (r : HRel w S hp) (h : At w S a v) : At w S a' v := by
  induction c generalizing v with
  | co c => exact c.at r h
  | agg cs cs' hl _ ih =>
    cases h with
    | agg _ vs h1 h2 =>
      refine .agg cs' vs (by rw [hl, h1]) (fun i c v hc hv => ?_)
      have hi : i < cs.length := by rw [← hl]; exact (List.getElem?_eq_some_iff.1 hc).1
      exact ih i cs[i] c (by simp [hi]) hc (h2 i _ _ (by simp [hi]) hv)
  | tup cs cs' hl _ ih =>
    cases h with
    | tup _ vs h1 h2 =>
      refine .tup cs' vs (by rw [hl, h1]) (fun i c v hc hv => ?_)
      have hi : i < cs.length := by rw [← hl]; exact (List.getElem?_eq_some_iff.1 hc).1
      exact ih i cs[i] c (by simp [hi]) hc (h2 i _ _ (by simp [hi]) hv)
  | list sz xs ys hn hl he _ ih =>
    cases h with
    | list _ _ a cap vs g1 g2 g3 g4 g5 =>
      rw [← hn]
      refine .list sz ys a cap vs he (by rw [hl, g2]) (fun i c v hc hv => ?_) g4 (by rw [hn]; exact g5)
      have hi : i < (flat xs).length := by rw [← hl]; exact (List.getElem?_eq_some_iff.1 hc).1
      exact ih i (flat xs)[i] c (by simp [hi]) hc (g3 i _ _ (by simp [hi]) hv)
theorem ImpX.cox {n s : Nat} {tm : List (Nat × AV)} {hp : Heap} {T : St → Prop} {av av' : AV} (hs : lk tm s = some av) (c : CoX hp av av') (k : ImpX ⟨n, (s, av') :: tm, hp⟩ T) : ImpX ⟨n, tm, hp⟩ T := by
  refine ImpX.step (σ1 := ⟨n, (s, av') :: tm, hp⟩) (fun w S a r => ⟨_, S, rfl, ⟨r.size, r.defers, fun t av h => ?_, r.hp⟩, Evo.refl _ _ _⟩) k
  simp only [lk] at h
  split at h
  · rename_i hb
    obtain rfl : s = t := by simpa using hb
    obtain rfl := Option.some.inj h
    obtain ⟨v, h1, h2⟩ := r.tm s _ hs
    exact ⟨v, h1, c.at r.hp h2⟩
  · exact r.tm t av h

section rules
variable {P : Program} {all : Array Oper} {rest : List Oper} {n : Nat} {tm : List (Nat × AV)} {hp : Heap} {Q : St → Prop} {d : Nat} {ty : TypeId} {pos : String} {af : Array Edge}
end rules
end Go.Eng

/- The engine, part 28: slices.SortFunc, over the shelf's contract of it. No program in sight. -/
set_option linter.unusedVariables false
set_option linter.unusedSimpArgs false
set_option linter.unusedSectionVars false
namespace Go.Eng
open Go Go.Sort Go.Proofs
variable [GTab]

/-- What the shelf says of an instance of slices.SortFunc whose elements have k cells. -/
structure SortK (P : Program) (f : FuncId) (k : Nat) : Prop where
  some_ : ∀ (enc : Nat → List Value) (_ : ∀ x, (enc x).length = k) (_ : ∀ x, ∀ v ∈ enc x, v.oneCell' = true) (cf : Nat → Nat → Int) (_ : SWO (ltOf cf)) (g : Nat) (cb : Array Value) (blk off cap : Nat) (d : Array Nat) (w : World)
    (_ : ∀ args w, (callFunc g args).run P w = .ok (.enter g args) w) (_ : CmpLays P g cb enc k cf blk off d.size w) (_ : HoldsK enc k w blk off d) (_ : blk < w.heap.size) (_ : d.size < 4611686018427387904),
    Calls P f #[.slice (some ⟨blk, off, none⟩) d.size cap, .func (.func g) #[] cb] w fun e w' =>
      e = .returned (.tuple #[]) ∧ ∃ n os, w' = sortWorldK enc k w blk off n (pdq (ltOf cf) d 0 d.size (Lib.bitLen d.size) true true) os
  none_ : ∀ (p : Option Addr) (cap : Nat) (fv : Value) (w : World), Calls P f #[.slice p 0 cap, fv] w fun e w' => e = .returned (.tuple #[]) ∧ w' = w

/-- The i-th element; the first one behind the end. -/
def elx {α : Type} (x : α) (r : List α) (i : Nat) : α := (x :: r).getD i x
/-- A world with new blocks alone, written out. -/
theorem Ext.grown {w w' : World} (hd : GTab.dr) (e : Ext w w') : ∃ q os, w' = grow (w.drewN q) os := by
  refine ⟨w'.drawn - w.drawn, w'.heap.extract w.heap.size w'.heap.size, ?_⟩
  obtain ⟨h', t', d', o', out'⟩ := w'
  have e1 := e.os; have e2 := e.tape; have e3 := e.output; have e4 := e.drawn hd; have e5 := e.size; have e6 := e.same
  simp only at e1 e2 e3 e4 e5 e6
  subst e1 e2 e3
  unfold grow World.drewN
  simp only [World.mk.injEq, and_true, true_and]
  refine ⟨?_, by omega⟩
  apply Array.ext_getElem?
  intro i
  by_cases hi : i < w.heap.size
  · rw [e6 i hi, Array.getElem?_append_left hi]
  · rw [Array.getElem?_append_right (by omega), Array.getElem?_extract]
    by_cases h2 : i < h'.size
    · rw [if_pos (by omega)]
      congr 1; omega
    · rw [if_neg (by omega), Array.getElem?_eq_none (by omega)]

end Go.Eng

/- The engine, part 29: parts of arrays of ours: their elements, clear. No program in sight. -/
set_option linter.unusedVariables false
set_option linter.unusedSimpArgs false
set_option linter.unusedSectionVars false
namespace Go.Eng
open Go
variable [GTab]

section rules
variable {P : Program} {all : Array Oper} {rest : List Oper} {n : Nat} {tm : List (Nat × AV)} {hp : Heap} {Q : St → Prop} {d : Nat} {ty : TypeId} {pos : String} {af : Array Edge}
end rules
end Go.Eng

/- The engine, part 30: slices.Sort at elements of one cell, over the shelf's contracts. No program in sight. -/
set_option linter.unusedVariables false
set_option linter.unusedSimpArgs false
set_option linter.unusedSectionVars false
namespace Go.Eng
open Go Go.Sort Go.Proofs
variable [GTab]

structure Sort1 {α : Type} [Inhabited α] (P : Program) (f : FuncId) (enc : α → Value) (srt : List α → List α) : Prop where
  some_ : ∀ (blk off cap : Nat) (zs : List α) (w : World), Sort.Holds enc w blk off zs.toArray → blk < w.heap.size → zs.length < 4611686018427387904 → Calls P f #[.slice (some ⟨blk, off, none⟩) zs.length cap] w fun e w' =>
    e = .returned (.tuple #[]) ∧ ∃ n os, w' = grow (putRow enc (Sort.ahead w n) blk off (srt zs).toArray) os
  none_ : ∀ (p : Option Addr) (cap : Nat) (w : World), Calls P f #[.slice p 0 cap] w fun e w' => e = .returned (.tuple #[]) ∧ w' = w

theorem flat_ones {α : Type} {g : α → AV} (hc : ∀ x, (g x).cells = [g x]) : ∀ xs : List α, flat (xs.map g) = xs.map g
  | [] => rfl
  | x :: r => by rw [List.map_cons, flat_cons, hc, flat_ones hc r]; rfl
end Go.Eng

/- The engine, part 31: a call that turns memory of ours while it looks at other memory of ours. No program in sight. -/
set_option linter.unusedVariables false
set_option linter.unusedSimpArgs false
set_option linter.unusedSectionVars false
namespace Go.Eng
open Go
variable [GTab]

/-- A value that tells nothing of frozen memory. -/
def AV.noS1 : AV → Bool
  | .sl _ _ _ _ => true
  | .ptr _ _ => true
  | .agg cs => noLL cs
  | v => v.noL1
def noSL : List AV → Bool
  | [] => true
  | c :: r => c.noS1 && noSL r
/-- An object whose values tell nothing of frozen memory. -/
def Ob.NoS : Ob → Prop
  | .cells cs => noSL cs = true
  | .arr _ xs => ∀ x ∈ xs, noLL x.cells = true
  | _ => False
inductive NoSH : Heap → Prop
  | nil : NoSH []
  | cons {b : Bk} {o : Ob} {h : Heap} (c : o.NoS) (k : NoSH h) : NoSH ((b, o) :: h)
theorem NoSH.mem {h : Heap} (k : NoSH h) : ∀ e ∈ h, e.2.NoS := by
  induction k with
  | nil => intro e he; simp at he
  | cons c k ih =>
    intro e he
    rcases List.mem_cons.1 he with rfl | he
    · exact c
    · exact ih e he
theorem NoS.arrT {α : Type} {g : α → AV} {sz : Nat} {Xs : List α} (h : ∀ x, noLL (g x).cells = true) : (Ob.arr sz (Xs.map g)).NoS := fun x hx => by
  obtain ⟨y, _, rfl⟩ := List.mem_map.1 hx
  exact h y
section rules
variable {P : Program} {all : Array Oper} {rest : List Oper} {n : Nat} {tm : List (Nat × AV)} {hp : Heap} {Q : St → Prop} {d : Nat} {ty : TypeId} {pos : String} {af : Array Edge}
end rules
end Go.Eng

/- The engine, part 32: maps. No program in sight. -/
set_option linter.unusedVariables false
set_option linter.unusedSimpArgs false
set_option linter.unusedSectionVars false
namespace Go.Eng
open Go
variable [GTab]

/-! ### plain maps: lists of pairs in the order of their keys -/
/-- A strict order of keys. -/
class KLt (K : Type) where
  lt : K → K → Bool
instance : KLt Int := ⟨fun a b => decide (a < b)⟩
instance : KLt Bool := ⟨fun a b => !a && b⟩
instance : KLt (List UInt8) := ⟨fun a b => Op.bytesLess a b⟩
section plain
variable {K V : Type}
def mdel [DecidableEq K] (m : List (K × V)) (k : K) : List (K × V) := m.filter (fun e => decide (e.1 ≠ k))
def mins [KLt K] (k : K) (v : V) : List (K × V) → List (K × V)
  | [] => [(k, v)]
  | e :: r => if KLt.lt e.1 k = true then e :: mins k v r else (k, v) :: e :: r
def mset [DecidableEq K] [KLt K] (m : List (K × V)) (k : K) (v : V) : List (K × V) := mins k v (mdel m k)
def mget? [DecidableEq K] : List (K × V) → K → Option V
  | [], _ => none
  | e :: r, k => if e.1 = k then some e.2 else mget? r k
theorem mins_perm [KLt K] (k : K) (v : V) : ∀ (m : List (K × V)), (mins k v m).Perm ((k, v) :: m)
  | [] => List.Perm.refl _
  | e :: r => by
    unfold mins
    split
    · exact (List.Perm.cons e (mins_perm k v r)).trans (List.Perm.swap _ _ _)
    · exact List.Perm.refl _
theorem perm_map_inv {α β : Type} (f : α → β) : ∀ (l : List β) (M : List α), l.Perm (M.map f) → ∃ M' : List α, M'.Perm M ∧ l = M'.map f
  | [], M, h => by
    have := h.nil_eq
    rw [eq_comm, List.map_eq_nil_iff] at this
    subst this; exact ⟨[], List.Perm.refl _, rfl⟩
  | x :: t, M, h => by
    have hx : x ∈ M.map f := h.mem_iff.1 (by simp)
    obtain ⟨e, he, rfl⟩ := List.mem_map.1 hx
    obtain ⟨p, q, rfl⟩ := List.append_of_mem he
    have h2 : (f e :: t).Perm (f e :: (p ++ q).map f) := h.trans (by rw [List.map_append, List.map_cons, List.map_append]; exact List.perm_middle)
    obtain ⟨M', h3, rfl⟩ := perm_map_inv f t (p ++ q) (List.Perm.cons_inv h2)
    exact ⟨e :: M', (List.Perm.cons e h3).trans List.perm_middle.symm, rfl⟩
theorem mget_mem [DecidableEq K] {k : K} {v : V} : ∀ {m : List (K × V)}, mget? m k = some v → (k, v) ∈ m
  | [], h => by cases h
  | e :: r, h => by
    unfold mget? at h
    split at h
    · rename_i hk
      obtain rfl := Option.some.inj h
      subst hk; simp
    · exact List.mem_cons_of_mem _ (mget_mem h)
theorem mget_of_mem [DecidableEq K] {k : K} {v : V} : ∀ {m : List (K × V)}, (m.map Prod.fst).Nodup → (k, v) ∈ m → mget? m k = some v
  | [], _, h => by simp at h
  | e :: r, hn, h => by
    rw [List.map_cons, List.nodup_cons] at hn
    unfold mget?
    rcases List.mem_cons.1 h with rfl | h
    · simp
    · rw [if_neg (fun hk => hn.1 (List.mem_map.2 ⟨_, h, hk.symm⟩))]
      exact mget_of_mem hn.2 h
theorem mget_none [DecidableEq K] {k : K} : ∀ {m : List (K × V)}, mget? m k = none ↔ ∀ e ∈ m, e.1 ≠ k
  | [] => by simp [mget?]
  | e :: r => by
    unfold mget?
    split
    · rename_i hk; simp [hk]
    · rename_i hk
      rw [mget_none (m := r)]
      simp [hk]
theorem mget_perm [DecidableEq K] {m m' : List (K × V)} (hp : m'.Perm m) (hn : (m'.map Prod.fst).Nodup) (k : K) : mget? m' k = mget? m k := by
  have hn' : (m.map Prod.fst).Nodup := (hp.map _).nodup_iff.1 hn
  cases h : mget? m' k with
  | none =>
    symm
    rw [mget_none] at h ⊢
    exact fun e he => h e (hp.mem_iff.2 he)
  | some v => exact (mget_of_mem hn' (hp.mem_iff.1 (mget_mem h))).symm
theorem mdel_none [DecidableEq K] {m : List (K × V)} {k : K} (h : mget? m k = none) : mdel m k = m := by
  rw [mget_none] at h
  unfold mdel
  exact List.filter_eq_self.2 fun e he => by simpa using h e he
end plain

/-! ### keys -/
/-- The first entry of a key. -/
def findP {K : Type} [DecidableEq K] (k : K) : List K → List MapEntry → Nat → Option (Nat × Value)
  | k' :: ks, e :: es, i => if k' = k then some (i, e.val) else findP k ks es (i + 1)
  | _, _, _ => none
class MKey (P : Program) (t : TypeId) {K : Type} [DecidableEq K] (g : K → AV) : Prop where
  inj : ∀ a b, g a = g b → a = b
  check : ∀ {w : World} {S : Nat → Prop} {k : K} {v : Value}, At w S (g k) v → ∀ (b : Bool) (w1 : World), (Instr.checkKey b 10000 t v).run P w1 = .ok () w1
  find : ∀ {w : World} {S : Nat → Prop} {k : K} {v : Value}, At w S (g k) v → ∀ (es : List MapEntry) (ks : List K), ks.length = es.length → (∀ (i : Nat) k' e, ks[i]? = some k' → es[i]? = some e → At w S (g k') e.key) → ∀ w1 : World, (Instr.findKey t v es).run P w1 = .ok (findP k ks es 0) w1
  bits : ∀ {w : World} {S : Nat → Prop} {k : K} {v u : Value}, At w S (g k) v → At w S (g k) u → Instr.sameBits 10000 v u = true
theorem findNow_P {K : Type} [DecidableEq K] {d : TypeDesc} {v : Value} {k : K} {q : K → Value → Prop} (hq : ∀ k' u, q k' u → Instr.sameNow d v u = some (decide (k' = k))) : ∀ (es : List MapEntry) (ks : List K) (i : Nat), ks.length = es.length → (∀ (i : Nat) k' e, ks[i]? = some k' → es[i]? = some e → q k' e.key) → Instr.findNow d v es i = some (findP k ks es i)
  | [], [], i, _, _ => rfl
  | [], k' :: ks, i, hl, _ => by simp at hl
  | e :: es, [], i, hl, _ => by simp at hl
  | e :: es, k' :: ks, i, hl, h => by
    unfold Instr.findNow findP
    rw [hq k' e.key (h 0 k' e rfl rfl)]
    by_cases hk : k' = k
    · simp [hk]
    · simp only [hk, decide_false, if_false]
      exact findNow_P hq es ks (i + 1) (by simpa using hl) (fun i k' e h1 h2 => h (i + 1) k' e (by simpa using h1) (by simpa using h2))
theorem ba_beq (a b : ByteArray) : ((a == b) = true) ↔ a = b := by
  cases a with
  | mk a =>
    cases b with
    | mk b =>
      show (a == b) = true ↔ _
      rw [beq_iff_eq]
      exact ⟨fun h => by rw [h], fun h => by cases h; rfl⟩
theorem MKey.int {P : Program} {t : TypeId} {q : IntKind} (h : P.underlying t = some (.int q)) : MKey P t (K := Int) (fun n => AV.int q n) where
  inj a b h := by simpa using h
  check := fun {w S k v} hv b w1 => by
    rw [hv.int_inv]
    have key : ∀ n : Nat, (Instr.checkKey b (n + 1) t (Value.int q k)).run P w1 = .ok () w1 := fun n => by simp [Instr.checkKey, run_underlying h]
    exact key 9999
  find := fun {w S k v} hv es ks hl hk w1 => by
    rw [hv.int_inv]
    have hf := findNow_P (d := (.int q)) (v := (Value.int q k)) (k := k) (q := fun k' u => u = (Value.int q k')) (fun k' u hu => by subst hu; simp only [Instr.sameNow, if_true]; congr 1; rw [Bool.eq_iff_iff]; simp; exact eq_comm) es ks 0 hl (fun i k' e h1 h2 => (hk i k' e h1 h2).int_inv)
    simp [Instr.findKey, run_underlying h, hf]
  bits := fun {w S k v u} h1 h2 => by rw [h1.int_inv, h2.int_inv]; simp [Instr.sameBits]
theorem MKey.bool {P : Program} {t : TypeId} (h : P.underlying t = some .bool) : MKey P t (K := Bool) AV.bool where
  inj a b h := by simpa using h
  check := fun {w S k v} hv b w1 => by
    rw [hv.bool_inv]
    have key : ∀ n : Nat, (Instr.checkKey b (n + 1) t (Value.bool k)).run P w1 = .ok () w1 := fun n => by simp [Instr.checkKey, run_underlying h]
    exact key 9999
  find := fun {w S k v} hv es ks hl hk w1 => by
    rw [hv.bool_inv]
    have hf := findNow_P (d := .bool) (v := (Value.bool k)) (k := k) (q := fun k' u => u = (Value.bool k')) (fun k' u hu => by subst hu; simp only [Instr.sameNow]; congr 1; rw [Bool.eq_iff_iff]; simp; exact eq_comm) es ks 0 hl (fun i k' e h1 h2 => (hk i k' e h1 h2).bool_inv)
    simp [Instr.findKey, run_underlying h, hf]
  bits := fun {w S k v u} h1 h2 => by rw [h1.bool_inv, h2.bool_inv]; simp [Instr.sameBits]
theorem MKey.str {P : Program} {t : TypeId} (h : P.underlying t = some .string) : MKey P t (K := List UInt8) AV.str where
  inj a b h := by simpa using h
  check := fun {w S k v} hv b w1 => by
    rw [hv.str_inv]
    have key : ∀ n : Nat, (Instr.checkKey b (n + 1) t (Value.string ⟨k.toArray⟩)).run P w1 = .ok () w1 := fun n => by simp [Instr.checkKey, run_underlying h]
    exact key 9999
  find := fun {w S k v} hv es ks hl hk w1 => by
    rw [hv.str_inv]
    have hf := findNow_P (d := .string) (v := (Value.string ⟨k.toArray⟩)) (k := k) (q := fun k' u => u = (Value.string ⟨k'.toArray⟩)) (fun k' u hu => by subst hu; simp only [Instr.sameNow]; congr 1; rw [Bool.eq_iff_iff, ba_beq]; simp; exact eq_comm) es ks 0 hl (fun i k' e h1 h2 => (hk i k' e h1 h2).str_inv)
    simp [Instr.findKey, run_underlying h, hf]
  bits := fun {w S k v u} h1 h2 => by rw [h1.str_inv, h2.str_inv]; simp only [Instr.sameBits]; exact (ba_beq _ _).2 rfl
instance {P : Program} {t : TypeId} [h : TUnder P t (.int .i64)] : MKey P t (K := Int) I := MKey.int h.h
instance {P : Program} {t : TypeId} [h : TUnder P t .bool] : MKey P t (K := Bool) AV.bool := MKey.bool h.h
instance {P : Program} {t : TypeId} [h : TUnder P t .string] : MKey P t (K := List UInt8) AV.str := MKey.str h.h
end Go.Eng

/- The engine, part 33: maps: the operations. No program in sight. -/
set_option linter.unusedVariables false
set_option linter.unusedSimpArgs false
set_option linter.unusedSectionVars false
namespace Go.Eng
open Go
variable [GTab]

theorem run_getMap {P : Program} {w : World} {r : Nat} {es : Array MapEntry} {c : Nat} (h : w.heap[r]? = some (.map es c)) : (getObj r).run P w = .ok (.map es c) w := by
  simp only [getObj, Sem.run, h]
/-- A block that is no row of cells, written. -/
def setO (w : World) (r : Nat) (o : Obj) : World := { w with heap := w.heap.setIfInBounds r o }
theorem run_setMap {P : Program} {w : World} {r : Nat} {es : Array MapEntry} {c : Nat} (o : Obj) (h : w.heap[r]? = some (.map es c)) : (setObj r o).run P w = .ok () (setO w r o) := by
  simp only [setObj, Sem.run, h]; rfl
theorem setO_same {w : World} {r : Nat} {o o' : Obj} (h : w.heap[r]? = some o') : (setO w r o).heap[r]? = some o := by
  have hlt : r < w.heap.size := (Array.getElem?_eq_some_iff.1 h).1
  simp [setO, Array.getElem?_setIfInBounds, hlt]
theorem setO_other {w : World} {r k : Nat} {o : Obj} (h : k ≠ r) : (setO w r o).heap[k]? = w.heap[k]? := by
  simp [setO, Array.getElem?_setIfInBounds, Ne.symm h]
theorem setO_GB {w : World} {r : Nat} {o : Obj} {x : Option Nat} (hx : x = some r) : GB w (setO w r o) x :=
  ⟨⟨rfl, rfl, rfl, by simp [setO], fun k hk hne => setO_other (fun e => hne (by rw [hx, e]))⟩, fun _ => Nat.le_refl _⟩
theorem GB_refl (w : World) (x : Option Nat) : GB w w x := ⟨⟨rfl, rfl, rfl, Nat.le_refl _, fun _ _ _ => rfl⟩, fun _ => Nat.le_refl _⟩
theorem Ext.heap {w w' : World} {n : Nat} {o : Obj} (e : Ext w w') (h : w.heap[n]? = some o) : w'.heap[n]? = some o := by
  rw [e.same n (Array.getElem?_eq_some_iff.1 h).1]; exact h
theorem At.mref_inv {w : World} {S : Nat → Prop} {b : Bk} {v : Value} (h : At w S (.mref b) v) : ∃ n, b.blk = some n ∧ v = .map (some n) := by cases h with | mref _ n hb => exact ⟨n, hb, rfl⟩
/-- A map's entries, read with keys and values of plain types. -/
theorem mp_open {K V : Type} {gk : K → AV} {gv : V → AV} {w : World} {S : Nat → Prop} {hp : Heap} {b : Bk} {M : List (K × V)} (hinj : ∀ a b, gk a = gk b → a = b) (r : HRel w S hp) (f : Fnd hp b (.mp (M.map fun e => (gk e.1, gv e.2)))) :
    ∃ (L : List MEnt) (c : Nat) (M' : List (K × V)) (n : Nat) (ents : Array MapEntry), M'.Perm M ∧ L.map MEnt.kv = M'.map (fun e => (gk e.1, gv e.2)) ∧ HoldsM w S b L c ∧ b.blk = some n ∧ w.heap[n]? = some (.map ents c) ∧ ents.toList.length = M'.length ∧
      (∀ (i : Nat) e m, M'[i]? = some e → ents.toList[i]? = some m → At w S (gk e.1) m.key ∧ At w S (gv e.2) m.val) ∧ (M'.map Prod.fst).Nodup := by
  obtain ⟨L, c, hperm, hH⟩ := r.holds _ f.mem
  obtain ⟨M', h1, h2⟩ := perm_map_inv _ _ _ hperm
  have hH' := hH
  obtain ⟨n, ents, g1, g2, g3, g4, g5, g6, g7⟩ := hH
  have hlen : L.length = M'.length := by have := congrArg List.length h2; simpa using this
  refine ⟨L, c, M', n, ents, h1, h2, hH', g1, g2, by rw [Array.length_toList, g3, hlen], fun i e m he hm => ?_, ?_⟩
  · have : (L.map MEnt.kv)[i]? = some (gk e.1, gv e.2) := by rw [h2, List.getElem?_map, he]; rfl
    rw [List.getElem?_map] at this
    cases hL : L[i]? with
    | none => rw [hL] at this; cases this
    | some x =>
      rw [hL] at this
      have hx : (x.k, x.v) = (gk e.1, gv e.2) := Option.some.inj this
      obtain ⟨q1, q2⟩ := Prod.mk.inj hx
      have := g4 i x m hL (by simpa using hm)
      rw [q1, q2] at this
      exact this.2
  · have hk : L.map (·.k) = (M'.map Prod.fst).map gk := by
      have := congrArg (List.map Prod.fst) h2
      simpa [List.map_map, Function.comp_def, MEnt.kv] using this
    rw [hk] at g7
    exact (List.pairwise_map.1 g7).imp (fun h e => h (by rw [e]))
theorem set_same {α : Type} {l : List α} {j : Nat} {x : α} (h : l[j]? = some x) : l.set j x = l := by
  apply List.ext_getElem?
  intro i
  rw [List.getElem?_set]
  by_cases hij : j = i
  · subst hij
    have := (List.getElem?_eq_some_iff.1 h).1
    rw [if_pos rfl, if_pos this, h]
  · simp [hij]
theorem findP_M {K V : Type} [DecidableEq K] {gv : V → AV} {w : World} {S : Nat → Prop} {k : K} : ∀ (M : List (K × V)) (es : List MapEntry) (i : Nat), M.length = es.length → (∀ (j : Nat) e m, M[j]? = some e → es[j]? = some m → At w S (gv e.2) m.val) →
    (mget? M k = none ∧ findP k (M.map Prod.fst) es i = none) ∨ ∃ v j val, mget? M k = some v ∧ findP k (M.map Prod.fst) es i = some (i + j, val) ∧ At w S (gv v) val ∧ M[j]? = some (k, v)
  | [], [], i, _, _ => .inl ⟨rfl, rfl⟩
  | [], m :: es, i, hl, _ => by simp at hl
  | e :: M, [], i, hl, _ => by simp at hl
  | e :: M, m :: es, i, hl, h => by
    unfold mget?
    simp only [List.map_cons, findP]
    by_cases hk : e.1 = k
    · simp only [hk, if_true]
      refine .inr ⟨e.2, 0, m.val, rfl, rfl, h 0 e m rfl rfl, ?_⟩
      subst hk; rfl
    · simp only [hk, if_false]
      rcases findP_M M es (i + 1) (by simpa using hl) (fun j e' m' h1 h2 => h (j + 1) e' m' (by simpa using h1) (by simpa using h2)) with ⟨h1, h2⟩ | ⟨v, j, val, h1, h2, h3, h4⟩
      · exact .inl ⟨h1, h2⟩
      · exact .inr ⟨v, j + 1, val, h1, by rw [h2]; congr 2; omega, h3, by simpa using h4⟩

section rules
variable {P : Program} {all : Array Oper} {rest : List Oper} {n : Nat} {tm : List (Nat × AV)} {hp : Heap} {Q : St → Prop} {d : Nat} {ty : TypeId} {pos : String} {af : Array Edge}
theorem t_makeMap {t : TypeId} (hn : Nat.blt d n = true) (kk : ∀ b : Bk, ARun P all rest ⟨n, (d, .mref b) :: tm, (b, .mp []) :: hp⟩ Q) : ARun P all (⟨some d, .makeMap t none, ty, pos, af, none⟩ :: rest) ⟨n, tm, hp⟩ Q := by
  refine ARun.opx rfl fun w S a r => ?_
  have hh : Holds (w.alloc (.map #[] 0)) S ⟨some w.heap.size, 0⟩ (.mp []) := ⟨[], 0, List.Perm.refl _, w.heap.size, #[], rfl, by show (w.heap.push _)[w.heap.size]? = _; simp, rfl, by simp, by simp, by simp, by simp⟩
  obtain ⟨k1, k2, k3⟩ := add_rel r.hp (Ext.alloc w (.map #[] 0)) id hh (.inr ⟨_, rfl, Nat.le_refl _⟩)
  exact ⟨.map (some w.heap.size), w.alloc (.map #[] 0), S, _, by simp [execOp, Instr.makeMap], (r.heap k3 k1).put hn (.mref _ _ rfl), k2, kk ⟨some w.heap.size, 0⟩⟩
/-- The world behind a write to a map. -/
theorem map_write {w : World} {S : Nat → Prop} {hp hp' : Heap} {b : Bk} {m : Nat} {o o' : Ob} {ob old : Obj} (r : HRel w S hp) (u : Upd hp b o b o' hp') (hb : b.blk = some m) (ho : w.heap[m]? = some old) (hf : ¬ o.isFro) (hf' : ¬ o'.isFro) (hh : (∀ n, S n → S n ∧ (setO w m ob).heap[n]? = w.heap[n]?) → Holds (setO w m ob) S b o') (hm : o'.more = [] := by rfl) :
    HRel (setO w m ob) S hp' ∧ Evo w S hp (setO w m ob) S hp' ∧ ∀ n, S n → S n ∧ (setO w m ob).heap[n]? = w.heap[n]? := by
  have k1 : ∀ n, S n → S n ∧ (setO w m ob).heap[n]? = w.heap[n]? := fun k hk => ⟨hk, setO_other (fun e => by
    subst e
    exact hf ((r.sep _ u.fnd.mem _ (eb_of hb)).1 hk))⟩
  exact upd_rel r u (setO_GB hb) hf hf' (hh k1) (.inl rfl) hm
theorem t_mapUpdate {K V : Type} [DecidableEq K] [KLt K] {gk : K → AV} {gv : V → AV} {M : List (K × V)} {key : K} {v : V} {t kt vt : TypeId} {x y z : Operand} {b : Bk} {av : AV} {hp' : Heap} [TUnder P t (.map kt vt)] [MKey P kt gk] (hx : evA tm x = some (.mref b)) (hy : evA tm y = some (gk key)) (hz : evA tm z = some av) (hav : av = gv v) (u : Upd hp b (.mp (M.map fun e => (gk e.1, gv e.2))) b (.mp ((mset M key v).map fun e => (gk e.1, gv e.2))) hp')
    (kk : ARun P all rest ⟨n, tm, hp'⟩ Q) : ARun P all (⟨none, .mapUpdate t x y z, ty, pos, af, none⟩ :: rest) ⟨n, tm, hp⟩ Q := by
  refine ARun.act rfl rfl (fun w S a r => ?_) kk
  have kx := evA_at (σ := ⟨n, tm, hp⟩) r hx
  have ky := evA_at (σ := ⟨n, tm, hp⟩) r hy
  have kz := evA_at (σ := ⟨n, tm, hp⟩) r hz
  obtain ⟨nb, hb, ex⟩ := kx.mref_inv
  obtain ⟨L, c, M', nb', ents, p1, p2, p3, p4, p5, p6, p7, p8⟩ := mp_open (MKey.inj P kt) r.hp u.fnd
  obtain rfl : nb' = nb := by rw [p4] at hb; exact Option.some.inj hb
  have hfind := MKey.find (P := P) (t := kt) (g := gk) ky ents.toList (M'.map Prod.fst) (by simpa using p6.symm) (fun j k' e h1 h2 => by
    rw [List.getElem?_map] at h1
    cases hm : M'[j]? with
    | none => rw [hm] at h1; cases h1
    | some q => rw [hm] at h1; rw [← Option.some.inj h1]; exact (p7 j q e hm h2).1)
  obtain ⟨nb2, ents2, g1, g2, g3, g4, g5, g6, g7⟩ := p3
  obtain rfl : nb2 = nb' := by rw [p4] at g1; exact (Option.some.inj g1).symm
  obtain rfl : ents2 = ents := by rw [p5] at g2; exact (Obj.map.inj (Option.some.inj g2)).1.symm
  have hLM : L.length = M'.length := by have := congrArg List.length p2; simpa using this
  have hLi : ∀ (j : Nat) (x : MEnt) (e : K × V), L[j]? = some x → M'[j]? = some e → x.k = gk e.1 ∧ x.v = gv e.2 := by
    intro j x e h1 h2
    have : (L.map MEnt.kv)[j]? = (M'.map fun e => (gk e.1, gv e.2))[j]? := by rw [p2]
    rw [List.getElem?_map, List.getElem?_map, h1, h2] at this
    exact Prod.mk.inj (Option.some.inj this)
  rcases findP_M (gv := gv) (w := w) (S := S) (k := key) M' ents2.toList 0 p6.symm (fun j e m h1 h2 => (p7 j e m h1 h2).2) with ⟨q1, q2⟩ | ⟨v', j, val, q1, q2, q3, q4⟩
  · -- a new entry
    have hw := map_write (ob := .map (ents2.push ⟨a.eval y, a.eval z, c⟩) (c + 1)) r.hp u p4 p5 id id (fun k1 => by
      refine ⟨L ++ [⟨gk key, gv v, c⟩], c + 1, ?_, nb2, ents2.push ⟨a.eval y, a.eval z, c⟩, p4, setO_same p5, by simp [g3], ?_, ?_, ?_, ?_⟩
      · rw [List.map_append, p2]
        refine List.Perm.trans ?_ ((mins_perm key v (mdel M key)).symm.map _)
        rw [mdel_none (by rw [← mget_perm p1 p8]; exact q1)]
        exact List.perm_append_comm.trans (List.Perm.cons _ (p1.map _))
      · intro i e m he hm
        rw [Array.getElem?_push] at hm
        rcases Nat.lt_or_ge i L.length with hi | hi
        · rw [List.getElem?_append_left hi] at he
          rw [if_neg (by omega)] at hm
          obtain ⟨s1, s2, s3⟩ := g4 i e m he hm
          exact ⟨s1, s2.mono k1, s3.mono k1⟩
        · have hi2 : i = L.length := by
            have := (List.getElem?_eq_some_iff.1 he).1
            simp at this; omega
          subst hi2
          rw [if_pos g3.symm] at hm
          simp at he
          obtain rfl := Option.some.inj hm
          subst he
          exact ⟨rfl, ky.mono k1, by rw [hav] at kz; exact kz.mono k1⟩
      · intro e he
        rcases List.mem_append.1 he with h | h
        · have := g5 e h; omega
        · simp at h; subst h; simp
      · rw [List.map_append, List.nodup_append]
        refine ⟨g6, by simp, fun a1 ha b1 hb1 hab => ?_⟩
        simp at hb1
        subst hb1
        obtain ⟨e, he, rfl⟩ := List.mem_map.1 ha
        have := g5 e he
        omega
      · rw [List.map_append, List.nodup_append]
        refine ⟨g7, by simp, fun a1 ha b1 hb1 hab => ?_⟩
        simp at hb1
        subst hb1
        obtain ⟨e, he, rfl⟩ := List.mem_map.1 ha
        obtain ⟨j, hj⟩ := List.getElem?_of_mem he
        have hjl : j < M'.length := by rw [← hLM]; exact (List.getElem?_eq_some_iff.1 hj).1
        have := (hLi j e M'[j] hj (List.getElem?_eq_getElem hjl)).1
        rw [this] at hab
        exact (mget_none.1 q1) M'[j] (List.getElem_mem hjl) (MKey.inj P kt _ _ hab))
    refine ⟨_, S, ?_, r.heap hw.2.2 hw.1, hw.2.1⟩
    simp [execOp, Instr.mapUpdate, ex, run_underlying (TUnder.h (P := P) (t := t)), run_getMap p5, MKey.check (P := P) (t := kt) ky, hfind, q2, run_setMap _ p5]
  · -- an entry that is there
    have hjl : j < ents2.toList.length := by rw [p6]; exact (List.getElem?_eq_some_iff.1 q4).1
    have hjs : j < ents2.size := by simpa using hjl
    have hm0 : ents2.toList[j]? = some ents2[j] := by simp [hjs]
    have hk0 := (p7 j _ _ q4 hm0).1
    have hbits : Instr.sameBits 10000 ents2[j].key (a.eval y) = true := MKey.bits (P := P) (t := kt) hk0 ky
    have hjL : j < L.length := by omega
    have hw := map_write (ob := .map (ents2.modify j fun e => { e with key := a.eval y, val := a.eval z }) c) r.hp u p4 p5 id id (fun k1 => by
      refine ⟨L.set j ⟨gk key, gv v, L[j].born⟩, c, ?_, nb2, _, p4, setO_same p5, by simp [g3], ?_, ?_, ?_, ?_⟩
      · rw [List.map_set]
        refine List.Perm.trans ?_ ((mins_perm key v (mdel M key)).symm.map _)
        have e1 : (L.map MEnt.kv).set j (gk key, gv v) = (M'.set j (key, v)).map fun e => (gk e.1, gv e.2) := by rw [p2, List.map_set]
        show ((L.map MEnt.kv).set j (gk key, gv v)).Perm _
        rw [e1]
        refine List.Perm.map _ ?_
        have hjM : j < M'.length := by omega
        have e2 : M' = M'.take j ++ (key, v') :: M'.drop (j + 1) := by
          have := List.take_append_drop j M'
          rw [List.drop_eq_getElem_cons hjM] at this
          have hq : M'[j] = (key, v') := by rw [List.getElem?_eq_getElem hjM] at q4; exact Option.some.inj q4
          rw [hq] at this
          exact this.symm
        have e3 : M'.set j (key, v) = M'.take j ++ (key, v) :: M'.drop (j + 1) := by
          rw [List.set_eq_take_append_cons_drop, if_pos hjM]
        rw [e3]
        refine List.perm_middle.trans (List.Perm.cons _ ?_)
        have e4 : mdel M' key = M'.take j ++ M'.drop (j + 1) := by
          have p8' := p8
          rw [e2, List.map_append, List.map_cons, List.nodup_append, List.nodup_cons] at p8'
          unfold mdel
          rw [e2, List.filter_append, List.filter_cons]
          simp only [ne_eq, not_true_eq_false, decide_false, Bool.false_eq_true, if_false]
          rw [← e2]
          congr 1
          · refine List.filter_eq_self.2 fun e he => ?_
            simp only [decide_not, Bool.not_eq_true', decide_eq_false_iff_not]
            intro hk
            exact p8'.2.2 e.1 (List.mem_map.2 ⟨e, he, rfl⟩) key (by simp) hk
          · refine List.filter_eq_self.2 fun e he => ?_
            simp only [decide_not, Bool.not_eq_true', decide_eq_false_iff_not]
            intro hk
            exact p8'.2.1.1 (List.mem_map.2 ⟨e, he, hk⟩)
        rw [← e4]
        exact p1.filter _
      · intro i e m he hm
        rw [Array.getElem?_modify] at hm
        rw [List.getElem?_set] at he
        by_cases hij : j = i
        · subst hij
          simp only [if_true, hjL] at he
          simp only [if_true, Array.getElem?_eq_getElem hjs, Option.map_some] at hm
          obtain rfl := Option.some.inj he
          obtain rfl := Option.some.inj hm
          refine ⟨(g4 j L[j] ents2[j] (List.getElem?_eq_getElem hjL) (Array.getElem?_eq_getElem hjs)).1, ky.mono k1, by rw [hav] at kz; exact kz.mono k1⟩
        · rw [if_neg hij] at he hm
          obtain ⟨s1, s2, s3⟩ := g4 i e m he hm
          exact ⟨s1, s2.mono k1, s3.mono k1⟩
      · intro e he
        rcases List.mem_or_eq_of_mem_set he with h | h
        · exact g5 e h
        · subst h; exact g5 L[j] (List.getElem_mem hjL)
      · rw [List.map_set]
        have : (L.map (·.born)).set j L[j].born = L.map (·.born) := by
          exact set_same (by rw [List.getElem?_map, List.getElem?_eq_getElem hjL]; rfl)
        rw [this]; exact g6
      · rw [List.map_set]
        have : (L.map (·.k)).set j (gk key) = L.map (·.k) := by
          have hk := (hLi j L[j] _ (List.getElem?_eq_getElem hjL) q4).1
          exact set_same (by rw [List.getElem?_map, List.getElem?_eq_getElem hjL, Option.map_some, hk])
        rw [this]; exact g7)
    refine ⟨_, S, ?_, r.heap hw.2.2 hw.1, hw.2.1⟩
    simp [execOp, Instr.mapUpdate, ex, run_underlying (TUnder.h (P := P) (t := t)), run_getMap p5, MKey.check (P := P) (t := kt) ky, hfind, q2, Instr.keyThatStays, hjs, hbits, run_setMap _ p5]
theorem t_insert {K V : Type} [DecidableEq K] [KLt K] {gk : K → AV} {gv : V → AV} {M : List (K × V)} {key : K} {v : V} {t kt vt : TypeId} {x y z : Operand} {b : Bk} {av : AV} {hp' : Heap} [TUnder P t (.map kt vt)] [MKey P kt gk] (hx : evA tm x = some (.mref b)) (hy : evA tm y = some (gk key)) (hz : evA tm z = some av) (hav : av = gv v) (u : Upd hp b (.mp (M.map fun e => (gk e.1, gv e.2))) b (.mp ((mset M key v).map fun e => (gk e.1, gv e.2))) hp')
    (kk : ARun P all rest ⟨n, tm, hp'⟩ Q) : ARun P all (⟨none, .insert t x y z, ty, pos, af, none⟩ :: rest) ⟨n, tm, hp⟩ Q := by
  intro w S a r
  have := t_mapUpdate (all := all) (rest := rest) (ty := ty) (pos := pos) (af := af) (t := t) (kt := kt) (vt := vt) (gk := gk) (gv := gv) hx hy hz hav u kk w S a r
  unfold wpList at this ⊢
  exact this
end rules
end Go.Eng

/- The engine, part 34: maps: delete, len, walking through. No program in sight. -/
set_option linter.unusedVariables false
set_option linter.unusedSimpArgs false
set_option linter.unusedSectionVars false
namespace Go.Eng
open Go
variable [GTab]

section rules
variable {P : Program} {all : Array Oper} {rest : List Oper} {n : Nat} {tm : List (Nat × AV)} {hp : Heap} {Q : St → Prop} {d : Nat} {ty : TypeId} {pos : String} {af : Array Edge}
end rules
end Go.Eng

/- The engine, part 35: short forms of rules. No program in sight. -/
set_option linter.unusedVariables false
set_option linter.unusedSectionVars false
namespace Go.Eng
open Go
variable [GTab]

theorem bndE {α β : Type} {o : Option α} {f : α → Option β} {r : β} {C : Prop} (h : o.bind f = some r) (k : ∀ v, o = some v → f v = some r → C) : C :=
  let ⟨v, h1, h2⟩ := bnd h; k v h1 h2
/-- The entries at these places, each out of what the ones ahead have left. -/
def takeH : Heap → Nat → Option ((Bk × Ob) × Heap)
  | [], _ => none
  | e :: h, 0 => some (e, h)
  | e :: h, i + 1 => match takeH h i with
    | some (x, h') => some (x, e :: h')
    | none => none
def pickH : Heap → List Nat → Option Heap
  | _, [] => some []
  | h, i :: r => match takeH h i with
    | some (e, h') => match pickH h' r with
      | some t => some (e :: t)
      | none => none
    | none => none
theorem takeH_del : ∀ {h : Heap} {i : Nat} {e : Bk × Ob} {h' : Heap}, takeH h i = some (e, h') → Del h e.1 e.2 h'
  | [], _, _, _, hh => by simp [takeH] at hh
  | x :: h, 0, e, h', hh => by
    simp only [takeH, Option.some.injEq, Prod.mk.injEq] at hh
    obtain ⟨rfl, rfl⟩ := hh
    exact .here
  | x :: h, i + 1, e, h', hh => by
    simp only [takeH] at hh
    split at hh
    · rename_i y h1 h2
      simp only [Option.some.injEq, Prod.mk.injEq] at hh
      obtain ⟨rfl, rfl⟩ := hh
      exact .next (takeH_del h2)
    · cases hh
theorem pickH_hs : ∀ {l : List Nat} {h t : Heap}, pickH h l = some t → HS h t
  | [], h, t, hh => by
    simp only [pickH, Option.some.injEq] at hh
    subst hh; exact .nil
  | i :: r, h, t, hh => by
    simp only [pickH] at hh
    split at hh
    · rename_i e h' h1
      split at hh
      · rename_i t' h2
        obtain rfl := Option.some.inj hh
        exact .cons (takeH_del h1) (pickH_hs h2)
      · cases hh
    · cases hh
def selT (tm : List (Nat × AV)) : List Nat → Option (List (Nat × AV))
  | [] => some []
  | s :: r => match lk tm s with
    | some av => match selT tm r with
      | some l => some ((s, av) :: l)
      | none => none
    | none => none
theorem selT_all {tm : List (Nat × AV)} : ∀ {l : List Nat} {tm' : List (Nat × AV)}, selT tm l = some tm' → AllIn tm tm'
  | [], tm', h => by
    simp only [selT, Option.some.injEq] at h
    subst h; exact True.intro
  | s :: r, tm', h => by
    simp only [selT] at h
    split at h
    · rename_i av h1
      split at h
      · rename_i t' h2
        obtain rfl := Option.some.inj h
        exact ⟨h1, selT_all h2⟩
      · cases h
    · cases h
theorem ImpX.lq {n : Nat} {tm tm' : List (Nat × AV)} {hp hp' : Heap} {T : St → Prop} (is : List Nat) (h : T ⟨n, tm', hp'⟩) (ht : selT tm (tm'.map Prod.fst) = some tm') (hs : pickH hp is = some hp') : ImpX ⟨n, tm, hp⟩ T :=
  ImpX.lessP (selT_all ht) (pickH_hs hs) (ImpX.here h)

theorem Fnd.p0 {b : Bk} {o : Ob} {h : Heap} : Fnd ((b, o) :: h) b o := .here
theorem Upd.p0 {b b' : Bk} {o o' : Ob} {h : Heap} : Upd ((b, o) :: h) b o b' o' ((b', o') :: h) := .here
theorem Del.p0 {b : Bk} {o : Ob} {h : Heap} : Del ((b, o) :: h) b o (h) := .here
theorem Fnd.p1 {e0 : Bk × Ob} {b : Bk} {o : Ob} {h : Heap} : Fnd (e0 :: (b, o) :: h) b o := .next .p0
theorem Upd.p1 {e0 : Bk × Ob} {b b' : Bk} {o o' : Ob} {h : Heap} : Upd (e0 :: (b, o) :: h) b o b' o' (e0 :: (b', o') :: h) := .next .p0
theorem Del.p1 {e0 : Bk × Ob} {b : Bk} {o : Ob} {h : Heap} : Del (e0 :: (b, o) :: h) b o (e0 :: h) := .next .p0
theorem Fnd.p2 {e0 : Bk × Ob} {e1 : Bk × Ob} {b : Bk} {o : Ob} {h : Heap} : Fnd (e0 :: e1 :: (b, o) :: h) b o := .next .p1
theorem Upd.p2 {e0 : Bk × Ob} {e1 : Bk × Ob} {b b' : Bk} {o o' : Ob} {h : Heap} : Upd (e0 :: e1 :: (b, o) :: h) b o b' o' (e0 :: e1 :: (b', o') :: h) := .next .p1
theorem Del.p2 {e0 : Bk × Ob} {e1 : Bk × Ob} {b : Bk} {o : Ob} {h : Heap} : Del (e0 :: e1 :: (b, o) :: h) b o (e0 :: e1 :: h) := .next .p1
theorem Fnd.p3 {e0 : Bk × Ob} {e1 : Bk × Ob} {e2 : Bk × Ob} {b : Bk} {o : Ob} {h : Heap} : Fnd (e0 :: e1 :: e2 :: (b, o) :: h) b o := .next .p2
theorem Upd.p3 {e0 : Bk × Ob} {e1 : Bk × Ob} {e2 : Bk × Ob} {b b' : Bk} {o o' : Ob} {h : Heap} : Upd (e0 :: e1 :: e2 :: (b, o) :: h) b o b' o' (e0 :: e1 :: e2 :: (b', o') :: h) := .next .p2
theorem Del.p3 {e0 : Bk × Ob} {e1 : Bk × Ob} {e2 : Bk × Ob} {b : Bk} {o : Ob} {h : Heap} : Del (e0 :: e1 :: e2 :: (b, o) :: h) b o (e0 :: e1 :: e2 :: h) := .next .p2
theorem Fnd.p4 {e0 : Bk × Ob} {e1 : Bk × Ob} {e2 : Bk × Ob} {e3 : Bk × Ob} {b : Bk} {o : Ob} {h : Heap} : Fnd (e0 :: e1 :: e2 :: e3 :: (b, o) :: h) b o := .next .p3
theorem Upd.p4 {e0 : Bk × Ob} {e1 : Bk × Ob} {e2 : Bk × Ob} {e3 : Bk × Ob} {b b' : Bk} {o o' : Ob} {h : Heap} : Upd (e0 :: e1 :: e2 :: e3 :: (b, o) :: h) b o b' o' (e0 :: e1 :: e2 :: e3 :: (b', o') :: h) := .next .p3
theorem Del.p4 {e0 : Bk × Ob} {e1 : Bk × Ob} {e2 : Bk × Ob} {e3 : Bk × Ob} {b : Bk} {o : Ob} {h : Heap} : Del (e0 :: e1 :: e2 :: e3 :: (b, o) :: h) b o (e0 :: e1 :: e2 :: e3 :: h) := .next .p3
theorem Fnd.p5 {e0 : Bk × Ob} {e1 : Bk × Ob} {e2 : Bk × Ob} {e3 : Bk × Ob} {e4 : Bk × Ob} {b : Bk} {o : Ob} {h : Heap} : Fnd (e0 :: e1 :: e2 :: e3 :: e4 :: (b, o) :: h) b o := .next .p4
theorem Upd.p5 {e0 : Bk × Ob} {e1 : Bk × Ob} {e2 : Bk × Ob} {e3 : Bk × Ob} {e4 : Bk × Ob} {b b' : Bk} {o o' : Ob} {h : Heap} : Upd (e0 :: e1 :: e2 :: e3 :: e4 :: (b, o) :: h) b o b' o' (e0 :: e1 :: e2 :: e3 :: e4 :: (b', o') :: h) := .next .p4
theorem Del.p5 {e0 : Bk × Ob} {e1 : Bk × Ob} {e2 : Bk × Ob} {e3 : Bk × Ob} {e4 : Bk × Ob} {b : Bk} {o : Ob} {h : Heap} : Del (e0 :: e1 :: e2 :: e3 :: e4 :: (b, o) :: h) b o (e0 :: e1 :: e2 :: e3 :: e4 :: h) := .next .p4
theorem Fnd.p6 {e0 : Bk × Ob} {e1 : Bk × Ob} {e2 : Bk × Ob} {e3 : Bk × Ob} {e4 : Bk × Ob} {e5 : Bk × Ob} {b : Bk} {o : Ob} {h : Heap} : Fnd (e0 :: e1 :: e2 :: e3 :: e4 :: e5 :: (b, o) :: h) b o := .next .p5
theorem Upd.p6 {e0 : Bk × Ob} {e1 : Bk × Ob} {e2 : Bk × Ob} {e3 : Bk × Ob} {e4 : Bk × Ob} {e5 : Bk × Ob} {b b' : Bk} {o o' : Ob} {h : Heap} : Upd (e0 :: e1 :: e2 :: e3 :: e4 :: e5 :: (b, o) :: h) b o b' o' (e0 :: e1 :: e2 :: e3 :: e4 :: e5 :: (b', o') :: h) := .next .p5
theorem Del.p6 {e0 : Bk × Ob} {e1 : Bk × Ob} {e2 : Bk × Ob} {e3 : Bk × Ob} {e4 : Bk × Ob} {e5 : Bk × Ob} {b : Bk} {o : Ob} {h : Heap} : Del (e0 :: e1 :: e2 :: e3 :: e4 :: e5 :: (b, o) :: h) b o (e0 :: e1 :: e2 :: e3 :: e4 :: e5 :: h) := .next .p5
theorem Fnd.p7 {e0 : Bk × Ob} {e1 : Bk × Ob} {e2 : Bk × Ob} {e3 : Bk × Ob} {e4 : Bk × Ob} {e5 : Bk × Ob} {e6 : Bk × Ob} {b : Bk} {o : Ob} {h : Heap} : Fnd (e0 :: e1 :: e2 :: e3 :: e4 :: e5 :: e6 :: (b, o) :: h) b o := .next .p6
theorem Upd.p7 {e0 : Bk × Ob} {e1 : Bk × Ob} {e2 : Bk × Ob} {e3 : Bk × Ob} {e4 : Bk × Ob} {e5 : Bk × Ob} {e6 : Bk × Ob} {b b' : Bk} {o o' : Ob} {h : Heap} : Upd (e0 :: e1 :: e2 :: e3 :: e4 :: e5 :: e6 :: (b, o) :: h) b o b' o' (e0 :: e1 :: e2 :: e3 :: e4 :: e5 :: e6 :: (b', o') :: h) := .next .p6
theorem Del.p7 {e0 : Bk × Ob} {e1 : Bk × Ob} {e2 : Bk × Ob} {e3 : Bk × Ob} {e4 : Bk × Ob} {e5 : Bk × Ob} {e6 : Bk × Ob} {b : Bk} {o : Ob} {h : Heap} : Del (e0 :: e1 :: e2 :: e3 :: e4 :: e5 :: e6 :: (b, o) :: h) b o (e0 :: e1 :: e2 :: e3 :: e4 :: e5 :: e6 :: h) := .next .p6
section rules
variable {P : Program} {all : Array Oper} {rest : List Oper} {n : Nat} {tm : List (Nat × AV)} {hp : Heap} {Q : St → Prop} {d : Nat} {ty : TypeId} {pos : String} {af : Array Edge}
theorem rM {x : Operand} {av : AV} (hx : evA tm x = some av) (hn : Nat.blt d n = true) (k : ARun P all rest ⟨n, (d, av) :: tm, hp⟩ Q) : ARun P all (⟨some d, .move x, ty, pos, af, none⟩ :: rest) ⟨n, tm, hp⟩ Q := ARun.qv (q_move hx) hn k
theorem rA {x : Operand} {av : AV} (hx : evA tm x = some av) (hn : Nat.blt d n = true) (k : ARun P all rest ⟨n, (d, av) :: tm, hp⟩ Q) : ARun P all (⟨some d, .assign x, ty, pos, af, none⟩ :: rest) ⟨n, tm, hp⟩ Q := ARun.qv (q_assign hx) hn k
theorem rF {x : Operand} {s : TypeId} {j off : Nat} {b : Bk} {o o' : Nat} [Fld P s j off] (hx : evA tm x = some (.ptr b o)) (ho : o + off = o') (hn : Nat.blt d n = true) (k : ARun P all rest ⟨n, (d, .ptr b o') :: tm, hp⟩ Q) : ARun P all (⟨some d, .fieldAddr s x j, ty, pos, af, none⟩ :: rest) ⟨n, tm, hp⟩ Q := ARun.qv (n_field_ptr hx ho) hn k
theorem rL {t : TypeId} {D : TypeDesc} {x : Operand} {b : Bk} {o : Nat} {cs : List AV} {av : AV} [TUnder P t D] (hD : TypeDesc.isAggB D = false) (hx : evA tm x = some (.ptr b o)) (f : Fnd hp b (.cells cs)) (ho : cs[o]? = some av) (hn : Nat.blt d n = true) (k : ARun P all rest ⟨n, (d, av) :: tm, hp⟩ Q) : ARun P all (⟨some d, .load t x, ty, pos, af, none⟩ :: rest) ⟨n, tm, hp⟩ Q := ARun.qv (q_load_ptr hD hx f ho) hn k
theorem rT {c x y : Operand} {av : AV} (hc : evA tm c = some (.bool true)) (hx : evA tm x = some av) (hn : Nat.blt d n = true) (k : ARun P all rest ⟨n, (d, av) :: tm, hp⟩ Q) : ARun P all (⟨some d, .pick c x y, ty, pos, af, none⟩ :: rest) ⟨n, tm, hp⟩ Q := ARun.qv (q_pick_t hc hx) hn k
theorem rE {c x y : Operand} {av : AV} (hc : evA tm c = some (.bool false)) (hx : evA tm y = some av) (hn : Nat.blt d n = true) (k : ARun P all rest ⟨n, (d, av) :: tm, hp⟩ Q) : ARun P all (⟨some d, .pick c x y, ty, pos, af, none⟩ :: rest) ⟨n, tm, hp⟩ Q := ARun.qv (q_pick_f hc hx) hn k
theorem rX {x : Operand} {i : Nat} {vs : List AV} {av : AV} (hx : evA tm x = some (.tup vs)) (hi : vs[i]? = some av) (hn : Nat.blt d n = true) (k : ARun P all rest ⟨n, (d, av) :: tm, hp⟩ Q) : ARun P all (⟨some d, .extract x i, ty, pos, af, none⟩ :: rest) ⟨n, tm, hp⟩ Q := ARun.qv (q_extract hx hi) hn k
theorem rN (h : Q ⟨n, tm, hp⟩) : ARun P all [] ⟨n, tm, hp⟩ Q := ARun.nil h
theorem rG {op : Op} {j : Nat} {want b : Bool} {s : Nat} (hj : (all[j]?).bind (·.dst) = some s) (hs : lk tm s = some (.bool b)) (hb : b = !want) (hn : Nat.blt d n = true) (k : ARun P all rest ⟨n, (d, .raw undef) :: tm, hp⟩ Q) : ARun P all (⟨some d, op, ty, pos, af, some (j, want)⟩ :: rest) ⟨n, tm, hp⟩ Q := ARun.guard_no hj hs hb hn k
theorem rY {op : Op} {j : Nat} {want b : Bool} {s : Nat} (hj : (all[j]?).bind (·.dst) = some s) (hs : lk tm s = some (.bool b)) (hb : b = want) (k : ARun P all (⟨some d, op, ty, pos, af, none⟩ :: rest) ⟨n, tm, hp⟩ Q) : ARun P all (⟨some d, op, ty, pos, af, some (j, want)⟩ :: rest) ⟨n, tm, hp⟩ Q := ARun.guard_yes hj hs hb k
end rules
section rules
variable {P : Program} {R : St → Prop} {k : List It} {σ : St}
theorem tS {x y : Code} (h : ATodo P R (.code x :: .code y :: k) σ) : ATodo P R (.code (.seq x y) :: k) σ := ATodo.seq h
theorem tR {id : Nat} {l : List Oper} (h : ARun P l.toArray l σ (ATodo P R k)) : ATodo P R (.code (.region id l.toArray false) :: k) σ := ATodo.region h
theorem tSR {id : Nat} {l : List Oper} {y : Code} (h : ARun P l.toArray l σ (ATodo P R (.code y :: k))) : ATodo P R (.code (.seq (.region id l.toArray false) y) :: k) σ := ATodo.seq (ATodo.region h)
theorem tK (h : ATodo P R k σ) : ATodo P R (.code .skip :: k) σ := ATodo.skip h
end rules
end Go.Eng

