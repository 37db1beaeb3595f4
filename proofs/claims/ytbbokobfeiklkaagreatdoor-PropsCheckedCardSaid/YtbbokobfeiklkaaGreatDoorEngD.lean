/- The engine: abstract values, the symbolic heap, one rule for each operation. No program in sight. -/
import Derived.Test.YtbbokobfeiklkaaGreatDoorEngC
import Derived.Laws.BytesArg
import Derived.Shelf.SlSortCmp.NoneTotal
/- The engine, part 25: bytes and strings. No program in sight. -/
set_option linter.unusedVariables false
set_option linter.unusedSectionVars false
namespace Go.Eng
open Go
variable [GTab]
/-- How deep a function that calls itself is followed. -/
def depth : Nat := 100000
section rules
variable {P : Program} {all : Array Oper} {rest : List Oper} {n : Nat} {tm : List (Nat × AV)} {hp : Heap} {Q : St → Prop} {d : Nat} {ty : TypeId} {pos : String} {af : Array Edge}
end rules
end Go.Eng

/- The engine, part 26: parts of arrays that are ours. No program in sight. -/
set_option linter.unusedVariables false
set_option linter.unusedSectionVars false
namespace Go.Eng
open Go
variable [GTab]
theorem upd_take {w : World} {S : Nat → Prop} {hp hp' : Heap} {b : Bk} {sz k : Nat} {xs : List AV} (r : HRel w S hp) (u : Upd hp b (.arr sz xs) b (.arr sz (xs.take k)) hp') : HRel w S hp' ∧ Evo w S hp w S hp' := by
  obtain ⟨pre, post, e1, e2⟩ := u.split
  subst e1; subst e2
  have hblk : ∀ n, Has (pre ++ (b, Ob.arr sz (xs.take k)) :: post) n ↔ Has (pre ++ (b, Ob.arr sz xs) :: post) n := by
    intro n
    constructor <;> rintro ⟨x, hx, hb⟩ <;> rcases mem_mid.1 hx with rfl | hx
    · exact ⟨(b, .arr sz xs), mem_mid.2 (.inl rfl), hb⟩
    · exact ⟨x, mem_mid.2 (.inr hx), hb⟩
    · exact ⟨(b, .arr sz (xs.take k)), mem_mid.2 (.inl rfl), hb⟩
    · exact ⟨x, mem_mid.2 (.inr hx), hb⟩
  refine ⟨⟨?_, ?_, ?_, r.slt, r.glob⟩, ⟨rfl, rfl, rfl, Nat.le_refl _, fun n hn => ⟨hn, rfl⟩, fun n _ _ => ⟨rfl, id⟩, fun n hn => .inl ((hblk n).1 hn), fun _ => Nat.le_refl _⟩⟩
  · have := r.nodup
    simpa [List.flatMap_append, List.flatMap_cons, eb, Ob.more] using this
  · intro x hx
    rcases mem_mid.1 hx with rfl | hx
    · obtain ⟨h0, h1, h2⟩ := r.holds (b, .arr sz xs) (mem_mid.2 (.inl rfl))
      refine ⟨fun x hx => h0 x (List.mem_of_mem_take hx), Nat.le_trans (by simp only [List.length_take]; omega) h1, h2.imp id ?_⟩
      rintro ⟨n, vs, E, g1, g2, g3, g4⟩
      refine ⟨n, vs, E, g1, g2, g3, fun i c v hc hv => ?_⟩
      have hp : ∃ t, flat xs = flat (xs.take k) ++ t := ⟨flat (xs.drop k), by
        show xs.flatMap AV.cells = (xs.take k).flatMap AV.cells ++ (xs.drop k).flatMap AV.cells
        rw [← List.flatMap_append, List.take_append_drop]⟩
      obtain ⟨t, ht⟩ := hp
      refine g4 i c v ?_ hv
      rw [ht, List.getElem?_append_left (List.getElem?_eq_some_iff.1 hc).1]
      exact hc
    · exact r.holds x (mem_mid.2 (.inr hx))
  · intro x hx n hn
    rcases mem_mid.1 hx with rfl | hx
    · have := r.sep (b, .arr sz xs) (mem_mid.2 (.inl rfl)) n hn
      exact ⟨fun h => (this.1 h).elim, fun h => h.elim⟩
    · exact r.sep x (mem_mid.2 (.inr hx)) n hn
/-- An array is told of as far as some element. -/
theorem ImpX.take {n k : Nat} {tm : List (Nat × AV)} {hp hp' : Heap} {T : St → Prop} {b : Bk} {sz : Nat} {xs : List AV} (u : Upd hp b (.arr sz xs) b (.arr sz (xs.take k)) hp') (kk : ImpX ⟨n, tm, hp'⟩ T) : ImpX ⟨n, tm, hp⟩ T := by
  refine ImpX.step (σ1 := ⟨n, tm, hp'⟩) (fun w S a r => ?_) kk
  obtain ⟨g1, g2⟩ := upd_take r.hp u
  exact ⟨_, S, rfl, ⟨r.size, r.defers, r.tm, g1⟩, g2⟩
section rules
variable {P : Program} {all : Array Oper} {rest : List Oper} {n : Nat} {tm : List (Nat × AV)} {hp : Heap} {Q : St → Prop} {d : Nat} {ty : TypeId} {pos : String} {af : Array Edge}
end rules
end Go.Eng

/- The engine, part 27: reading the insides of values otherwise; make of slices. No program in sight. -/
set_option linter.unusedVariables false
set_option linter.unusedSectionVars false
namespace Go.Eng
open Go
variable [GTab]

/-- What a value reads as too: lists without memory and frozen arrays, inside of structs and lists as well. -/
inductive CoX (hp : Heap) : AV → AV → Prop
  | co {a a' : AV} (c : Co hp a a') : CoX hp a a'
  | agg (cs cs' : List AV) (hl : cs'.length = cs.length) (h : ∀ (i : Nat) c c', cs[i]? = some c → cs'[i]? = some c' → CoX hp c c') : CoX hp (.agg cs) (.agg cs')
  | tup (cs cs' : List AV) (hl : cs'.length = cs.length) (h : ∀ (i : Nat) c c', cs[i]? = some c → cs'[i]? = some c' → CoX hp c c') : CoX hp (.tup cs) (.tup cs')
  | list (sz : Nat) (xs ys : List AV) (hn : ys.length = xs.length) (hl : (flat ys).length = (flat xs).length) (he : ∀ y ∈ ys, El sz y) (h : ∀ (i : Nat) c c', (flat xs)[i]? = some c → (flat ys)[i]? = some c' → CoX hp c c') : CoX hp (.list sz xs) (.list sz ys)
inductive CoXL (hp : Heap) : List AV → List AV → Prop
  | nil : CoXL hp [] []
  | cons {a a' : AV} {l l' : List AV} (c : CoX hp a a') (k : CoXL hp l l') : CoXL hp (a :: l) (a' :: l')
theorem CoX.r {hp : Heap} {a : AV} : CoX hp a a := .co (.refl _)
theorem CoX.n {hp : Heap} {sz : Nat} : CoX hp .nil (.list sz []) := .co (.nil _)
theorem CoXL.refl {hp : Heap} : ∀ l : List AV, CoXL hp l l
  | [] => .nil
  | _ :: l => .cons .r (CoXL.refl l)
theorem CoXL.each {hp : Heap} : ∀ {l l' : List AV}, CoXL hp l l' → l'.length = l.length ∧ ∀ (i : Nat) c c', l[i]? = some c → l'[i]? = some c' → CoX hp c c'
  | [], _, .nil => ⟨rfl, fun i c c' h => by simp at h⟩
  | _ :: _, _, .cons c k => by
    obtain ⟨g1, g2⟩ := CoXL.each k
    refine ⟨by simp [g1], fun i c1 c2 h1 h2 => ?_⟩
    match i with
    | 0 => simp at h1 h2; subst h1; subst h2; assumption
    | i + 1 => exact g2 i c1 c2 (by simpa using h1) (by simpa using h2)
theorem CoX.listL {hp : Heap} {sz : Nat} {xs ys : List AV} (k : CoXL hp (flat xs) (flat ys)) (hn : Nat.beq ys.length xs.length = true) (he : allEl sz ys = true) : CoX hp (.list sz xs) (.list sz ys) :=
  .list sz xs ys (Nat.eq_of_beq_eq_true hn) k.each.1 (allEl_spec he) k.each.2
theorem CoX.at {w : World} {S : Nat → Prop} {hp : Heap} {a a' : AV} {v : Value} (c : CoX hp a a') (r : HRel w S hp) (h : At w S a v) : At w S a' v := by
  induction c generalizing v with
  | co c => exact c.at r h
  | agg cs cs' hl _ ih =>
    cases h with
    | agg _ vs h1 h2 =>
      refine .agg cs' vs (by rw [hl, h1]) (fun i c v hc hv => ?_)
      have hi : i < cs.length := by rw [← hl]; exact (List.getElem?_eq_some_iff.1 hc).1
      exact ih i cs[i] c (by simp [hi]) hc (h2 i _ _ (by simp [hi]) hv)
  | tup cs cs' hl _ ih =>
    cases h with
    | tup _ vs h1 h2 =>
      refine .tup cs' vs (by rw [hl, h1]) (fun i c v hc hv => ?_)
      have hi : i < cs.length := by rw [← hl]; exact (List.getElem?_eq_some_iff.1 hc).1
      exact ih i cs[i] c (by simp [hi]) hc (h2 i _ _ (by simp [hi]) hv)
  | list sz xs ys hn hl he _ ih =>
    cases h with
    | list _ _ a cap vs g1 g2 g3 g4 g5 =>
      rw [← hn]
      refine .list sz ys a cap vs he (by rw [hl, g2]) (fun i c v hc hv => ?_) g4 (by rw [hn]; exact g5)
      have hi : i < (flat xs).length := by rw [← hl]; exact (List.getElem?_eq_some_iff.1 hc).1
      exact ih i (flat xs)[i] c (by simp [hi]) hc (g3 i _ _ (by simp [hi]) hv)
theorem ImpX.cox {n s : Nat} {tm : List (Nat × AV)} {hp : Heap} {T : St → Prop} {av av' : AV} (hs : lk tm s = some av) (c : CoX hp av av') (k : ImpX ⟨n, (s, av') :: tm, hp⟩ T) : ImpX ⟨n, tm, hp⟩ T := by
  refine ImpX.step (σ1 := ⟨n, (s, av') :: tm, hp⟩) (fun w S a r => ⟨_, S, rfl, ⟨r.size, r.defers, fun t av h => ?_, r.hp⟩, Evo.refl _ _ _⟩) k
  simp only [lk] at h
  split at h
  · rename_i hb
    obtain rfl : s = t := by simpa using hb
    obtain rfl := Option.some.inj h
    obtain ⟨v, h1, h2⟩ := r.tm s _ hs
    exact ⟨v, h1, c.at r.hp h2⟩
  · exact r.tm t av h

section rules
variable {P : Program} {all : Array Oper} {rest : List Oper} {n : Nat} {tm : List (Nat × AV)} {hp : Heap} {Q : St → Prop} {d : Nat} {ty : TypeId} {pos : String} {af : Array Edge}
end rules
end Go.Eng

/- The engine, part 28: slices.SortFunc, over the shelf's contract of it. No program in sight. -/
set_option linter.unusedVariables false
set_option linter.unusedSimpArgs false
set_option linter.unusedSectionVars false
namespace Go.Eng
open Go Go.Sort Go.Proofs
variable [GTab]

/-- What the shelf says of an instance of slices.SortFunc whose elements have k cells. -/
structure SortK (P : Program) (f : FuncId) (k : Nat) : Prop where
  some_ : ∀ (enc : Nat → List Value) (_ : ∀ x, (enc x).length = k) (_ : ∀ x, ∀ v ∈ enc x, v.oneCell' = true) (cf : Nat → Nat → Int) (_ : SWO (ltOf cf)) (g : Nat) (cb : Array Value) (blk off cap : Nat) (d : Array Nat) (w : World)
    (_ : ∀ args w, (callFunc g args).run P w = .ok (.enter g args) w) (_ : CmpLays P g cb enc k cf blk off d.size w) (_ : HoldsK enc k w blk off d) (_ : blk < w.heap.size) (_ : d.size < 4611686018427387904),
    Calls P f #[.slice (some ⟨blk, off, none⟩) d.size cap, .func (.func g) #[] cb] w fun e w' =>
      e = .returned (.tuple #[]) ∧ ∃ n os, w' = sortWorldK enc k w blk off n (pdq (ltOf cf) d 0 d.size (Lib.bitLen d.size) true true) os
  none_ : ∀ (p : Option Addr) (cap : Nat) (fv : Value) (w : World), Calls P f #[.slice p 0 cap, fv] w fun e w' => e = .returned (.tuple #[]) ∧ w' = w

/-- The i-th element; the first one behind the end. -/
def elx {α : Type} (x : α) (r : List α) (i : Nat) : α := (x :: r).getD i x
/-- A world with new blocks alone, written out. -/
theorem Ext.grown {w w' : World} (hd : GTab.dr) (e : Ext w w') : ∃ q os, w' = grow (w.drewN q) os := by
  refine ⟨w'.drawn - w.drawn, w'.heap.extract w.heap.size w'.heap.size, ?_⟩
  obtain ⟨h', t', d', o', out'⟩ := w'
  have e1 := e.os; have e2 := e.tape; have e3 := e.output; have e4 := e.drawn hd; have e5 := e.size; have e6 := e.same
  simp only at e1 e2 e3 e4 e5 e6
  subst e1 e2 e3
  unfold grow World.drewN
  simp only [World.mk.injEq, and_true, true_and]
  refine ⟨?_, by omega⟩
  apply Array.ext_getElem?
  intro i
  by_cases hi : i < w.heap.size
  · rw [e6 i hi, Array.getElem?_append_left hi]
  · rw [Array.getElem?_append_right (by omega), Array.getElem?_extract]
    by_cases h2 : i < h'.size
    · rw [if_pos (by omega)]
      congr 1; omega
    · rw [if_neg (by omega), Array.getElem?_eq_none (by omega)]

end Go.Eng

/- The engine, part 29: parts of arrays of ours: their elements, clear. No program in sight. -/
set_option linter.unusedVariables false
set_option linter.unusedSimpArgs false
set_option linter.unusedSectionVars false
namespace Go.Eng
open Go
variable [GTab]

section rules
variable {P : Program} {all : Array Oper} {rest : List Oper} {n : Nat} {tm : List (Nat × AV)} {hp : Heap} {Q : St → Prop} {d : Nat} {ty : TypeId} {pos : String} {af : Array Edge}
end rules
end Go.Eng

/- The engine, part 30: slices.Sort at elements of one cell, over the shelf's contracts. No program in sight. -/
set_option linter.unusedVariables false
set_option linter.unusedSimpArgs false
set_option linter.unusedSectionVars false
namespace Go.Eng
open Go Go.Sort Go.Proofs
variable [GTab]

structure Sort1 {α : Type} [Inhabited α] (P : Program) (f : FuncId) (enc : α → Value) (srt : List α → List α) : Prop where
  some_ : ∀ (blk off cap : Nat) (zs : List α) (w : World), Sort.Holds enc w blk off zs.toArray → blk < w.heap.size → zs.length < 4611686018427387904 → Calls P f #[.slice (some ⟨blk, off, none⟩) zs.length cap] w fun e w' =>
    e = .returned (.tuple #[]) ∧ ∃ n os, w' = grow (putRow enc (Sort.ahead w n) blk off (srt zs).toArray) os
  none_ : ∀ (p : Option Addr) (cap : Nat) (w : World), Calls P f #[.slice p 0 cap] w fun e w' => e = .returned (.tuple #[]) ∧ w' = w

theorem flat_ones {α : Type} {g : α → AV} (hc : ∀ x, (g x).cells = [g x]) : ∀ xs : List α, flat (xs.map g) = xs.map g
  | [] => rfl
  | x :: r => by rw [List.map_cons, flat_cons, hc, flat_ones hc r]; rfl
end Go.Eng

/- The engine, part 31: a call that turns memory of ours while it looks at other memory of ours. No program in sight. -/
set_option linter.unusedVariables false
set_option linter.unusedSimpArgs false
set_option linter.unusedSectionVars false
namespace Go.Eng
open Go
variable [GTab]

/-- A value that tells nothing of frozen memory. -/
def AV.noS1 : AV → Bool
  | .sl _ _ _ _ => true
  | .ptr _ _ => true
  | .agg cs => noLL cs
  | v => v.noL1
def noSL : List AV → Bool
  | [] => true
  | c :: r => c.noS1 && noSL r
/-- An object whose values tell nothing of frozen memory. -/
def Ob.NoS : Ob → Prop
  | .cells cs => noSL cs = true
  | .arr _ xs => ∀ x ∈ xs, noLL x.cells = true
  | _ => False
inductive NoSH : Heap → Prop
  | nil : NoSH []
  | cons {b : Bk} {o : Ob} {h : Heap} (c : o.NoS) (k : NoSH h) : NoSH ((b, o) :: h)
theorem NoSH.mem {h : Heap} (k : NoSH h) : ∀ e ∈ h, e.2.NoS := by
  induction k with
  | nil => intro e he; simp at he
  | cons c k ih =>
    intro e he
    rcases List.mem_cons.1 he with rfl | he
    · exact c
    · exact ih e he
theorem NoS.arrT {α : Type} {g : α → AV} {sz : Nat} {Xs : List α} (h : ∀ x, noLL (g x).cells = true) : (Ob.arr sz (Xs.map g)).NoS := fun x hx => by
  obtain ⟨y, _, rfl⟩ := List.mem_map.1 hx
  exact h y
section rules
variable {P : Program} {all : Array Oper} {rest : List Oper} {n : Nat} {tm : List (Nat × AV)} {hp : Heap} {Q : St → Prop} {d : Nat} {ty : TypeId} {pos : String} {af : Array Edge}
end rules
end Go.Eng

/- The engine, part 32: maps. No program in sight. -/
set_option linter.unusedVariables false
set_option linter.unusedSimpArgs false
set_option linter.unusedSectionVars false
namespace Go.Eng
open Go
variable [GTab]

/-! ### plain maps: lists of pairs in the order of their keys -/
/-- A strict order of keys. -/
class KLt (K : Type) where
  lt : K → K → Bool
instance : KLt Int := ⟨fun a b => decide (a < b)⟩
instance : KLt Bool := ⟨fun a b => !a && b⟩
instance : KLt (List UInt8) := ⟨fun a b => Op.bytesLess a b⟩
section plain
variable {K V : Type}
end plain

/-! ### keys -/
/-- The first entry of a key. -/
def findP {K : Type} [DecidableEq K] (k : K) : List K → List MapEntry → Nat → Option (Nat × Value)
  | k' :: ks, e :: es, i => if k' = k then some (i, e.val) else findP k ks es (i + 1)
  | _, _, _ => none
class MKey (P : Program) (t : TypeId) {K : Type} [DecidableEq K] (g : K → AV) : Prop where
  inj : ∀ a b, g a = g b → a = b
  check : ∀ {w : World} {S : Nat → Prop} {k : K} {v : Value}, At w S (g k) v → ∀ (b : Bool) (w1 : World), (Instr.checkKey b 10000 t v).run P w1 = .ok () w1
  find : ∀ {w : World} {S : Nat → Prop} {k : K} {v : Value}, At w S (g k) v → ∀ (es : List MapEntry) (ks : List K), ks.length = es.length → (∀ (i : Nat) k' e, ks[i]? = some k' → es[i]? = some e → At w S (g k') e.key) → ∀ w1 : World, (Instr.findKey t v es).run P w1 = .ok (findP k ks es 0) w1
  bits : ∀ {w : World} {S : Nat → Prop} {k : K} {v u : Value}, At w S (g k) v → At w S (g k) u → Instr.sameBits 10000 v u = true
theorem findNow_P {K : Type} [DecidableEq K] {d : TypeDesc} {v : Value} {k : K} {q : K → Value → Prop} (hq : ∀ k' u, q k' u → Instr.sameNow d v u = some (decide (k' = k))) : ∀ (es : List MapEntry) (ks : List K) (i : Nat), ks.length = es.length → (∀ (i : Nat) k' e, ks[i]? = some k' → es[i]? = some e → q k' e.key) → Instr.findNow d v es i = some (findP k ks es i)
  | [], [], i, _, _ => rfl
  | [], k' :: ks, i, hl, _ => by simp at hl
  | e :: es, [], i, hl, _ => by simp at hl
  | e :: es, k' :: ks, i, hl, h => by
    unfold Instr.findNow findP
    rw [hq k' e.key (h 0 k' e rfl rfl)]
    by_cases hk : k' = k
    · simp [hk]
    · simp only [hk, decide_false, if_false]
      exact findNow_P hq es ks (i + 1) (by simpa using hl) (fun i k' e h1 h2 => h (i + 1) k' e (by simpa using h1) (by simpa using h2))
theorem ba_beq (a b : ByteArray) : ((a == b) = true) ↔ a = b := by
  cases a with
  | mk a =>
    cases b with
    | mk b =>
      show (a == b) = true ↔ _
      rw [beq_iff_eq]
      exact ⟨fun h => by rw [h], fun h => by cases h; rfl⟩
theorem MKey.int {P : Program} {t : TypeId} {q : IntKind} (h : P.underlying t = some (.int q)) : MKey P t (K := Int) (fun n => AV.int q n) where
  inj a b h := by simpa using h
  check := fun {w S k v} hv b w1 => by
    rw [hv.int_inv]
    have key : ∀ n : Nat, (Instr.checkKey b (n + 1) t (Value.int q k)).run P w1 = .ok () w1 := fun n => by simp [Instr.checkKey, run_underlying h]
    exact key 9999
  find := fun {w S k v} hv es ks hl hk w1 => by
    rw [hv.int_inv]
    have hf := findNow_P (d := (.int q)) (v := (Value.int q k)) (k := k) (q := fun k' u => u = (Value.int q k')) (fun k' u hu => by subst hu; simp only [Instr.sameNow, if_true]; congr 1; rw [Bool.eq_iff_iff]; simp; exact eq_comm) es ks 0 hl (fun i k' e h1 h2 => (hk i k' e h1 h2).int_inv)
    simp [Instr.findKey, run_underlying h, hf]
  bits := fun {w S k v u} h1 h2 => by rw [h1.int_inv, h2.int_inv]; simp [Instr.sameBits]
theorem MKey.bool {P : Program} {t : TypeId} (h : P.underlying t = some .bool) : MKey P t (K := Bool) AV.bool where
  inj a b h := by simpa using h
  check := fun {w S k v} hv b w1 => by
    rw [hv.bool_inv]
    have key : ∀ n : Nat, (Instr.checkKey b (n + 1) t (Value.bool k)).run P w1 = .ok () w1 := fun n => by simp [Instr.checkKey, run_underlying h]
    exact key 9999
  find := fun {w S k v} hv es ks hl hk w1 => by
    rw [hv.bool_inv]
    have hf := findNow_P (d := .bool) (v := (Value.bool k)) (k := k) (q := fun k' u => u = (Value.bool k')) (fun k' u hu => by subst hu; simp only [Instr.sameNow]; congr 1; rw [Bool.eq_iff_iff]; simp; exact eq_comm) es ks 0 hl (fun i k' e h1 h2 => (hk i k' e h1 h2).bool_inv)
    simp [Instr.findKey, run_underlying h, hf]
  bits := fun {w S k v u} h1 h2 => by rw [h1.bool_inv, h2.bool_inv]; simp [Instr.sameBits]
theorem MKey.str {P : Program} {t : TypeId} (h : P.underlying t = some .string) : MKey P t (K := List UInt8) AV.str where
  inj a b h := by simpa using h
  check := fun {w S k v} hv b w1 => by
    rw [hv.str_inv]
    have key : ∀ n : Nat, (Instr.checkKey b (n + 1) t (Value.string ⟨k.toArray⟩)).run P w1 = .ok () w1 := fun n => by simp [Instr.checkKey, run_underlying h]
    exact key 9999
  find := fun {w S k v} hv es ks hl hk w1 => by
    rw [hv.str_inv]
    have hf := findNow_P (d := .string) (v := (Value.string ⟨k.toArray⟩)) (k := k) (q := fun k' u => u = (Value.string ⟨k'.toArray⟩)) (fun k' u hu => by subst hu; simp only [Instr.sameNow]; congr 1; rw [Bool.eq_iff_iff, ba_beq]; simp; exact eq_comm) es ks 0 hl (fun i k' e h1 h2 => (hk i k' e h1 h2).str_inv)
    simp [Instr.findKey, run_underlying h, hf]
  bits := fun {w S k v u} h1 h2 => by rw [h1.str_inv, h2.str_inv]; simp only [Instr.sameBits]; exact (ba_beq _ _).2 rfl
instance {P : Program} {t : TypeId} [h : TUnder P t (.int .i64)] : MKey P t (K := Int) I := MKey.int h.h
instance {P : Program} {t : TypeId} [h : TUnder P t .bool] : MKey P t (K := Bool) AV.bool := MKey.bool h.h
instance {P : Program} {t : TypeId} [h : TUnder P t .string] : MKey P t (K := List UInt8) AV.str := MKey.str h.h
end Go.Eng

/- The engine, part 33: maps: the operations. No program in sight. -/
set_option linter.unusedVariables false
set_option linter.unusedSimpArgs false
set_option linter.unusedSectionVars false
namespace Go.Eng
open Go
variable [GTab]

theorem GB_refl (w : World) (x : Option Nat) : GB w w x := ⟨⟨rfl, rfl, rfl, Nat.le_refl _, fun _ _ _ => rfl⟩, fun _ => Nat.le_refl _⟩
theorem Ext.heap {w w' : World} {n : Nat} {o : Obj} (e : Ext w w') (h : w.heap[n]? = some o) : w'.heap[n]? = some o := by
  rw [e.same n (Array.getElem?_eq_some_iff.1 h).1]; exact h
theorem set_same {α : Type} {l : List α} {j : Nat} {x : α} (h : l[j]? = some x) : l.set j x = l := by
  apply List.ext_getElem?
  intro i
  rw [List.getElem?_set]
  by_cases hij : j = i
  · subst hij
    have := (List.getElem?_eq_some_iff.1 h).1
    rw [if_pos rfl, if_pos this, h]
  · simp [hij]
section rules
variable {P : Program} {all : Array Oper} {rest : List Oper} {n : Nat} {tm : List (Nat × AV)} {hp : Heap} {Q : St → Prop} {d : Nat} {ty : TypeId} {pos : String} {af : Array Edge}
end rules
end Go.Eng

/- The engine, part 34: maps: delete, len, walking through. No program in sight. -/
set_option linter.unusedVariables false
set_option linter.unusedSimpArgs false
set_option linter.unusedSectionVars false
namespace Go.Eng
open Go
variable [GTab]

section rules
variable {P : Program} {all : Array Oper} {rest : List Oper} {n : Nat} {tm : List (Nat × AV)} {hp : Heap} {Q : St → Prop} {d : Nat} {ty : TypeId} {pos : String} {af : Array Edge}
end rules
end Go.Eng

/- The engine, part 35: short forms of rules. No program in sight. -/
set_option linter.unusedVariables false
set_option linter.unusedSectionVars false
namespace Go.Eng
open Go
variable [GTab]

theorem bndE {α β : Type} {o : Option α} {f : α → Option β} {r : β} {C : Prop} (h : o.bind f = some r) (k : ∀ v, o = some v → f v = some r → C) : C :=
  let ⟨v, h1, h2⟩ := bnd h; k v h1 h2
/-- The entries at these places, each out of what the ones ahead have left. -/
def takeH : Heap → Nat → Option ((Bk × Ob) × Heap)
  | [], _ => none
  | e :: h, 0 => some (e, h)
  | e :: h, i + 1 => match takeH h i with
    | some (x, h') => some (x, e :: h')
    | none => none
def pickH : Heap → List Nat → Option Heap
  | _, [] => some []
  | h, i :: r => match takeH h i with
    | some (e, h') => match pickH h' r with
      | some t => some (e :: t)
      | none => none
    | none => none
theorem takeH_del : ∀ {h : Heap} {i : Nat} {e : Bk × Ob} {h' : Heap}, takeH h i = some (e, h') → Del h e.1 e.2 h'
  | [], _, _, _, hh => by simp [takeH] at hh
  | x :: h, 0, e, h', hh => by
    simp only [takeH, Option.some.injEq, Prod.mk.injEq] at hh
    obtain ⟨rfl, rfl⟩ := hh
    exact .here
  | x :: h, i + 1, e, h', hh => by
    simp only [takeH] at hh
    split at hh
    · rename_i y h1 h2
      simp only [Option.some.injEq, Prod.mk.injEq] at hh
      obtain ⟨rfl, rfl⟩ := hh
      exact .next (takeH_del h2)
    · cases hh
theorem pickH_hs : ∀ {l : List Nat} {h t : Heap}, pickH h l = some t → HS h t
  | [], h, t, hh => by
    simp only [pickH, Option.some.injEq] at hh
    subst hh; exact .nil
  | i :: r, h, t, hh => by
    simp only [pickH] at hh
    split at hh
    · rename_i e h' h1
      split at hh
      · rename_i t' h2
        obtain rfl := Option.some.inj hh
        exact .cons (takeH_del h1) (pickH_hs h2)
      · cases hh
    · cases hh
def selT (tm : List (Nat × AV)) : List Nat → Option (List (Nat × AV))
  | [] => some []
  | s :: r => match lk tm s with
    | some av => match selT tm r with
      | some l => some ((s, av) :: l)
      | none => none
    | none => none
theorem selT_all {tm : List (Nat × AV)} : ∀ {l : List Nat} {tm' : List (Nat × AV)}, selT tm l = some tm' → AllIn tm tm'
  | [], tm', h => by
    simp only [selT, Option.some.injEq] at h
    subst h; exact True.intro
  | s :: r, tm', h => by
    simp only [selT] at h
    split at h
    · rename_i av h1
      split at h
      · rename_i t' h2
        obtain rfl := Option.some.inj h
        exact ⟨h1, selT_all h2⟩
      · cases h
    · cases h
theorem ImpX.lq {n : Nat} {tm tm' : List (Nat × AV)} {hp hp' : Heap} {T : St → Prop} (is : List Nat) (h : T ⟨n, tm', hp'⟩) (ht : selT tm (tm'.map Prod.fst) = some tm') (hs : pickH hp is = some hp') : ImpX ⟨n, tm, hp⟩ T :=
  ImpX.lessP (selT_all ht) (pickH_hs hs) (ImpX.here h)

theorem Fnd.p0 {b : Bk} {o : Ob} {h : Heap} : Fnd ((b, o) :: h) b o := .here
theorem Upd.p0 {b b' : Bk} {o o' : Ob} {h : Heap} : Upd ((b, o) :: h) b o b' o' ((b', o') :: h) := .here
theorem Del.p0 {b : Bk} {o : Ob} {h : Heap} : Del ((b, o) :: h) b o (h) := .here
theorem Fnd.p1 {e0 : Bk × Ob} {b : Bk} {o : Ob} {h : Heap} : Fnd (e0 :: (b, o) :: h) b o := .next .p0
theorem Upd.p1 {e0 : Bk × Ob} {b b' : Bk} {o o' : Ob} {h : Heap} : Upd (e0 :: (b, o) :: h) b o b' o' (e0 :: (b', o') :: h) := .next .p0
theorem Del.p1 {e0 : Bk × Ob} {b : Bk} {o : Ob} {h : Heap} : Del (e0 :: (b, o) :: h) b o (e0 :: h) := .next .p0
theorem Fnd.p2 {e0 : Bk × Ob} {e1 : Bk × Ob} {b : Bk} {o : Ob} {h : Heap} : Fnd (e0 :: e1 :: (b, o) :: h) b o := .next .p1
theorem Upd.p2 {e0 : Bk × Ob} {e1 : Bk × Ob} {b b' : Bk} {o o' : Ob} {h : Heap} : Upd (e0 :: e1 :: (b, o) :: h) b o b' o' (e0 :: e1 :: (b', o') :: h) := .next .p1
theorem Del.p2 {e0 : Bk × Ob} {e1 : Bk × Ob} {b : Bk} {o : Ob} {h : Heap} : Del (e0 :: e1 :: (b, o) :: h) b o (e0 :: e1 :: h) := .next .p1
theorem Fnd.p3 {e0 : Bk × Ob} {e1 : Bk × Ob} {e2 : Bk × Ob} {b : Bk} {o : Ob} {h : Heap} : Fnd (e0 :: e1 :: e2 :: (b, o) :: h) b o := .next .p2
theorem Upd.p3 {e0 : Bk × Ob} {e1 : Bk × Ob} {e2 : Bk × Ob} {b b' : Bk} {o o' : Ob} {h : Heap} : Upd (e0 :: e1 :: e2 :: (b, o) :: h) b o b' o' (e0 :: e1 :: e2 :: (b', o') :: h) := .next .p2
theorem Del.p3 {e0 : Bk × Ob} {e1 : Bk × Ob} {e2 : Bk × Ob} {b : Bk} {o : Ob} {h : Heap} : Del (e0 :: e1 :: e2 :: (b, o) :: h) b o (e0 :: e1 :: e2 :: h) := .next .p2
section rules
variable {P : Program} {all : Array Oper} {rest : List Oper} {n : Nat} {tm : List (Nat × AV)} {hp : Heap} {Q : St → Prop} {d : Nat} {ty : TypeId} {pos : String} {af : Array Edge}
theorem rM {x : Operand} {av : AV} (hx : evA tm x = some av) (hn : Nat.blt d n = true) (k : ARun P all rest ⟨n, (d, av) :: tm, hp⟩ Q) : ARun P all (⟨some d, .move x, ty, pos, af, none⟩ :: rest) ⟨n, tm, hp⟩ Q := ARun.qv (q_move hx) hn k
theorem rA {x : Operand} {av : AV} (hx : evA tm x = some av) (hn : Nat.blt d n = true) (k : ARun P all rest ⟨n, (d, av) :: tm, hp⟩ Q) : ARun P all (⟨some d, .assign x, ty, pos, af, none⟩ :: rest) ⟨n, tm, hp⟩ Q := ARun.qv (q_assign hx) hn k
theorem rF {x : Operand} {s : TypeId} {j off : Nat} {b : Bk} {o o' : Nat} [Fld P s j off] (hx : evA tm x = some (.ptr b o)) (ho : o + off = o') (hn : Nat.blt d n = true) (k : ARun P all rest ⟨n, (d, .ptr b o') :: tm, hp⟩ Q) : ARun P all (⟨some d, .fieldAddr s x j, ty, pos, af, none⟩ :: rest) ⟨n, tm, hp⟩ Q := ARun.qv (n_field_ptr hx ho) hn k
theorem rL {t : TypeId} {D : TypeDesc} {x : Operand} {b : Bk} {o : Nat} {cs : List AV} {av : AV} [TUnder P t D] (hD : TypeDesc.isAggB D = false) (hx : evA tm x = some (.ptr b o)) (f : Fnd hp b (.cells cs)) (ho : cs[o]? = some av) (hn : Nat.blt d n = true) (k : ARun P all rest ⟨n, (d, av) :: tm, hp⟩ Q) : ARun P all (⟨some d, .load t x, ty, pos, af, none⟩ :: rest) ⟨n, tm, hp⟩ Q := ARun.qv (q_load_ptr hD hx f ho) hn k
theorem rT {c x y : Operand} {av : AV} (hc : evA tm c = some (.bool true)) (hx : evA tm x = some av) (hn : Nat.blt d n = true) (k : ARun P all rest ⟨n, (d, av) :: tm, hp⟩ Q) : ARun P all (⟨some d, .pick c x y, ty, pos, af, none⟩ :: rest) ⟨n, tm, hp⟩ Q := ARun.qv (q_pick_t hc hx) hn k
theorem rE {c x y : Operand} {av : AV} (hc : evA tm c = some (.bool false)) (hx : evA tm y = some av) (hn : Nat.blt d n = true) (k : ARun P all rest ⟨n, (d, av) :: tm, hp⟩ Q) : ARun P all (⟨some d, .pick c x y, ty, pos, af, none⟩ :: rest) ⟨n, tm, hp⟩ Q := ARun.qv (q_pick_f hc hx) hn k
theorem rX {x : Operand} {i : Nat} {vs : List AV} {av : AV} (hx : evA tm x = some (.tup vs)) (hi : vs[i]? = some av) (hn : Nat.blt d n = true) (k : ARun P all rest ⟨n, (d, av) :: tm, hp⟩ Q) : ARun P all (⟨some d, .extract x i, ty, pos, af, none⟩ :: rest) ⟨n, tm, hp⟩ Q := ARun.qv (q_extract hx hi) hn k
theorem rN (h : Q ⟨n, tm, hp⟩) : ARun P all [] ⟨n, tm, hp⟩ Q := ARun.nil h
theorem rG {op : Op} {j : Nat} {want b : Bool} {s : Nat} (hj : (all[j]?).bind (·.dst) = some s) (hs : lk tm s = some (.bool b)) (hb : b = !want) (hn : Nat.blt d n = true) (k : ARun P all rest ⟨n, (d, .raw undef) :: tm, hp⟩ Q) : ARun P all (⟨some d, op, ty, pos, af, some (j, want)⟩ :: rest) ⟨n, tm, hp⟩ Q := ARun.guard_no hj hs hb hn k
theorem rY {op : Op} {j : Nat} {want b : Bool} {s : Nat} (hj : (all[j]?).bind (·.dst) = some s) (hs : lk tm s = some (.bool b)) (hb : b = want) (k : ARun P all (⟨some d, op, ty, pos, af, none⟩ :: rest) ⟨n, tm, hp⟩ Q) : ARun P all (⟨some d, op, ty, pos, af, some (j, want)⟩ :: rest) ⟨n, tm, hp⟩ Q := ARun.guard_yes hj hs hb k
end rules
section rules
variable {P : Program} {R : St → Prop} {k : List It} {σ : St}
theorem tS {x y : Code} (h : ATodo P R (.code x :: .code y :: k) σ) : ATodo P R (.code (.seq x y) :: k) σ := ATodo.seq h
theorem tR {id : Nat} {l : List Oper} (h : ARun P l.toArray l σ (ATodo P R k)) : ATodo P R (.code (.region id l.toArray false) :: k) σ := ATodo.region h
theorem tSR {id : Nat} {l : List Oper} {y : Code} (h : ARun P l.toArray l σ (ATodo P R (.code y :: k))) : ATodo P R (.code (.seq (.region id l.toArray false) y) :: k) σ := ATodo.seq (ATodo.region h)
theorem tK (h : ATodo P R k σ) : ATodo P R (.code .skip :: k) σ := ATodo.skip h
end rules
end Go.Eng

