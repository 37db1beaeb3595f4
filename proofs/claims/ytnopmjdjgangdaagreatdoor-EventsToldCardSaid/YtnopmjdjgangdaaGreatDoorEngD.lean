/- The engine: abstract values, the symbolic heap, one rule for each operation. No program in sight. -/
import Derived.Test.YtnopmjdjgangdaaGreatDoorEngC
import Derived.Laws.BytesArg
import Derived.Shelf.SlSortCmp.NoneTotal
/- The engine, part 25: bytes and strings. No program in sight. -/
set_option linter.unusedVariables false
set_option linter.unusedSectionVars false
namespace Go.Eng
open Go
variable [GTab]
/-- How deep a function that calls itself is followed. -/
def depth : Nat := 100000
section rules
variable {P : Program} {all : Array Oper} {rest : List Oper} {n : Nat} {tm : List (Nat × AV)} {hp : Heap} {Q : St → Prop} {d : Nat} {ty : TypeId} {pos : String} {af : Array Edge}
end rules
end Go.Eng

/- The engine, part 26: parts of arrays that are ours. No program in sight. -/
set_option linter.unusedVariables false
set_option linter.unusedSectionVars false
namespace Go.Eng
open Go
variable [GTab]
theorem upd_take {w : World} {S : Nat → Prop} {hp hp' : Heap} {b : Bk} {sz k : Nat} {xs : List AV} (r : HRel w S hp) (u : Upd hp b (.arr sz xs) b (.arr sz (xs.take k)) hp') : HRel w S hp' ∧ Evo w S hp w S hp' := by
  obtain ⟨pre, post, e1, e2⟩ := u.split
  subst e1; subst e2
  have hblk : ∀ n, Has (pre ++ (b, Ob.arr sz (xs.take k)) :: post) n ↔ Has (pre ++ (b, Ob.arr sz xs) :: post) n := by
    intro n
    constructor <;> rintro ⟨x, hx, hb⟩ <;> rcases mem_mid.1 hx with rfl | hx
    · exact ⟨(b, .arr sz xs), mem_mid.2 (.inl rfl), hb⟩
    · exact ⟨x, mem_mid.2 (.inr hx), hb⟩
    · exact ⟨(b, .arr sz (xs.take k)), mem_mid.2 (.inl rfl), hb⟩
    · exact ⟨x, mem_mid.2 (.inr hx), hb⟩
  refine ⟨⟨?_, ?_, ?_, r.slt, r.glob⟩, ⟨rfl, rfl, rfl, Nat.le_refl _, fun n hn => ⟨hn, rfl⟩, fun n _ _ => ⟨rfl, id⟩, fun n hn => .inl ((hblk n).1 hn), fun _ => Nat.le_refl _⟩⟩
  · have := r.nodup
    simpa [List.flatMap_append, List.flatMap_cons, eb, Ob.more] using this
  · intro x hx
    rcases mem_mid.1 hx with rfl | hx
    · obtain ⟨h0, h1, h2⟩ := r.holds (b, .arr sz xs) (mem_mid.2 (.inl rfl))
      refine ⟨fun x hx => h0 x (List.mem_of_mem_take hx), Nat.le_trans (by simp only [List.length_take]; omega) h1, h2.imp id ?_⟩
      rintro ⟨n, vs, E, g1, g2, g3, g4⟩
      refine ⟨n, vs, E, g1, g2, g3, fun i c v hc hv => ?_⟩
      have hp : ∃ t, flat xs = flat (xs.take k) ++ t := ⟨flat (xs.drop k), by
        show xs.flatMap AV.cells = (xs.take k).flatMap AV.cells ++ (xs.drop k).flatMap AV.cells
        rw [← List.flatMap_append, List.take_append_drop]⟩
      obtain ⟨t, ht⟩ := hp
      refine g4 i c v ?_ hv
      rw [ht, List.getElem?_append_left (List.getElem?_eq_some_iff.1 hc).1]
      exact hc
    · exact r.holds x (mem_mid.2 (.inr hx))
  · intro x hx n hn
    rcases mem_mid.1 hx with rfl | hx
    · have := r.sep (b, .arr sz xs) (mem_mid.2 (.inl rfl)) n hn
      exact ⟨fun h => (this.1 h).elim, fun h => h.elim⟩
    · exact r.sep x (mem_mid.2 (.inr hx)) n hn
/-- An array is told of as far as some element. -/
theorem ImpX.take {n k : Nat} {tm : List (Nat × AV)} {hp hp' : Heap} {T : St → Prop} {b : Bk} {sz : Nat} {xs : List AV} (u : Upd hp b (.arr sz xs) b (.arr sz (xs.take k)) hp') (kk : ImpX ⟨n, tm, hp'⟩ T) : ImpX ⟨n, tm, hp⟩ T := by
  refine ImpX.step (σ1 := ⟨n, tm, hp'⟩) (fun w S a r => ?_) kk
  obtain ⟨g1, g2⟩ := upd_take r.hp u
  exact ⟨_, S, rfl, ⟨r.size, r.defers, r.tm, g1⟩, g2⟩
section rules
variable {P : Program} {all : Array Oper} {rest : List Oper} {n : Nat} {tm : List (Nat × AV)} {hp : Heap} {Q : St → Prop} {d : Nat} {ty : TypeId} {pos : String} {af : Array Edge}
theorem slc_len {α : Type} {Xs V : List α} {L H : Int} (h : slc Xs L H = some V) : V.length = H.toNat - L.toNat ∧ L.toNat + V.length ≤ Xs.length ∧ V = (Xs.drop L.toNat).take V.length := by
  obtain ⟨⟨h0, h1, h2⟩, rfl⟩ := slc_some h
  have : ((Xs.drop L.toNat).take (H.toNat - L.toNat)).length = H.toNat - L.toNat := by simp; omega
  refine ⟨this, by rw [this]; omega, by rw [this]⟩
/-- A part of an array that is ours. -/
theorem t_slice_sl {α : Type} {Xs Zs : List α} {t e : TypeId} {i : TypeInfo} {x : Operand} {lo hi : Option Operand} {l h : Option Int} {sz : Nat} {b : Bk} {L H : Int} [TUnder P t (.slice e)] [TInfo P e i] (hx : evA tm x = some (.sl sz b 0 Xs.length)) (hsz : Nat.beq i.size sz = true) (hl : Bnd tm lo l) (hh : Bnd tm hi h)
    (eL : lowB l = L) (eH : highB Xs.length h = H) (hv : slc Xs L H = some Zs) : QV P ⟨some d, .slice t x lo hi none, ty, pos, af, none⟩ ⟨n, tm, hp⟩ (.sl sz b L.toNat Zs.length) := by
  obtain ⟨⟨h0, h1, h2⟩, _⟩ := slc_some hv
  have hlen := (slc_len hv).1
  subst eL; subst eH
  have := q_slice_sl (P := P) (d := d) (ty := ty) (pos := pos) (af := af) (n := n) (tm := tm) (hp := hp) (t := t) (e := e) hx hsz hl hh h0 h1 h2
  rw [Nat.zero_add] at this
  rw [hlen]; exact this
theorem ImpX.takeT {α : Type} {g : α → AV} {Xs V : List α} {H : Int} {T : St → Prop} {b : Bk} {sz : Nat} {hp' : Heap} (hv : slc Xs 0 H = some V) (u : Upd hp b (.arr sz (Xs.map g)) b (.arr sz (V.map g)) hp') (kk : ImpX ⟨n, tm, hp'⟩ T) : ImpX ⟨n, tm, hp⟩ T := by
  refine ImpX.take (k := V.length) (xs := Xs.map g) (b := b) (sz := sz) ?_ kk
  rw [← List.map_take]
  have := (slc_len hv).2.2
  simp only [Int.toNat_zero, List.drop_zero] at this
  rw [← this]; exact u
theorem Src.partT {α : Type} {g : α → AV} {Xs V : List α} {L H : Int} {b : Bk} {sz : Nat} (hv : slc Xs L H = some V) (f : Fnd hp b (.arr sz (Xs.map g))) : Src hp sz (.sl sz b L.toNat V.length) (V.map g) := by
  obtain ⟨h1, h2, h3⟩ := slc_len hv
  have := Src.part (hp := hp) (sz := sz) b L.toNat V.length (Xs.map g) (.inl f) (by simpa using h2)
  rw [← List.map_drop, ← List.map_take, ← h3] at this
  exact this
end rules
end Go.Eng

/- The engine, part 27: reading the insides of values otherwise; make of slices. No program in sight. -/
set_option linter.unusedVariables false
set_option linter.unusedSectionVars false
namespace Go.Eng
open Go
variable [GTab]

/-- What a value reads as too: lists without memory and frozen arrays, inside of structs and lists as well. -/
inductive CoX (hp : Heap) : AV → AV → Prop
  | co {a a' : AV} (c : Co hp a a') : CoX hp a a'
  | agg (cs cs' : List AV) (hl : cs'.length = cs.length) (h : ∀ (i : Nat) c c', cs[i]? = some c → cs'[i]? = some c' → CoX hp c c') : CoX hp (.agg cs) (.agg cs')
  | tup (cs cs' : List AV) (hl : cs'.length = cs.length) (h : ∀ (i : Nat) c c', cs[i]? = some c → cs'[i]? = some c' → CoX hp c c') : CoX hp (.tup cs) (.tup cs')
  | list (sz : Nat) (xs ys : List AV) (hn : ys.length = xs.length) (hl : (flat ys).length = (flat xs).length) (he : ∀ y ∈ ys, El sz y) (h : ∀ (i : Nat) c c', (flat xs)[i]? = some c → (flat ys)[i]? = some c' → CoX hp c c') : CoX hp (.list sz xs) (.list sz ys)
inductive CoXL (hp : Heap) : List AV → List AV → Prop
  | nil : CoXL hp [] []
  | cons {a a' : AV} {l l' : List AV} (c : CoX hp a a') (k : CoXL hp l l') : CoXL hp (a :: l) (a' :: l')
theorem CoX.r {hp : Heap} {a : AV} : CoX hp a a := .co (.refl _)
theorem CoX.n {hp : Heap} {sz : Nat} : CoX hp .nil (.list sz []) := .co (.nil _)
theorem CoXL.refl {hp : Heap} : ∀ l : List AV, CoXL hp l l
  | [] => .nil
  | _ :: l => .cons .r (CoXL.refl l)
theorem CoXL.each {hp : Heap} : ∀ {l l' : List AV}, CoXL hp l l' → l'.length = l.length ∧ ∀ (i : Nat) c c', l[i]? = some c → l'[i]? = some c' → CoX hp c c'
  | [], _, .nil => ⟨rfl, fun i c c' h => by simp at h⟩
  | _ :: _, _, .cons c k => by
    obtain ⟨g1, g2⟩ := CoXL.each k
    refine ⟨by simp [g1], fun i c1 c2 h1 h2 => ?_⟩
    match i with
    | 0 => simp at h1 h2; subst h1; subst h2; assumption
    | i + 1 => exact g2 i c1 c2 (by simpa using h1) (by simpa using h2)
theorem CoX.listL {hp : Heap} {sz : Nat} {xs ys : List AV} (k : CoXL hp (flat xs) (flat ys)) (hn : Nat.beq ys.length xs.length = true) (he : allEl sz ys = true) : CoX hp (.list sz xs) (.list sz ys) :=
  .list sz xs ys (Nat.eq_of_beq_eq_true hn) k.each.1 (allEl_spec he) k.each.2
theorem CoX.at {w : World} {S : Nat → Prop} {hp : Heap} {a a' : AV} {v : Value} (c : CoX hp a a') (r : HRel w S hp) (h : At w S a v) : At w S a' v := by
  induction c generalizing v with
  | co c => exact c.at r h
  | agg cs cs' hl _ ih =>
    cases h with
    | agg _ vs h1 h2 =>
      refine .agg cs' vs (by rw [hl, h1]) (fun i c v hc hv => ?_)
      have hi : i < cs.length := by rw [← hl]; exact (List.getElem?_eq_some_iff.1 hc).1
      exact ih i cs[i] c (by simp [hi]) hc (h2 i _ _ (by simp [hi]) hv)
  | tup cs cs' hl _ ih =>
    cases h with
    | tup _ vs h1 h2 =>
      refine .tup cs' vs (by rw [hl, h1]) (fun i c v hc hv => ?_)
      have hi : i < cs.length := by rw [← hl]; exact (List.getElem?_eq_some_iff.1 hc).1
      exact ih i cs[i] c (by simp [hi]) hc (h2 i _ _ (by simp [hi]) hv)
  | list sz xs ys hn hl he _ ih =>
    cases h with
    | list _ _ a cap vs g1 g2 g3 g4 g5 =>
      rw [← hn]
      refine .list sz ys a cap vs he (by rw [hl, g2]) (fun i c v hc hv => ?_) g4 (by rw [hn]; exact g5)
      have hi : i < (flat xs).length := by rw [← hl]; exact (List.getElem?_eq_some_iff.1 hc).1
      exact ih i (flat xs)[i] c (by simp [hi]) hc (g3 i _ _ (by simp [hi]) hv)
theorem ImpX.cox {n s : Nat} {tm : List (Nat × AV)} {hp : Heap} {T : St → Prop} {av av' : AV} (hs : lk tm s = some av) (c : CoX hp av av') (k : ImpX ⟨n, (s, av') :: tm, hp⟩ T) : ImpX ⟨n, tm, hp⟩ T := by
  refine ImpX.step (σ1 := ⟨n, (s, av') :: tm, hp⟩) (fun w S a r => ⟨_, S, rfl, ⟨r.size, r.defers, fun t av h => ?_, r.hp⟩, Evo.refl _ _ _⟩) k
  simp only [lk] at h
  split at h
  · rename_i hb
    obtain rfl : s = t := by simpa using hb
    obtain rfl := Option.some.inj h
    obtain ⟨v, h1, h2⟩ := r.tm s _ hs
    exact ⟨v, h1, c.at r.hp h2⟩
  · exact r.tm t av h

/-- A result whose list has a known length. -/
def lenOk {R : Type} (n : Nat) (len : R → Nat) (x : Option R) : Option R := x.bind fun r => if len r = n then some r else none
theorem lenOk_f {R : Type} {n : Nat} {len : R → Nat} {x : Option R} {r : R} (h : lenOk n len x = some r) : x = some r := by
  unfold lenOk at h
  cases x with
  | none => cases h
  | some y =>
    simp only [Option.bind_some] at h
    split at h
    · exact h
    · cases h
theorem lenOk_l {R : Type} {n : Nat} {len : R → Nat} {x : Option R} {r : R} (h : lenOk n len x = some r) : len r = n := by
  unfold lenOk at h
  cases x with
  | none => cases h
  | some y =>
    simp only [Option.bind_some] at h
    split at h
    · rename_i hh; obtain rfl := Option.some.inj h; exact hh
    · cases h

/-! ### make of slices -/
/-- What make hands out: so many zeros. -/
def mkS {α : Type} (z : α) (l c : Int) : Option (List α) := if 0 ≤ l ∧ l ≤ c ∧ c ≤ 1000000000 then some (List.replicate l.toNat z) else none
theorem flat_rep {sz : Nat} {x : AV} (h : x.cells.length = sz) : ∀ (k i : Nat), i < k * sz → (flat (List.replicate k x))[i]? = x.cells[i % sz]?
  | 0, i, hi => by simp at hi
  | k + 1, i, hi => by
    rw [List.replicate_succ, show flat (x :: List.replicate k x) = x.cells ++ flat (List.replicate k x) from rfl]
    by_cases hlt : i < sz
    · rw [List.getElem?_append_left (by omega), Nat.mod_eq_of_lt hlt]
    · rw [List.getElem?_append_right (by omega), h, flat_rep h k (i - sz) (by rw [Nat.add_mul] at hi; omega)]
      rw [Nat.mod_eq_sub_mod (a := i) (by omega)]
section rules
variable {P : Program} {all : Array Oper} {rest : List Oper} {n : Nat} {tm : List (Nat × AV)} {hp : Heap} {Q : St → Prop} {d : Nat} {ty : TypeId} {pos : String} {af : Array Edge}
end rules
end Go.Eng

/- The engine, part 28: slices.SortFunc, over the shelf's contract of it. No program in sight. -/
set_option linter.unusedVariables false
set_option linter.unusedSimpArgs false
set_option linter.unusedSectionVars false
namespace Go.Eng
open Go Go.Sort Go.Proofs
variable [GTab]

/-- What the shelf says of an instance of slices.SortFunc whose elements have k cells. -/
structure SortK (P : Program) (f : FuncId) (k : Nat) : Prop where
  some_ : ∀ (enc : Nat → List Value) (_ : ∀ x, (enc x).length = k) (_ : ∀ x, ∀ v ∈ enc x, v.oneCell' = true) (cf : Nat → Nat → Int) (_ : SWO (ltOf cf)) (g : Nat) (cb : Array Value) (blk off cap : Nat) (d : Array Nat) (w : World)
    (_ : ∀ args w, (callFunc g args).run P w = .ok (.enter g args) w) (_ : CmpLays P g cb enc k cf blk off d.size w) (_ : HoldsK enc k w blk off d) (_ : blk < w.heap.size) (_ : d.size < 4611686018427387904),
    Calls P f #[.slice (some ⟨blk, off, none⟩) d.size cap, .func (.func g) #[] cb] w fun e w' =>
      e = .returned (.tuple #[]) ∧ ∃ n os, w' = sortWorldK enc k w blk off n (pdq (ltOf cf) d 0 d.size (Lib.bitLen d.size) true true) os
  none_ : ∀ (p : Option Addr) (cap : Nat) (fv : Value) (w : World), Calls P f #[.slice p 0 cap, fv] w fun e w' => e = .returned (.tuple #[]) ∧ w' = w

/-- The i-th element; the first one behind the end. -/
def elx {α : Type} (x : α) (r : List α) (i : Nat) : α := (x :: r).getD i x
/-- The order of numbers that the order of elements makes. -/
def ordx {α : Type} (f : α → α → Option Int) (x : α) (r : List α) (i j : Nat) : Int := (f (elx x r i) (elx x r j)).getD 0
/-- Go's pattern-defeating quicksort, as a plain function. -/
noncomputable def sortO {α : Type} (f : α → α → Option Int) : List α → Option (List α)
  | [] => some []
  | x :: r => @ite _ (r.length + 1 < 4611686018427387904 ∧ (∀ a ∈ x :: r, ∀ b ∈ x :: r, ∃ u, f a b = some u) ∧ SWO (ltOf (ordx f x r))) (Classical.propDecidable _)
      (some ((pdq (ltOf (ordx f x r)) (Array.range (r.length + 1)) 0 (r.length + 1) (Lib.bitLen (r.length + 1)) true true).toList.map (elx x r))) none

theorem sortO_cons {α : Type} (f : α → α → Option Int) (x : α) (r : List α) : sortO f (x :: r) = @ite _ (r.length + 1 < 4611686018427387904 ∧ (∀ a ∈ x :: r, ∀ b ∈ x :: r, ∃ u, f a b = some u) ∧ SWO (ltOf (ordx f x r))) (Classical.propDecidable _)
      (some ((pdq (ltOf (ordx f x r)) (Array.range (r.length + 1)) 0 (r.length + 1) (Lib.bitLen (r.length + 1)) true true).toList.map (elx x r))) none := rfl
theorem elx_mem {α : Type} (x : α) (r : List α) (i : Nat) : elx x r i ∈ x :: r := by
  unfold elx
  rw [List.getD_eq_getElem?_getD]
  rcases h : (x :: r)[i]? with _ | y
  · simp
  · exact List.mem_of_getElem? h

theorem heap_sortW (enc : Nat → List Value) (k : Nat) (w : World) (blk off m : Nat) (dk : Array Nat) (os : Array Obj) {n : Nat} (hn : n < w.heap.size) (hne : n ≠ blk) : (sortWorldK enc k w blk off m dk os).heap[n]? = w.heap[n]? := by
  unfold sortWorldK putRowK putRow
  rw [heap_grow_old _ _ (by simpa [mapBlock] using hn)]
  simp only [mapBlock, heap_ahead, Array.getElem?_modify]
  rw [if_neg (fun h => hne h.symm)]
theorem size_sortW (enc : Nat → List Value) (k : Nat) (w : World) (blk off m : Nat) (dk : Array Nat) (os : Array Obj) : w.heap.size ≤ (sortWorldK enc k w blk off m dk os).heap.size := by
  unfold sortWorldK putRowK
  simp
theorem row_sortW (enc : Nat → List Value) (k : Nat) (w : World) (blk m : Nat) (dk : Array Nat) (os : Array Obj) {vs : Array Value} {E : TypeId} (hb : w.heap[blk]? = some (.cells vs E (0, 0))) : (sortWorldK enc k w blk 0 m dk os).heap[blk]? = some (.cells (putCells id 0 (flatK enc k dk) vs) E (0, 0)) := by
  have hlt : blk < w.heap.size := by
    rcases Nat.lt_or_ge blk w.heap.size with h | h
    · exact h
    · simp [Array.getElem?_eq_none h] at hb
  unfold sortWorldK putRowK putRow
  rw [heap_grow_old _ _ (by simpa [mapBlock] using hlt)]
  simp only [mapBlock, heap_ahead, Array.getElem?_modify]
  rw [if_pos trivial, hb]
  rfl

/-- A world with new blocks alone, written out. -/
theorem Ext.grown {w w' : World} (hd : GTab.dr) (e : Ext w w') : ∃ q os, w' = grow (w.drewN q) os := by
  refine ⟨w'.drawn - w.drawn, w'.heap.extract w.heap.size w'.heap.size, ?_⟩
  obtain ⟨h', t', d', o', out'⟩ := w'
  have e1 := e.os; have e2 := e.tape; have e3 := e.output; have e4 := e.drawn hd; have e5 := e.size; have e6 := e.same
  simp only at e1 e2 e3 e4 e5 e6
  subst e1 e2 e3
  unfold grow World.drewN
  simp only [World.mk.injEq, and_true, true_and]
  refine ⟨?_, by omega⟩
  apply Array.ext_getElem?
  intro i
  by_cases hi : i < w.heap.size
  · rw [e6 i hi, Array.getElem?_append_left hi]
  · rw [Array.getElem?_append_right (by omega), Array.getElem?_extract]
    by_cases h2 : i < h'.size
    · rw [if_pos (by omega)]
      congr 1; omega
    · rw [if_neg (by omega), Array.getElem?_eq_none (by omega)]

theorem sort_acall {P : Program} {T : Type} {g : T → AV} {f : FuncId} {k : Nat} (K : SortK P f k) (hk0 : Nat.blt 0 k = true) {gf : FuncId} [IsFn P gf] {C : List AV} {fn : T → T → Option Int} (hfn : ∀ {x y : T} {u : Int}, fn x y = some u → @Pu strongT P gf (g x :: g y :: C) (I u))
    (hagg : ∀ x, g x = .agg (g x).cells) {Xs Ys : List T} {b : Bk} (h : sortO fn Xs = some Ys) : ACall P f [.sl k b 0 Xs.length, .func (.func gf) C] [(b, .arr k (Xs.map g))] (T0 [(b, .arr k (Ys.map g))] (.tup [])) := by
  have hk0 : 0 < k := Nat.lt_of_lt_of_le (Nat.lt_of_succ_le (Nat.le_of_ble_eq_true hk0)) (Nat.le_refl _)
  intro w S vs r hl ha
  obtain ⟨v0, v1, rfl⟩ : ∃ v0 v1, vs = #[v0, v1] := by
    match vs, hl with
    | ⟨[v0, v1]⟩, _ => exact ⟨v0, v1, rfl⟩
  have a0 := ha 0 _ v0 rfl rfl
  have a1 := ha 1 _ v1 rfl rfl
  obtain ⟨oa, cap, rfl, e2⟩ := a0.sl_inv
  obtain ⟨cv, rfl, hcl, hca⟩ := a1.func_inv
  match Xs, h with
  | [], h =>
    obtain rfl := Option.some.inj h
    refine (K.none_ oa cap _ w).mono ?_
    rintro e w' ⟨rfl, rfl⟩
    exact ⟨_, .tup [], _, S, rfl, ⟨rfl, rfl⟩, .tup [] #[] rfl (fun i c v hc => by simp at hc), r, Evo.refl _ _ _⟩
  | x :: xr, h =>
    rw [sortO_cons] at h
    by_cases hc : (xr.length + 1 < 4611686018427387904 ∧ (∀ a ∈ x :: xr, ∀ b ∈ x :: xr, ∃ u, fn a b = some u) ∧ SWO (ltOf (ordx fn x xr)))
    · rw [if_pos hc] at h
      obtain rfl := Option.some.inj h
      obtain ⟨hlen, hdef, hO⟩ := hc
      obtain ⟨h0, h1, h2⟩ := r.holds _ (List.mem_singleton.2 rfl)
      simp only [List.length_map, List.length_cons] at h1
      rcases h2 with ⟨_, hcap⟩ | ⟨m, row, E, hb, hrow, hsz, hat⟩
      · have hcap' : b.cap = 0 := hcap
        omega
      rcases e2 with ⟨hn, _, _, _, _⟩ | ⟨m', hb', rfl, hle, hle2⟩ | ⟨m', ad, _, _, hl0, _⟩
      · rw [hn] at hb; cases hb
      · obtain rfl : m' = m := by rw [hb'] at hb; exact Option.some.inj hb
        have hmlt : m' < w.heap.size := by
          rcases Nat.lt_or_ge m' w.heap.size with h | h
          · exact h
          · simp [Array.getElem?_eq_none h] at hrow
        have nS : ¬ S m' := fun hs => by have := (r.sep _ (List.mem_singleton.2 rfl) m' (eb_of hb)).1 hs; exact this
        -- the elements' cells
        let ix : Nat → Nat := fun i => if i < xr.length + 1 then i else 0
        have hix : ∀ i, ix i < xr.length + 1 := fun i => by simp only [ix]; split <;> omega
        have helx : ∀ i, (x :: xr)[ix i]? = some (elx x xr i) := by
          intro i
          simp only [ix, elx, List.getD_eq_getElem?_getD]
          split
          · rename_i hi
            rw [List.getElem?_eq_getElem (by simpa using hi)]; simp
          · rename_i hi
            rw [List.getElem?_eq_none (l := x :: xr) (i := i) (by simp; omega)]; simp
        have hrs : (xr.length + 1) * k ≤ row.size := by rw [hsz]; exact Nat.mul_le_mul_right k h1
        let enc : Nat → List Value := fun i => (row.toList.drop (ix i * k)).take k
        have henl : ∀ i, (enc i).length = k := by
          intro i
          have : ix i * k + k ≤ row.size := by
            have := Nat.mul_le_mul_right k (show ix i + 1 ≤ xr.length + 1 from hix i)
            rw [Nat.add_mul, Nat.one_mul] at this
            omega
          simp only [enc, List.length_take, List.length_drop, Array.length_toList]; omega
        have henv : ∀ i j, j < k → (enc i)[j]? = row[ix i * k + j]? := by
          intro i j hj
          simp only [enc, List.getElem?_take, if_pos hj, List.getElem?_drop, Array.getElem?_toList]
        have hflat : ∀ i j, j < k → (flat ((x :: xr).map g))[ix i * k + j]? = (g (elx x xr i)).cells[j]? := by
          intro i j hj
          exact flat_get h0 (by rw [List.getElem?_map, helx i]; rfl) j hj
        have hcl : ∀ i, (g (elx x xr i)).cells.length = k := fun i => (h0 _ (List.mem_map.2 ⟨_, elx_mem x xr i, rfl⟩)).1
        have hone : ∀ i, ∀ c ∈ (g (elx x xr i)).cells, c.one = true := fun i => (h0 _ (List.mem_map.2 ⟨_, elx_mem x xr i, rfl⟩)).2
        have henA : ∀ i, AtA w S (g (elx x xr i)).cells (enc i).toArray := by
          intro i j c v hc hv
          have hj : j < k := by rw [← hcl i]; exact (List.getElem?_eq_some_iff.1 hc).1
          refine hat (ix i * k + j) c v (by rw [hflat i j hj]; exact hc) ?_
          rw [← henv i j hj]
          simpa using hv
        have henO : ∀ i, ∀ v ∈ enc i, v.oneCell' = true := by
          intro i v hv
          obtain ⟨j, hj, rfl⟩ := List.getElem_of_mem hv
          have hjk : j < k := by rw [henl i] at hj; exact hj
          have hcj : j < (g (elx x xr i)).cells.length := by rw [hcl i]; exact hjk
          exact (henA i j (g (elx x xr i)).cells[j] (enc i)[j] (by simp [hcj]) (by simp [hj])).one_ok (hone i _ (List.getElem_mem hcj))
        have hcell : ∀ (d : Array Nat) (t : Nat), t < d.size * k → (flatK enc k d)[t]! = (enc d[t / k]!)[t % k]! := fun d t ht => get_flatK enc k d t ht
        have hHold : HoldsK enc k w m' 0 (Array.range (xr.length + 1)) := by
          intro j hj
          rw [size_flatK, Array.size_range] at hj
          have hdiv : j / k < xr.length + 1 := (Nat.div_lt_iff_lt_mul hk0).2 hj
          have hmod : j % k < k := Nat.mod_lt _ hk0
          have hjr : j < row.size := by omega
          have e1 : (flatK enc k (Array.range (xr.length + 1)))[j]! = row[j] := by
            rw [hcell _ _ (by simpa using hj)]
            have : (Array.range (xr.length + 1))[j / k]! = j / k := by
              rw [getElem!_pos _ _ (by simpa using hdiv)]; simp
            rw [this]
            have hv := henv (j / k) (j % k) hmod
            have : ix (j / k) = j / k := by simp only [ix]; rw [if_pos hdiv]
            rw [this, Nat.div_add_mod'] at hv
            rw [Array.getElem?_eq_getElem hjr] at hv
            rw [List.getElem!_eq_getElem?_getD, hv]; rfl
          constructor
          · simp only [World.cell?, hrow, id, e1, Nat.zero_add, Option.isSome_none, Bool.false_eq_true, if_false]
            rw [Array.getElem?_eq_getElem hjr]
          · simp [World.frozen?, hrow]
        have hcmp : CmpLays P gf cv enc k (ordx fn x xr) m' 0 (Array.range (xr.length + 1)).size w := by
          intro mm os dk hdk i j
          obtain ⟨u, hu⟩ := hdef _ (elx_mem x xr i) _ (elx_mem x xr j)
          have hW : ∀ n, S n → S n ∧ (sortWorldK enc k w m' 0 mm dk os).heap[n]? = w.heap[n]? := fun n hs =>
            ⟨hs, heap_sortW enc k w m' 0 mm dk os (r.slt n hs) (fun e => nS (e ▸ hs))⟩
          have hargs : AtA (sortWorldK enc k w m' 0 mm dk os) S (g (elx x xr i) :: g (elx x xr j) :: C) (#[.agg (enc i).toArray, .agg (enc j).toArray] ++ cv) := by
            intro q c v hc hv
            have ag : ∀ i, At (sortWorldK enc k w m' 0 mm dk os) S (g (elx x xr i)) (.agg (enc i).toArray) := fun i => by
              rw [hagg (elx x xr i)]
              exact .agg _ _ (by rw [hcl i]; simp [henl i]) (fun a c v hc hv => ((henA i) a c v hc hv).mono hW)
            match q with
            | 0 =>
              rw [Array.getElem?_append_left (by simp)] at hv
              simp at hc hv; subst hc; subst hv; exact ag i
            | 1 =>
              rw [Array.getElem?_append_left (by simp)] at hv
              simp at hc hv; subst hc; subst hv; exact ag j
            | q + 2 =>
              simp only [List.getElem?_cons_succ] at hc
              rw [Array.getElem?_append_right (by simp)] at hv
              simp only [List.size_toArray, List.length_cons, List.length_nil, Nat.add_sub_cancel] at hv
              exact (hca q c v hc (by simpa using hv)).mono hW
          refine (hfn hu _ S _ (@hrel_nil strongT _ _ (fun n hn => Nat.lt_of_lt_of_le (r.slt n hn) (size_sortW _ _ _ _ _ _ _ _)) (fun g o ho => ⟨(r.glob g o ho).1, gkeep (hW g (r.glob g o ho).1).2 (r.glob g o ho).2⟩)) (by simp [hcl, ‹C.length = cv.size›]; omega) hargs).mono ?_
          rintro e w' ⟨v, rr, h', S', rfl, hq, h3, h4, h5⟩
          obtain rfl := hq
          rw [h3.int_inv]
          refine ⟨?_, @Ext.grown strongT _ _ trivial (@Evo.toExt strongT _ _ _ _ _ h5)⟩
          unfold ordx
          rw [hu]; rfl
        have hsd : (Array.range (xr.length + 1)).size = xr.length + 1 := Array.size_range
        have hcall := K.some_ enc henl henO (ordx fn x xr) hO gf cv m' 0 cap (Array.range (xr.length + 1)) w (fun args w => run_callFunc gf args w) hcmp hHold hmlt (by rw [hsd]; exact hlen)
        rw [hsd] at hcall
        simp only [Nat.zero_mul]
        refine hcall.mono ?_
        rintro e w' ⟨rfl, q, os, rfl⟩
        have hps := pdq_sorts (ltOf (ordx fn x xr)) hO (Array.range (xr.length + 1)) 0 (xr.length + 1) (Lib.bitLen (xr.length + 1)) true true (Nat.zero_le _) (by rw [hsd]; exact Nat.le_refl _) (Or.inl rfl)
        generalize hd' : pdq (ltOf (ordx fn x xr)) (Array.range (xr.length + 1)) 0 (xr.length + 1) (Lib.bitLen (xr.length + 1)) true true = d' at hps ⊢
        have hd's : d'.size = xr.length + 1 := by rw [hps.1.1, hsd]
        have hW : ∀ n, S n → S n ∧ (sortWorldK enc k w m' 0 q d' os).heap[n]? = w.heap[n]? := fun n hs =>
          ⟨hs, heap_sortW enc k w m' 0 q d' os (r.slt n hs) (fun e => nS (e ▸ hs))⟩
        have hEl : ∀ y ∈ (d'.toList.map (elx x xr)).map g, El k y := by
          intro y hy
          simp only [List.mem_map] at hy
          obtain ⟨z, ⟨i, _, rfl⟩, rfl⟩ := hy
          exact h0 _ (List.mem_map.2 ⟨_, elx_mem x xr i, rfl⟩)
        have hh : Go.Eng.Holds (sortWorldK enc k w m' 0 q d' os) S b (.arr k ((d'.toList.map (elx x xr)).map g)) := by
          refine ⟨hEl, by simp [hd's]; omega, .inr ⟨m', _, E, hb, row_sortW enc k w m' q d' os hrow, by simp [putCells, hsz], ?_⟩⟩
          intro j c v hc hv
          have hjl : j < (xr.length + 1) * k := by
            have := (List.getElem?_eq_some_iff.1 hc).1
            rw [flat_length hEl] at this
            simpa [hd's] using this
          have hdiv : j / k < xr.length + 1 := (Nat.div_lt_iff_lt_mul hk0).2 hjl
          have hmod : j % k < k := Nat.mod_lt _ hk0
          have hjr : j < row.size := by omega
          have hdj : (d'.toList.map (elx x xr))[j / k]? = some (elx x xr d'[j / k]!) := by
            rw [List.getElem?_map, Array.getElem?_toList, Array.getElem?_eq_getElem (by omega), getElem!_pos d' (j / k) (by omega)]; rfl
          have hc' : (g (elx x xr d'[j / k]!)).cells[j % k]? = some c := by
            rw [← flat_get (sz := k) hEl (i := j / k) (x := g (elx x xr d'[j / k]!)) (by rw [List.getElem?_map, hdj]; rfl) (j % k) hmod, Nat.div_add_mod']
            exact hc
          have hv' : (enc d'[j / k]!)[j % k]? = some v := by
            simp only [putCells, Array.getElem?_mapIdx, Array.getElem?_eq_getElem hjr, Option.map_some, Option.some.injEq] at hv
            rw [if_pos ⟨Nat.zero_le _, by rw [size_flatK, hd's]; omega⟩, Nat.sub_zero, hcell d' j (by rw [hd's]; exact hjl)] at hv
            have hlt : j % k < (enc d'[j / k]!).length := by rw [henl]; exact hmod
            rw [List.getElem?_eq_getElem hlt, ← hv]
            simp only [id, getElem!_pos (enc d'[j / k]!) (j % k) hlt]
          exact (henA _ _ _ _ hc' (by simpa using hv')).mono hW
        have hsz' := size_sortW enc k w m' 0 q d' os
        refine ⟨_, .tup [], _, S, rfl, ⟨rfl, rfl⟩, .tup [] #[] rfl (fun i c v hc => by simp at hc), ⟨r.nodup, fun e he => by rw [List.mem_singleton] at he; subst he; exact hh, fun e he n hn => ?_, fun n hn => Nat.lt_of_lt_of_le (r.slt n hn) hsz', fun g o ho => ⟨(r.glob g o ho).1, gkeep (hW g (r.glob g o ho).1).2 (r.glob g o ho).2⟩⟩, ?_⟩
        · rw [List.mem_singleton] at he; subst he
          replace hn := (eb_one rfl).1 hn
          rw [hb] at hn
          obtain rfl := Option.some.inj hn
          exact ⟨fun hs => (nS hs).elim, fun hf => hf.elim⟩
        · refine ⟨rfl, rfl, rfl, hsz', hW, fun n hn hnh => ⟨heap_sortW enc k w m' 0 q d' os hn (fun e => hnh ⟨_, List.mem_singleton.2 rfl, by rw [e]; exact eb_of hb⟩), id⟩, ?_, ?_⟩
          · rintro n ⟨e, he, hen⟩
            rw [List.mem_singleton] at he; subst he
            exact .inl ⟨_, List.mem_singleton.2 rfl, hen⟩
          · intro _
            show w.drawn ≤ (sortWorldK enc k w m' 0 q d' os).drawn
            show w.drawn ≤ w.drawn + q
            omega
      · simp at hl0
    · rw [if_neg hc] at h; cases h
end Go.Eng

/- The engine, part 29: parts of arrays of ours: their elements, clear. No program in sight. -/
set_option linter.unusedVariables false
set_option linter.unusedSimpArgs false
set_option linter.unusedSectionVars false
namespace Go.Eng
open Go
variable [GTab]

/-- An element of a part: of the array as it is now. -/
def idxS {α : Type} (xs : List α) (L : Int) (n : Nat) (j : Int) : Option α := if 0 ≤ L ∧ 0 ≤ j ∧ j < n then idx xs (L + j) else none
theorem idxS_some {α : Type} {xs : List α} {L : Int} {n : Nat} {j : Int} {x : α} (h : idxS xs L n j = some x) : (0 ≤ L ∧ 0 ≤ j ∧ j < n) ∧ idx xs (L + j) = some x := by
  unfold idxS at h
  split at h
  · rename_i hc; exact ⟨hc, h⟩
  · cases h
/-- A part made zero. -/
def clr {α : Type} (xs : List α) (L : Int) (n : Nat) (z : α) : List α := xs.take L.toNat ++ List.replicate n z ++ xs.drop (L.toNat + n)
theorem clr_len {α : Type} {xs v : List α} {L H : Int} {z : α} (h : slc xs L H = some v) : (clr xs L v.length z).length = xs.length := by
  obtain ⟨⟨h0, h1, h2⟩, _⟩ := slc_some h
  have := (slc_len h).1
  unfold clr
  simp only [List.length_append, List.length_take, List.length_replicate, List.length_drop]
  omega
section rules
variable {P : Program} {all : Array Oper} {rest : List Oper} {n : Nat} {tm : List (Nat × AV)} {hp : Heap} {Q : St → Prop} {d : Nat} {ty : TypeId} {pos : String} {af : Array Edge}
theorem t_index_sub {α : Type} {Xs : List α} {el : α} {t e : TypeId} {i : TypeInfo} {x y : Operand} {k : IntKind} {j L : Int} {sz m : Nat} {b : Bk} [TUnder P t (.slice e)] [TInfo P e i] (hx : evA tm x = some (.sl sz b L.toNat m)) (hsz : Nat.beq i.size sz = true) (hy : evA tm y = some (.int k j))
    (hv : idxS Xs L m j = some el) : QV P ⟨some d, .indexAddr t x y, ty, pos, af, none⟩ ⟨n, tm, hp⟩ (.aptr sz b (L + j).toNat 0) := by
  obtain ⟨⟨h0, h1, h2⟩, h3⟩ := idxS_some hv
  have h := q_index_sl (P := P) (d := d) (ty := ty) (pos := pos) (af := af) (n := n) (tm := tm) (hp := hp) (t := t) (e := e) hx hsz hy ⟨h1, h2⟩
  rw [show (L + j).toNat = L.toNat + j.toNat by omega]
  exact h
theorem t_len_sub {x : Operand} {t e : TypeId} {sz off len : Nat} {b : Bk} [TUnder P t (.slice e)] (hx : evA tm x = some (.sl sz b off len)) : QV P ⟨some d, .call { callee := .builtin .len, args := #[x], argTypes := #[t] }, ty, pos, af, none⟩ ⟨n, tm, hp⟩ (.int .i64 (len : Nat)) := q_len_sl hx

theorem q_cap_nil {x : Operand} {t e : TypeId} [TUnder P t (.slice e)] (hx : evA tm x = some .nil) : QV P ⟨some d, .call { callee := .builtin .cap, args := #[x], argTypes := #[t] }, ty, pos, af, none⟩ ⟨n, tm, hp⟩ (.int .i64 0) :=
  (fun w S a r => ⟨.int .i64 0, fun w1 _ => by
    simp [execOp, (evA_at (σ := ⟨n, tm, hp⟩) r hx).nil_inv, resolve, invoke, builtin, Builtin.cap_, run_underlying (TUnder.h (P := P) (t := t)), goInt], .int _ _⟩)
theorem t_slice_nil {α : Type} {V : List α} {t e : TypeId} {i : TypeInfo} {x : Operand} {lo hi : Option Operand} {l h : Option Int} {L H : Int} [TUnder P t (.slice e)] [TInfo P e i] (hx : evA tm x = some .nil) (hl : Bnd tm lo l) (hh : Bnd tm hi h) (eL : lowB l = L) (eH : highB 0 h = H) (hv : slc ([] : List α) L H = some V) :
    QV P ⟨some d, .slice t x lo hi none, ty, pos, af, none⟩ ⟨n, tm, hp⟩ .nil := by
  obtain ⟨⟨h0, h1, h2⟩, _⟩ := slc_some hv
  simp only [List.length_nil] at h2
  subst eL; subst eH
  intro w S a r
  have e1 := (evA_at (σ := ⟨n, tm, hp⟩) r hx).nil_inv
  refine ⟨.slice none 0 0, fun w1 _ => ?_, .nil⟩
  have hb := run_bounds (P := P) (σ := ⟨n, tm, hp⟩) r hl hh true 0 0 h0 h1 (by simpa using h2) (Nat.le_refl _) w1
  have hl0 : (lowB l).toNat = 0 := by omega
  have hh0 : (highB 0 h).toNat = 0 := by omega
  rw [hl0, hh0] at hb
  simp [execOp, Instr.sliceAt, run_underlying (TUnder.h (P := P) (t := t)), Instr.slice, e1, hb, sizeOf, typeInfo, TInfo.h (P := P) (t := e)]
theorem zeroCells_get {z : Array Value} {N sz : Nat} (hzs : z.size = sz) (hpos : 0 < sz) {j : Nat} {v : Value} (hv : (Builtin.zeroCells z N)[j]? = some v) : z[j % sz]? = some v := by
  unfold Builtin.zeroCells at hv
  simp only [Array.getElem?_map, Option.map_eq_some_iff] at hv
  obtain ⟨q, hq, rfl⟩ := hv
  have : q = j := by
    rw [Array.getElem?_eq_some_iff] at hq
    obtain ⟨k1, k2⟩ := hq
    simpa using k2.symm
  subst this
  rw [hzs]
  have hlt : q % sz < z.size := by rw [hzs]; exact Nat.mod_lt _ hpos
  simp [hlt]
/-- append(nil, make(.., n)...): so many zeros. -/
theorem t_appendZ {α : Type} {g : α → AV} {Z : α} {Zs : List α} {t u e : TypeId} {i : TypeInfo} {z : Value} {x y : Operand} {l : Int} {sz : Nat} {ki : IntKind} [TUnder P t (.slice e)] [TUnder P u (.int ki)] [TInfo P e i] (hx : evA tm x = some .nil) (hy : evA tm y = some (.int .i64 l)) (hz : i.zero = some z) (hzx : zAV z = g Z)
    (hsz : i.size = sz) (hel : elB sz (g Z) = true) (hpos : Nat.blt 0 sz = true) (hn : Nat.blt d n = true) (hby : Nat.ble i.bytes 65536 = true) (hv : mkS Z l l = some Zs)
    (kk : ∀ b' : Bk, ARun P all rest ⟨n, (d, .sl sz b' 0 Zs.length) :: tm, (b', .arr sz (Zs.map g)) :: hp⟩ Q) : ARun P all (⟨some d, .call { callee := .builtin .append, args := #[x, y], argTypes := #[t, u] }, ty, pos, af, none⟩ :: rest) ⟨n, tm, hp⟩ Q := by
  subst hsz
  have hpos : 0 < i.size := Nat.lt_of_lt_of_le (Nat.lt_of_succ_le (Nat.le_of_ble_eq_true hpos)) (Nat.le_refl _)
  have hby := Nat.le_of_ble_eq_true hby
  have hE := elB_spec hel
  unfold mkS at hv
  split at hv
  · rename_i hc
    obtain rfl := Option.some.inj hv
    obtain ⟨c0, _, c2⟩ := hc
    refine ARun.opx rfl fun w S a r => ?_
    have e1 := (evA_at (σ := ⟨n, tm, hp⟩) r hx).nil_inv
    have e2 := (evA_at (σ := ⟨n, tm, hp⟩) r hy).int_inv
    have w1 : IntKind.i64.wrap l = l := wrap_fits ⟨by omega, by omega⟩
    have hmul : l * (i.bytes : Int) ≤ 1000000000 * 65536 := Int.mul_le_mul c2 (by omega) (by omega) (by omega)
    have f1 : ¬ l < 0 := by omega
    have f2 : ¬ (281474976710656 < l * (i.bytes : Int)) := by omega
    have hmap : (List.replicate l.toNat Z).map g = List.replicate l.toNat (g Z) := by simp
    by_cases h0 : l = 0
    · subst h0
      obtain ⟨a1, a2, a3⟩ := add_rel (b := ⟨none, 0⟩) (o := .arr i.size []) r.hp (Ext.refl w) id ⟨by simp, by simp, .inl ⟨rfl, rfl⟩⟩ (.inl rfl)
      refine ⟨.slice none 0 0, w, S, _, ?_, (r.heap a3 a1).put hn (.slph _ _ rfl), a2, kk ⟨none, 0⟩⟩
      simp [execOp, resolve, invoke, builtin, e1, e2, Builtin.append_, run_underlying (TUnder.h (P := P) (t := t)), run_underlying (TUnder.h (P := P) (t := u)), sizeOf, typeInfo, TInfo.h (P := P) (t := e), asInt, asIntOf, w1]
    · obtain ⟨N, hN⟩ : ∃ N : Nat, N = l.toNat := ⟨_, rfl⟩
      have hN0 : 0 < N := by omega
      have hlN : l = (N : Int) := by omega
      obtain ⟨zl, zat⟩ := zAV_cells_at w S z (by rw [hzx]; exact hE.2)
      rw [hzx] at zl zat
      have hzs : z.cells.size = i.size := by rw [← zl]; exact hE.1
      have h48 : N * i.bytes ≤ 1000000000 * 65536 := Nat.mul_le_mul (by omega) hby
      have h48' : ¬ (281474976710656 < Builtin.nextslicecap N 0 * i.bytes) := by rw [nextslicecap_zero hN0]; omega
      have h63' : ¬ (9223372036854775807 < (N : Int)) := by omega
      have hne : N ≠ 0 := by omega
      have hne2 : ¬ (N = 0 ∨ i.size = 0) := by omega
      have hge := grownCap_ge w N 0 e
      obtain ⟨vs, hvs⟩ : ∃ vs : Array Value, vs = Builtin.zeroCells z.cells N ++ Builtin.zeroCells z.cells (grownCap w N 0 e - N) := ⟨_, rfl⟩
      have ex : Ext w (w.drew.alloc (.cells vs e)) := (Ext.draws w _ (Nat.le_succ _)).trans (Ext.alloc w.drew _)
      have hEr : ∀ y ∈ List.replicate N (g Z), El i.size y := fun y hy => by rw [List.eq_of_mem_replicate hy]; exact hE
      have hzc : (Builtin.zeroCells z.cells N).size = N * i.size := by rw [size_zeroCells, hzs]
      have hh : Holds (w.drew.alloc (.cells vs e)) S ⟨some w.heap.size, grownCap w N 0 e⟩ (.arr i.size ((List.replicate l.toNat Z).map g)) := by
        rw [hmap, ← hN]
        refine ⟨hEr, by simpa using hge, .inr ⟨w.heap.size, vs, e, rfl, ?_, ?_, fun j c v hc hv => ?_⟩⟩
        · show (w.heap.push _)[w.heap.size]? = _
          simp
        · rw [hvs, Array.size_append, size_zeroCells, size_zeroCells, hzs, ← Nat.add_mul]
          show (N + (grownCap w N 0 e - N)) * i.size = grownCap w N 0 e * i.size
          rw [show N + (grownCap w N 0 e - N) = grownCap w N 0 e by omega]
        · have hj : j < N * i.size := by
            have := (List.getElem?_eq_some_iff.1 hc).1
            rw [flat_length hEr] at this; simpa using this
          rw [flat_rep hE.1 N j hj] at hc
          rw [hvs, Array.getElem?_append_left (by rw [hzc]; exact hj)] at hv
          exact (zat _ _ _ hc (zeroCells_get hzs hpos hv)).mono fun m hm => ⟨hm, ex.same m (r.hp.slt m hm)⟩
      obtain ⟨k1, k2, k3⟩ := add_rel r.hp ex id hh (.inr ⟨_, rfl, Nat.le_refl _⟩)
      refine ⟨.slice (some ⟨w.heap.size, 0, none⟩) N (grownCap w N 0 e), w.drew.alloc (.cells vs e), S, _, ?_, (r.heap k3 k1).put hn ?_, k2, kk ⟨some w.heap.size, grownCap w N 0 e⟩⟩
      · have f2' : ¬ (281474976710656 < (N : Int) * (i.bytes : Int)) := by rw [← hlN]; exact f2
        have f1' : ¬ ((N : Int) < 0) := by omega
        have w1' : IntKind.i64.wrap (N : Int) = N := by rw [← hlN]; exact w1
        rw [hvs]
        simp [execOp, resolve, invoke, builtin, e1, e2, Builtin.append_, run_underlying (TUnder.h (P := P) (t := t)), run_underlying (TUnder.h (P := P) (t := u)), sizeOf, typeInfo, TInfo.h (P := P) (t := e), asInt, asIntOf, hlN, w1', f1', f2', hne, hne2, h63', h48', Question.forced, run_firstCells_none, zeroValue, hz, newRow, grownCap]
        intro hzero
        exact absurd (Nat.mul_eq_zero.1 hzero) (by omega)
      · have := At.sl (w := w.drew.alloc (.cells vs e)) (S := S) i.size ⟨some w.heap.size, grownCap w N 0 e⟩ 0 N w.heap.size (grownCap w N 0 e) rfl hge (by simp)
        simp only [List.length_replicate, ← hN]
        simpa using this
  · cases hv
theorem r_clear {t e : TypeId} {i : TypeInfo} {z : Value} {x : Operand} {b : Bk} {L N sz : Nat} {xs : List AV} {zx : AV} {hp' : Heap} [TUnder P t (.slice e)] [TInfo P e i] (hx : evA tm x = some (.sl sz b L N)) (hz : i.zero = some z) (hzx : zAV z = zx) (hsz : Nat.beq i.size sz = true) (hel : elB sz zx = true) (hpos : Nat.blt 0 sz = true) (hL : L + N ≤ xs.length)
    (u : Upd hp b (.arr sz xs) b (.arr sz (xs.take L ++ List.replicate N zx ++ xs.drop (L + N))) hp') (kk : ARun P all rest ⟨n, tm, hp'⟩ Q) :
    ARun P all (⟨none, .call { callee := .builtin .clear, args := #[x], argTypes := #[t] }, ty, pos, af, none⟩ :: rest) ⟨n, tm, hp⟩ Q := by
  have hsz := Nat.eq_of_beq_eq_true hsz
  have hpos : 0 < sz := Nat.lt_of_lt_of_le (Nat.lt_of_succ_le (Nat.le_of_ble_eq_true hpos)) (Nat.le_refl _)
  have hE := elB_spec hel
  refine ARun.opx rfl fun w S a r => ?_
  obtain ⟨oa, cap, e1, e2⟩ := (evA_at (σ := ⟨n, tm, hp⟩) r hx).sl_inv
  rcases Nat.eq_zero_or_pos N with h0 | h0
  · subst h0
    have hsame : xs.take L ++ List.replicate 0 zx ++ xs.drop (L + 0) = xs := by simp
    rw [hsame] at u
    obtain ⟨p, q, hq1, hq2⟩ := u.split
    obtain rfl : hp' = hp := by rw [hq1, hq2]
    refine ⟨.tuple #[], w, S, ⟨n, tm, hp'⟩, ?_, r, Evo.refl _ _ _, kk⟩
    cases oa <;> simp [execOp, e1, resolve, invoke, builtin, Builtin.clear_, run_underlying (TUnder.h (P := P) (t := t))]
  · rcases e2 with ⟨_, _, hl, _, _⟩ | ⟨m, hb, rfl, h1, h2⟩ | ⟨_, _, _, _, hl, _⟩
    · omega
    · obtain ⟨g0, g1, ⟨g2, _⟩ | ⟨m', vs, E, g2, g3, g4, g5⟩⟩ := arr_cells r.hp (.inl u.fnd)
      · rw [g2] at hb; cases hb
      obtain rfl : m' = m := by rw [g2] at hb; exact Option.some.inj hb
      obtain ⟨zl, zat⟩ := zAV_cells_at w S z (by rw [hzx]; exact hE.2)
      rw [hzx] at zl zat
      have hzs : z.cells.size = sz := by rw [← zl]; exact hE.1
      have hEr : ∀ y ∈ List.replicate N zx, El sz y := fun y hy => by rw [List.eq_of_mem_replicate hy]; exact hE
      have hzc : (Builtin.zeroCells z.cells N).size = N * sz := by rw [size_zeroCells, hzs]
      have hnl : (flat (List.replicate N zx)).length = (Builtin.zeroCells z.cells N).size := by rw [flat_length hEr, hzc]; simp
      have hnat : AtA w S (flat (List.replicate N zx)) (Builtin.zeroCells z.cells N) := by
        intro j c v hc hv
        have hj : j < N * sz := by
          have := (List.getElem?_eq_some_iff.1 hc).1
          rw [flat_length hEr] at this; simpa using this
        rw [flat_rep hE.1 N j hj] at hc
        refine zat (j % sz) c v hc ?_
        unfold Builtin.zeroCells at hv
        simp only [Array.getElem?_map, Option.map_eq_some_iff] at hv
        obtain ⟨q, hq, rfl⟩ := hv
        have : q = j := by
          rw [Array.getElem?_eq_some_iff] at hq
          obtain ⟨k1, k2⟩ := hq
          simpa using k2.symm
        subst this
        rw [hzs]
        have hlt : q % sz < z.cells.size := by rw [hzs]; exact Nat.mod_lt _ hpos
        simp [hlt]
      have hone := one_vals hnl hnat (fun c hc => by
        unfold flat at hc
        rw [List.mem_flatMap] at hc
        obtain ⟨y, hy, hcy⟩ := hc
        exact (hEr y hy).2 c hcy)
      have hfl := flat_length g0
      have hmul : (L + N) * sz ≤ xs.length * sz := Nat.mul_le_mul_right _ hL
      have hmul2 : xs.length * sz ≤ b.cap * sz := Nat.mul_le_mul_right _ g1
      rw [Nat.add_mul] at hmul
      have hst := run_storeCells_at (P := P) m' (L * sz) E (Builtin.zeroCells z.cells N).toList 0 vs w g3 (by simp [hzc]; omega) hone
      simp only [Nat.add_zero] at hst
      have hflat : flat (xs.take L ++ List.replicate N zx ++ xs.drop (L + N)) = (flat xs).take (L * sz) ++ flat (List.replicate N zx) ++ (flat xs).drop (L * sz + (flat (List.replicate N zx)).length) := by
        rw [flat_append, flat_append, flat_take xs L g0, flat_drop xs (L + N) g0, hnl, hzc, Nat.add_mul]
      have hmid := fun (w' : World) (ha : AtA w' S (flat xs) vs) (hb : AtA w' S (flat (List.replicate N zx)) (Builtin.zeroCells z.cells N)) => AtA_mid (L * sz) (by rw [hfl, g4]; exact hmul2) ha hnl hb (by rw [hnl, hzc, hfl]; omega)
      have hsz2 : (vs.toList.take (L * sz) ++ (Builtin.zeroCells z.cells N).toList ++ vs.toList.drop (L * sz + (Builtin.zeroCells z.cells N).toList.length)).toArray.size = b.cap * sz := by
        simp [hzc]; omega
      generalize (vs.toList.take (L * sz) ++ (Builtin.zeroCells z.cells N).toList ++ vs.toList.drop (L * sz + (Builtin.zeroCells z.cells N).toList.length)).toArray = vs' at hst hmid hsz2
      have c : GB w (w.setRow m' vs') b.blk := ⟨⟨rfl, rfl, rfl, by simp, fun k hk hne => setRow_other w m' k _ (fun e => hne (by rw [g2, e]))⟩, fun _ => Nat.le_refl _⟩
      have k1 : ∀ n, S n → S n ∧ (w.setRow m' vs').heap[n]? = w.heap[n]? := by
        intro k hk
        refine ⟨hk, setRow_other w m' k _ (fun e => ?_)⟩
        subst e
        exact (r.hp.sep _ u.fnd.mem k (eb_of g2)).1 hk
      have hh := upd_rel r.hp u c id id ⟨fun y hy => ?_, by simp; omega, .inr ⟨m', vs', E, g2, setRow_heap w m' vs _ E _ g3, hsz2, by rw [hflat]; exact hmid _ (g5.mono k1) (hnat.mono k1)⟩⟩ (.inl rfl)
      · refine ⟨.tuple #[], w.setRow m' vs', S, ⟨n, tm, hp'⟩, ?_, r.heap hh.2.2 hh.1, hh.2.1, kk⟩
        obtain ⟨N', rfl⟩ : ∃ k, N = k + 1 := ⟨N - 1, by omega⟩
        simp [execOp, e1, resolve, invoke, builtin, Builtin.clear_, run_underlying (TUnder.h (P := P) (t := t)), zeroValue, typeInfo, TInfo.h (P := P) (t := e), hz, hst]
      · rcases List.mem_append.1 hy with h | h
        · rcases List.mem_append.1 h with h | h
          · exact g0 y (List.mem_of_mem_take h)
          · exact hEr y h
        · exact g0 y (List.mem_of_mem_drop h)
    · omega
theorem t_clear {α : Type} {g : α → AV} {Z : α} {Xs V : List α} {H : Int} {t e : TypeId} {i : TypeInfo} {z : Value} {x : Operand} {b : Bk} {L : Int} {sz : Nat} {hp' : Heap} [TUnder P t (.slice e)] [TInfo P e i] (hx : evA tm x = some (.sl sz b L.toNat V.length)) (hz : i.zero = some z) (hzx : zAV z = g Z) (hsz : Nat.beq i.size sz = true) (hel : elB sz (g Z) = true) (hpos : Nat.blt 0 sz = true) (hv : slc Xs L H = some V)
    (u : Upd hp b (.arr sz (Xs.map g)) b (.arr sz ((clr Xs L V.length Z).map g)) hp') (kk : ARun P all rest ⟨n, tm, hp'⟩ Q) :
    ARun P all (⟨none, .call { callee := .builtin .clear, args := #[x], argTypes := #[t] }, ty, pos, af, none⟩ :: rest) ⟨n, tm, hp⟩ Q := by
  obtain ⟨⟨h0, h1, h2⟩, _⟩ := slc_some hv
  have hlen := (slc_len hv).1
  refine r_clear (xs := Xs.map g) hx hz hzx hsz hel hpos (by simp; omega) ?_ kk
  have : (clr Xs L V.length Z).map g = (Xs.map g).take L.toNat ++ List.replicate V.length (g Z) ++ (Xs.map g).drop (L.toNat + V.length) := by
    unfold clr
    simp
  rw [← this]
  exact u
end rules
end Go.Eng

/- The engine, part 30: slices.Sort at elements of one cell, over the shelf's contracts. No program in sight. -/
set_option linter.unusedVariables false
set_option linter.unusedSimpArgs false
set_option linter.unusedSectionVars false
namespace Go.Eng
open Go Go.Sort Go.Proofs
variable [GTab]

structure Sort1 {α : Type} [Inhabited α] (P : Program) (f : FuncId) (enc : α → Value) (srt : List α → List α) : Prop where
  some_ : ∀ (blk off cap : Nat) (zs : List α) (w : World), Sort.Holds enc w blk off zs.toArray → blk < w.heap.size → zs.length < 4611686018427387904 → Calls P f #[.slice (some ⟨blk, off, none⟩) zs.length cap] w fun e w' =>
    e = .returned (.tuple #[]) ∧ ∃ n os, w' = grow (putRow enc (Sort.ahead w n) blk off (srt zs).toArray) os
  none_ : ∀ (p : Option Addr) (cap : Nat) (w : World), Calls P f #[.slice p 0 cap] w fun e w' => e = .returned (.tuple #[]) ∧ w' = w

/-- The sorted list. -/
def sort1 {α : Type} (srt : List α → List α) (xs : List α) : Option (List α) := if xs.length < 4611686018427387904 then some (srt xs) else none
theorem heap_putW {α : Type} [Inhabited α] (enc : α → Value) (w : World) (blk off m : Nat) (dk : Array α) (os : Array Obj) {n : Nat} (hn : n < w.heap.size) (hne : n ≠ blk) : (grow (putRow enc (Sort.ahead w m) blk off dk) os).heap[n]? = w.heap[n]? := by
  unfold putRow
  rw [heap_grow_old _ _ (by simpa [mapBlock] using hn)]
  simp only [mapBlock, heap_ahead, Array.getElem?_modify]
  rw [if_neg (fun h => hne h.symm)]
theorem row_putW {α : Type} [Inhabited α] (enc : α → Value) (w : World) (blk m : Nat) (dk : Array α) (os : Array Obj) {vs : Array Value} {E : TypeId} (hb : w.heap[blk]? = some (.cells vs E (0, 0))) : (grow (putRow enc (Sort.ahead w m) blk 0 dk) os).heap[blk]? = some (.cells (putCells enc 0 dk vs) E (0, 0)) := by
  have hlt : blk < w.heap.size := by
    rcases Nat.lt_or_ge blk w.heap.size with h | h
    · exact h
    · simp [Array.getElem?_eq_none h] at hb
  unfold putRow
  rw [heap_grow_old _ _ (by simpa [mapBlock] using hlt)]
  simp only [mapBlock, heap_ahead, Array.getElem?_modify]
  rw [if_pos trivial, hb]
  rfl
theorem flat_ones {α : Type} {g : α → AV} (hc : ∀ x, (g x).cells = [g x]) : ∀ xs : List α, flat (xs.map g) = xs.map g
  | [] => rfl
  | x :: r => by rw [List.map_cons, flat_cons, hc, flat_ones hc r]; rfl
theorem sort1_acall {P : Program} {α : Type} [Inhabited α] {f : FuncId} {enc : α → Value} {srt : List α → List α} (K : Sort1 P f enc srt) {g : α → AV} (hg : ∀ {w : World} {S : Nat → Prop} {x : α} {v : Value}, At w S (g x) v → v = enc x) (hg' : ∀ (w : World) (S : Nat → Prop) (x : α), At w S (g x) (enc x)) (hc : ∀ x, (g x).cells = [g x])
    (hlen : ∀ xs, (srt xs).length = xs.length) (hone : ∀ x, (g x).one = true) {Xs Ys : List α} {b : Bk} (h : sort1 srt Xs = some Ys) : ACall P f [.sl 1 b 0 Xs.length] [(b, .arr 1 (Xs.map g))] (T0 [(b, .arr 1 (Ys.map g))] (.tup [])) := by
  unfold sort1 at h
  split at h
  · rename_i hsz
    obtain rfl := Option.some.inj h
    intro w S vs r hl ha
    obtain ⟨v0, rfl⟩ : ∃ v0, vs = #[v0] := by
      match vs, hl with
      | ⟨[v0]⟩, _ => exact ⟨v0, rfl⟩
    have a0 := ha 0 _ v0 rfl rfl
    obtain ⟨oa, cap, rfl, e2⟩ := a0.sl_inv
    have hEl : ∀ (zs : List α), ∀ y ∈ zs.map g, El 1 y := by
      intro zs y hy
      obtain ⟨x, _, rfl⟩ := List.mem_map.1 hy
      exact ⟨by rw [hc]; rfl, fun c hcc => by rw [hc] at hcc; rw [List.mem_singleton.1 hcc]; exact hone x⟩
    have hnil : Xs.length = 0 → srt Xs = Xs := fun h0 => by
      have h1 := hlen Xs
      have e1 : Xs = [] := List.eq_nil_of_length_eq_zero h0
      rw [e1]
      apply List.eq_nil_of_length_eq_zero
      rw [hlen]; rfl
    rcases Nat.eq_zero_or_pos Xs.length with h0 | h0
    · have hK := K.none_ oa cap w
      rw [← h0] at hK
      refine hK.mono ?_
      rintro e w' ⟨rfl, rfl⟩
      rw [hnil h0]
      exact ⟨_, .tup [], _, S, rfl, ⟨rfl, rfl⟩, .tup [] #[] rfl (fun i c v hc => by simp at hc), r, Evo.refl _ _ _⟩
    · obtain ⟨_, h1, h2⟩ := r.holds _ (List.mem_singleton.2 rfl)
      simp only [List.length_map] at h1
      rcases h2 with ⟨_, hcap⟩ | ⟨m, row, E, hb, hrow, hrs, hat⟩
      · have hcap' : b.cap = 0 := hcap
        omega
      rcases e2 with ⟨hn, _, _, _, _⟩ | ⟨m', hb', rfl, hle, hle2⟩ | ⟨m', ad, _, _, hl0, _⟩
      · rw [hn] at hb; cases hb
      · obtain rfl : m' = m := by rw [hb'] at hb; exact Option.some.inj hb
        have hmlt : m' < w.heap.size := by
          rcases Nat.lt_or_ge m' w.heap.size with h | h
          · exact h
          · simp [Array.getElem?_eq_none h] at hrow
        have nS : ¬ S m' := fun hs => by have := (r.sep _ (List.mem_singleton.2 rfl) m' (eb_of hb)).1 hs; exact this
        have hrs' : row.size = b.cap := by rw [hrs]; exact Nat.mul_one _
        rw [flat_ones hc] at hat
        have hH : Sort.Holds enc w m' 0 Xs.toArray := by
          intro j hj
          have hj' : j < Xs.length := by simpa using hj
          have hjr : j < row.size := by omega
          have hv := hg (hat j (g Xs[j]) row[j] (by simp [hj']) (by simp [hjr]))
          constructor
          · simp only [World.cell?, hrow, Nat.zero_add, Option.isSome_none, Bool.false_eq_true, if_false]
            rw [Array.getElem?_eq_getElem hjr, hv]
            simp [hj']
          · simp [World.frozen?, hrow]
        simp only [Nat.zero_mul]
        refine (K.some_ m' 0 cap Xs w hH hmlt hsz).mono ?_
        rintro e w' ⟨rfl, q, os, rfl⟩
        have hW : ∀ n, S n → S n ∧ (grow (putRow enc (Sort.ahead w q) m' 0 (srt Xs).toArray) os).heap[n]? = w.heap[n]? := fun n hs =>
          ⟨hs, heap_putW enc w m' 0 q _ os (r.slt n hs) (fun e => nS (e ▸ hs))⟩
        have hsz' : w.heap.size ≤ (grow (putRow enc (Sort.ahead w q) m' 0 (srt Xs).toArray) os).heap.size := by simp
        have hls := hlen Xs
        have hh : Go.Eng.Holds (grow (putRow enc (Sort.ahead w q) m' 0 (srt Xs).toArray) os) S b (.arr 1 ((srt Xs).map g)) := by
          refine ⟨hEl _, by simp; omega, .inr ⟨m', _, E, hb, row_putW enc w m' q _ os hrow, by simp [putCells, hrs], ?_⟩⟩
          rw [flat_ones hc]
          intro j c v hcj hv
          have hjl : j < (srt Xs).length := by have := (List.getElem?_eq_some_iff.1 hcj).1; simpa using this
          have hjr : j < row.size := by omega
          rw [List.getElem?_map, List.getElem?_eq_getElem hjl] at hcj
          obtain rfl := Option.some.inj hcj
          simp only [putCells, Array.getElem?_mapIdx, Array.getElem?_eq_getElem hjr, Option.map_some, Option.some.injEq] at hv
          rw [if_pos ⟨Nat.zero_le _, by simp; omega⟩] at hv
          rw [← hv]
          have : (srt Xs).toArray[j - 0]! = (srt Xs)[j] := by simp [hjl]
          rw [this]
          exact hg' _ _ _
        refine ⟨_, .tup [], _, S, rfl, ⟨rfl, rfl⟩, .tup [] #[] rfl (fun i c v hc => by simp at hc), ⟨r.nodup, fun e he => by rw [List.mem_singleton] at he; subst he; exact hh, fun e he n hn => ?_, fun n hn => Nat.lt_of_lt_of_le (r.slt n hn) hsz', fun g o ho => ⟨(r.glob g o ho).1, gkeep (hW g (r.glob g o ho).1).2 (r.glob g o ho).2⟩⟩, ?_⟩
        · rw [List.mem_singleton] at he; subst he
          replace hn := (eb_one rfl).1 hn
          rw [hb] at hn
          obtain rfl := Option.some.inj hn
          exact ⟨fun hs => (nS hs).elim, fun hf => hf.elim⟩
        · refine ⟨rfl, rfl, rfl, hsz', hW, fun n hn hnh => ⟨heap_putW enc w m' 0 q _ os hn (fun e => hnh ⟨_, List.mem_singleton.2 rfl, by rw [e]; exact eb_of hb⟩), id⟩, ?_, ?_⟩
          · rintro n ⟨e, he, hen⟩
            rw [List.mem_singleton] at he; subst he
            exact .inl ⟨_, List.mem_singleton.2 rfl, hen⟩
          · intro _
            show w.drawn ≤ w.drawn + q
            omega
      · omega
  · cases h
def srtS (xs : List (List UInt8)) : List (List UInt8) := xs.mergeSort fun x y => decide (x ≤ y)
end Go.Eng

/- The engine, part 31: a call that turns memory of ours while it looks at other memory of ours. No program in sight. -/
set_option linter.unusedVariables false
set_option linter.unusedSimpArgs false
set_option linter.unusedSectionVars false
namespace Go.Eng
open Go
variable [GTab]

/-- A value that tells nothing of frozen memory. -/
def AV.noS1 : AV → Bool
  | .sl _ _ _ _ => true
  | .ptr _ _ => true
  | .agg cs => noLL cs
  | v => v.noL1
def noSL : List AV → Bool
  | [] => true
  | c :: r => c.noS1 && noSL r
def AV.noS : AV → Bool
  | .tup cs => noSL cs
  | v => v.noS1
theorem noS1_at {w : World} {S S' : Nat → Prop} {av : AV} {v : Value} (h : At w S av v) (hn : av.noS1 = true) : At w S' av v := by
  cases h with
  | agg cs vs hl h => exact .agg cs vs hl fun i c u hc hu => noL1x_at (h i c u hc hu) (noLL_mem hn c (List.mem_of_getElem? hc))
  | sl sz b off len n cap hb h1 h2 => exact .sl sz b off len n cap hb h1 h2
  | slph sz b hb => exact .slph sz b hb
  | sl0 sz b off n ad hb => exact .sl0 sz b off n ad hb
  | ptr b o n hb => exact .ptr b o n hb
  | int k n => exact .int k n
  | bool b => exact .bool b
  | str s => exact .str s
  | nil => exact .nil
  | raw v => exact .raw v
  | _ => simp [AV.noS1, AV.noL1] at hn
theorem noSL_mem : ∀ {cs : List AV}, noSL cs = true → ∀ c ∈ cs, c.noS1 = true
  | [], _, c, hc => by simp at hc
  | x :: r, h, c, hc => by
    simp only [noSL, Bool.and_eq_true] at h
    rcases List.mem_cons.1 hc with rfl | hc
    · exact h.1
    · exact noSL_mem h.2 c hc
theorem noS_at {w : World} {S S' : Nat → Prop} {av : AV} {v : Value} (h : At w S av v) (hn : av.noS = true) : At w S' av v := by
  cases av with
  | tup cs =>
    cases h with
    | tup _ vs hl h => exact .tup cs vs hl fun i c u hc hu => noS1_at (h i c u hc hu) (noSL_mem hn c (List.mem_of_getElem? hc))
  | _ => exact noS1_at h hn
/-- An object whose values tell nothing of frozen memory. -/
def Ob.NoS : Ob → Prop
  | .cells cs => noSL cs = true
  | .arr _ xs => ∀ x ∈ xs, noLL x.cells = true
  | _ => False
inductive NoSH : Heap → Prop
  | nil : NoSH []
  | cons {b : Bk} {o : Ob} {h : Heap} (c : o.NoS) (k : NoSH h) : NoSH ((b, o) :: h)
theorem NoSH.mem {h : Heap} (k : NoSH h) : ∀ e ∈ h, e.2.NoS := by
  induction k with
  | nil => intro e he; simp at he
  | cons c k ih =>
    intro e he
    rcases List.mem_cons.1 he with rfl | he
    · exact c
    · exact ih e he
theorem NoS.arrT {α : Type} {g : α → AV} {sz : Nat} {Xs : List α} (h : ∀ x, noLL (g x).cells = true) : (Ob.arr sz (Xs.map g)).NoS := fun x hx => by
  obtain ⟨y, _, rfl⟩ := List.mem_map.1 hx
  exact h y
theorem Holds.noS {w : World} {S S' : Nat → Prop} {b : Bk} {o : Ob} (h : Holds w S b o) (hn : o.NoS) : Holds w S' b o := by
  cases o with
  | cells cs =>
    obtain ⟨h0, n, vs, E, h1, h2, h3, h4⟩ := h
    exact ⟨h0, n, vs, E, h1, h2, h3, fun i c v hc hv => noS1_at (h4 i c v hc hv) (noSL_mem hn c (List.mem_of_getElem? hc))⟩
  | arr sz xs =>
    obtain ⟨h0, h1, h2⟩ := h
    refine ⟨h0, h1, h2.imp id ?_⟩
    rintro ⟨n, vs, E, g1, g2, g3, g4⟩
    refine ⟨n, vs, E, g1, g2, g3, fun i c v hc hv => noL1x_at (g4 i c v hc hv) ?_⟩
    have hm := List.mem_of_getElem? hc
    unfold flat at hm
    rw [List.mem_flatMap] at hm
    obtain ⟨x, hx, hcx⟩ := hm
    exact noLL_mem (hn x hx) c hcx
  | fro _ _ => exact hn.elim
  | mp _ => exact hn.elim
  | mpb _ _ => exact hn.elim
  | mps _ _ _ => exact hn.elim
  | mit _ _ _ => exact hn.elim
  | pool _ => exact hn.elim
  | bld _ _ _ _ => exact hn.elim
  | sit _ _ => exact hn.elim
  | bts _ => exact hn.elim

theorem Co.partT {hp : Heap} {α : Type} {g : α → AV} {Xs V : List α} {L H : Int} {sz : Nat} {b : Bk} (hv : slc Xs L H = some V) (f : Fnd hp b (.fro sz (Xs.map g))) : Co hp (.sl sz b L.toNat V.length) (.list sz (V.map g)) := by
  obtain ⟨⟨h0, h1, h2⟩, h3⟩ := slc_some hv
  have hl := (slc_len hv).1
  have h := Co.part sz b L.toNat V.length (Xs.map g) f (by simp; omega)
  have e : V.map g = ((Xs.map g).drop L.toNat).take V.length := by
    have := (slc_len hv).2.2
    rw [← List.map_drop, ← List.map_take, ← this]
  rw [e]
  exact h
theorem CoB.partT {hp : Heap} {α : Type} {g : α → AV} {Xs V : List α} {L H : Int} {sz : Nat} {b : Bk} (hv : slc Xs L H = some V) (f : Fnd hp b (.arr sz (Xs.map g))) : CoB hp (.sl sz b L.toNat V.length) (.list sz (V.map g)) := by
  obtain ⟨⟨h0, h1, h2⟩, h3⟩ := slc_some hv
  have hl := (slc_len hv).1
  have h := CoB.part sz b L.toNat V.length (Xs.map g) f (by simp; omega)
  have e : V.map g = ((Xs.map g).drop L.toNat).take V.length := by
    have := (slc_len hv).2.2
    rw [← List.map_drop, ← List.map_take, ← this]
  rw [e]
  exact h
section rules
variable {P : Program} {all : Array Oper} {rest : List Oper} {n : Nat} {tm : List (Nat × AV)} {hp : Heap} {Q : St → Prop} {d : Nat} {ty : TypeId} {pos : String} {af : Array Edge}
theorem r_callL {f : FuncId} {args : List Operand} {ts : Array TypeId} {l l' : List AV} {h0 hr : Heap} {Qc : AV → Heap → Prop} [IsFn P f] (hl : evL tm args = some l) (c : ACall P f l' h0 Qc) (co : CoBL hr l l') (hs : hp.Perm (h0 ++ hr)) (hn : Nat.blt d n = true)
    (kk : ∀ r h', Qc r h' → r.noS = true ∧ NoSH h' ∧ ARun P all rest ⟨n, (d, r) :: tm, h' ++ hr⟩ Q) : ARun P all (⟨some d, .call { callee := .value (.func f), args := args.toArray, argTypes := ts }, ty, pos, af, none⟩ :: rest) ⟨n, tm, hp⟩ Q := by
  refine ARun.callx rfl fun w S a r => ⟨f, _, run_exec_call a w, ?_⟩
  obtain ⟨g1, g2⟩ := evL_vals (σ := ⟨n, tm, hp⟩) r hl
  have rp := r.hp.perm hs
  have rr0 : HRel w S hr := rp.sub (List.sublist_append_right _ _)
  have rh0 : HRel w S h0 := rp.sub (List.sublist_append_left _ _)
  obtain ⟨g3, g4⟩ := CoBL.at rr0 co g1 g2
  have disj : ∀ m, Has h0 m → ¬ Has hr m := by
    rintro m ⟨x, hx, hxm⟩ ⟨y, hy, hym⟩
    have := rp.nodup
    rw [List.flatMap_append, List.nodup_append] at this
    exact this.2.2 m (List.mem_flatMap.2 ⟨x, hx, hxm⟩) m (List.mem_flatMap.2 ⟨y, hy, hym⟩) rfl
  have rh : HRel w (SB S hr) h0 := by
    refine ⟨rh0.nodup, fun e he => (rh0.holds e he).mono (fun m hm => ⟨.inl hm, rfl⟩) (fun m _ => rfl), fun e he m hm => ?_, fun m hm => ?_, fun g o ho => ⟨.inl (rh0.glob g o ho).1, (rh0.glob g o ho).2⟩⟩
    · constructor
      · rintro (h | h)
        · exact (rh0.sep e he m hm).1 h
        · exact (disj m ⟨e, he, hm⟩ h).elim
      · exact fun h => .inl ((rh0.sep e he m hm).2 h)
    · rcases hm with h | h
      · exact rh0.slt m h
      · exact rr0.lt h
  refine (c w (SB S hr) _ rh (by simpa using g3) g4).mono ?_
  rintro e w' ⟨v, res, h', S', rfl, hq, h3, h4, h5⟩
  obtain ⟨k1, k2, k3⟩ := kk res h' hq
  have hup : ∀ m, S m → (S' m ∧ (Has hr m → S m)) ∧ w'.heap[m]? = w.heap[m]? := fun m hm => ⟨⟨(h5.keep m (.inl hm)).1, fun _ => hm⟩, (h5.keep m (.inl hm)).2⟩
  have hrel : HRel w' (fun m => S' m ∧ (Has hr m → S m)) (h' ++ hr) := by
    refine ⟨?_, ?_, ?_, fun m hm => h4.slt m hm.1, fun g o ho => ⟨⟨(h4.glob g o ho).1, fun _ => (rh0.glob g o ho).1⟩, (h4.glob g o ho).2⟩⟩
    · rw [List.flatMap_append, List.nodup_append]
      refine ⟨h4.nodup, rr0.nodup, fun x hx y hy hxy => ?_⟩
      subst hxy
      obtain ⟨e1, he1, hb1⟩ := List.mem_flatMap.1 hx
      obtain ⟨e2, he2, hb2⟩ := List.mem_flatMap.1 hy
      rcases h5.new x ⟨e1, he1, hb1⟩ with h | h
      · exact disj x h ⟨e2, he2, hb2⟩
      · have := rr0.lt ⟨e2, he2, hb2⟩; omega
    · intro e he
      rcases List.mem_append.1 he with he | he
      · exact (h4.holds e he).noS (k2.mem e he)
      · exact (rr0.holds e he).mono hup (fun m hm => (h5.keep m (.inr ⟨e, he, hm⟩)).2)
    · intro e he m hm
      rcases List.mem_append.1 he with he | he
      · rw [← h4.sep e he m hm]
        refine ⟨fun h => h.1, fun h => ⟨h, fun hh => ?_⟩⟩
        rcases h5.new m ⟨e, he, hm⟩ with h6 | h6
        · exact (disj m h6 hh).elim
        · have := rr0.lt hh; omega
      · rw [← rr0.sep e he m hm]
        exact ⟨fun h => h.2 ⟨e, he, hm⟩, fun h => ⟨(h5.keep m (.inl h)).1, fun _ => h⟩⟩
  have hasP : ∀ m, Has hp m ↔ Has h0 m ∨ Has hr m := by
    intro m
    constructor
    · rintro ⟨x, hx, hb⟩
      rcases List.mem_append.1 (hs.mem_iff.1 hx) with h | h
      · exact .inl ⟨x, h, hb⟩
      · exact .inr ⟨x, h, hb⟩
    · rintro (⟨x, hx, hb⟩ | ⟨x, hx, hb⟩)
      · exact ⟨x, hs.mem_iff.2 (List.mem_append_left _ hx), hb⟩
      · exact ⟨x, hs.mem_iff.2 (List.mem_append_right _ hx), hb⟩
  refine ⟨v, fun m => S' m ∧ (Has hr m → S m), ⟨n, (d, res) :: tm, h' ++ hr⟩, rfl, (r.heap hup hrel).put hn (noS_at h3 k1), ?_, k3⟩
  refine ⟨h5.os, h5.tape, h5.output, h5.size, hup, fun m hm hh => ?_, fun m hm => ?_, h5.drawn⟩
  · have n0 : ¬ Has h0 m := fun h => hh ((hasP m).2 (.inl h))
    have nr : ¬ Has hr m := fun h => hh ((hasP m).2 (.inr h))
    obtain ⟨q1, q2⟩ := h5.other m hm n0
    refine ⟨q1, fun h => ?_⟩
    rcases q2 h.1 with h | h
    · exact h
    · exact (nr h).elim
  · obtain ⟨x, hx, hb⟩ := hm
    rcases List.mem_append.1 hx with hx | hx
    · rcases h5.new m ⟨x, hx, hb⟩ with h | h
      · exact .inl ((hasP m).2 (.inl h))
      · exact .inr h
    · exact .inl ((hasP m).2 (.inr ⟨x, hx, hb⟩))
theorem t_callL1 {α0 : Type} {f : FuncId} {args : List Operand} {ts : Array TypeId} {l l' : List AV} {h0 hr : Heap} {H H' : α0 → Heap} {V : α0 → AV} [IsFn P f] (hl : evL tm args = some l) (c : ACall P f l' h0 (T1 H V)) (hs : Sel hp h0 hr) (co : CoBL hr l l') (ha : ∀ b, appO (H b) hr = some (H' b)) (hV : ∀ b, (V b).noS = true) (hH : ∀ b, NoSH (H b)) (hn : Nat.blt d n = true)
    (kk : ∀ b, ARun P all rest ⟨n, (d, V b) :: tm, H' b⟩ Q) : ARun P all (⟨some d, .call { callee := .value (.func f), args := args.toArray, argTypes := ts }, ty, pos, af, none⟩ :: rest) ⟨n, tm, hp⟩ Q :=
  r_callL hl c co hs.perm hn (fun r h' ⟨b, e1, e2⟩ => by subst e1; subst e2; rw [appO_eq (ha b)]; exact ⟨hV b, hH b, kk b⟩)
end rules
end Go.Eng

/- The engine, part 32: maps. No program in sight. -/
set_option linter.unusedVariables false
set_option linter.unusedSimpArgs false
set_option linter.unusedSectionVars false
namespace Go.Eng
open Go
variable [GTab]

/-! ### plain maps: lists of pairs in the order of their keys -/
/-- A strict order of keys. -/
class KLt (K : Type) where
  lt : K → K → Bool
instance : KLt Int := ⟨fun a b => decide (a < b)⟩
instance : KLt Bool := ⟨fun a b => !a && b⟩
instance : KLt (List UInt8) := ⟨fun a b => Op.bytesLess a b⟩
section plain
variable {K V : Type}
def mdel [DecidableEq K] (m : List (K × V)) (k : K) : List (K × V) := m.filter (fun e => decide (e.1 ≠ k))
def mins [KLt K] (k : K) (v : V) : List (K × V) → List (K × V)
  | [] => [(k, v)]
  | e :: r => if KLt.lt e.1 k = true then e :: mins k v r else (k, v) :: e :: r
def mset [DecidableEq K] [KLt K] (m : List (K × V)) (k : K) (v : V) : List (K × V) := mins k v (mdel m k)
def mget? [DecidableEq K] : List (K × V) → K → Option V
  | [], _ => none
  | e :: r, k => if e.1 = k then some e.2 else mget? r k
/-- A look-up: the zero value where there is none. -/
def mgetO [DecidableEq K] (m : List (K × V)) (k : K) (z : V) : Option V := some ((mget? m k).getD z)
/-- A look-up with the word whether there is one. -/
def mget2 [DecidableEq K] (m : List (K × V)) (k : K) (z : V) : Option (V × Bool) := some ((mget? m k).getD z, (mget? m k).isSome)

theorem mins_perm [KLt K] (k : K) (v : V) : ∀ (m : List (K × V)), (mins k v m).Perm ((k, v) :: m)
  | [] => List.Perm.refl _
  | e :: r => by
    unfold mins
    split
    · exact (List.Perm.cons e (mins_perm k v r)).trans (List.Perm.swap _ _ _)
    · exact List.Perm.refl _
theorem perm_map_inv {α β : Type} (f : α → β) : ∀ (l : List β) (M : List α), l.Perm (M.map f) → ∃ M' : List α, M'.Perm M ∧ l = M'.map f
  | [], M, h => by
    have := h.nil_eq
    rw [eq_comm, List.map_eq_nil_iff] at this
    subst this; exact ⟨[], List.Perm.refl _, rfl⟩
  | x :: t, M, h => by
    have hx : x ∈ M.map f := h.mem_iff.1 (by simp)
    obtain ⟨e, he, rfl⟩ := List.mem_map.1 hx
    obtain ⟨p, q, rfl⟩ := List.append_of_mem he
    have h2 : (f e :: t).Perm (f e :: (p ++ q).map f) := h.trans (by rw [List.map_append, List.map_cons, List.map_append]; exact List.perm_middle)
    obtain ⟨M', h3, rfl⟩ := perm_map_inv f t (p ++ q) (List.Perm.cons_inv h2)
    exact ⟨e :: M', (List.Perm.cons e h3).trans List.perm_middle.symm, rfl⟩
theorem mget_mem [DecidableEq K] {k : K} {v : V} : ∀ {m : List (K × V)}, mget? m k = some v → (k, v) ∈ m
  | [], h => by cases h
  | e :: r, h => by
    unfold mget? at h
    split at h
    · rename_i hk
      obtain rfl := Option.some.inj h
      subst hk; simp
    · exact List.mem_cons_of_mem _ (mget_mem h)
theorem mget_of_mem [DecidableEq K] {k : K} {v : V} : ∀ {m : List (K × V)}, (m.map Prod.fst).Nodup → (k, v) ∈ m → mget? m k = some v
  | [], _, h => by simp at h
  | e :: r, hn, h => by
    rw [List.map_cons, List.nodup_cons] at hn
    unfold mget?
    rcases List.mem_cons.1 h with rfl | h
    · simp
    · rw [if_neg (fun hk => hn.1 (List.mem_map.2 ⟨_, h, hk.symm⟩))]
      exact mget_of_mem hn.2 h
theorem mget_none [DecidableEq K] {k : K} : ∀ {m : List (K × V)}, mget? m k = none ↔ ∀ e ∈ m, e.1 ≠ k
  | [] => by simp [mget?]
  | e :: r => by
    unfold mget?
    split
    · rename_i hk; simp [hk]
    · rename_i hk
      rw [mget_none (m := r)]
      simp [hk]
theorem mget_perm [DecidableEq K] {m m' : List (K × V)} (hp : m'.Perm m) (hn : (m'.map Prod.fst).Nodup) (k : K) : mget? m' k = mget? m k := by
  have hn' : (m.map Prod.fst).Nodup := (hp.map _).nodup_iff.1 hn
  cases h : mget? m' k with
  | none =>
    symm
    rw [mget_none] at h ⊢
    exact fun e he => h e (hp.mem_iff.2 he)
  | some v => exact (mget_of_mem hn' (hp.mem_iff.1 (mget_mem h))).symm
theorem mdel_none [DecidableEq K] {m : List (K × V)} {k : K} (h : mget? m k = none) : mdel m k = m := by
  rw [mget_none] at h
  unfold mdel
  exact List.filter_eq_self.2 fun e he => by simpa using h e he
end plain

/-! ### loops over all orders -/
/-- What comes out for each order of the elements, if it is the same one. -/
noncomputable def overP {E A : Type} (es : List E) (g : List E → Option A) : Option A :=
  open Classical in if h : ∃ r, ∀ p, p.Perm es → g p = some r then some h.choose else none
theorem overP_some {E A : Type} {es : List E} {g : List E → Option A} {r : A} (h : overP es g = some r) : ∀ p, p.Perm es → g p = some r := by
  unfold overP at h
  split at h
  · rename_i hx
    obtain rfl := Option.some.inj h
    exact hx.choose_spec
  · cases h
theorem overP_of {E A : Type} {es : List E} {g : List E → Option A} {r : A} (h : ∀ p, p.Perm es → g p = some r) : overP es g = some r := by
  unfold overP
  have hx : ∃ r, ∀ p, p.Perm es → g p = some r := ⟨r, h⟩
  rw [dif_pos hx]
  have := hx.choose_spec es (List.Perm.refl _)
  rw [h es (List.Perm.refl _)] at this
  exact this.symm
def loopL {E S A : Type} (b : E → S → Option (S ⊕ A)) (f : S → Option A) : List E → S → Option A
  | [], s => f s
  | e :: p, s => (b e s).bind (after (loopL b f p))
theorem stepL {E S A : Type} {b : E → S → Option (S ⊕ A)} {f : S → Option A} {rest rest' : List E} {e : E} {s : S} {a : A} (h : ∀ p, p.Perm rest → loopL b f p s = some a) (hp : rest.Perm (e :: rest')) :
    ∃ z, b e s = some z ∧ (∀ y, z = .inl y → ∀ p, p.Perm rest' → loopL b f p y = some a) ∧ ∀ a', z = .inr a' → a' = a := by
  have h1 := h (e :: rest') hp.symm
  unfold loopL at h1
  obtain ⟨z, hz, h2⟩ := bnd h1
  refine ⟨z, hz, fun y hy p hq => ?_, fun a' ha => ?_⟩
  · have h3 := h (e :: p) ((List.Perm.cons e hq).trans hp.symm)
    unfold loopL at h3
    rw [hz, hy] at h3
    exact h3
  · rw [ha] at h2
    exact Option.some.inj h2
theorem nilL {E S A : Type} {b : E → S → Option (S ⊕ A)} {f : S → Option A} {rest : List E} {s : S} {a : A} (h : ∀ p, p.Perm rest → loopL b f p s = some a) (hn : rest = []) : f s = some a := by
  subst hn; exact h [] (List.Perm.refl _)
theorem ATodo.loopMap {P : Program} {R : St → Prop} {k : List It} {σ : St} {body : Code} {E S A : Type} (b : E → S → Option (S ⊕ A)) (f : S → Option A) (mk : List E → S → St → Prop) {a : A} {rest0 : List E} {s0 : S} (h : overP rest0 (fun p => loopL b f p s0) = some a) (h0 : ImpX σ (mk rest0 s0))
    (hs : ∀ rest s σ (J : St → Prop), mk rest s σ → (∀ p, p.Perm rest → loopL b f p s = some a) → (∀ rest' s' σ', rest'.length < rest.length → (∀ p, p.Perm rest' → loopL b f p s' = some a) → ImpX σ' (mk rest' s') → J σ') → ATodo P R (.code body :: .stop J :: k) σ) :
    ATodo P R (.code (.loop body) :: k) σ := by
  refine ATodo.loopx (fun m σ => ∃ rest s, rest.length = m ∧ (∀ p, p.Perm rest → loopL b f p s = some a) ∧ mk rest s σ) rest0.length (h0.mono fun σ' hσ => ⟨rest0, s0, rfl, overP_some h, hσ⟩) ?_
  rintro m σ1 ⟨rest, s, hm, hH, hmk⟩
  refine hs rest s σ1 _ hmk hH (fun rest' s' σ' hl hH' hi => ⟨rest'.length, by omega, hi.mono fun σ'' hk => ⟨rest', s', rfl, hH', hk⟩⟩)

/-! ### keys -/
/-- The first entry of a key. -/
def findP {K : Type} [DecidableEq K] (k : K) : List K → List MapEntry → Nat → Option (Nat × Value)
  | k' :: ks, e :: es, i => if k' = k then some (i, e.val) else findP k ks es (i + 1)
  | _, _, _ => none
class MKey (P : Program) (t : TypeId) {K : Type} [DecidableEq K] (g : K → AV) : Prop where
  inj : ∀ a b, g a = g b → a = b
  check : ∀ {w : World} {S : Nat → Prop} {k : K} {v : Value}, At w S (g k) v → ∀ (b : Bool) (w1 : World), (Instr.checkKey b 10000 t v).run P w1 = .ok () w1
  find : ∀ {w : World} {S : Nat → Prop} {k : K} {v : Value}, At w S (g k) v → ∀ (es : List MapEntry) (ks : List K), ks.length = es.length → (∀ (i : Nat) k' e, ks[i]? = some k' → es[i]? = some e → At w S (g k') e.key) → ∀ w1 : World, (Instr.findKey t v es).run P w1 = .ok (findP k ks es 0) w1
  bits : ∀ {w : World} {S : Nat → Prop} {k : K} {v u : Value}, At w S (g k) v → At w S (g k) u → Instr.sameBits 10000 v u = true
theorem findNow_P {K : Type} [DecidableEq K] {d : TypeDesc} {v : Value} {k : K} {q : K → Value → Prop} (hq : ∀ k' u, q k' u → Instr.sameNow d v u = some (decide (k' = k))) : ∀ (es : List MapEntry) (ks : List K) (i : Nat), ks.length = es.length → (∀ (i : Nat) k' e, ks[i]? = some k' → es[i]? = some e → q k' e.key) → Instr.findNow d v es i = some (findP k ks es i)
  | [], [], i, _, _ => rfl
  | [], k' :: ks, i, hl, _ => by simp at hl
  | e :: es, [], i, hl, _ => by simp at hl
  | e :: es, k' :: ks, i, hl, h => by
    unfold Instr.findNow findP
    rw [hq k' e.key (h 0 k' e rfl rfl)]
    by_cases hk : k' = k
    · simp [hk]
    · simp only [hk, decide_false, if_false]
      exact findNow_P hq es ks (i + 1) (by simpa using hl) (fun i k' e h1 h2 => h (i + 1) k' e (by simpa using h1) (by simpa using h2))
theorem ba_beq (a b : ByteArray) : ((a == b) = true) ↔ a = b := by
  cases a with
  | mk a =>
    cases b with
    | mk b =>
      show (a == b) = true ↔ _
      rw [beq_iff_eq]
      exact ⟨fun h => by rw [h], fun h => by cases h; rfl⟩
theorem MKey.int {P : Program} {t : TypeId} {q : IntKind} (h : P.underlying t = some (.int q)) : MKey P t (K := Int) (fun n => AV.int q n) where
  inj a b h := by simpa using h
  check := fun {w S k v} hv b w1 => by
    rw [hv.int_inv]
    have key : ∀ n : Nat, (Instr.checkKey b (n + 1) t (Value.int q k)).run P w1 = .ok () w1 := fun n => by simp [Instr.checkKey, run_underlying h]
    exact key 9999
  find := fun {w S k v} hv es ks hl hk w1 => by
    rw [hv.int_inv]
    have hf := findNow_P (d := (.int q)) (v := (Value.int q k)) (k := k) (q := fun k' u => u = (Value.int q k')) (fun k' u hu => by subst hu; simp only [Instr.sameNow, if_true]; congr 1; rw [Bool.eq_iff_iff]; simp; exact eq_comm) es ks 0 hl (fun i k' e h1 h2 => (hk i k' e h1 h2).int_inv)
    simp [Instr.findKey, run_underlying h, hf]
  bits := fun {w S k v u} h1 h2 => by rw [h1.int_inv, h2.int_inv]; simp [Instr.sameBits]
theorem MKey.bool {P : Program} {t : TypeId} (h : P.underlying t = some .bool) : MKey P t (K := Bool) AV.bool where
  inj a b h := by simpa using h
  check := fun {w S k v} hv b w1 => by
    rw [hv.bool_inv]
    have key : ∀ n : Nat, (Instr.checkKey b (n + 1) t (Value.bool k)).run P w1 = .ok () w1 := fun n => by simp [Instr.checkKey, run_underlying h]
    exact key 9999
  find := fun {w S k v} hv es ks hl hk w1 => by
    rw [hv.bool_inv]
    have hf := findNow_P (d := .bool) (v := (Value.bool k)) (k := k) (q := fun k' u => u = (Value.bool k')) (fun k' u hu => by subst hu; simp only [Instr.sameNow]; congr 1; rw [Bool.eq_iff_iff]; simp; exact eq_comm) es ks 0 hl (fun i k' e h1 h2 => (hk i k' e h1 h2).bool_inv)
    simp [Instr.findKey, run_underlying h, hf]
  bits := fun {w S k v u} h1 h2 => by rw [h1.bool_inv, h2.bool_inv]; simp [Instr.sameBits]
theorem MKey.str {P : Program} {t : TypeId} (h : P.underlying t = some .string) : MKey P t (K := List UInt8) AV.str where
  inj a b h := by simpa using h
  check := fun {w S k v} hv b w1 => by
    rw [hv.str_inv]
    have key : ∀ n : Nat, (Instr.checkKey b (n + 1) t (Value.string ⟨k.toArray⟩)).run P w1 = .ok () w1 := fun n => by simp [Instr.checkKey, run_underlying h]
    exact key 9999
  find := fun {w S k v} hv es ks hl hk w1 => by
    rw [hv.str_inv]
    have hf := findNow_P (d := .string) (v := (Value.string ⟨k.toArray⟩)) (k := k) (q := fun k' u => u = (Value.string ⟨k'.toArray⟩)) (fun k' u hu => by subst hu; simp only [Instr.sameNow]; congr 1; rw [Bool.eq_iff_iff, ba_beq]; simp; exact eq_comm) es ks 0 hl (fun i k' e h1 h2 => (hk i k' e h1 h2).str_inv)
    simp [Instr.findKey, run_underlying h, hf]
  bits := fun {w S k v u} h1 h2 => by rw [h1.str_inv, h2.str_inv]; simp only [Instr.sameBits]; exact (ba_beq _ _).2 rfl
instance {P : Program} {t : TypeId} [h : TUnder P t (.int .i64)] : MKey P t (K := Int) I := MKey.int h.h
instance {P : Program} {t : TypeId} [h : TUnder P t .bool] : MKey P t (K := Bool) AV.bool := MKey.bool h.h
instance {P : Program} {t : TypeId} [h : TUnder P t .string] : MKey P t (K := List UInt8) AV.str := MKey.str h.h
end Go.Eng

/- The engine, part 33: maps: the operations. No program in sight. -/
set_option linter.unusedVariables false
set_option linter.unusedSimpArgs false
set_option linter.unusedSectionVars false
namespace Go.Eng
open Go
variable [GTab]

theorem run_getMap {P : Program} {w : World} {r : Nat} {es : Array MapEntry} {c : Nat} (h : w.heap[r]? = some (.map es c)) : (getObj r).run P w = .ok (.map es c) w := by
  simp only [getObj, Sem.run, h]
theorem run_getIter {P : Program} {w : World} {r : Nat} {m : Option Nat} {a b : Nat} {s : Array Nat} (h : w.heap[r]? = some (.mapIter m a s b)) : (getObj r).run P w = .ok (.mapIter m a s b) w := by
  simp only [getObj, Sem.run, h]
/-- A block that is no row of cells, written. -/
def setO (w : World) (r : Nat) (o : Obj) : World := { w with heap := w.heap.setIfInBounds r o }
theorem run_setMap {P : Program} {w : World} {r : Nat} {es : Array MapEntry} {c : Nat} (o : Obj) (h : w.heap[r]? = some (.map es c)) : (setObj r o).run P w = .ok () (setO w r o) := by
  simp only [setObj, Sem.run, h]; rfl
theorem run_setIter {P : Program} {w : World} {r : Nat} {m : Option Nat} {a b : Nat} {s : Array Nat} (o : Obj) (h : w.heap[r]? = some (.mapIter m a s b)) : (setObj r o).run P w = .ok () (setO w r o) := by
  simp only [setObj, Sem.run, h]; rfl
theorem setO_same {w : World} {r : Nat} {o o' : Obj} (h : w.heap[r]? = some o') : (setO w r o).heap[r]? = some o := by
  have hlt : r < w.heap.size := (Array.getElem?_eq_some_iff.1 h).1
  simp [setO, Array.getElem?_setIfInBounds, hlt]
theorem setO_other {w : World} {r k : Nat} {o : Obj} (h : k ≠ r) : (setO w r o).heap[k]? = w.heap[k]? := by
  simp [setO, Array.getElem?_setIfInBounds, Ne.symm h]
theorem setO_GB {w : World} {r : Nat} {o : Obj} {x : Option Nat} (hx : x = some r) : GB w (setO w r o) x :=
  ⟨⟨rfl, rfl, rfl, by simp [setO], fun k hk hne => setO_other (fun e => hne (by rw [hx, e]))⟩, fun _ => Nat.le_refl _⟩
theorem GB_refl (w : World) (x : Option Nat) : GB w w x := ⟨⟨rfl, rfl, rfl, Nat.le_refl _, fun _ _ _ => rfl⟩, fun _ => Nat.le_refl _⟩
theorem Ext.heap {w w' : World} {n : Nat} {o : Obj} (e : Ext w w') (h : w.heap[n]? = some o) : w'.heap[n]? = some o := by
  rw [e.same n (Array.getElem?_eq_some_iff.1 h).1]; exact h
theorem At.mref_inv {w : World} {S : Nat → Prop} {b : Bk} {v : Value} (h : At w S (.mref b) v) : ∃ n, b.blk = some n ∧ v = .map (some n) := by cases h with | mref _ n hb => exact ⟨n, hb, rfl⟩
theorem zAV_at (w : World) (S : Nat → Prop) (z : Value) (h1 : allOne (zAV z).cells = true) : At w S (zAV z) z := by
  by_cases hz : ∃ cs, z = .agg cs
  · obtain ⟨cs, rfl⟩ := hz
    obtain ⟨h2, h3⟩ := zAV_cells_at w S (.agg cs) (allOne_spec h1)
    exact .agg _ _ h2 h3
  · have hzc : zAV z = cst z := by
      cases z <;> first | rfl | (exact (hz ⟨_, rfl⟩).elim)
    rw [hzc]; exact cst_at w S z

/-- A map's entries, read with keys and values of plain types. -/
theorem mp_open {K V : Type} {gk : K → AV} {gv : V → AV} {w : World} {S : Nat → Prop} {hp : Heap} {b : Bk} {M : List (K × V)} (hinj : ∀ a b, gk a = gk b → a = b) (r : HRel w S hp) (f : Fnd hp b (.mp (M.map fun e => (gk e.1, gv e.2)))) :
    ∃ (L : List MEnt) (c : Nat) (M' : List (K × V)) (n : Nat) (ents : Array MapEntry), M'.Perm M ∧ L.map MEnt.kv = M'.map (fun e => (gk e.1, gv e.2)) ∧ HoldsM w S b L c ∧ b.blk = some n ∧ w.heap[n]? = some (.map ents c) ∧ ents.toList.length = M'.length ∧
      (∀ (i : Nat) e m, M'[i]? = some e → ents.toList[i]? = some m → At w S (gk e.1) m.key ∧ At w S (gv e.2) m.val) ∧ (M'.map Prod.fst).Nodup := by
  obtain ⟨L, c, hperm, hH⟩ := r.holds _ f.mem
  obtain ⟨M', h1, h2⟩ := perm_map_inv _ _ _ hperm
  have hH' := hH
  obtain ⟨n, ents, g1, g2, g3, g4, g5, g6, g7⟩ := hH
  have hlen : L.length = M'.length := by have := congrArg List.length h2; simpa using this
  refine ⟨L, c, M', n, ents, h1, h2, hH', g1, g2, by rw [Array.length_toList, g3, hlen], fun i e m he hm => ?_, ?_⟩
  · have : (L.map MEnt.kv)[i]? = some (gk e.1, gv e.2) := by rw [h2, List.getElem?_map, he]; rfl
    rw [List.getElem?_map] at this
    cases hL : L[i]? with
    | none => rw [hL] at this; cases this
    | some x =>
      rw [hL] at this
      have hx : (x.k, x.v) = (gk e.1, gv e.2) := Option.some.inj this
      obtain ⟨q1, q2⟩ := Prod.mk.inj hx
      have := g4 i x m hL (by simpa using hm)
      rw [q1, q2] at this
      exact this.2
  · have hk : L.map (·.k) = (M'.map Prod.fst).map gk := by
      have := congrArg (List.map Prod.fst) h2
      simpa [List.map_map, Function.comp_def, MEnt.kv] using this
    rw [hk] at g7
    exact (List.pairwise_map.1 g7).imp (fun h e => h (by rw [e]))
theorem set_same {α : Type} {l : List α} {j : Nat} {x : α} (h : l[j]? = some x) : l.set j x = l := by
  apply List.ext_getElem?
  intro i
  rw [List.getElem?_set]
  by_cases hij : j = i
  · subst hij
    have := (List.getElem?_eq_some_iff.1 h).1
    rw [if_pos rfl, if_pos this, h]
  · simp [hij]
theorem findP_M {K V : Type} [DecidableEq K] {gv : V → AV} {w : World} {S : Nat → Prop} {k : K} : ∀ (M : List (K × V)) (es : List MapEntry) (i : Nat), M.length = es.length → (∀ (j : Nat) e m, M[j]? = some e → es[j]? = some m → At w S (gv e.2) m.val) →
    (mget? M k = none ∧ findP k (M.map Prod.fst) es i = none) ∨ ∃ v j val, mget? M k = some v ∧ findP k (M.map Prod.fst) es i = some (i + j, val) ∧ At w S (gv v) val ∧ M[j]? = some (k, v)
  | [], [], i, _, _ => .inl ⟨rfl, rfl⟩
  | [], m :: es, i, hl, _ => by simp at hl
  | e :: M, [], i, hl, _ => by simp at hl
  | e :: M, m :: es, i, hl, h => by
    unfold mget?
    simp only [List.map_cons, findP]
    by_cases hk : e.1 = k
    · simp only [hk, if_true]
      refine .inr ⟨e.2, 0, m.val, rfl, rfl, h 0 e m rfl rfl, ?_⟩
      subst hk; rfl
    · simp only [hk, if_false]
      rcases findP_M M es (i + 1) (by simpa using hl) (fun j e' m' h1 h2 => h (j + 1) e' m' (by simpa using h1) (by simpa using h2)) with ⟨h1, h2⟩ | ⟨v, j, val, h1, h2, h3, h4⟩
      · exact .inl ⟨h1, h2⟩
      · exact .inr ⟨v, j + 1, val, h1, by rw [h2]; congr 2; omega, h3, by simpa using h4⟩

section rules
variable {P : Program} {all : Array Oper} {rest : List Oper} {n : Nat} {tm : List (Nat × AV)} {hp : Heap} {Q : St → Prop} {d : Nat} {ty : TypeId} {pos : String} {af : Array Edge}
theorem t_makeMap {t : TypeId} (hn : Nat.blt d n = true) (kk : ∀ b : Bk, ARun P all rest ⟨n, (d, .mref b) :: tm, (b, .mp []) :: hp⟩ Q) : ARun P all (⟨some d, .makeMap t none, ty, pos, af, none⟩ :: rest) ⟨n, tm, hp⟩ Q := by
  refine ARun.opx rfl fun w S a r => ?_
  have hh : Holds (w.alloc (.map #[] 0)) S ⟨some w.heap.size, 0⟩ (.mp []) := ⟨[], 0, List.Perm.refl _, w.heap.size, #[], rfl, by show (w.heap.push _)[w.heap.size]? = _; simp, rfl, by simp, by simp, by simp, by simp⟩
  obtain ⟨k1, k2, k3⟩ := add_rel r.hp (Ext.alloc w (.map #[] 0)) id hh (.inr ⟨_, rfl, Nat.le_refl _⟩)
  exact ⟨.map (some w.heap.size), w.alloc (.map #[] 0), S, _, by simp [execOp, Instr.makeMap], (r.heap k3 k1).put hn (.mref _ _ rfl), k2, kk ⟨some w.heap.size, 0⟩⟩
theorem t_lookup {K V : Type} [DecidableEq K] {gk : K → AV} {gv : V → AV} {M : List (K × V)} {key : K} {Z v : V} {t kt vt : TypeId} {i : TypeInfo} {z : Value} {x y : Operand} {b : Bk} {av : AV} [TUnder P t (.map kt vt)] [TInfo P vt i] [MKey P kt gk] (hx : evA tm x = some (.mref b)) (hy : evA tm y = some (gk key)) (f : Fnd hp b (.mp (M.map fun e => (gk e.1, gv e.2)))) (hz : i.zero = some z) (hzx : zAV z = gv Z) (h1 : allOne (zAV z).cells = true) (h : mgetO M key Z = some v) (hav : gv v = av) :
    QV P ⟨some d, .lookup t x y false, ty, pos, af, none⟩ ⟨n, tm, hp⟩ av := by
  intro w S a r
  have kx := evA_at (σ := ⟨n, tm, hp⟩) r hx
  have ky := evA_at (σ := ⟨n, tm, hp⟩) r hy
  obtain ⟨nb, hb, ex⟩ := kx.mref_inv
  obtain ⟨L, c, M', nb', ents, p1, p2, p3, p4, p5, p6, p7, p8⟩ := mp_open (MKey.inj P kt) r.hp f
  obtain rfl : nb' = nb := by rw [p4] at hb; exact Option.some.inj hb
  unfold mgetO at h
  have hv := Option.some.inj h
  rw [← mget_perm p1 p8] at hv
  have hfind := MKey.find (P := P) (t := kt) (g := gk) ky ents.toList (M'.map Prod.fst) (by simpa using p6.symm) (fun j k' e h1 h2 => by
    rw [List.getElem?_map] at h1
    cases hm : M'[j]? with
    | none => rw [hm] at h1; cases h1
    | some q => rw [hm] at h1; rw [← Option.some.inj h1]; exact (p7 j q e hm h2).1)
  rcases findP_M (gv := gv) (w := w) (S := S) (k := key) M' ents.toList 0 p6.symm (fun j e m h1 h2 => (p7 j e m h1 h2).2) with ⟨q1, q2⟩ | ⟨v', j, val, q1, q2, q3, _⟩
  · refine ⟨z, fun w1 e1 => ?_, ?_⟩
    · simp [execOp, Instr.lookup, ex, run_underlying (TUnder.h (P := P) (t := t)), run_getMap (e1.heap p5), MKey.check (P := P) (t := kt) ky, hfind, q2, zeroValue, typeInfo, TInfo.h (P := P) (t := vt), hz]
    · rw [← hav, ← hv, q1, Option.getD_none, ← hzx]; exact zAV_at w S z h1
  · refine ⟨val, fun w1 e1 => ?_, ?_⟩
    · simp [execOp, Instr.lookup, ex, run_underlying (TUnder.h (P := P) (t := t)), run_getMap (e1.heap p5), MKey.check (P := P) (t := kt) ky, hfind, q2]
    · rw [← hav, ← hv, q1, Option.getD_some]; exact q3
theorem t_lookup2 {K V : Type} [DecidableEq K] {gk : K → AV} {gv : V → AV} {M : List (K × V)} {key : K} {Z : V} {v : V × Bool} {t kt vt : TypeId} {i : TypeInfo} {z : Value} {x y : Operand} {b : Bk} {av : AV} [TUnder P t (.map kt vt)] [TInfo P vt i] [MKey P kt gk] (hx : evA tm x = some (.mref b)) (hy : evA tm y = some (gk key)) (f : Fnd hp b (.mp (M.map fun e => (gk e.1, gv e.2)))) (hz : i.zero = some z) (hzx : zAV z = gv Z) (h1 : allOne (zAV z).cells = true) (h : mget2 M key Z = some v) (hav : gv v.1 = av) :
    QV P ⟨some d, .lookup t x y true, ty, pos, af, none⟩ ⟨n, tm, hp⟩ (.tup [av, .bool v.2]) := by
  intro w S a r
  have kx := evA_at (σ := ⟨n, tm, hp⟩) r hx
  have ky := evA_at (σ := ⟨n, tm, hp⟩) r hy
  obtain ⟨nb, hb, ex⟩ := kx.mref_inv
  obtain ⟨L, c, M', nb', ents, p1, p2, p3, p4, p5, p6, p7, p8⟩ := mp_open (MKey.inj P kt) r.hp f
  obtain rfl : nb' = nb := by rw [p4] at hb; exact Option.some.inj hb
  unfold mget2 at h
  have hv := Option.some.inj h
  rw [← mget_perm p1 p8] at hv
  have hfind := MKey.find (P := P) (t := kt) (g := gk) ky ents.toList (M'.map Prod.fst) (by simpa using p6.symm) (fun j k' e h1 h2 => by
    rw [List.getElem?_map] at h1
    cases hm : M'[j]? with
    | none => rw [hm] at h1; cases h1
    | some q => rw [hm] at h1; rw [← Option.some.inj h1]; exact (p7 j q e hm h2).1)
  rcases findP_M (gv := gv) (w := w) (S := S) (k := key) M' ents.toList 0 p6.symm (fun j e m h1 h2 => (p7 j e m h1 h2).2) with ⟨q1, q2⟩ | ⟨v', j, val, q1, q2, q3, _⟩
  · refine ⟨.tuple #[z, .bool false], fun w1 e1 => ?_, ?_⟩
    · simp [execOp, Instr.lookup, ex, run_underlying (TUnder.h (P := P) (t := t)), run_getMap (e1.heap p5), MKey.check (P := P) (t := kt) ky, hfind, q2, zeroValue, typeInfo, TInfo.h (P := P) (t := vt), hz]
    · rw [← hav, ← hv, q1]
      refine .tup _ _ rfl (AtA_two ?_ (.bool _))
      rw [Option.getD_none, ← hzx]; exact zAV_at w S z h1
  · refine ⟨.tuple #[val, .bool true], fun w1 e1 => ?_, ?_⟩
    · simp [execOp, Instr.lookup, ex, run_underlying (TUnder.h (P := P) (t := t)), run_getMap (e1.heap p5), MKey.check (P := P) (t := kt) ky, hfind, q2]
    · rw [← hav, ← hv, q1]
      exact .tup _ _ rfl (AtA_two q3 (.bool _))
/-- The world behind a write to a map. -/
theorem map_write {w : World} {S : Nat → Prop} {hp hp' : Heap} {b : Bk} {m : Nat} {o o' : Ob} {ob old : Obj} (r : HRel w S hp) (u : Upd hp b o b o' hp') (hb : b.blk = some m) (ho : w.heap[m]? = some old) (hf : ¬ o.isFro) (hf' : ¬ o'.isFro) (hh : (∀ n, S n → S n ∧ (setO w m ob).heap[n]? = w.heap[n]?) → Holds (setO w m ob) S b o') (hm : o'.more = [] := by rfl) :
    HRel (setO w m ob) S hp' ∧ Evo w S hp (setO w m ob) S hp' ∧ ∀ n, S n → S n ∧ (setO w m ob).heap[n]? = w.heap[n]? := by
  have k1 : ∀ n, S n → S n ∧ (setO w m ob).heap[n]? = w.heap[n]? := fun k hk => ⟨hk, setO_other (fun e => by
    subst e
    exact hf ((r.sep _ u.fnd.mem _ (eb_of hb)).1 hk))⟩
  exact upd_rel r u (setO_GB hb) hf hf' (hh k1) (.inl rfl) hm
theorem t_mapUpdate {K V : Type} [DecidableEq K] [KLt K] {gk : K → AV} {gv : V → AV} {M : List (K × V)} {key : K} {v : V} {t kt vt : TypeId} {x y z : Operand} {b : Bk} {av : AV} {hp' : Heap} [TUnder P t (.map kt vt)] [MKey P kt gk] (hx : evA tm x = some (.mref b)) (hy : evA tm y = some (gk key)) (hz : evA tm z = some av) (hav : av = gv v) (u : Upd hp b (.mp (M.map fun e => (gk e.1, gv e.2))) b (.mp ((mset M key v).map fun e => (gk e.1, gv e.2))) hp')
    (kk : ARun P all rest ⟨n, tm, hp'⟩ Q) : ARun P all (⟨none, .mapUpdate t x y z, ty, pos, af, none⟩ :: rest) ⟨n, tm, hp⟩ Q := by
  refine ARun.act rfl rfl (fun w S a r => ?_) kk
  have kx := evA_at (σ := ⟨n, tm, hp⟩) r hx
  have ky := evA_at (σ := ⟨n, tm, hp⟩) r hy
  have kz := evA_at (σ := ⟨n, tm, hp⟩) r hz
  obtain ⟨nb, hb, ex⟩ := kx.mref_inv
  obtain ⟨L, c, M', nb', ents, p1, p2, p3, p4, p5, p6, p7, p8⟩ := mp_open (MKey.inj P kt) r.hp u.fnd
  obtain rfl : nb' = nb := by rw [p4] at hb; exact Option.some.inj hb
  have hfind := MKey.find (P := P) (t := kt) (g := gk) ky ents.toList (M'.map Prod.fst) (by simpa using p6.symm) (fun j k' e h1 h2 => by
    rw [List.getElem?_map] at h1
    cases hm : M'[j]? with
    | none => rw [hm] at h1; cases h1
    | some q => rw [hm] at h1; rw [← Option.some.inj h1]; exact (p7 j q e hm h2).1)
  obtain ⟨nb2, ents2, g1, g2, g3, g4, g5, g6, g7⟩ := p3
  obtain rfl : nb2 = nb' := by rw [p4] at g1; exact (Option.some.inj g1).symm
  obtain rfl : ents2 = ents := by rw [p5] at g2; exact (Obj.map.inj (Option.some.inj g2)).1.symm
  have hLM : L.length = M'.length := by have := congrArg List.length p2; simpa using this
  have hLi : ∀ (j : Nat) (x : MEnt) (e : K × V), L[j]? = some x → M'[j]? = some e → x.k = gk e.1 ∧ x.v = gv e.2 := by
    intro j x e h1 h2
    have : (L.map MEnt.kv)[j]? = (M'.map fun e => (gk e.1, gv e.2))[j]? := by rw [p2]
    rw [List.getElem?_map, List.getElem?_map, h1, h2] at this
    exact Prod.mk.inj (Option.some.inj this)
  rcases findP_M (gv := gv) (w := w) (S := S) (k := key) M' ents2.toList 0 p6.symm (fun j e m h1 h2 => (p7 j e m h1 h2).2) with ⟨q1, q2⟩ | ⟨v', j, val, q1, q2, q3, q4⟩
  · -- a new entry
    have hw := map_write (ob := .map (ents2.push ⟨a.eval y, a.eval z, c⟩) (c + 1)) r.hp u p4 p5 id id (fun k1 => by
      refine ⟨L ++ [⟨gk key, gv v, c⟩], c + 1, ?_, nb2, ents2.push ⟨a.eval y, a.eval z, c⟩, p4, setO_same p5, by simp [g3], ?_, ?_, ?_, ?_⟩
      · rw [List.map_append, p2]
        refine List.Perm.trans ?_ ((mins_perm key v (mdel M key)).symm.map _)
        rw [mdel_none (by rw [← mget_perm p1 p8]; exact q1)]
        exact List.perm_append_comm.trans (List.Perm.cons _ (p1.map _))
      · intro i e m he hm
        rw [Array.getElem?_push] at hm
        rcases Nat.lt_or_ge i L.length with hi | hi
        · rw [List.getElem?_append_left hi] at he
          rw [if_neg (by omega)] at hm
          obtain ⟨s1, s2, s3⟩ := g4 i e m he hm
          exact ⟨s1, s2.mono k1, s3.mono k1⟩
        · have hi2 : i = L.length := by
            have := (List.getElem?_eq_some_iff.1 he).1
            simp at this; omega
          subst hi2
          rw [if_pos g3.symm] at hm
          simp at he
          obtain rfl := Option.some.inj hm
          subst he
          exact ⟨rfl, ky.mono k1, by rw [hav] at kz; exact kz.mono k1⟩
      · intro e he
        rcases List.mem_append.1 he with h | h
        · have := g5 e h; omega
        · simp at h; subst h; simp
      · rw [List.map_append, List.nodup_append]
        refine ⟨g6, by simp, fun a1 ha b1 hb1 hab => ?_⟩
        simp at hb1
        subst hb1
        obtain ⟨e, he, rfl⟩ := List.mem_map.1 ha
        have := g5 e he
        omega
      · rw [List.map_append, List.nodup_append]
        refine ⟨g7, by simp, fun a1 ha b1 hb1 hab => ?_⟩
        simp at hb1
        subst hb1
        obtain ⟨e, he, rfl⟩ := List.mem_map.1 ha
        obtain ⟨j, hj⟩ := List.getElem?_of_mem he
        have hjl : j < M'.length := by rw [← hLM]; exact (List.getElem?_eq_some_iff.1 hj).1
        have := (hLi j e M'[j] hj (List.getElem?_eq_getElem hjl)).1
        rw [this] at hab
        exact (mget_none.1 q1) M'[j] (List.getElem_mem hjl) (MKey.inj P kt _ _ hab))
    refine ⟨_, S, ?_, r.heap hw.2.2 hw.1, hw.2.1⟩
    simp [execOp, Instr.mapUpdate, ex, run_underlying (TUnder.h (P := P) (t := t)), run_getMap p5, MKey.check (P := P) (t := kt) ky, hfind, q2, run_setMap _ p5]
  · -- an entry that is there
    have hjl : j < ents2.toList.length := by rw [p6]; exact (List.getElem?_eq_some_iff.1 q4).1
    have hjs : j < ents2.size := by simpa using hjl
    have hm0 : ents2.toList[j]? = some ents2[j] := by simp [hjs]
    have hk0 := (p7 j _ _ q4 hm0).1
    have hbits : Instr.sameBits 10000 ents2[j].key (a.eval y) = true := MKey.bits (P := P) (t := kt) hk0 ky
    have hjL : j < L.length := by omega
    have hw := map_write (ob := .map (ents2.modify j fun e => { e with key := a.eval y, val := a.eval z }) c) r.hp u p4 p5 id id (fun k1 => by
      refine ⟨L.set j ⟨gk key, gv v, L[j].born⟩, c, ?_, nb2, _, p4, setO_same p5, by simp [g3], ?_, ?_, ?_, ?_⟩
      · rw [List.map_set]
        refine List.Perm.trans ?_ ((mins_perm key v (mdel M key)).symm.map _)
        have e1 : (L.map MEnt.kv).set j (gk key, gv v) = (M'.set j (key, v)).map fun e => (gk e.1, gv e.2) := by rw [p2, List.map_set]
        show ((L.map MEnt.kv).set j (gk key, gv v)).Perm _
        rw [e1]
        refine List.Perm.map _ ?_
        have hjM : j < M'.length := by omega
        have e2 : M' = M'.take j ++ (key, v') :: M'.drop (j + 1) := by
          have := List.take_append_drop j M'
          rw [List.drop_eq_getElem_cons hjM] at this
          have hq : M'[j] = (key, v') := by rw [List.getElem?_eq_getElem hjM] at q4; exact Option.some.inj q4
          rw [hq] at this
          exact this.symm
        have e3 : M'.set j (key, v) = M'.take j ++ (key, v) :: M'.drop (j + 1) := by
          rw [List.set_eq_take_append_cons_drop, if_pos hjM]
        rw [e3]
        refine List.perm_middle.trans (List.Perm.cons _ ?_)
        have e4 : mdel M' key = M'.take j ++ M'.drop (j + 1) := by
          have p8' := p8
          rw [e2, List.map_append, List.map_cons, List.nodup_append, List.nodup_cons] at p8'
          unfold mdel
          rw [e2, List.filter_append, List.filter_cons]
          simp only [ne_eq, not_true_eq_false, decide_false, Bool.false_eq_true, if_false]
          rw [← e2]
          congr 1
          · refine List.filter_eq_self.2 fun e he => ?_
            simp only [decide_not, Bool.not_eq_true', decide_eq_false_iff_not]
            intro hk
            exact p8'.2.2 e.1 (List.mem_map.2 ⟨e, he, rfl⟩) key (by simp) hk
          · refine List.filter_eq_self.2 fun e he => ?_
            simp only [decide_not, Bool.not_eq_true', decide_eq_false_iff_not]
            intro hk
            exact p8'.2.1.1 (List.mem_map.2 ⟨e, he, hk⟩)
        rw [← e4]
        exact p1.filter _
      · intro i e m he hm
        rw [Array.getElem?_modify] at hm
        rw [List.getElem?_set] at he
        by_cases hij : j = i
        · subst hij
          simp only [if_true, hjL] at he
          simp only [if_true, Array.getElem?_eq_getElem hjs, Option.map_some] at hm
          obtain rfl := Option.some.inj he
          obtain rfl := Option.some.inj hm
          refine ⟨(g4 j L[j] ents2[j] (List.getElem?_eq_getElem hjL) (Array.getElem?_eq_getElem hjs)).1, ky.mono k1, by rw [hav] at kz; exact kz.mono k1⟩
        · rw [if_neg hij] at he hm
          obtain ⟨s1, s2, s3⟩ := g4 i e m he hm
          exact ⟨s1, s2.mono k1, s3.mono k1⟩
      · intro e he
        rcases List.mem_or_eq_of_mem_set he with h | h
        · exact g5 e h
        · subst h; exact g5 L[j] (List.getElem_mem hjL)
      · rw [List.map_set]
        have : (L.map (·.born)).set j L[j].born = L.map (·.born) := by
          exact set_same (by rw [List.getElem?_map, List.getElem?_eq_getElem hjL]; rfl)
        rw [this]; exact g6
      · rw [List.map_set]
        have : (L.map (·.k)).set j (gk key) = L.map (·.k) := by
          have hk := (hLi j L[j] _ (List.getElem?_eq_getElem hjL) q4).1
          exact set_same (by rw [List.getElem?_map, List.getElem?_eq_getElem hjL, Option.map_some, hk])
        rw [this]; exact g7)
    refine ⟨_, S, ?_, r.heap hw.2.2 hw.1, hw.2.1⟩
    simp [execOp, Instr.mapUpdate, ex, run_underlying (TUnder.h (P := P) (t := t)), run_getMap p5, MKey.check (P := P) (t := kt) ky, hfind, q2, Instr.keyThatStays, hjs, hbits, run_setMap _ p5]
theorem t_insert {K V : Type} [DecidableEq K] [KLt K] {gk : K → AV} {gv : V → AV} {M : List (K × V)} {key : K} {v : V} {t kt vt : TypeId} {x y z : Operand} {b : Bk} {av : AV} {hp' : Heap} [TUnder P t (.map kt vt)] [MKey P kt gk] (hx : evA tm x = some (.mref b)) (hy : evA tm y = some (gk key)) (hz : evA tm z = some av) (hav : av = gv v) (u : Upd hp b (.mp (M.map fun e => (gk e.1, gv e.2))) b (.mp ((mset M key v).map fun e => (gk e.1, gv e.2))) hp')
    (kk : ARun P all rest ⟨n, tm, hp'⟩ Q) : ARun P all (⟨none, .insert t x y z, ty, pos, af, none⟩ :: rest) ⟨n, tm, hp⟩ Q := by
  intro w S a r
  have := t_mapUpdate (all := all) (rest := rest) (ty := ty) (pos := pos) (af := af) (t := t) (kt := kt) (vt := vt) (gk := gk) (gv := gv) hx hy hz hav u kk w S a r
  unfold wpList at this ⊢
  exact this
end rules
end Go.Eng

/- The engine, part 34: maps: delete, len, walking through. No program in sight. -/
set_option linter.unusedVariables false
set_option linter.unusedSimpArgs false
set_option linter.unusedSectionVars false
namespace Go.Eng
open Go
variable [GTab]

/-- What is left of a map that is walked through. -/
def MIter (L : List MEnt) (c : Nat) (seen : List Nat) (rest : List (AV × AV)) : Prop := ((L.filter (fun e => !seen.contains e.born)).map MEnt.kv).Perm rest
/-- The entry at which the walk stands. -/
def MCur (L : List MEnt) (seen : List Nat) (e : AV × AV) : Prop := ∃ x ∈ L, seen.getLast? = some x.born ∧ x.kv = e

theorem find_born {L : List MEnt} (hn : (L.map (·.born)).Nodup) {x : MEnt} (hx : x ∈ L) {w : World} {S : Nat → Prop} {ents : Array MapEntry} (hl : ents.size = L.length) (h : ∀ (i : Nat) e m, L[i]? = some e → ents[i]? = some m → m.born = e.born ∧ At w S e.k m.key ∧ At w S e.v m.val) :
    ∃ m, ents.find? (·.born == x.born) = some m ∧ At w S x.k m.key ∧ At w S x.v m.val := by
  obtain ⟨j, hj⟩ := List.getElem?_of_mem hx
  have hjl : j < L.length := (List.getElem?_eq_some_iff.1 hj).1
  have hjs : j < ents.size := by omega
  have hat := h j x ents[j] hj (Array.getElem?_eq_getElem hjs)
  cases hf : ents.find? (·.born == x.born) with
  | none =>
    rw [Array.find?_eq_none] at hf
    exact absurd (by simpa using hat.1) (hf ents[j] (Array.getElem_mem hjs))
  | some m =>
    have hb : m.born = x.born := by have := Array.find?_some hf; simpa using this
    have hm := Array.mem_of_find?_eq_some hf
    obtain ⟨i, hi, rfl⟩ := Array.getElem_of_mem hm
    have hil : i < L.length := by omega
    have hb2 := (h i L[i] ents[i] (List.getElem?_eq_getElem hil) (Array.getElem?_eq_getElem hi)).1
    have hij : i = j := by
      have e1 : (L.map (·.born))[i]? = some x.born := by rw [List.getElem?_map, List.getElem?_eq_getElem hil, Option.map_some, ← hb2, hb]
      have e2 : (L.map (·.born))[j]? = some x.born := by rw [List.getElem?_map, hj]; rfl
      exact (List.getElem?_inj (by simpa using hil) hn).1 (e1.trans e2.symm)
    subst hij
    exact ⟨_, rfl, hat.2⟩

/-- What the next step of a walk does, where nothing was put in since it began. -/
theorem run_next {P : Program} {w : World} {r m c : Nat} {seen : Array Nat} {ents lft : Array MapEntry} {ty : TypeId} (g : w.heap[r]? = some (.mapIter (some m) c seen c)) (p : w.heap[m]? = some (.map ents c)) (hany : (!seen.isEmpty && !ents.isEmpty && ents.all (fun e => decide (e.born ≥ c))) = false)
    (hl : (ents.filter fun e => !seen.contains e.born) = lft) (ho : lft.filter (fun e => decide (e.born < c)) = lft) (hn : lft.filter (fun e => decide (e.born ≥ c)) = #[]) :
    (Instr.next (.pointer (some ⟨r, 0, none⟩)) false ty).run P w = ((choose (.mapNext ((if lft.isEmpty then #[none] else #[]) ++ (lft ++ #[]).map some).size)).run P w).andThen fun i w' =>
      (match ((if lft.isEmpty then #[none] else #[]) ++ (lft ++ #[]).map some)[i]? with
      | some (some e) => (do setObj r (.mapIter (some m) c (seen.push e.born) c); pure (.tuple #[.bool true, e.key, e.val]) : Sem Value)
      | some none => pure (.tuple #[.bool false])
      | none => stuck "Next: no such candidate").run P w' := by
  subst hl
  unfold Instr.next
  simp only [Sem.run_bind, run_getIter g, run_getMap p, Result.andThen_ok, hany, ho, hn, Bool.false_eq_true, if_false, Sem.run_pure]
  rfl
section rules
variable {P : Program} {all : Array Oper} {rest : List Oper} {n : Nat} {tm : List (Nat × AV)} {hp : Heap} {Q : St → Prop} {d : Nat} {ty : TypeId} {pos : String} {af : Array Edge}
theorem t_len_map {K V : Type} {gk : K → AV} {gv : V → AV} {M : List (K × V)} {t kt vt : TypeId} {x : Operand} {b : Bk} [TUnder P t (.map kt vt)] (hx : evA tm x = some (.mref b)) (f : Fnd hp b (.mp (M.map fun e => (gk e.1, gv e.2)))) :
    QV P ⟨some d, .call { callee := .builtin .len, args := #[x], argTypes := #[t] }, ty, pos, af, none⟩ ⟨n, tm, hp⟩ (.int .i64 (M.length : Nat)) := by
  intro w S a r
  obtain ⟨nb, hb, ex⟩ := (evA_at (σ := ⟨n, tm, hp⟩) r hx).mref_inv
  obtain ⟨L, c, hperm, nb', ents, g1, g2, g3, _⟩ := r.hp.holds _ f.mem
  obtain rfl : nb' = nb := by rw [g1] at hb; exact Option.some.inj hb
  have hl : ents.size = M.length := by have := hperm.length_eq; simp at this; omega
  refine ⟨.int .i64 (M.length : Nat), fun w1 e1 => ?_, .int _ _⟩
  simp [execOp, ex, resolve, invoke, builtin, Builtin.len_, run_underlying (TUnder.h (P := P) (t := t)), run_getMap (e1.heap g2), goInt, hl]
theorem t_range {E : Type} {enc : E → AV × AV} {M : List E} {t kt vt : TypeId} {x : Operand} {b : Bk} {hp' : List MEnt → Nat → Heap} [TUnder P t (.map kt vt)] (hx : evA tm x = some (.mref b)) (u : ∀ L c, Upd hp b (.mp (M.map enc)) b (.mpb L c) (hp' L c)) (hn : Nat.blt d n = true)
    (kk : ∀ bi L c, (L.map MEnt.kv).Perm (M.map enc) → MIter L c [] (M.map enc) → ARun P all rest ⟨n, (d, .ptr bi 0) :: tm, (bi, .mit b c []) :: hp' L c⟩ Q) : ARun P all (⟨some d, .range t x, ty, pos, af, none⟩ :: rest) ⟨n, tm, hp⟩ Q := by
  refine ARun.opx rfl fun w S a r => ?_
  obtain ⟨nb, hb, ex⟩ := (evA_at (σ := ⟨n, tm, hp⟩) r hx).mref_inv
  have f := (u [] 0).fnd
  obtain ⟨L, c, hperm, hH⟩ := r.hp.holds _ f.mem
  have hH' := hH
  obtain ⟨nb', ents, g1, g2, g3, _⟩ := hH
  obtain rfl : nb' = nb := by rw [g1] at hb; exact Option.some.inj hb
  obtain ⟨r1, e1, k1⟩ := upd_rel r.hp (u L c) (GB_refl w b.blk) id id hH' (.inl rfl)
  have hh : Holds (w.alloc (.mapIter (some nb') c #[] c)) S ⟨some w.heap.size, 0⟩ (.mit b c []) := ⟨w.heap.size, nb', rfl, hb, by show (w.heap.push _)[w.heap.size]? = _; simp⟩
  obtain ⟨r2, e2, k2⟩ := add_rel r1 (Ext.alloc w (.mapIter (some nb') c #[] c)) id hh (.inr ⟨_, rfl, Nat.le_refl _⟩)
  refine ⟨.pointer (some ⟨w.heap.size, 0, none⟩), w.alloc (.mapIter (some nb') c #[] c), S, _, ?_, (r.heap k2 r2).put hn (.ptr _ _ _ rfl), e1.trans e2, kk ⟨some w.heap.size, 0⟩ L c hperm ?_⟩
  · simp [execOp, Instr.range, ex, run_underlying (TUnder.h (P := P) (t := t)), run_getMap g2]
  · unfold MIter
    have e : L.filter (fun e => !([] : List Nat).contains e.born) = L := List.filter_eq_self.2 (fun _ _ => by simp)
    rw [e]; exact hperm
theorem t_entry {L : List MEnt} {c : Nat} {seen : List Nat} {x : Operand} {bi bm : Bk} {e : AV × AV} {k v : AV} (hx : evA tm x = some (.ptr bi 0)) (fi : Fnd hp bi (.mit bm c seen)) (fm : Fnd hp bm (.mpb L c)) (hc : MCur L seen e) (hk : e.1 = k) (hv : e.2 = v) :
    QV P ⟨some d, .entry x, ty, pos, af, none⟩ ⟨n, tm, hp⟩ (.tup [k, v]) := by
  intro w S a r
  obtain ⟨ni, hi, ex⟩ := (evA_at (σ := ⟨n, tm, hp⟩) r hx).ptr_inv
  obtain ⟨ni', nm, g1, g2, g3⟩ := r.hp.holds _ fi.mem
  obtain rfl : ni' = ni := by rw [g1] at hi; exact Option.some.inj hi
  obtain ⟨nm', ents, p1, p2, p3, p4, p5, p6, _⟩ := r.hp.holds _ fm.mem
  obtain rfl : nm' = nm := by rw [p1] at g2; exact Option.some.inj g2
  obtain ⟨y, hy, hs, hkv⟩ := hc
  obtain ⟨m, m1, m2, m3⟩ := find_born p6 hy p3 p4
  have hbk : seen.toArray.back? = some y.born := by rw [← hs]; simp [List.getLast?_eq_getElem?, Array.back?]
  subst hkv
  refine ⟨.tuple #[m.key, m.val], fun w1 e1 => ?_, ?_⟩
  · simp [execOp, Instr.entry, ex, run_getIter (e1.heap g3), run_getMap (e1.heap p2), hbk, m1]
  · rw [← hk, ← hv]; exact .tup _ _ rfl (AtA_two m2 m3)
theorem t_next {E : Type} {enc : E → AV × AV} {R : List E} {L : List MEnt} {c : Nat} {seen : List Nat} {x : Operand} {bi bm : Bk} {hp' : List Nat → Heap} (hx : evA tm x = some (.ptr bi 0)) (hI : MIter L c seen (R.map enc)) (fm : Fnd hp bm (.mpb L c)) (u : ∀ s, Upd hp bi (.mit bm c seen) bi (.mit bm c s) (hp' s)) (hn : Nat.blt d n = true)
    (k0 : R = [] → ARun P all rest ⟨n, (d, .tup [.bool false]) :: tm, hp⟩ Q)
    (k1 : ∀ e R' s, R.Perm (e :: R') → R'.length < R.length → MIter L c s (R'.map enc) → MCur L s (enc e) → ARun P all rest ⟨n, (d, .tup [.bool true, (enc e).1, (enc e).2]) :: tm, hp' s⟩ Q) : ARun P all (⟨some d, .next x false, ty, pos, af, none⟩ :: rest) ⟨n, tm, hp⟩ Q := by
  refine ARun.opx rfl fun w S a r => ?_
  obtain ⟨ni, hi, ex⟩ := (evA_at (σ := ⟨n, tm, hp⟩) r hx).ptr_inv
  obtain ⟨ni', nm, g1, g2, g3⟩ := r.hp.holds _ (u []).fnd.mem
  obtain rfl : ni' = ni := by rw [g1] at hi; exact Option.some.inj hi
  obtain ⟨nm', ents, p1, p2, p3, p4, p5, p6, _⟩ := r.hp.holds _ fm.mem
  obtain rfl : nm' = nm := by rw [p1] at g2; exact Option.some.inj g2
  have hborn : ∀ m ∈ ents, m.born < c := by
    intro m hm
    obtain ⟨i, hi, rfl⟩ := Array.getElem_of_mem hm
    have hil : i < L.length := by omega
    have := (p4 i L[i] ents[i] (List.getElem?_eq_getElem hil) (Array.getElem?_eq_getElem hi)).1
    rw [this]; exact p5 _ (List.getElem_mem hil)
  have hany : (!seen.toArray.isEmpty && !ents.isEmpty && ents.all (fun e => decide (e.born ≥ c))) = false := by
    by_cases h0 : ents.isEmpty = true
    · simp [h0]
    · have h1 : 0 < ents.size := by
        have : ents.size ≠ 0 := by simpa [Array.isEmpty] using h0
        omega
      have : ents.all (fun e => decide (e.born ≥ c)) = false := by
        rw [Bool.eq_false_iff]
        intro hall
        rw [Array.all_eq_true] at hall
        have := hall 0 h1
        have hb := hborn ents[0] (Array.getElem_mem h1)
        simp at this; omega
      simp [this]
  -- the entries that are left
  have hold : (ents.filter fun e => !seen.toArray.contains e.born).filter (fun e => decide (e.born < c)) = ents.filter fun e => !seen.toArray.contains e.born := by
    rw [Array.filter_eq_self]
    intro m hm
    simpa using hborn m (Array.mem_filter.1 hm).1
  have hnew : (ents.filter fun e => !seen.toArray.contains e.born).filter (fun e => decide (e.born ≥ c)) = #[] := by
    rw [Array.filter_eq_empty_iff]
    intro m hm
    have := hborn m (Array.mem_filter.1 hm).1
    simp; omega
  generalize hlft : (ents.filter fun e => !seen.toArray.contains e.born) = lft at hold hnew
  have hmem : ∀ m ∈ lft, ∃ y ∈ L, (seen.contains y.born = false) ∧ m.born = y.born ∧ At w S y.k m.key ∧ At w S y.v m.val := by
    intro m hm
    rw [← hlft] at hm
    obtain ⟨h1, h2⟩ := Array.mem_filter.1 hm
    obtain ⟨i, hi, rfl⟩ := Array.getElem_of_mem h1
    have hil : i < L.length := by omega
    have hh := p4 i L[i] ents[i] (List.getElem?_eq_getElem hil) (Array.getElem?_eq_getElem hi)
    refine ⟨L[i], List.getElem_mem hil, ?_, hh⟩
    rw [← hh.1]; simpa using h2
  have hex : ∀ y ∈ L, seen.contains y.born = false → ∃ m, m ∈ lft := by
    intro y hy hs
    obtain ⟨j, hj⟩ := List.getElem?_of_mem hy
    have hjl : j < L.length := (List.getElem?_eq_some_iff.1 hj).1
    have hjs : j < ents.size := by omega
    refine ⟨ents[j], ?_⟩
    rw [← hlft, Array.mem_filter]
    refine ⟨Array.getElem_mem hjs, ?_⟩
    rw [(p4 j y ents[j] hj (Array.getElem?_eq_getElem hjs)).1]
    simpa using hs
  by_cases hz : lft.size = 0
  · -- over
    have hR : R = [] := by
      cases R with
      | nil => rfl
      | cons e R' =>
        unfold MIter at hI
        have hm : enc e ∈ (L.filter (fun e => !seen.contains e.born)).map MEnt.kv := hI.mem_iff.2 (by simp)
        obtain ⟨y, hy, _⟩ := List.mem_map.1 hm
        obtain ⟨hy1, hy2⟩ := List.mem_filter.1 hy
        obtain ⟨m, hm⟩ := hex y hy1 (by simpa using hy2)
        obtain ⟨i, hi, _⟩ := Array.getElem_of_mem hm
        omega
    obtain rfl : lft = #[] := Array.eq_empty_of_size_eq_zero hz
    refine ⟨.tuple #[.bool false], w, S, _, ?_, r.put hn (.tup _ _ rfl ?_), Evo.refl _ _ _, k0 hR⟩
    · have hop : (Instr.next (a.eval x) false ty).run P w = .ok (.tuple #[.bool false]) w := by
        rw [ex, run_next (P := P) (ty := ty) g3 p2 hany hlft hold hnew]
        simp [run_choose, Question.forced]
      simp [execOp, hop]
    · intro i c' v h1 h2
      cases i with
      | zero => simp at h1 h2; subst h1; subst h2; exact .bool _
      | succ i => simp at h1
  · obtain ⟨i, w1, hch, hil, hE⟩ : ∃ i w1, (choose (.mapNext lft.size)).run P w = .ok i w1 ∧ i < lft.size ∧ (w1 = w ∨ w1 = w.drew) := by
      by_cases hf : (Question.mapNext lft.size).forced = true
      · refine ⟨0, w, ?_, by omega, .inl rfl⟩
        rw [run_choose, if_pos hf]
      · have hc := run_choose P w (Question.mapNext lft.size)
        rw [if_neg hf] at hc
        exact ⟨_, w.drew, hc, Nat.mod_lt _ (by omega : 0 < lft.size), .inr rfl⟩
    have ext : Ext w w1 := by
      rcases hE with rfl | rfl
      · exact Ext.refl _
      · exact Ext.draws w (w.drawn + 1) (Nat.le_succ _)
    obtain ⟨y, hy, hys, hb, hk, hv⟩ := hmem lft[i] (Array.getElem_mem hil)
    have hnd : ∀ z ∈ L, z.born = y.born → z = y := by
      intro z hz hzb
      obtain ⟨i1, h1⟩ := List.getElem?_of_mem hz
      obtain ⟨i2, h2⟩ := List.getElem?_of_mem hy
      have hil1 : i1 < L.length := (List.getElem?_eq_some_iff.1 h1).1
      have : i1 = i2 := (List.getElem?_inj (by simpa using hil1) p6).1 (by rw [List.getElem?_map, List.getElem?_map, h1, h2, Option.map_some, Option.map_some, hzb])
      subst this
      rw [h1] at h2; exact Option.some.inj h2
    -- the element of the plain list
    unfold MIter at hI
    have hyR : y.kv ∈ R.map enc := hI.mem_iff.1 (List.mem_map.2 ⟨y, List.mem_filter.2 ⟨hy, by simpa using hys⟩, rfl⟩)
    obtain ⟨pre, post, hpp⟩ := List.append_of_mem (List.mem_filter.2 ⟨hy, (by simpa using hys : (!seen.contains y.born) = true)⟩ : y ∈ L.filter (fun e => !seen.contains e.born))
    have hflt : L.filter (fun e => !(seen ++ [y.born]).contains e.born) = pre ++ post := by
      have e1 : L.filter (fun e => !(seen ++ [y.born]).contains e.born) = (L.filter (fun e => !seen.contains e.born)).filter (fun e => decide (e.born ≠ y.born)) := by
        rw [List.filter_filter]
        apply List.filter_congr
        intro e he
        simp only [List.contains_eq_mem, List.mem_append, List.mem_singleton, ne_eq, decide_not]
        by_cases q1 : e.born ∈ seen <;> by_cases q2 : e.born = y.born <;> simp [q1, q2]
      have hndf : ((L.filter (fun e => !seen.contains e.born)).map (·.born)).Nodup := p6.sublist ((List.filter_sublist).map _)
      rw [hpp, List.map_append, List.map_cons, List.nodup_append, List.nodup_cons] at hndf
      rw [e1, hpp, List.filter_append, List.filter_cons]
      simp only [ne_eq, not_true_eq_false, decide_false, Bool.false_eq_true, if_false]
      congr 1
      · refine List.filter_eq_self.2 fun e he => ?_
        simp only [decide_not, Bool.not_eq_true', decide_eq_false_iff_not]
        intro hk
        exact hndf.2.2 e.born (List.mem_map.2 ⟨e, he, rfl⟩) y.born (by simp) hk
      · refine List.filter_eq_self.2 fun e he => ?_
        simp only [decide_not, Bool.not_eq_true', decide_eq_false_iff_not]
        intro hk
        exact hndf.2.1.1 (List.mem_map.2 ⟨e, he, hk⟩)
    have hP : (y.kv :: (pre ++ post).map MEnt.kv).Perm (R.map enc) := by
      refine List.Perm.trans ?_ hI
      rw [hpp]
      simp only [List.map_append, List.map_cons]
      exact List.perm_middle.symm
    obtain ⟨R2, hR2, hR2e⟩ := perm_map_inv enc _ _ hP
    cases R2 with
    | nil => simp at hR2e
    | cons e R' =>
      obtain ⟨he1, he2⟩ := List.cons.inj (by simpa using hR2e)
      have hw1 : w1.heap[ni']? = some (.mapIter (some nm') c seen.toArray c) := ext.heap g3
      have hIt : MIter L c (seen ++ [y.born]) (R'.map enc) := by unfold MIter; rw [hflt, ← he2]; simp
      have r1 := r.ext ext
      have hw := map_write (ob := .mapIter (some nm') c (seen ++ [y.born]).toArray c) r1.hp (u (seen ++ [y.born])) g1 hw1 id id (fun k1 => ⟨ni', nm', g1, g2, setO_same hw1⟩)
      have hevo : Evo w S hp w1 S hp := Evo.ext (fun n hn => r.hp.slt n hn) ext
      refine ⟨.tuple #[.bool true, lft[i].key, lft[i].val], setO w1 ni' (.mapIter (some nm') c (seen ++ [y.born]).toArray c), S, _, ?_, (r1.heap hw.2.2 hw.1).put hn (.tup _ _ rfl (AtA_three (.bool _) ?_ ?_)), hevo.trans hw.2.1, k1 e R' (seen ++ [y.born]) hR2.symm (by have := hR2.length_eq; simp at this; omega) hIt ⟨y, hy, by simp, he1⟩⟩
      · have hlz : lft.isEmpty = false := by
          have : lft.size ≠ 0 := hz
          simpa [Array.isEmpty] using this
        have hop : (Instr.next (a.eval x) false ty).run P w = .ok (.tuple #[.bool true, lft[i].key, lft[i].val]) (setO w1 ni' (.mapIter (some nm') c (seen ++ [y.born]).toArray c)) := by
          rw [ex, run_next (P := P) (ty := ty) g3 p2 hany hlft hold hnew]
          have hsz : ((if lft.isEmpty = true then #[none] else #[]) ++ (lft ++ #[]).map some) = lft.map some := by simp [hlz]
          rw [hsz, Array.size_map, hch]
          simp [hil, hb, run_setIter _ hw1]
        simp [execOp, hop]
      · rw [← he1]
        exact (hk.mono (fun n hn => ⟨hn, ext.same n (r.hp.slt n hn)⟩)).mono hw.2.2
      · rw [← he1]
        exact (hv.mono (fun n hn => ⟨hn, ext.same n (r.hp.slt n hn)⟩)).mono hw.2.2
end rules
/-- A map behind a walk through it. -/
theorem ImpX.mpDone {n : Nat} {tm : List (Nat × AV)} {hp hp' : Heap} {T : St → Prop} {b : Bk} {L : List MEnt} {c : Nat} {es : List (AV × AV)} (hL : (L.map MEnt.kv).Perm es) (u : Upd hp b (.mpb L c) b (.mp es) hp') (k : ImpX ⟨n, tm, hp'⟩ T) : ImpX ⟨n, tm, hp⟩ T := by
  refine ImpX.step (σ1 := ⟨n, tm, hp'⟩) (fun w S a r => ?_) k
  have hH : HoldsM w S b L c := r.hp.holds _ u.fnd.mem
  obtain ⟨r1, e1, k1⟩ := upd_rel r.hp u (GB_refl w b.blk) id id ⟨L, c, hL, hH⟩ (.inl rfl)
  exact ⟨_, S, rfl, r.heap k1 r1, e1⟩
end Go.Eng

/- The engine, part 35: short forms of rules. No program in sight. -/
set_option linter.unusedVariables false
set_option linter.unusedSectionVars false
namespace Go.Eng
open Go
variable [GTab]

theorem bndE {α β : Type} {o : Option α} {f : α → Option β} {r : β} {C : Prop} (h : o.bind f = some r) (k : ∀ v, o = some v → f v = some r → C) : C :=
  let ⟨v, h1, h2⟩ := bnd h; k v h1 h2
/-- The entries at these places, each out of what the ones ahead have left. -/
def takeH : Heap → Nat → Option ((Bk × Ob) × Heap)
  | [], _ => none
  | e :: h, 0 => some (e, h)
  | e :: h, i + 1 => match takeH h i with
    | some (x, h') => some (x, e :: h')
    | none => none
def pickH : Heap → List Nat → Option Heap
  | _, [] => some []
  | h, i :: r => match takeH h i with
    | some (e, h') => match pickH h' r with
      | some t => some (e :: t)
      | none => none
    | none => none
theorem takeH_del : ∀ {h : Heap} {i : Nat} {e : Bk × Ob} {h' : Heap}, takeH h i = some (e, h') → Del h e.1 e.2 h'
  | [], _, _, _, hh => by simp [takeH] at hh
  | x :: h, 0, e, h', hh => by
    simp only [takeH, Option.some.injEq, Prod.mk.injEq] at hh
    obtain ⟨rfl, rfl⟩ := hh
    exact .here
  | x :: h, i + 1, e, h', hh => by
    simp only [takeH] at hh
    split at hh
    · rename_i y h1 h2
      simp only [Option.some.injEq, Prod.mk.injEq] at hh
      obtain ⟨rfl, rfl⟩ := hh
      exact .next (takeH_del h2)
    · cases hh
theorem pickH_hs : ∀ {l : List Nat} {h t : Heap}, pickH h l = some t → HS h t
  | [], h, t, hh => by
    simp only [pickH, Option.some.injEq] at hh
    subst hh; exact .nil
  | i :: r, h, t, hh => by
    simp only [pickH] at hh
    split at hh
    · rename_i e h' h1
      split at hh
      · rename_i t' h2
        obtain rfl := Option.some.inj hh
        exact .cons (takeH_del h1) (pickH_hs h2)
      · cases hh
    · cases hh
def selT (tm : List (Nat × AV)) : List Nat → Option (List (Nat × AV))
  | [] => some []
  | s :: r => match lk tm s with
    | some av => match selT tm r with
      | some l => some ((s, av) :: l)
      | none => none
    | none => none
theorem selT_all {tm : List (Nat × AV)} : ∀ {l : List Nat} {tm' : List (Nat × AV)}, selT tm l = some tm' → AllIn tm tm'
  | [], tm', h => by
    simp only [selT, Option.some.injEq] at h
    subst h; exact True.intro
  | s :: r, tm', h => by
    simp only [selT] at h
    split at h
    · rename_i av h1
      split at h
      · rename_i t' h2
        obtain rfl := Option.some.inj h
        exact ⟨h1, selT_all h2⟩
      · cases h
    · cases h
theorem ImpX.lq {n : Nat} {tm tm' : List (Nat × AV)} {hp hp' : Heap} {T : St → Prop} (is : List Nat) (h : T ⟨n, tm', hp'⟩) (ht : selT tm (tm'.map Prod.fst) = some tm') (hs : pickH hp is = some hp') : ImpX ⟨n, tm, hp⟩ T :=
  ImpX.lessP (selT_all ht) (pickH_hs hs) (ImpX.here h)

theorem Fnd.p0 {b : Bk} {o : Ob} {h : Heap} : Fnd ((b, o) :: h) b o := .here
theorem Upd.p0 {b b' : Bk} {o o' : Ob} {h : Heap} : Upd ((b, o) :: h) b o b' o' ((b', o') :: h) := .here
theorem Del.p0 {b : Bk} {o : Ob} {h : Heap} : Del ((b, o) :: h) b o (h) := .here
theorem Fnd.p1 {e0 : Bk × Ob} {b : Bk} {o : Ob} {h : Heap} : Fnd (e0 :: (b, o) :: h) b o := .next .p0
theorem Upd.p1 {e0 : Bk × Ob} {b b' : Bk} {o o' : Ob} {h : Heap} : Upd (e0 :: (b, o) :: h) b o b' o' (e0 :: (b', o') :: h) := .next .p0
theorem Del.p1 {e0 : Bk × Ob} {b : Bk} {o : Ob} {h : Heap} : Del (e0 :: (b, o) :: h) b o (e0 :: h) := .next .p0
theorem Fnd.p2 {e0 : Bk × Ob} {e1 : Bk × Ob} {b : Bk} {o : Ob} {h : Heap} : Fnd (e0 :: e1 :: (b, o) :: h) b o := .next .p1
theorem Upd.p2 {e0 : Bk × Ob} {e1 : Bk × Ob} {b b' : Bk} {o o' : Ob} {h : Heap} : Upd (e0 :: e1 :: (b, o) :: h) b o b' o' (e0 :: e1 :: (b', o') :: h) := .next .p1
theorem Del.p2 {e0 : Bk × Ob} {e1 : Bk × Ob} {b : Bk} {o : Ob} {h : Heap} : Del (e0 :: e1 :: (b, o) :: h) b o (e0 :: e1 :: h) := .next .p1
theorem Fnd.p3 {e0 : Bk × Ob} {e1 : Bk × Ob} {e2 : Bk × Ob} {b : Bk} {o : Ob} {h : Heap} : Fnd (e0 :: e1 :: e2 :: (b, o) :: h) b o := .next .p2
theorem Upd.p3 {e0 : Bk × Ob} {e1 : Bk × Ob} {e2 : Bk × Ob} {b b' : Bk} {o o' : Ob} {h : Heap} : Upd (e0 :: e1 :: e2 :: (b, o) :: h) b o b' o' (e0 :: e1 :: e2 :: (b', o') :: h) := .next .p2
theorem Del.p3 {e0 : Bk × Ob} {e1 : Bk × Ob} {e2 : Bk × Ob} {b : Bk} {o : Ob} {h : Heap} : Del (e0 :: e1 :: e2 :: (b, o) :: h) b o (e0 :: e1 :: e2 :: h) := .next .p2
theorem Fnd.p4 {e0 : Bk × Ob} {e1 : Bk × Ob} {e2 : Bk × Ob} {e3 : Bk × Ob} {b : Bk} {o : Ob} {h : Heap} : Fnd (e0 :: e1 :: e2 :: e3 :: (b, o) :: h) b o := .next .p3
theorem Upd.p4 {e0 : Bk × Ob} {e1 : Bk × Ob} {e2 : Bk × Ob} {e3 : Bk × Ob} {b b' : Bk} {o o' : Ob} {h : Heap} : Upd (e0 :: e1 :: e2 :: e3 :: (b, o) :: h) b o b' o' (e0 :: e1 :: e2 :: e3 :: (b', o') :: h) := .next .p3
theorem Del.p4 {e0 : Bk × Ob} {e1 : Bk × Ob} {e2 : Bk × Ob} {e3 : Bk × Ob} {b : Bk} {o : Ob} {h : Heap} : Del (e0 :: e1 :: e2 :: e3 :: (b, o) :: h) b o (e0 :: e1 :: e2 :: e3 :: h) := .next .p3
theorem Fnd.p5 {e0 : Bk × Ob} {e1 : Bk × Ob} {e2 : Bk × Ob} {e3 : Bk × Ob} {e4 : Bk × Ob} {b : Bk} {o : Ob} {h : Heap} : Fnd (e0 :: e1 :: e2 :: e3 :: e4 :: (b, o) :: h) b o := .next .p4
theorem Upd.p5 {e0 : Bk × Ob} {e1 : Bk × Ob} {e2 : Bk × Ob} {e3 : Bk × Ob} {e4 : Bk × Ob} {b b' : Bk} {o o' : Ob} {h : Heap} : Upd (e0 :: e1 :: e2 :: e3 :: e4 :: (b, o) :: h) b o b' o' (e0 :: e1 :: e2 :: e3 :: e4 :: (b', o') :: h) := .next .p4
theorem Del.p5 {e0 : Bk × Ob} {e1 : Bk × Ob} {e2 : Bk × Ob} {e3 : Bk × Ob} {e4 : Bk × Ob} {b : Bk} {o : Ob} {h : Heap} : Del (e0 :: e1 :: e2 :: e3 :: e4 :: (b, o) :: h) b o (e0 :: e1 :: e2 :: e3 :: e4 :: h) := .next .p4
theorem Fnd.p6 {e0 : Bk × Ob} {e1 : Bk × Ob} {e2 : Bk × Ob} {e3 : Bk × Ob} {e4 : Bk × Ob} {e5 : Bk × Ob} {b : Bk} {o : Ob} {h : Heap} : Fnd (e0 :: e1 :: e2 :: e3 :: e4 :: e5 :: (b, o) :: h) b o := .next .p5
theorem Upd.p6 {e0 : Bk × Ob} {e1 : Bk × Ob} {e2 : Bk × Ob} {e3 : Bk × Ob} {e4 : Bk × Ob} {e5 : Bk × Ob} {b b' : Bk} {o o' : Ob} {h : Heap} : Upd (e0 :: e1 :: e2 :: e3 :: e4 :: e5 :: (b, o) :: h) b o b' o' (e0 :: e1 :: e2 :: e3 :: e4 :: e5 :: (b', o') :: h) := .next .p5
theorem Del.p6 {e0 : Bk × Ob} {e1 : Bk × Ob} {e2 : Bk × Ob} {e3 : Bk × Ob} {e4 : Bk × Ob} {e5 : Bk × Ob} {b : Bk} {o : Ob} {h : Heap} : Del (e0 :: e1 :: e2 :: e3 :: e4 :: e5 :: (b, o) :: h) b o (e0 :: e1 :: e2 :: e3 :: e4 :: e5 :: h) := .next .p5
theorem Fnd.p7 {e0 : Bk × Ob} {e1 : Bk × Ob} {e2 : Bk × Ob} {e3 : Bk × Ob} {e4 : Bk × Ob} {e5 : Bk × Ob} {e6 : Bk × Ob} {b : Bk} {o : Ob} {h : Heap} : Fnd (e0 :: e1 :: e2 :: e3 :: e4 :: e5 :: e6 :: (b, o) :: h) b o := .next .p6
theorem Upd.p7 {e0 : Bk × Ob} {e1 : Bk × Ob} {e2 : Bk × Ob} {e3 : Bk × Ob} {e4 : Bk × Ob} {e5 : Bk × Ob} {e6 : Bk × Ob} {b b' : Bk} {o o' : Ob} {h : Heap} : Upd (e0 :: e1 :: e2 :: e3 :: e4 :: e5 :: e6 :: (b, o) :: h) b o b' o' (e0 :: e1 :: e2 :: e3 :: e4 :: e5 :: e6 :: (b', o') :: h) := .next .p6
theorem Del.p7 {e0 : Bk × Ob} {e1 : Bk × Ob} {e2 : Bk × Ob} {e3 : Bk × Ob} {e4 : Bk × Ob} {e5 : Bk × Ob} {e6 : Bk × Ob} {b : Bk} {o : Ob} {h : Heap} : Del (e0 :: e1 :: e2 :: e3 :: e4 :: e5 :: e6 :: (b, o) :: h) b o (e0 :: e1 :: e2 :: e3 :: e4 :: e5 :: e6 :: h) := .next .p6
section rules
variable {P : Program} {all : Array Oper} {rest : List Oper} {n : Nat} {tm : List (Nat × AV)} {hp : Heap} {Q : St → Prop} {d : Nat} {ty : TypeId} {pos : String} {af : Array Edge}
theorem rM {x : Operand} {av : AV} (hx : evA tm x = some av) (hn : Nat.blt d n = true) (k : ARun P all rest ⟨n, (d, av) :: tm, hp⟩ Q) : ARun P all (⟨some d, .move x, ty, pos, af, none⟩ :: rest) ⟨n, tm, hp⟩ Q := ARun.qv (q_move hx) hn k
theorem rA {x : Operand} {av : AV} (hx : evA tm x = some av) (hn : Nat.blt d n = true) (k : ARun P all rest ⟨n, (d, av) :: tm, hp⟩ Q) : ARun P all (⟨some d, .assign x, ty, pos, af, none⟩ :: rest) ⟨n, tm, hp⟩ Q := ARun.qv (q_assign hx) hn k
theorem rF {x : Operand} {s : TypeId} {j off : Nat} {b : Bk} {o o' : Nat} [Fld P s j off] (hx : evA tm x = some (.ptr b o)) (ho : o + off = o') (hn : Nat.blt d n = true) (k : ARun P all rest ⟨n, (d, .ptr b o') :: tm, hp⟩ Q) : ARun P all (⟨some d, .fieldAddr s x j, ty, pos, af, none⟩ :: rest) ⟨n, tm, hp⟩ Q := ARun.qv (n_field_ptr hx ho) hn k
theorem rL {t : TypeId} {D : TypeDesc} {x : Operand} {b : Bk} {o : Nat} {cs : List AV} {av : AV} [TUnder P t D] (hD : TypeDesc.isAggB D = false) (hx : evA tm x = some (.ptr b o)) (f : Fnd hp b (.cells cs)) (ho : cs[o]? = some av) (hn : Nat.blt d n = true) (k : ARun P all rest ⟨n, (d, av) :: tm, hp⟩ Q) : ARun P all (⟨some d, .load t x, ty, pos, af, none⟩ :: rest) ⟨n, tm, hp⟩ Q := ARun.qv (q_load_ptr hD hx f ho) hn k
theorem rT {c x y : Operand} {av : AV} (hc : evA tm c = some (.bool true)) (hx : evA tm x = some av) (hn : Nat.blt d n = true) (k : ARun P all rest ⟨n, (d, av) :: tm, hp⟩ Q) : ARun P all (⟨some d, .pick c x y, ty, pos, af, none⟩ :: rest) ⟨n, tm, hp⟩ Q := ARun.qv (q_pick_t hc hx) hn k
theorem rE {c x y : Operand} {av : AV} (hc : evA tm c = some (.bool false)) (hx : evA tm y = some av) (hn : Nat.blt d n = true) (k : ARun P all rest ⟨n, (d, av) :: tm, hp⟩ Q) : ARun P all (⟨some d, .pick c x y, ty, pos, af, none⟩ :: rest) ⟨n, tm, hp⟩ Q := ARun.qv (q_pick_f hc hx) hn k
theorem rX {x : Operand} {i : Nat} {vs : List AV} {av : AV} (hx : evA tm x = some (.tup vs)) (hi : vs[i]? = some av) (hn : Nat.blt d n = true) (k : ARun P all rest ⟨n, (d, av) :: tm, hp⟩ Q) : ARun P all (⟨some d, .extract x i, ty, pos, af, none⟩ :: rest) ⟨n, tm, hp⟩ Q := ARun.qv (q_extract hx hi) hn k
theorem rN (h : Q ⟨n, tm, hp⟩) : ARun P all [] ⟨n, tm, hp⟩ Q := ARun.nil h
theorem rG {op : Op} {j : Nat} {want b : Bool} {s : Nat} (hj : (all[j]?).bind (·.dst) = some s) (hs : lk tm s = some (.bool b)) (hb : b = !want) (hn : Nat.blt d n = true) (k : ARun P all rest ⟨n, (d, .raw undef) :: tm, hp⟩ Q) : ARun P all (⟨some d, op, ty, pos, af, some (j, want)⟩ :: rest) ⟨n, tm, hp⟩ Q := ARun.guard_no hj hs hb hn k
theorem rY {op : Op} {j : Nat} {want b : Bool} {s : Nat} (hj : (all[j]?).bind (·.dst) = some s) (hs : lk tm s = some (.bool b)) (hb : b = want) (k : ARun P all (⟨some d, op, ty, pos, af, none⟩ :: rest) ⟨n, tm, hp⟩ Q) : ARun P all (⟨some d, op, ty, pos, af, some (j, want)⟩ :: rest) ⟨n, tm, hp⟩ Q := ARun.guard_yes hj hs hb k
end rules
section rules
variable {P : Program} {R : St → Prop} {k : List It} {σ : St}
theorem tS {x y : Code} (h : ATodo P R (.code x :: .code y :: k) σ) : ATodo P R (.code (.seq x y) :: k) σ := ATodo.seq h
theorem tR {id : Nat} {l : List Oper} (h : ARun P l.toArray l σ (ATodo P R k)) : ATodo P R (.code (.region id l.toArray false) :: k) σ := ATodo.region h
theorem tSR {id : Nat} {l : List Oper} {y : Code} (h : ARun P l.toArray l σ (ATodo P R (.code y :: k))) : ATodo P R (.code (.seq (.region id l.toArray false) y) :: k) σ := ATodo.seq (ATodo.region h)
theorem tK (h : ATodo P R k σ) : ATodo P R (.code .skip :: k) σ := ATodo.skip h
end rules
end Go.Eng

