/- The engine, part 27: reading the insides of values otherwise; make of slices. No program in sight. -/
import Derived.Test.YtbcbhhbbejcnnaaEng26
set_option linter.unusedVariables false
namespace Go.Eng
open Go

/-- What a value reads as too: lists without memory and frozen arrays, inside of structs and lists as well. -/
inductive CoX (hp : Heap) : AV → AV → Prop
  | co {a a' : AV} (c : Co hp a a') : CoX hp a a'
  | agg (cs cs' : List AV) (hl : cs'.length = cs.length) (h : ∀ (i : Nat) c c', cs[i]? = some c → cs'[i]? = some c' → CoX hp c c') : CoX hp (.agg cs) (.agg cs')
  | tup (cs cs' : List AV) (hl : cs'.length = cs.length) (h : ∀ (i : Nat) c c', cs[i]? = some c → cs'[i]? = some c' → CoX hp c c') : CoX hp (.tup cs) (.tup cs')
  | list (sz : Nat) (xs ys : List AV) (hn : ys.length = xs.length) (hl : (flat ys).length = (flat xs).length) (he : ∀ y ∈ ys, El sz y) (h : ∀ (i : Nat) c c', (flat xs)[i]? = some c → (flat ys)[i]? = some c' → CoX hp c c') : CoX hp (.list sz xs) (.list sz ys)
inductive CoXL (hp : Heap) : List AV → List AV → Prop
  | nil : CoXL hp [] []
  | cons {a a' : AV} {l l' : List AV} (c : CoX hp a a') (k : CoXL hp l l') : CoXL hp (a :: l) (a' :: l')
theorem CoX.r {hp : Heap} {a : AV} : CoX hp a a := .co (.refl _)
theorem CoX.n {hp : Heap} {sz : Nat} : CoX hp .nil (.list sz []) := .co (.nil _)
theorem CoXL.refl {hp : Heap} : ∀ l : List AV, CoXL hp l l
  | [] => .nil
  | _ :: l => .cons .r (CoXL.refl l)
theorem CoXL.each {hp : Heap} : ∀ {l l' : List AV}, CoXL hp l l' → l'.length = l.length ∧ ∀ (i : Nat) c c', l[i]? = some c → l'[i]? = some c' → CoX hp c c'
  | [], _, .nil => ⟨rfl, fun i c c' h => by simp at h⟩
  | _ :: _, _, .cons c k => by
    obtain ⟨g1, g2⟩ := CoXL.each k
    refine ⟨by simp [g1], fun i c1 c2 h1 h2 => ?_⟩
    match i with
    | 0 => simp at h1 h2; subst h1; subst h2; assumption
    | i + 1 => exact g2 i c1 c2 (by simpa using h1) (by simpa using h2)
theorem CoX.aggL {hp : Heap} {cs cs' : List AV} (k : CoXL hp cs cs') : CoX hp (.agg cs) (.agg cs') := .agg cs cs' k.each.1 k.each.2
theorem CoX.tupL {hp : Heap} {cs cs' : List AV} (k : CoXL hp cs cs') : CoX hp (.tup cs) (.tup cs') := .tup cs cs' k.each.1 k.each.2
theorem CoX.listL {hp : Heap} {sz : Nat} {xs ys : List AV} (k : CoXL hp (flat xs) (flat ys)) (hn : Nat.beq ys.length xs.length = true) (he : allEl sz ys = true) : CoX hp (.list sz xs) (.list sz ys) :=
  .list sz xs ys (Nat.eq_of_beq_eq_true hn) k.each.1 (allEl_spec he) k.each.2
theorem CoX.at {w : World} {S : Nat → Prop} {hp : Heap} {a a' : AV} {v : Value} (c : CoX hp a a') (r : HRel w S hp) (h : At w S a v) : At w S a' v := by
  induction c generalizing v with
  | co c => exact c.at r h
  | agg cs cs' hl _ ih =>
    cases h with
    | agg _ vs h1 h2 =>
      refine .agg cs' vs (by rw [hl, h1]) (fun i c v hc hv => ?_)
      have hi : i < cs.length := by rw [← hl]; exact (List.getElem?_eq_some_iff.1 hc).1
      exact ih i cs[i] c (by simp [hi]) hc (h2 i _ _ (by simp [hi]) hv)
  | tup cs cs' hl _ ih =>
    cases h with
    | tup _ vs h1 h2 =>
      refine .tup cs' vs (by rw [hl, h1]) (fun i c v hc hv => ?_)
      have hi : i < cs.length := by rw [← hl]; exact (List.getElem?_eq_some_iff.1 hc).1
      exact ih i cs[i] c (by simp [hi]) hc (h2 i _ _ (by simp [hi]) hv)
  | list sz xs ys hn hl he _ ih =>
    cases h with
    | list _ _ a cap vs g1 g2 g3 g4 g5 =>
      rw [← hn]
      refine .list sz ys a cap vs he (by rw [hl, g2]) (fun i c v hc hv => ?_) g4 (by rw [hn]; exact g5)
      have hi : i < (flat xs).length := by rw [← hl]; exact (List.getElem?_eq_some_iff.1 hc).1
      exact ih i (flat xs)[i] c (by simp [hi]) hc (g3 i _ _ (by simp [hi]) hv)
theorem ImpX.cox {n s : Nat} {tm : List (Nat × AV)} {hp : Heap} {T : St → Prop} {av av' : AV} (hs : lk tm s = some av) (c : CoX hp av av') (k : ImpX ⟨n, (s, av') :: tm, hp⟩ T) : ImpX ⟨n, tm, hp⟩ T := by
  refine ImpX.step (σ1 := ⟨n, (s, av') :: tm, hp⟩) (fun w S a r => ⟨_, S, rfl, ⟨r.size, r.defers, fun t av h => ?_, r.hp⟩, Evo.refl _ _ _⟩) k
  simp only [lk] at h
  split at h
  · rename_i hb
    obtain rfl : s = t := by simpa using hb
    obtain rfl := Option.some.inj h
    obtain ⟨v, h1, h2⟩ := r.tm s _ hs
    exact ⟨v, h1, c.at r.hp h2⟩
  · exact r.tm t av h

/-- A result whose list has a known length. -/
def lenOk {R : Type} (n : Nat) (len : R → Nat) (x : Option R) : Option R := x.bind fun r => if len r = n then some r else none
theorem lenOk_f {R : Type} {n : Nat} {len : R → Nat} {x : Option R} {r : R} (h : lenOk n len x = some r) : x = some r := by
  unfold lenOk at h
  cases x with
  | none => cases h
  | some y =>
    simp only [Option.bind_some] at h
    split at h
    · exact h
    · cases h
theorem lenOk_l {R : Type} {n : Nat} {len : R → Nat} {x : Option R} {r : R} (h : lenOk n len x = some r) : len r = n := by
  unfold lenOk at h
  cases x with
  | none => cases h
  | some y =>
    simp only [Option.bind_some] at h
    split at h
    · rename_i hh; obtain rfl := Option.some.inj h; exact hh
    · cases h

/-! ### make of slices -/
/-- What make hands out: so many zeros. -/
def mkS {α : Type} (z : α) (l c : Int) : Option (List α) := if 0 ≤ l ∧ l ≤ c ∧ c ≤ 1000000000 then some (List.replicate l.toNat z) else none
theorem flat_rep {sz : Nat} {x : AV} (h : x.cells.length = sz) : ∀ (k i : Nat), i < k * sz → (flat (List.replicate k x))[i]? = x.cells[i % sz]?
  | 0, i, hi => by simp at hi
  | k + 1, i, hi => by
    rw [List.replicate_succ, show flat (x :: List.replicate k x) = x.cells ++ flat (List.replicate k x) from rfl]
    by_cases hlt : i < sz
    · rw [List.getElem?_append_left (by omega), Nat.mod_eq_of_lt hlt]
    · rw [List.getElem?_append_right (by omega), h, flat_rep h k (i - sz) (by rw [Nat.add_mul] at hi; omega)]
      rw [Nat.mod_eq_sub_mod (a := i) (by omega)]
section rules
variable {P : Program} {all : Array Oper} {rest : List Oper} {n : Nat} {tm : List (Nat × AV)} {hp : Heap} {Q : St → Prop} {d : Nat} {ty : TypeId} {pos : String} {af : Array Edge}
theorem t_makeSlice {α : Type} {g : α → AV} {Z : α} {Xs : List α} {t e : TypeId} {i : TypeInfo} {z : Value} {x y : Operand} {k k' : IntKind} {l c : Int} {sz : Nat} [TUnder P t (.slice e)] [TInfo P e i] (hx : evA tm x = some (.int k l)) (hy : evA tm y = some (.int k' c)) (hz : i.zero = some z) (hg : zAV z = g Z) (hs : i.size = sz) (hel : elB sz (g Z) = true) (hpos : Nat.blt 0 sz = true) (hb : Nat.ble i.bytes 65536 = true)
    (hn : Nat.blt d n = true) (hm : mkS Z l c = some Xs) (kk : ∀ b : Bk, ARun P all rest ⟨n, (d, .sl sz b 0 Xs.length) :: tm, (b, .arr sz (Xs.map g)) :: hp⟩ Q) : ARun P all (⟨some d, .makeSlice t x y, ty, pos, af, none⟩ :: rest) ⟨n, tm, hp⟩ Q := by
  subst hs
  have hpos : 0 < i.size := Nat.lt_of_lt_of_le (Nat.lt_of_succ_le (Nat.le_of_ble_eq_true hpos)) (Nat.le_refl _)
  have hb := Nat.le_of_ble_eq_true hb
  unfold mkS at hm
  split at hm
  · rename_i hc
    obtain rfl := Option.some.inj hm
    obtain ⟨c0, c1, c2⟩ := hc
    refine ARun.opx rfl fun w S a r => ?_
    have e1 := (evA_at (σ := ⟨n, tm, hp⟩) r hx).int_inv
    have e2 := (evA_at (σ := ⟨n, tm, hp⟩) r hy).int_inv
    have hE := elB_spec hel
    obtain ⟨hl, hat⟩ := zAV_cells_at w S z (by rw [hg]; exact hE.2)
    rw [hg] at hl hat
    have hzs : z.cells.size = i.size := by rw [← hl]; exact hE.1
    obtain ⟨vs, hvs⟩ : ∃ vs : Array Value, vs = (Array.range (c.toNat * i.size)).map (z.cells[· % z.cells.size]!) := ⟨_, rfl⟩
    have hsz : vs.size = c.toNat * i.size := by rw [hvs]; simp
    have hget : ∀ (j : Nat) (v : Value), vs[j]? = some v → z.cells[j % i.size]? = some v := by
      intro j v hv
      rw [hvs] at hv
      simp only [Array.getElem?_map, Option.map_eq_some_iff] at hv
      obtain ⟨q, hq, rfl⟩ := hv
      have : q = j := by
        rw [Array.getElem?_eq_some_iff] at hq
        obtain ⟨h1, h2⟩ := hq
        simpa using h2.symm
      subst this
      rw [hzs]
      have hlt : q % i.size < z.cells.size := by rw [hzs]; exact Nat.mod_lt _ hpos
      simp [hlt]
    have e0 := Ext.alloc w (.cells vs e)
    have hmap : (List.replicate l.toNat Z).map g = List.replicate l.toNat (g Z) := by simp
    have hh : Holds (w.alloc (.cells vs e)) S ⟨some w.heap.size, c.toNat⟩ (.arr i.size ((List.replicate l.toNat Z).map g)) := by
      rw [hmap]
      refine ⟨fun x hx => by rw [List.eq_of_mem_replicate hx]; exact hE, by simp; omega, .inr ⟨w.heap.size, vs, e, rfl, ?_, hsz, fun j cc v hcc hv => ?_⟩⟩
      · show (w.heap.push _)[w.heap.size]? = _
        simp
      · have hjl : j < (flat (List.replicate l.toNat (g Z))).length := (List.getElem?_eq_some_iff.1 hcc).1
        rw [flat_length (fun x hx => by rw [List.eq_of_mem_replicate hx]; exact hE)] at hjl
        rw [flat_rep hE.1 _ _ (by simpa using hjl)] at hcc
        exact (hat _ _ _ hcc (hget j v hv)).mono fun m hm => ⟨hm, e0.same m (r.hp.slt m hm)⟩
    obtain ⟨k1, k2, k3⟩ := add_rel r.hp e0 id hh (.inr ⟨_, rfl, Nat.le_refl _⟩)
    refine ⟨.slice (some ⟨w.heap.size, 0, none⟩) l.toNat c.toNat, w.alloc (.cells vs e), S, _, ?_, (r.heap k3 k1).put hn ?_, k2, kk ⟨some w.heap.size, c.toNat⟩⟩
    · have w1 : IntKind.i64.wrap l = l := wrap_fits ⟨by omega, by omega⟩
      have w2 : IntKind.i64.wrap c = c := wrap_fits ⟨by omega, by omega⟩
      have hbc : (i.bytes : Int) * c ≤ 65536 * 1000000000 := Int.mul_le_mul (by omega) (by omega) (by omega) (by omega)
      have f1 : decide (c < 0) = false := decide_eq_false (by omega)
      have f2 : decide (((i.bytes : Int) * c) > 2 ^ 48) = false := decide_eq_false (by omega)
      have f3 : decide (l < 0) = false := decide_eq_false (by omega)
      have f4 : decide (l > c) = false := decide_eq_false (by omega)
      have hroom : ¬ c.toNat * i.bytes > roomBytes := by
        have : c.toNat * i.bytes ≤ 1000000000 * 65536 := Nat.mul_le_mul (by omega) hb
        unfold roomBytes; omega
      have a1 : ∀ (k : IntKind) (x : Int) (w : World), (asInt (.int k x)).run P w = .ok x w := fun k x w => by simp [asInt, asIntOf]
      simp only [execOp, Instr.makeSlice, Sem.run_bind, run_underlying (TUnder.h (P := P) (t := t)), Result.andThen_ok, e1, e2, a1, typeInfo, sizeOf, run_program, TInfo.h (P := P) (t := e), Sem.run_pure, w1, w2, f1, f2, f3, f4, Bool.or_self, Bool.false_eq_true, if_false, askRoom, if_neg hroom]
      by_cases h0 : c.toNat * i.size = 0
      · rw [if_pos h0]
        have hv0 : vs = #[] := by apply Array.eq_empty_of_size_eq_zero; omega
        simp only [Sem.run_bind, Sem.run_pure, Result.andThen_ok, h0, run_newRow, hv0]
        rw [show Array.range 0 = #[] from rfl]
        simp
      · rw [if_neg h0]
        simp only [Sem.run_bind, Result.andThen_ok, Sem.run_pure, zeroValue, typeInfo, run_program, TInfo.h (P := P) (t := e), hz, run_newRow, ← hvs]
    · have := At.sl (w := w.alloc (.cells vs e)) (S := S) i.size ⟨some w.heap.size, c.toNat⟩ 0 l.toNat w.heap.size c.toNat rfl (by omega) (by simp)
      simpa using this
  · cases hm
end rules
end Go.Eng
