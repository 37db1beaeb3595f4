/- The engine, part 30: slices.Sort at elements of one cell, over the shelf's contracts. No program in sight. -/
import Derived.Test.YtbcbhhbbejcnnaaEng29
set_option linter.unusedVariables false
set_option linter.unusedSimpArgs false
namespace Go.Eng
open Go Go.Sort Go.Proofs

structure Sort1 {α : Type} [Inhabited α] (P : Program) (f : FuncId) (enc : α → Value) (srt : List α → List α) : Prop where
  some_ : ∀ (blk off cap : Nat) (zs : List α) (w : World), Sort.Holds enc w blk off zs.toArray → blk < w.heap.size → zs.length < 4611686018427387904 → Calls P f #[.slice (some ⟨blk, off, none⟩) zs.length cap] w fun e w' =>
    e = .returned (.tuple #[]) ∧ ∃ n os, w' = grow (putRow enc (Sort.ahead w n) blk off (srt zs).toArray) os
  none_ : ∀ (p : Option Addr) (cap : Nat) (w : World), Calls P f #[.slice p 0 cap] w fun e w' => e = .returned (.tuple #[]) ∧ w' = w

/-- The sorted list. -/
def sort1 {α : Type} (srt : List α → List α) (xs : List α) : Option (List α) := if xs.length < 4611686018427387904 then some (srt xs) else none
theorem heap_putW {α : Type} [Inhabited α] (enc : α → Value) (w : World) (blk off m : Nat) (dk : Array α) (os : Array Obj) {n : Nat} (hn : n < w.heap.size) (hne : n ≠ blk) : (grow (putRow enc (Sort.ahead w m) blk off dk) os).heap[n]? = w.heap[n]? := by
  unfold putRow
  rw [heap_grow_old _ _ (by simpa [mapBlock] using hn)]
  simp only [mapBlock, heap_ahead, Array.getElem?_modify]
  rw [if_neg (fun h => hne h.symm)]
theorem row_putW {α : Type} [Inhabited α] (enc : α → Value) (w : World) (blk m : Nat) (dk : Array α) (os : Array Obj) {vs : Array Value} {E : TypeId} (hb : w.heap[blk]? = some (.cells vs E (0, 0))) : (grow (putRow enc (Sort.ahead w m) blk 0 dk) os).heap[blk]? = some (.cells (putCells enc 0 dk vs) E (0, 0)) := by
  have hlt : blk < w.heap.size := by
    rcases Nat.lt_or_ge blk w.heap.size with h | h
    · exact h
    · simp [Array.getElem?_eq_none h] at hb
  unfold putRow
  rw [heap_grow_old _ _ (by simpa [mapBlock] using hlt)]
  simp only [mapBlock, heap_ahead, Array.getElem?_modify]
  rw [if_pos trivial, hb]
  rfl
theorem flat_ones {α : Type} {g : α → AV} (hc : ∀ x, (g x).cells = [g x]) : ∀ xs : List α, flat (xs.map g) = xs.map g
  | [] => rfl
  | x :: r => by rw [List.map_cons, flat_cons, hc, flat_ones hc r]; rfl
theorem sort1_acall {P : Program} {α : Type} [Inhabited α] {f : FuncId} {enc : α → Value} {srt : List α → List α} (K : Sort1 P f enc srt) {g : α → AV} (hg : ∀ {w : World} {S : Nat → Prop} {x : α} {v : Value}, At w S (g x) v → v = enc x) (hg' : ∀ (w : World) (S : Nat → Prop) (x : α), At w S (g x) (enc x)) (hc : ∀ x, (g x).cells = [g x])
    (hlen : ∀ xs, (srt xs).length = xs.length) (hone : ∀ x, (g x).one = true) {Xs Ys : List α} {b : Bk} (h : sort1 srt Xs = some Ys) : ACall P f [.sl 1 b 0 Xs.length] [(b, .arr 1 (Xs.map g))] (T0 [(b, .arr 1 (Ys.map g))] (.tup [])) := by
  unfold sort1 at h
  split at h
  · rename_i hsz
    obtain rfl := Option.some.inj h
    intro w S vs r hl ha
    obtain ⟨v0, rfl⟩ : ∃ v0, vs = #[v0] := by
      match vs, hl with
      | ⟨[v0]⟩, _ => exact ⟨v0, rfl⟩
    have a0 := ha 0 _ v0 rfl rfl
    obtain ⟨oa, cap, rfl, e2⟩ := a0.sl_inv
    have hEl : ∀ (zs : List α), ∀ y ∈ zs.map g, El 1 y := by
      intro zs y hy
      obtain ⟨x, _, rfl⟩ := List.mem_map.1 hy
      exact ⟨by rw [hc]; rfl, fun c hcc => by rw [hc] at hcc; rw [List.mem_singleton.1 hcc]; exact hone x⟩
    have hnil : Xs.length = 0 → srt Xs = Xs := fun h0 => by
      have h1 := hlen Xs
      have e1 : Xs = [] := List.eq_nil_of_length_eq_zero h0
      rw [e1]
      apply List.eq_nil_of_length_eq_zero
      rw [hlen]; rfl
    rcases Nat.eq_zero_or_pos Xs.length with h0 | h0
    · have hK := K.none_ oa cap w
      rw [← h0] at hK
      refine hK.mono ?_
      rintro e w' ⟨rfl, rfl⟩
      rw [hnil h0]
      exact ⟨_, .tup [], _, S, rfl, ⟨rfl, rfl⟩, .tup [] #[] rfl (fun i c v hc => by simp at hc), r, Evo.refl _ _ _⟩
    · obtain ⟨_, h1, h2⟩ := r.holds _ (List.mem_singleton.2 rfl)
      simp only [List.length_map] at h1
      rcases h2 with ⟨_, hcap⟩ | ⟨m, row, E, hb, hrow, hrs, hat⟩
      · have hcap' : b.cap = 0 := hcap
        omega
      rcases e2 with ⟨hn, _, _, _, _⟩ | ⟨m', hb', rfl, hle, hle2⟩ | ⟨m', ad, _, _, hl0, _⟩
      · rw [hn] at hb; cases hb
      · obtain rfl : m' = m := by rw [hb'] at hb; exact Option.some.inj hb
        have hmlt : m' < w.heap.size := by
          rcases Nat.lt_or_ge m' w.heap.size with h | h
          · exact h
          · simp [Array.getElem?_eq_none h] at hrow
        have nS : ¬ S m' := fun hs => by have := (r.sep _ (List.mem_singleton.2 rfl) m' hb).1 hs; exact this
        have hrs' : row.size = b.cap := by rw [hrs]; exact Nat.mul_one _
        rw [flat_ones hc] at hat
        have hH : Sort.Holds enc w m' 0 Xs.toArray := by
          intro j hj
          have hj' : j < Xs.length := by simpa using hj
          have hjr : j < row.size := by omega
          have hv := hg (hat j (g Xs[j]) row[j] (by simp [hj']) (by simp [hjr]))
          constructor
          · simp only [World.cell?, hrow, Nat.zero_add, Option.isSome_none, Bool.false_eq_true, if_false]
            rw [Array.getElem?_eq_getElem hjr, hv]
            simp [hj']
          · simp [World.frozen?, hrow]
        simp only [Nat.zero_mul]
        refine (K.some_ m' 0 cap Xs w hH hmlt hsz).mono ?_
        rintro e w' ⟨rfl, q, os, rfl⟩
        have hW : ∀ n, S n → S n ∧ (grow (putRow enc (Sort.ahead w q) m' 0 (srt Xs).toArray) os).heap[n]? = w.heap[n]? := fun n hs =>
          ⟨hs, heap_putW enc w m' 0 q _ os (r.slt n hs) (fun e => nS (e ▸ hs))⟩
        have hsz' : w.heap.size ≤ (grow (putRow enc (Sort.ahead w q) m' 0 (srt Xs).toArray) os).heap.size := by simp
        have hls := hlen Xs
        have hh : Go.Eng.Holds (grow (putRow enc (Sort.ahead w q) m' 0 (srt Xs).toArray) os) S b (.arr 1 ((srt Xs).map g)) := by
          refine ⟨hEl _, by simp; omega, .inr ⟨m', _, E, hb, row_putW enc w m' q _ os hrow, by simp [putCells, hrs], ?_⟩⟩
          rw [flat_ones hc]
          intro j c v hcj hv
          have hjl : j < (srt Xs).length := by have := (List.getElem?_eq_some_iff.1 hcj).1; simpa using this
          have hjr : j < row.size := by omega
          rw [List.getElem?_map, List.getElem?_eq_getElem hjl] at hcj
          obtain rfl := Option.some.inj hcj
          simp only [putCells, Array.getElem?_mapIdx, Array.getElem?_eq_getElem hjr, Option.map_some, Option.some.injEq] at hv
          rw [if_pos ⟨Nat.zero_le _, by simp; omega⟩] at hv
          rw [← hv]
          have : (srt Xs).toArray[j - 0]! = (srt Xs)[j] := by simp [hjl]
          rw [this]
          exact hg' _ _ _
        refine ⟨_, .tup [], _, S, rfl, ⟨rfl, rfl⟩, .tup [] #[] rfl (fun i c v hc => by simp at hc), ⟨r.nodup, fun e he => by rw [List.mem_singleton] at he; subst he; exact hh, fun e he n hn => ?_, fun n hn => Nat.lt_of_lt_of_le (r.slt n hn) hsz'⟩, ?_⟩
        · rw [List.mem_singleton] at he; subst he
          simp only at hn
          rw [hb] at hn
          obtain rfl := Option.some.inj hn
          exact ⟨fun hs => (nS hs).elim, fun hf => hf.elim⟩
        · refine ⟨rfl, rfl, rfl, hsz', hW, fun n hn hnh => ⟨heap_putW enc w m' 0 q _ os hn (fun e => hnh ⟨_, List.mem_singleton.2 rfl, by rw [e]; exact hb⟩), id⟩, ?_, ?_⟩
          · rintro n ⟨e, he, hen⟩
            rw [List.mem_singleton] at he; subst he
            exact .inl ⟨_, List.mem_singleton.2 rfl, hen⟩
          · show w.drawn ≤ w.drawn + q
            omega
      · omega
  · cases h
def srtI (xs : List Int) : List Int := xs.mergeSort fun x y => decide (x ≤ y)
def srtS (xs : List (List UInt8)) : List (List UInt8) := xs.mergeSort fun x y => decide (x ≤ y)
theorem sortI_acall {P : Program} {f : FuncId} (K : Sort1 P f (Value.int .i64) srtI) {Xs Ys : List Int} {b : Bk} (h : sort1 srtI Xs = some Ys) : ACall P f [.sl 1 b 0 Xs.length] [(b, .arr 1 (Xs.map I))] (T0 [(b, .arr 1 (Ys.map I))] (.tup [])) :=
  sort1_acall K (g := I) (fun h => h.int_inv) (fun w S x => .int _ _) (fun _ => rfl) (fun xs => List.length_mergeSort _) (fun _ => rfl) h
end Go.Eng
