/- The engine, part 28: slices.SortFunc, over the shelf's contract of it. No program in sight. -/
import Derived.Test.YtbcbhhbbejcnnaaEng27
import Derived.Shelf.SlSortCmp.NoneTotal
set_option linter.unusedVariables false
set_option linter.unusedSimpArgs false
namespace Go.Eng
open Go Go.Sort Go.Proofs

/-- What the shelf says of an instance of slices.SortFunc whose elements have k cells. -/
structure SortK (P : Program) (f : FuncId) (k : Nat) : Prop where
  some_ : ∀ (enc : Nat → List Value) (_ : ∀ x, (enc x).length = k) (_ : ∀ x, ∀ v ∈ enc x, v.oneCell' = true) (cf : Nat → Nat → Int) (_ : SWO (ltOf cf)) (g : Nat) (cb : Array Value) (blk off cap : Nat) (d : Array Nat) (w : World)
    (_ : ∀ args w, (callFunc g args).run P w = .ok (.enter g args) w) (_ : CmpLays P g cb enc k cf blk off d.size w) (_ : HoldsK enc k w blk off d) (_ : blk < w.heap.size) (_ : d.size < 4611686018427387904),
    Calls P f #[.slice (some ⟨blk, off, none⟩) d.size cap, .func (.func g) #[] cb] w fun e w' =>
      e = .returned (.tuple #[]) ∧ ∃ n os, w' = sortWorldK enc k w blk off n (pdq (ltOf cf) d 0 d.size (Lib.bitLen d.size) true true) os
  none_ : ∀ (p : Option Addr) (cap : Nat) (fv : Value) (w : World), Calls P f #[.slice p 0 cap, fv] w fun e w' => e = .returned (.tuple #[]) ∧ w' = w

/-- The i-th element; the first one behind the end. -/
def elx {α : Type} (x : α) (r : List α) (i : Nat) : α := (x :: r).getD i x
/-- The order of numbers that the order of elements makes. -/
def ordx {α : Type} (f : α → α → Option Int) (x : α) (r : List α) (i j : Nat) : Int := (f (elx x r i) (elx x r j)).getD 0
/-- Go's pattern-defeating quicksort, as a plain function. -/
noncomputable def sortO {α : Type} (f : α → α → Option Int) : List α → Option (List α)
  | [] => some []
  | x :: r => @ite _ (r.length + 1 < 4611686018427387904 ∧ (∀ a ∈ x :: r, ∀ b ∈ x :: r, ∃ u, f a b = some u) ∧ SWO (ltOf (ordx f x r))) (Classical.propDecidable _)
      (some ((pdq (ltOf (ordx f x r)) (Array.range (r.length + 1)) 0 (r.length + 1) (Lib.bitLen (r.length + 1)) true true).toList.map (elx x r))) none

theorem sortO_cons {α : Type} (f : α → α → Option Int) (x : α) (r : List α) : sortO f (x :: r) = @ite _ (r.length + 1 < 4611686018427387904 ∧ (∀ a ∈ x :: r, ∀ b ∈ x :: r, ∃ u, f a b = some u) ∧ SWO (ltOf (ordx f x r))) (Classical.propDecidable _)
      (some ((pdq (ltOf (ordx f x r)) (Array.range (r.length + 1)) 0 (r.length + 1) (Lib.bitLen (r.length + 1)) true true).toList.map (elx x r))) none := rfl
theorem elx_mem {α : Type} (x : α) (r : List α) (i : Nat) : elx x r i ∈ x :: r := by
  unfold elx
  rw [List.getD_eq_getElem?_getD]
  rcases h : (x :: r)[i]? with _ | y
  · simp
  · exact List.mem_of_getElem? h

theorem heap_sortW (enc : Nat → List Value) (k : Nat) (w : World) (blk off m : Nat) (dk : Array Nat) (os : Array Obj) {n : Nat} (hn : n < w.heap.size) (hne : n ≠ blk) : (sortWorldK enc k w blk off m dk os).heap[n]? = w.heap[n]? := by
  unfold sortWorldK putRowK putRow
  rw [heap_grow_old _ _ (by simpa [mapBlock] using hn)]
  simp only [mapBlock, heap_ahead, Array.getElem?_modify]
  rw [if_neg (fun h => hne h.symm)]
theorem size_sortW (enc : Nat → List Value) (k : Nat) (w : World) (blk off m : Nat) (dk : Array Nat) (os : Array Obj) : w.heap.size ≤ (sortWorldK enc k w blk off m dk os).heap.size := by
  unfold sortWorldK putRowK
  simp
theorem row_sortW (enc : Nat → List Value) (k : Nat) (w : World) (blk m : Nat) (dk : Array Nat) (os : Array Obj) {vs : Array Value} {E : TypeId} (hb : w.heap[blk]? = some (.cells vs E (0, 0))) : (sortWorldK enc k w blk 0 m dk os).heap[blk]? = some (.cells (putCells id 0 (flatK enc k dk) vs) E (0, 0)) := by
  have hlt : blk < w.heap.size := by
    rcases Nat.lt_or_ge blk w.heap.size with h | h
    · exact h
    · simp [Array.getElem?_eq_none h] at hb
  unfold sortWorldK putRowK putRow
  rw [heap_grow_old _ _ (by simpa [mapBlock] using hlt)]
  simp only [mapBlock, heap_ahead, Array.getElem?_modify]
  rw [if_pos trivial, hb]
  rfl

/-- A world with new blocks alone, written out. -/
theorem Ext.grown {w w' : World} (e : Ext w w') : ∃ q os, w' = grow (w.drewN q) os := by
  refine ⟨w'.drawn - w.drawn, w'.heap.extract w.heap.size w'.heap.size, ?_⟩
  obtain ⟨h', t', d', o', out'⟩ := w'
  have e1 := e.os; have e2 := e.tape; have e3 := e.output; have e4 := e.drawn; have e5 := e.size; have e6 := e.same
  simp only at e1 e2 e3 e4 e5 e6
  subst e1 e2 e3
  unfold grow World.drewN
  simp only [World.mk.injEq, and_true, true_and]
  refine ⟨?_, by omega⟩
  apply Array.ext_getElem?
  intro i
  by_cases hi : i < w.heap.size
  · rw [e6 i hi, Array.getElem?_append_left hi]
  · rw [Array.getElem?_append_right (by omega), Array.getElem?_extract]
    by_cases h2 : i < h'.size
    · rw [if_pos (by omega)]
      congr 1; omega
    · rw [if_neg (by omega), Array.getElem?_eq_none (by omega)]

theorem sort_acall {P : Program} {T : Type} {g : T → AV} {f : FuncId} {k : Nat} (K : SortK P f k) (hk0 : Nat.blt 0 k = true) {gf : FuncId} [IsFn P gf] {C : List AV} {fn : T → T → Option Int} (hfn : ∀ {x y : T} {u : Int}, fn x y = some u → Pu P gf (g x :: g y :: C) (I u))
    (hagg : ∀ x, g x = .agg (g x).cells) {Xs Ys : List T} {b : Bk} (h : sortO fn Xs = some Ys) : ACall P f [.sl k b 0 Xs.length, .func (.func gf) C] [(b, .arr k (Xs.map g))] (T0 [(b, .arr k (Ys.map g))] (.tup [])) := by
  have hk0 : 0 < k := Nat.lt_of_lt_of_le (Nat.lt_of_succ_le (Nat.le_of_ble_eq_true hk0)) (Nat.le_refl _)
  intro w S vs r hl ha
  obtain ⟨v0, v1, rfl⟩ : ∃ v0 v1, vs = #[v0, v1] := by
    match vs, hl with
    | ⟨[v0, v1]⟩, _ => exact ⟨v0, v1, rfl⟩
  have a0 := ha 0 _ v0 rfl rfl
  have a1 := ha 1 _ v1 rfl rfl
  obtain ⟨oa, cap, rfl, e2⟩ := a0.sl_inv
  obtain ⟨cv, rfl, hcl, hca⟩ := a1.func_inv
  match Xs, h with
  | [], h =>
    obtain rfl := Option.some.inj h
    refine (K.none_ oa cap _ w).mono ?_
    rintro e w' ⟨rfl, rfl⟩
    exact ⟨_, .tup [], _, S, rfl, ⟨rfl, rfl⟩, .tup [] #[] rfl (fun i c v hc => by simp at hc), r, Evo.refl _ _ _⟩
  | x :: xr, h =>
    rw [sortO_cons] at h
    by_cases hc : (xr.length + 1 < 4611686018427387904 ∧ (∀ a ∈ x :: xr, ∀ b ∈ x :: xr, ∃ u, fn a b = some u) ∧ SWO (ltOf (ordx fn x xr)))
    · rw [if_pos hc] at h
      obtain rfl := Option.some.inj h
      obtain ⟨hlen, hdef, hO⟩ := hc
      obtain ⟨h0, h1, h2⟩ := r.holds _ (List.mem_singleton.2 rfl)
      simp only [List.length_map, List.length_cons] at h1
      rcases h2 with ⟨_, hcap⟩ | ⟨m, row, E, hb, hrow, hsz, hat⟩
      · have hcap' : b.cap = 0 := hcap
        omega
      rcases e2 with ⟨hn, _, _, _, _⟩ | ⟨m', hb', rfl, hle, hle2⟩ | ⟨m', ad, _, _, hl0, _⟩
      · rw [hn] at hb; cases hb
      · obtain rfl : m' = m := by rw [hb'] at hb; exact Option.some.inj hb
        have hmlt : m' < w.heap.size := by
          rcases Nat.lt_or_ge m' w.heap.size with h | h
          · exact h
          · simp [Array.getElem?_eq_none h] at hrow
        have nS : ¬ S m' := fun hs => by have := (r.sep _ (List.mem_singleton.2 rfl) m' hb).1 hs; exact this
        -- the elements' cells
        let ix : Nat → Nat := fun i => if i < xr.length + 1 then i else 0
        have hix : ∀ i, ix i < xr.length + 1 := fun i => by simp only [ix]; split <;> omega
        have helx : ∀ i, (x :: xr)[ix i]? = some (elx x xr i) := by
          intro i
          simp only [ix, elx, List.getD_eq_getElem?_getD]
          split
          · rename_i hi
            rw [List.getElem?_eq_getElem (by simpa using hi)]; simp
          · rename_i hi
            rw [List.getElem?_eq_none (l := x :: xr) (i := i) (by simp; omega)]; simp
        have hrs : (xr.length + 1) * k ≤ row.size := by rw [hsz]; exact Nat.mul_le_mul_right k h1
        let enc : Nat → List Value := fun i => (row.toList.drop (ix i * k)).take k
        have henl : ∀ i, (enc i).length = k := by
          intro i
          have : ix i * k + k ≤ row.size := by
            have := Nat.mul_le_mul_right k (show ix i + 1 ≤ xr.length + 1 from hix i)
            rw [Nat.add_mul, Nat.one_mul] at this
            omega
          simp only [enc, List.length_take, List.length_drop, Array.length_toList]; omega
        have henv : ∀ i j, j < k → (enc i)[j]? = row[ix i * k + j]? := by
          intro i j hj
          simp only [enc, List.getElem?_take, if_pos hj, List.getElem?_drop, Array.getElem?_toList]
        have hflat : ∀ i j, j < k → (flat ((x :: xr).map g))[ix i * k + j]? = (g (elx x xr i)).cells[j]? := by
          intro i j hj
          exact flat_get h0 (by rw [List.getElem?_map, helx i]; rfl) j hj
        have hcl : ∀ i, (g (elx x xr i)).cells.length = k := fun i => (h0 _ (List.mem_map.2 ⟨_, elx_mem x xr i, rfl⟩)).1
        have hone : ∀ i, ∀ c ∈ (g (elx x xr i)).cells, c.one = true := fun i => (h0 _ (List.mem_map.2 ⟨_, elx_mem x xr i, rfl⟩)).2
        have henA : ∀ i, AtA w S (g (elx x xr i)).cells (enc i).toArray := by
          intro i j c v hc hv
          have hj : j < k := by rw [← hcl i]; exact (List.getElem?_eq_some_iff.1 hc).1
          refine hat (ix i * k + j) c v (by rw [hflat i j hj]; exact hc) ?_
          rw [← henv i j hj]
          simpa using hv
        have henO : ∀ i, ∀ v ∈ enc i, v.oneCell' = true := by
          intro i v hv
          obtain ⟨j, hj, rfl⟩ := List.getElem_of_mem hv
          have hjk : j < k := by rw [henl i] at hj; exact hj
          have hcj : j < (g (elx x xr i)).cells.length := by rw [hcl i]; exact hjk
          exact (henA i j (g (elx x xr i)).cells[j] (enc i)[j] (by simp [hcj]) (by simp [hj])).one_ok (hone i _ (List.getElem_mem hcj))
        have hcell : ∀ (d : Array Nat) (t : Nat), t < d.size * k → (flatK enc k d)[t]! = (enc d[t / k]!)[t % k]! := fun d t ht => get_flatK enc k d t ht
        have hHold : HoldsK enc k w m' 0 (Array.range (xr.length + 1)) := by
          intro j hj
          rw [size_flatK, Array.size_range] at hj
          have hdiv : j / k < xr.length + 1 := (Nat.div_lt_iff_lt_mul hk0).2 hj
          have hmod : j % k < k := Nat.mod_lt _ hk0
          have hjr : j < row.size := by omega
          have e1 : (flatK enc k (Array.range (xr.length + 1)))[j]! = row[j] := by
            rw [hcell _ _ (by simpa using hj)]
            have : (Array.range (xr.length + 1))[j / k]! = j / k := by
              rw [getElem!_pos _ _ (by simpa using hdiv)]; simp
            rw [this]
            have hv := henv (j / k) (j % k) hmod
            have : ix (j / k) = j / k := by simp only [ix]; rw [if_pos hdiv]
            rw [this, Nat.div_add_mod'] at hv
            rw [Array.getElem?_eq_getElem hjr] at hv
            rw [List.getElem!_eq_getElem?_getD, hv]; rfl
          constructor
          · simp only [World.cell?, hrow, id, e1, Nat.zero_add, Option.isSome_none, Bool.false_eq_true, if_false]
            rw [Array.getElem?_eq_getElem hjr]
          · simp [World.frozen?, hrow]
        have hcmp : CmpLays P gf cv enc k (ordx fn x xr) m' 0 (Array.range (xr.length + 1)).size w := by
          intro mm os dk hdk i j
          obtain ⟨u, hu⟩ := hdef _ (elx_mem x xr i) _ (elx_mem x xr j)
          have hW : ∀ n, S n → S n ∧ (sortWorldK enc k w m' 0 mm dk os).heap[n]? = w.heap[n]? := fun n hs =>
            ⟨hs, heap_sortW enc k w m' 0 mm dk os (r.slt n hs) (fun e => nS (e ▸ hs))⟩
          have hargs : AtA (sortWorldK enc k w m' 0 mm dk os) S (g (elx x xr i) :: g (elx x xr j) :: C) (#[.agg (enc i).toArray, .agg (enc j).toArray] ++ cv) := by
            intro q c v hc hv
            have ag : ∀ i, At (sortWorldK enc k w m' 0 mm dk os) S (g (elx x xr i)) (.agg (enc i).toArray) := fun i => by
              rw [hagg (elx x xr i)]
              exact .agg _ _ (by rw [hcl i]; simp [henl i]) (fun a c v hc hv => ((henA i) a c v hc hv).mono hW)
            match q with
            | 0 =>
              rw [Array.getElem?_append_left (by simp)] at hv
              simp at hc hv; subst hc; subst hv; exact ag i
            | 1 =>
              rw [Array.getElem?_append_left (by simp)] at hv
              simp at hc hv; subst hc; subst hv; exact ag j
            | q + 2 =>
              simp only [List.getElem?_cons_succ] at hc
              rw [Array.getElem?_append_right (by simp)] at hv
              simp only [List.size_toArray, List.length_cons, List.length_nil, Nat.add_sub_cancel] at hv
              exact (hca q c v hc (by simpa using hv)).mono hW
          refine (hfn hu _ S _ (hrel_nil fun n hn => Nat.lt_of_lt_of_le (r.slt n hn) (size_sortW _ _ _ _ _ _ _ _)) (by simp [hcl, ‹C.length = cv.size›]; omega) hargs).mono ?_
          rintro e w' ⟨v, rr, h', S', rfl, hq, h3, h4, h5⟩
          obtain rfl := hq
          rw [h3.int_inv]
          refine ⟨?_, h5.toExt.grown⟩
          unfold ordx
          rw [hu]; rfl
        have hsd : (Array.range (xr.length + 1)).size = xr.length + 1 := Array.size_range
        have hcall := K.some_ enc henl henO (ordx fn x xr) hO gf cv m' 0 cap (Array.range (xr.length + 1)) w (fun args w => run_callFunc gf args w) hcmp hHold hmlt (by rw [hsd]; exact hlen)
        rw [hsd] at hcall
        simp only [Nat.zero_mul]
        refine hcall.mono ?_
        rintro e w' ⟨rfl, q, os, rfl⟩
        have hps := pdq_sorts (ltOf (ordx fn x xr)) hO (Array.range (xr.length + 1)) 0 (xr.length + 1) (Lib.bitLen (xr.length + 1)) true true (Nat.zero_le _) (by rw [hsd]; exact Nat.le_refl _) (Or.inl rfl)
        generalize hd' : pdq (ltOf (ordx fn x xr)) (Array.range (xr.length + 1)) 0 (xr.length + 1) (Lib.bitLen (xr.length + 1)) true true = d' at hps ⊢
        have hd's : d'.size = xr.length + 1 := by rw [hps.1.1, hsd]
        have hW : ∀ n, S n → S n ∧ (sortWorldK enc k w m' 0 q d' os).heap[n]? = w.heap[n]? := fun n hs =>
          ⟨hs, heap_sortW enc k w m' 0 q d' os (r.slt n hs) (fun e => nS (e ▸ hs))⟩
        have hEl : ∀ y ∈ (d'.toList.map (elx x xr)).map g, El k y := by
          intro y hy
          simp only [List.mem_map] at hy
          obtain ⟨z, ⟨i, _, rfl⟩, rfl⟩ := hy
          exact h0 _ (List.mem_map.2 ⟨_, elx_mem x xr i, rfl⟩)
        have hh : Go.Eng.Holds (sortWorldK enc k w m' 0 q d' os) S b (.arr k ((d'.toList.map (elx x xr)).map g)) := by
          refine ⟨hEl, by simp [hd's]; omega, .inr ⟨m', _, E, hb, row_sortW enc k w m' q d' os hrow, by simp [putCells, hsz], ?_⟩⟩
          intro j c v hc hv
          have hjl : j < (xr.length + 1) * k := by
            have := (List.getElem?_eq_some_iff.1 hc).1
            rw [flat_length hEl] at this
            simpa [hd's] using this
          have hdiv : j / k < xr.length + 1 := (Nat.div_lt_iff_lt_mul hk0).2 hjl
          have hmod : j % k < k := Nat.mod_lt _ hk0
          have hjr : j < row.size := by omega
          have hdj : (d'.toList.map (elx x xr))[j / k]? = some (elx x xr d'[j / k]!) := by
            rw [List.getElem?_map, Array.getElem?_toList, Array.getElem?_eq_getElem (by omega), getElem!_pos d' (j / k) (by omega)]; rfl
          have hc' : (g (elx x xr d'[j / k]!)).cells[j % k]? = some c := by
            rw [← flat_get (sz := k) hEl (i := j / k) (x := g (elx x xr d'[j / k]!)) (by rw [List.getElem?_map, hdj]; rfl) (j % k) hmod, Nat.div_add_mod']
            exact hc
          have hv' : (enc d'[j / k]!)[j % k]? = some v := by
            simp only [putCells, Array.getElem?_mapIdx, Array.getElem?_eq_getElem hjr, Option.map_some, Option.some.injEq] at hv
            rw [if_pos ⟨Nat.zero_le _, by rw [size_flatK, hd's]; omega⟩, Nat.sub_zero, hcell d' j (by rw [hd's]; exact hjl)] at hv
            have hlt : j % k < (enc d'[j / k]!).length := by rw [henl]; exact hmod
            rw [List.getElem?_eq_getElem hlt, ← hv]
            simp only [id, getElem!_pos (enc d'[j / k]!) (j % k) hlt]
          exact (henA _ _ _ _ hc' (by simpa using hv')).mono hW
        have hsz' := size_sortW enc k w m' 0 q d' os
        refine ⟨_, .tup [], _, S, rfl, ⟨rfl, rfl⟩, .tup [] #[] rfl (fun i c v hc => by simp at hc), ⟨r.nodup, fun e he => by rw [List.mem_singleton] at he; subst he; exact hh, fun e he n hn => ?_, fun n hn => Nat.lt_of_lt_of_le (r.slt n hn) hsz'⟩, ?_⟩
        · rw [List.mem_singleton] at he; subst he
          simp only at hn
          rw [hb] at hn
          obtain rfl := Option.some.inj hn
          exact ⟨fun hs => (nS hs).elim, fun hf => hf.elim⟩
        · refine ⟨rfl, rfl, rfl, hsz', hW, fun n hn hnh => ⟨heap_sortW enc k w m' 0 q d' os hn (fun e => hnh ⟨_, List.mem_singleton.2 rfl, by rw [e]; exact hb⟩), id⟩, ?_, ?_⟩
          · rintro n ⟨e, he, hen⟩
            rw [List.mem_singleton] at he; subst he
            exact .inl ⟨_, List.mem_singleton.2 rfl, hen⟩
          · show w.drawn ≤ (sortWorldK enc k w m' 0 q d' os).drawn
            show w.drawn ≤ w.drawn + q
            omega
      · simp at hl0
    · rw [if_neg hc] at h; cases h
end Go.Eng
