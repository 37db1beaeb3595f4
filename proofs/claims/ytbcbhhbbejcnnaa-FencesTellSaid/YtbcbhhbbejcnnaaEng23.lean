/- The engine, part 23: a region that draws its order and turns memory. No program in sight. -/
import Derived.Test.YtbcbhhbbejcnnaaEng22
set_option linter.unusedVariables false
namespace Go.Eng
open Go

theorem ATf.unroll {P : Program} {all : Array Oper} {n : Nat} {B : Heap} {tk : List Tok} {dy : List Nat} {i : Nat} {l : List Oper} {e e' : Env} {c : (Nat → Bk) → Env} {D : List (Option AV × (Bk → AV))} (h : ATf P all n B tk dy i l e c D e') :
    ∃ (en : Nat → Env) (cn : Nat → (Nat → Bk) → Env), en i = e ∧ cn i = c ∧ en (i + l.length) = e' ∧ D.length = l.length ∧ ∀ j o x V, l[j]? = some o → D[j]? = some (x, V) →
      (∀ β, TStep P all n (readT tk (i + j) β ++ B) o (orE (en (i + j)) (cn (i + j) β)) (tinT tk (i + j) β) V (fun b => toutT tk (i + j) (updB β (i + j) b))) ∧ en (i + j + 1) = eputO (en (i + j)) o.dst x ∧ (∀ av, x = some av → ∀ b, V b = av) ∧ (x = none → dy.contains (i + j) = true) ∧ cn (i + j + 1) = dynC x (cn (i + j)) o.dst V (i + j) := by
  induction h with
  | nil i e c => exact ⟨fun _ => e, fun _ => c, rfl, rfl, rfl, rfl, fun j o x V h => by simp at h⟩
  | @cons i o l e e' c D x V h hv hx k ih =>
    obtain ⟨en, cn, h0, hc0, h1, h2, h3⟩ := ih
    refine ⟨fun k => if k = i then e else en k, fun k => if k = i then c else cn k, by simp, by simp, ?_, by simp [h2], fun j o' x' V' ho hD => ?_⟩
    · show (if i + (o :: l).length = i then e else en (i + (o :: l).length)) = e'
      rw [if_neg (by simp), ← h1]
      congr 1
      simp; omega
    · match j with
      | 0 =>
        simp at ho hD
        obtain ⟨rfl, rfl⟩ := hD
        subst ho
        simp only [Nat.add_zero, if_true]
        refine ⟨h, ?_, hv, hx, ?_⟩
        · rw [if_neg (by omega), h0]
        · rw [if_neg (by omega), hc0]
      | j + 1 =>
        have := h3 j o' x' V' (by simpa using ho) (by simpa using hD)
        rw [show i + 1 + j = i + (j + 1) by omega] at this
        simp only
        rw [if_neg (show ¬ i + (j + 1) = i by omega), if_neg (show ¬ i + (j + 1) + 1 = i by omega), if_neg (show ¬ i + (j + 1) = i by omega), if_neg (show ¬ i + (j + 1) + 1 = i by omega)]
        exact this

def uniqB (l : List Oper) (dy : List Nat) : Bool := dy.all fun i => (List.range l.length).all fun j => Nat.beq i j || (match l[i]?, l[j]? with
  | some oi, some oj => (match oi.dst, oj.dst with | some d, some d' => !Nat.beq d d' | _, _ => true)
  | _, _ => true)
theorem uniqB_spec {l : List Oper} {dy : List Nat} (h : uniqB l dy = true) {i j : Nat} {oi oj : Oper} {d : Nat} (hi : dy.contains i = true) (hij : i ≠ j) (h1 : l[i]? = some oi) (h2 : l[j]? = some oj) (hd : oi.dst = some d) : oj.dst ≠ some d := by
  intro hd'
  have hm : i ∈ dy := by simpa using hi
  have hj : j < l.length := (List.getElem?_eq_some_iff.1 h2).1
  have := List.all_eq_true.1 (List.all_eq_true.1 h i hm) j (List.mem_range.2 hj)
  rw [h1, h2] at this
  simp only [hd, hd'] at this
  have hb : Nat.beq i j = false := nbeq_f' hij
  rw [hb] at this
  simp at this

def startT (tk : List Tok) : Heap := (tk.filter (fun t => t.prod.isNone)).map (fun t => t.at (fun _ => ⟨none, 0⟩))

theorem lk_app : ∀ (a b : List (Nat × AV)) (s : Nat) (av : AV), lk (a ++ b) s = some av → lk a s = some av ∨ lk b s = some av
  | [], b, s, av, h => .inr h
  | (k, v) :: a, b, s, av, h => by
    simp only [List.cons_append, lk] at h ⊢
    split at h
    · exact .inl h
    · exact lk_app a b s av h

theorem dynS_mem (β : Nat → Bk) : ∀ (l : List Oper) (D : List (Option AV × (Bk → AV))) (i : Nat) (a : List (Nat × AV)) (s : Nat) (av : AV), lk (dynS β i l D a) s = some av → lk a s = some av ∨ ∃ (j : Nat) (o : Oper) (V : Bk → AV), l[j]? = some o ∧ D[j]? = some (none, V) ∧ o.dst = some s ∧ av = V (β (i + j))
  | [], D, i, a, s, av, h => by
    have : dynS β i [] D a = a := by cases D <;> rfl
    rw [this] at h; exact .inl h
  | o :: l, [], i, a, s, av, h => .inl h
  | o :: l, (some x, V) :: D, i, a, s, av, h => by
    simp only [dynS] at h
    rcases dynS_mem β l D (i + 1) a s av h with h | ⟨j, o', V', h1, h2, h3, h4⟩
    · exact .inl h
    · exact .inr ⟨j + 1, o', V', by simpa using h1, by simpa using h2, h3, by rw [h4]; congr 2; omega⟩
  | o :: l, (none, V) :: D, i, a, s, av, h => by
    simp only [dynS] at h
    cases hd : o.dst with
    | none =>
      rw [hd] at h
      rcases dynS_mem β l D (i + 1) a s av h with h | ⟨j, o', V', h1, h2, h3, h4⟩
      · exact .inl h
      · exact .inr ⟨j + 1, o', V', by simpa using h1, by simpa using h2, h3, by rw [h4]; congr 2; omega⟩
    | some d =>
      rw [hd] at h
      rcases dynS_mem β l D (i + 1) _ s av h with h5 | ⟨j, o', V', h1, h2, h3, h4⟩
      · simp only [lk] at h5
        split at h5
        · rename_i hb
          obtain rfl : d = s := by simpa using hb
          exact .inr ⟨0, o, V, rfl, rfl, hd, by simpa using (Option.some.inj h5).symm⟩
        · exact .inl h5
      · exact .inr ⟨j + 1, o', V', by simpa using h1, by simpa using h2, h3, by rw [h4]; congr 2; omega⟩

theorem ATodo.regionT {P : Program} {R : St → Prop} {k : List It} {id n : Nat} {tm : List (Nat × AV)} {hp : Heap} {l hd tl : List Oper} (m : Nat) (hm : P.follows .mixedOrders = true) (hs : splO m l = some (hd, tl)) {A : List Nat} (hA : ancs l.toArray = A) (hB0 : monoB l.toArray m A = true)
    (tk : List Tok) (dy : List Nat) (hT0 : tokB A m tk = true) (hU0 : uniqB hd dy = true) {B H0 : Heap} (hst : startT tk = H0) (hsel : Sel hp H0 B) {HH : (Nat → Bk) → Heap} (hend : ∀ β, appO (endT tk β) B = some (HH β))
    (h : AT P l.toArray n B tk dy 0 hd tm (fun _ => []) (fun β tm' => ARun P l.toArray tl ⟨n, tm', HH β⟩ (ATodo P R k))) : ATodo P R (.code (.region id l.toArray true) :: k) ⟨n, tm, hp⟩ := by
  have hB : MonoB l.toArray m := ⟨A, hA, hB0⟩
  have hT : TokOk l.toArray m tk := tokB_spec hA hT0
  intro w S a r
  obtain ⟨hl, hml⟩ := splO_spec hs
  obtain ⟨D, tm', hAf, hrun⟩ := h
  obtain ⟨en, cn, e0, ec0, e1, e2, e3⟩ := hAf.unroll
  rw [Nat.zero_add, hml] at e1
  have hsz : m ≤ l.toArray.size := by simp [hl, hml]
  let avs : Nat → Option AV := fun j => (D[j]?).bind (·.1)
  let V : Nat → Bk → AV := fun j => match D[j]? with | some x => x.2 | none => fun _ => .nil
  have hget : ∀ j o, j < m → l.toArray[j]? = some o → hd[j]? = some o := by
    intro j o hj ho
    have : l[j]? = some o := by simpa using ho
    rw [hl, List.getElem?_append_left (by omega)] at this
    exact this
  have hD : ∀ j, j < m → ∃ x W, D[j]? = some (x, W) ∧ avs j = x ∧ V j = W := by
    intro j hj
    have : j < D.length := by rw [e2, hml]; exact hj
    refine ⟨D[j].1, D[j].2, by simp [this], ?_, ?_⟩
    · simp [avs, this]
    · simp [V, this]
  refine wp_region_any hm ?_
  have hdraw : Ext w { w with drawn := w.drawn + 1 } := Ext.draws w _ (Nat.le_succ _)
  let β0 : Nat → Bk := fun _ => ⟨none, 0⟩
  have hf : ∀ k, (Array.replicate l.toArray.size false).getD k false = false := by
    intro k
    rcases Nat.lt_or_ge k l.toArray.size with h | h
    · simp at h; simp [h]
    · simp at h; simp [Nat.not_lt.2 h]
  have hc0 : ∀ k, curO l.toArray avs (lk tm) (Array.replicate l.toArray.size false) k = lk tm := by
    intro k
    induction k with
    | zero => rfl
    | succ k ih => simp only [curO, ih]; rw [if_neg (by rw [hf k]; simp)]
  have hh0 : heapT tk (Array.replicate l.toArray.size false) β0 = H0 := by
    rw [← hst]
    unfold heapT startT
    have e : tk.filter (onT (Array.replicate l.toArray.size false)) = tk.filter (fun t => t.prod.isNone) := by
      apply List.filter_congr
      intro t ht
      unfold onT
      cases t.prod with
      | none =>
        cases t.cons with
        | none => rfl
        | some c => simp only [hf c, Bool.not_false, Bool.and_self, Option.isNone]
      | some p => simp only [hf p, Bool.false_and, Option.isNone]
    rw [e]
  have hperm := hsel.perm
  have hr0 : HRel { w with drawn := w.drawn + 1 } S (heapT tk (Array.replicate l.toArray.size false) β0 ++ B) := by
    rw [hh0]; exact (r.hp.ext hdraw).perm hperm
  have ev0 : Evo w S hp { w with drawn := w.drawn + 1 } S (heapT tk (Array.replicate l.toArray.size false) β0 ++ B) := by
    rw [hh0]
    have := Evo.ext (h := hp) r.hp.slt hdraw
    exact { this with new := fun k hk => this.new k (by
      obtain ⟨x, hx, hb⟩ := hk
      exact ⟨x, hperm.mem_iff.2 hx, hb⟩) }
  refine any_headT (P := P) (all := l.toArray) (n := n) (m := m) (avs := avs) (en := en) (cn := cn) (e := lk tm) (V := V) (B := B) (tk := tk) hB hT hsz e0 (fun β s => by rw [ec0]; rfl) ?_ ?_ ?_ (w0 := w) (S0 := S) (hp0 := hp) ?_ l.toArray.size (Array.replicate l.toArray.size false) a _ S β0
    ⟨by simp, (fun k hk => by rw [hf k] at hk; cases hk), (fun k i o hk => by rw [hf k] at hk; cases hk)⟩ (by simp [List.count_replicate]) r.size r.defers hr0 ev0 (by rw [hc0]; exact (r.ext hdraw).tm) (fun j o d hj => by rw [hf j] at hj; cases hj)
  · intro i o hi ho β
    obtain ⟨x, W, d1, d2, d3⟩ := hD i hi
    have := e3 i o x W (hget i o hi ho) d1
    rw [Nat.zero_add] at this
    rw [d2, d3, this.2.2.2.2]; rfl
  · intro i o hi ho
    obtain ⟨x, W, d1, d2, d3⟩ := hD i hi
    have := e3 i o x W (hget i o hi ho) d1
    rw [Nat.zero_add] at this
    rw [d2, d3]
    exact ⟨this.1, this.2.1, this.2.2.1⟩
  · intro i j oi oj d hi hj hij hoi hoj hav hdd
    obtain ⟨x, W, d1, d2, d3⟩ := hD i hi
    have := e3 i oi x W (hget i oi hi hoi) d1
    rw [Nat.zero_add] at this
    exact uniqB_spec hU0 (this.2.2.2.1 (by rw [← d2]; exact hav)) hij (hget i oi hi hoi) (hget j oj hj hoj) hdd
  · intro β a' w' S' h1 h2 h3 h4 h5 h6
    have htl : l.toArray.toList.drop m = tl := by
      simp only [hl, ← hml]
      exact List.drop_left
    rw [htl]
    rw [appO_eq (hend β)] at h3 h4
    rw [e1] at h5
    refine wpList_mono ?_ _ _ _ ((hrun β).go (h := hp) (w := w) (S := S) ⟨h1, h2, fun s av hlk => ?_, h3⟩ h4)
    · rintro ex a2 w2 ⟨rfl, σ2, S2, q1, q2, q3⟩
      exact ⟨σ2, S2, q1, q2, q3⟩
    · rcases lk_app _ _ _ _ hlk with hlk | hlk
      · rcases dynS_mem β hd D 0 [] s av hlk with hlk | ⟨j, o, W, g1, g2, g3, g4⟩
        · cases hlk
        · have hj : j < m := by rw [← hml]; exact (List.getElem?_eq_some_iff.1 g1).1
          obtain ⟨x, W', d1, d2, d3⟩ := hD j hj
          rw [g2] at d1
          obtain ⟨rfl, rfl⟩ := Prod.mk.inj (Option.some.inj d1)
          have hoj : l.toArray[j]? = some o := by
            have : l[j]? = some o := by rw [hl, List.getElem?_append_left (by omega)]; exact g1
            simpa using this
          obtain ⟨v, k1, k2⟩ := h6 j o s hj hoj d2 g3
          rw [d3] at k2
          rw [g4, Nat.zero_add]
          exact ⟨v, k1, k2⟩
      · exact h5 s av hlk
end Go.Eng
