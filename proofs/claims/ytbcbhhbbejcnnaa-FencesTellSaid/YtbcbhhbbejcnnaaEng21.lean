/- The engine, part 21: regions that draw their order, with operations that turn memory: each piece of memory that is turned goes from hand to hand. No program in sight. -/
import Derived.Test.YtbcbhhbbejcnnaaEng20
set_option linter.unusedVariables false
namespace Go.Eng
open Go

def eputO (e : Env) (d : Option Nat) (o : Option AV) : Env := match d with
  | some d => fun s => if d = s then o else e s
  | none => e
theorem eputO_ne {e : Env} {d : Option Nat} {o : Option AV} {s : Nat} (h : d ≠ some s) : eputO e d o s = e s := by
  cases d with
  | none => rfl
  | some d => simp only [eputO]; rw [if_neg (fun e => h (by rw [e]))]
theorem eputO_eq {e : Env} {o : Option AV} {s : Nat} : eputO e (some s) o s = o := by simp [eputO]

section order
variable {P : Program} {all : Array Oper} {n m : Nat} {hp : Heap}
def curO (all : Array Oper) (avs : Nat → Option AV) (e : Env) (listed : Array Bool) : Nat → Env
  | 0 => e
  | k + 1 => if listed.getD k false then eputO (curO all avs e listed k) ((all[k]?).bind (·.dst)) (avs k) else curO all avs e listed k

variable {avs : Nat → Option AV} {en : Nat → Env} {e : Env}
theorem curO_look (hB : MonoB all m) {listed : Array Bool} (L : LOk all m listed) (h0 : en 0 = e) (hs : ∀ i o, i < m → all[i]? = some o → en (i + 1) = eputO (en i) o.dst (avs i)) (hm : m ≤ all.size)
    {i : Nat} {o : Oper} (ho : all[i]? = some o) (him : i < m) (hni : listed.getD i false = false) (hr : ∀ j, Anc all i j → listed.getD j false = true) {s : Nat} (hsl : s ∈ looks all o) : ∀ k, k ≤ all.size → curO all avs e listed k s = en (min k i) s := by
  intro k
  induction k with
  | zero => intro _; simp [curO, h0]
  | succ k ih =>
    intro hk
    have ihk := ih (by omega)
    have hok : all[k]? = some all[k] := by simp [show k < all.size by omega]
    simp only [curO, hok, Option.bind_some]
    rcases Nat.lt_trichotomy k i with hlt | heq | hgt
    · rw [Nat.min_eq_left (by omega)] at ihk
      rw [Nat.min_eq_left (by omega), hs k _ (by omega) hok]
      by_cases hd : (all[k]).dst = some s
      · have hl : listed.getD k false = true := hr k ((monoB_spec hB ho hok hlt).1 him (clash_look hd hsl))
        rw [if_pos hl, hd, eputO_eq, eputO_eq]
      · rw [eputO_ne hd]
        split
        · rw [eputO_ne hd]; exact ihk
        · exact ihk
    · subst heq
      rw [hni]
      simp only [Bool.false_eq_true, if_false]
      rw [Nat.min_eq_right (by omega)]
      rw [Nat.min_eq_right (by omega)] at ihk
      exact ihk
    · rw [Nat.min_eq_right (by omega)] at ihk
      rw [Nat.min_eq_right (by omega)]
      by_cases hl : listed.getD k false = true
      · by_cases hd : (all[k]).dst = some s
        · exfalso
          have hw := (monoB_spec hB hok ho hgt).1 (L.head k hl) (clash_look' hd hsl)
          have := Closed.anc L.closed hw hl
          rw [hni] at this; cases this
        · rw [if_pos hl, eputO_ne hd]; exact ihk
      · rw [if_neg hl]; exact ihk

theorem curO_set (hB : MonoB all m) {listed : Array Bool} (L : LOk all m listed) {i : Nat} {o : Oper} (ho : all[i]? = some o) (him : i < m) (hni : listed.getD i false = false) (s : Nat) :
    ∀ k, k ≤ all.size → curO all avs e (listed.setIfInBounds i true) k s = (if i < k then eputO (curO all avs e listed k) o.dst (avs i) s else curO all avs e listed k s) := by
  have hi : i < listed.size := by rw [L.size]; exact (Array.getElem?_eq_some_iff.1 ho).1
  intro k
  induction k with
  | zero => intro _; simp [curO]
  | succ k ih =>
    intro hk
    have ihk := ih (by omega)
    have hok : all[k]? = some all[k] := by simp [show k < all.size by omega]
    simp only [curO, hok, Option.bind_some, getD_set hi]
    rcases Nat.lt_trichotomy k i with hlt | heq | hgt
    · rw [if_neg (by omega)] at ihk
      have e1 : (if k = i then true else listed.getD k false) = listed.getD k false := if_neg (by omega)
      rw [e1, if_neg (show ¬ i < k + 1 by omega)]
      by_cases hl : listed.getD k false = true
      · rw [if_pos hl, if_pos hl]
        by_cases hd : (all[k]).dst = some s
        · rw [hd, eputO_eq, eputO_eq]
        · rw [eputO_ne hd, eputO_ne hd]; exact ihk
      · rw [if_neg hl, if_neg hl]; exact ihk
    · subst heq
      rw [if_neg (by omega)] at ihk
      have e1 : (if k = k then true else listed.getD k false) = true := if_pos rfl
      rw [e1, if_pos (show k < k + 1 by omega), if_pos rfl, hni, if_neg Bool.false_ne_true]
      obtain rfl : all[k] = o := by rw [hok] at ho; exact Option.some.inj ho
      by_cases hd : (all[k]).dst = some s
      · rw [hd, eputO_eq, eputO_eq]
      · rw [eputO_ne hd, eputO_ne hd]; exact ihk
    · rw [if_pos hgt] at ihk
      have e1 : (if k = i then true else listed.getD k false) = listed.getD k false := if_neg (by omega)
      rw [e1, if_pos (show i < k + 1 by omega)]
      by_cases hl : listed.getD k false = true
      · rw [if_pos hl, if_pos hl]
        by_cases hd : (all[k]).dst = some s
        · by_cases hdi : o.dst = some s
          · exfalso
            have hw := (monoB_spec hB hok ho hgt).1 (L.head k hl) (clash_dst hdi hd)
            have := Closed.anc L.closed hw hl
            rw [hni] at this; cases this
          · rw [hd, eputO_eq, eputO_ne hdi, eputO_eq]
        · by_cases hdi : o.dst = some s
          · rw [eputO_ne hd, ihk, hdi, eputO_eq, eputO_eq]
          · rw [eputO_ne hd, ihk, eputO_ne hdi, eputO_ne hdi, eputO_ne hd]
      · rw [if_neg hl, if_neg hl]; exact ihk


/-- A piece of memory that is turned in the region: which operation hands it on, which one takes it. -/
structure Tok where
  prod : Option Nat
  cons : Option Nat
  rds : List Nat
  ent : Bk → Bk × Ob
  adr : Option Nat
def Tok.ix (t : Tok) : Option Nat := match t.adr with | some a => some a | none => t.prod
def Tok.at (t : Tok) (β : Nat → Bk) : Bk × Ob := t.ent (match t.ix with | some i => β i | none => ⟨none, 0⟩)
def onT (listed : Array Bool) (t : Tok) : Bool := (match t.prod with | none => true | some i => listed.getD i false) && (match t.cons with | none => true | some i => !listed.getD i false)
def isC (i : Nat) (t : Tok) : Bool := match t.cons with | some c => Nat.beq c i | none => false
def isP (i : Nat) (t : Tok) : Bool := match t.prod with | some c => Nat.beq c i | none => false
def isR (i : Nat) (t : Tok) : Bool := t.rds.contains i
def readT (tk : List Tok) (i : Nat) (β : Nat → Bk) : Heap := (tk.filter (isR i)).map (·.at β)
def heapT (tk : List Tok) (listed : Array Bool) (β : Nat → Bk) : Heap := (tk.filter (onT listed)).map (·.at β)
def tinT (tk : List Tok) (i : Nat) (β : Nat → Bk) : Heap := (tk.filter (isC i)).map (·.at β)
def toutT (tk : List Tok) (i : Nat) (β : Nat → Bk) : Heap := (tk.filter (isP i)).map (·.at β)
def updB (β : Nat → Bk) (i : Nat) (b : Bk) : Nat → Bk := fun k => bif Nat.beq k i then b else β k
theorem updB_eq (β : Nat → Bk) (i : Nat) (b : Bk) : updB β i b i = b := by simp [updB]
theorem updB_ne {β : Nat → Bk} {i k : Nat} {b : Bk} (h : k ≠ i) : updB β i b k = β k := by simp [updB, nbeq_f' h]
def endT (tk : List Tok) (β : Nat → Bk) : Heap := (tk.filter (fun t => t.cons.isNone)).map (·.at β)

def tokB (A : List Nat) (m : Nat) (tk : List Tok) : Bool := tk.all fun t =>
  (match t.prod with | some p => Nat.blt p m | none => true) && (match t.cons with | some c => Nat.blt c m && (match t.prod with | some p => (A.getD c 0).testBit p | none => true) | none => true) &&
  (match t.adr with | some a => (match t.prod with | some p => (A.getD p 0).testBit a | none => false) | none => true) &&
  t.rds.all fun i => Nat.blt i m && (match t.prod with | some p => (A.getD i 0).testBit p | none => true) && (match t.cons with | some c => (A.getD c 0).testBit i | none => true)
def TokOk (all : Array Oper) (m : Nat) (tk : List Tok) : Prop := ∀ t ∈ tk, (∀ p, t.prod = some p → p < m) ∧ (∀ c, t.cons = some c → c < m ∧ ∀ p, t.prod = some p → Anc all c p) ∧ (∀ i, isR i t = true → i < m ∧ (∀ p, t.prod = some p → Anc all i p) ∧ ∀ c, t.cons = some c → Anc all c i) ∧ ∀ a, t.adr = some a → ∃ p, t.prod = some p ∧ Anc all p a
theorem tokB_spec {A : List Nat} {tk : List Tok} (hA : ancs all = A) (h : tokB A m tk = true) : TokOk all m tk := by
  intro t ht
  have := List.all_eq_true.1 h t ht
  rw [Bool.and_eq_true, Bool.and_eq_true, Bool.and_eq_true] at this
  obtain ⟨⟨⟨h1, h2⟩, h9⟩, h4⟩ := this
  subst hA
  refine ⟨fun p hp => by rw [hp] at h1; simpa using h1, fun c hc => ?_, fun i hi => ?_, fun a ha => ?_⟩
  · rw [hc] at h2
    simp only [Bool.and_eq_true] at h2
    refine ⟨by simpa using h2.1, fun p hp => ?_⟩
    have h3 := h2.2
    rw [hp] at h3
    exact ancs_spec h3
  · have h5 := List.all_eq_true.1 h4 i (by simpa [isR] using hi)
    rw [Bool.and_eq_true, Bool.and_eq_true] at h5
    obtain ⟨⟨h6, h7⟩, h8⟩ := h5
    exact ⟨by simpa using h6, fun p hp => by rw [hp] at h7; exact ancs_spec h7, fun c hc => by rw [hc] at h8; exact ancs_spec h8⟩
  · rw [ha] at h9
    cases hp : t.prod with
    | none => rw [hp] at h9; cases h9
    | some p => rw [hp] at h9; exact ⟨p, rfl, ancs_spec h9⟩

theorem filter_split {α : Type} (p q : α → Bool) (l : List α) : (l.filter p).Perm (l.filter (fun x => p x && q x) ++ l.filter (fun x => p x && !q x)) := by
  induction l with
  | nil => exact List.Perm.refl _
  | cons x l ih =>
    simp only [List.filter_cons]
    cases hp : p x <;> cases hq : q x
    · simpa using ih
    · simpa using ih
    · simp only [Bool.true_and, Bool.not_false, Bool.false_eq_true, if_false, if_true]
      exact (List.Perm.cons x ih).trans List.perm_middle.symm
    · simp only [Bool.true_and, Bool.not_true, Bool.false_eq_true, if_false, if_true, List.cons_append]
      exact List.Perm.cons x ih

theorem tok_in {tk : List Tok} (hT : TokOk all m tk) {listed : Array Bool} {i : Nat} (hni : listed.getD i false = false) (hanc : ∀ j, Anc all i j → listed.getD j false = true) (β : Nat → Bk) :
    (heapT tk listed β).Perm (tinT tk i β ++ (tk.filter (fun t => onT listed t && !isC i t)).map (·.at β)) := by
  unfold heapT tinT
  rw [← List.map_append]
  refine List.Perm.map _ ?_
  have e : tk.filter (isC i) = tk.filter (fun t => onT listed t && isC i t) := by
    apply List.filter_congr
    intro t ht
    cases hc : isC i t with
    | false => simp
    | true =>
      unfold isC at hc
      split at hc
      · rename_i c hcc
        obtain rfl : c = i := Nat.eq_of_beq_eq_true hc
        have := (hT t ht).2.1 c hcc
        have hon : onT listed t = true := by
          unfold onT
          rw [hcc]
          simp only [hni, Bool.not_false, Bool.and_true]
          split
          · rfl
          · rename_i p hp; exact hanc p (this.2 p hp)
        rw [hon]; rfl
      · cases hc
  rw [e]
  exact filter_split _ _ _

theorem tok_out {tk : List Tok} (hT : TokOk all m tk) {listed : Array Bool} (hcl : Closed all listed) {i : Nat} (hi : i < listed.size) (hni : listed.getD i false = false) (hirr : ∀ c, Anc all c i → c ≠ i) (β : Nat → Bk) (b : Bk) :
    (heapT tk (listed.setIfInBounds i true) (updB β i b)).Perm (toutT tk i (updB β i b) ++ (tk.filter (fun t => onT listed t && !isC i t)).map (·.at β)) := by
  unfold heapT toutT
  have e2 : (tk.filter (fun t => onT listed t && !isC i t)).map (·.at β) = (tk.filter (fun t => onT listed t && !isC i t)).map (·.at (updB β i b)) := by
    apply List.map_congr_left
    intro t ht
    have h0 := (List.mem_filter.1 ht).1
    have h1 := (List.mem_filter.1 ht).2
    rw [Bool.and_eq_true] at h1
    have hpr : ∀ p, t.prod = some p → listed.getD p false = true := by
      intro p hp
      have := h1.1
      unfold onT at this
      rw [hp, Bool.and_eq_true] at this
      exact this.1
    unfold Tok.at
    cases hx : t.ix with
    | none => rfl
    | some p =>
      have hpl : listed.getD p false = true := by
        unfold Tok.ix at hx
        cases ha : t.adr with
        | none => rw [ha] at hx; exact hpr p hx
        | some a =>
          rw [ha] at hx
          obtain rfl := Option.some.inj hx
          obtain ⟨q, q1, q2⟩ := (hT t h0).2.2.2 a ha
          exact hcl.anc q2 (hpr q q1)
      have : p ≠ i := fun e => by subst e; rw [hni] at hpl; cases hpl
      simp only [updB_ne this]
  rw [e2, ← List.map_append]
  refine List.Perm.map _ ?_
  refine (filter_split _ (isP i) _).trans ?_
  have f1 : tk.filter (fun t => onT (listed.setIfInBounds i true) t && isP i t) = tk.filter (isP i) := by
    apply List.filter_congr
    intro t ht
    cases hp : isP i t with
    | false => simp
    | true =>
      unfold isP at hp
      split at hp
      · rename_i p hpp
        obtain rfl : p = i := Nat.eq_of_beq_eq_true hp
        have hon : onT (listed.setIfInBounds p true) t = true := by
          unfold onT
          rw [hpp]
          simp only [getD_set hi, if_true, Bool.true_and]
          cases hc : t.cons with
          | none => rfl
          | some c =>
            have hanc := ((hT t ht).2.1 c hc).2 p hpp
            have hne := hirr c hanc
            simp only [hne, if_false]
            cases hl : listed.getD c false with
            | false => rfl
            | true => have := hcl.anc hanc hl; rw [hni] at this; cases this
        rw [hon]; rfl
      · cases hp
  have f2 : tk.filter (fun t => onT (listed.setIfInBounds i true) t && !isP i t) = tk.filter (fun t => onT listed t && !isC i t) := by
    apply List.filter_congr
    intro t ht
    unfold onT isP isC
    cases hp : t.prod with
    | none =>
      cases hc : t.cons with
      | none => simp
      | some c =>
        simp only [getD_set hi]
        by_cases hci : c = i
        · subst hci; simp
        · have : Nat.beq c i = false := nbeq_f' hci
          simp [hci, this]
    | some p =>
      by_cases hpi : p = i
      · subst hpi
        simp [hni]
      · have hb : Nat.beq p i = false := nbeq_f' hpi
        cases hc : t.cons with
        | none => simp [getD_set hi, hpi, hb]
        | some c =>
          simp only [getD_set hi, hpi, hb, if_false]
          by_cases hci : c = i
          · subst hci; simp
          · have : Nat.beq c i = false := nbeq_f' hci
            simp [hci, this]
  rw [f1, f2]

/-- Of what stays, what an operation reads. -/
theorem tok_read {tk : List Tok} (hT : TokOk all m tk) {listed : Array Bool} (hcl : Closed all listed) {i : Nat} (hni : listed.getD i false = false) (hanc : ∀ j, Anc all i j → listed.getD j false = true) (hirr : ∀ c, Anc all c i → c ≠ i) (β : Nat → Bk) :
    ((tk.filter (fun t => onT listed t && !isC i t)).map (·.at β)).Perm (readT tk i β ++ (tk.filter (fun t => (onT listed t && !isC i t) && !isR i t)).map (·.at β)) := by
  unfold readT
  rw [← List.map_append]
  refine List.Perm.map _ ?_
  have e : tk.filter (isR i) = tk.filter (fun t => (onT listed t && !isC i t) && isR i t) := by
    apply List.filter_congr
    intro t ht
    cases hr : isR i t with
    | false => simp
    | true =>
      obtain ⟨_, q2, q3⟩ := (hT t ht).2.2.1 i hr
      have h1 : onT listed t = true := by
        unfold onT
        have e1 : (match t.prod with | none => true | some i => listed.getD i false) = true := by
          cases hp : t.prod with
          | none => rfl
          | some p => exact hanc p (q2 p hp)
        have e2 : (match t.cons with | none => true | some i => !listed.getD i false) = true := by
          cases hc : t.cons with
          | none => rfl
          | some c =>
            have := q3 c hc
            show (!listed.getD c false) = true
            cases hl : listed.getD c false with
            | false => rfl
            | true => have := hcl.anc this hl; rw [hni] at this; cases this
        rw [e1, e2]; rfl
      have h2 : isC i t = false := by
        unfold isC
        cases hc : t.cons with
        | none => rfl
        | some c => exact nbeq_f' (hirr c (q3 c hc))
      rw [h1, h2]; rfl
  rw [e]
  exact filter_split _ _ _

/-- An operation that takes some memory, hands on other memory, and yields a value. -/
def TV (P : Program) (all : Array Oper) (n : Nat) (B : Heap) (o : Oper) (e : Env) (Ti : Heap) (V : Bk → AV) (Pi : Bk → Heap) : Prop :=
  ∀ w S a, a.tmps.size = n → a.defers = [] → HRel w S (Ti ++ B) → RelE w S (looks all o) e a → ∀ (K : Act → World → Prop) (Q : Exit → Act → World → Prop),
    (∀ b v w' S', Evo w S (Ti ++ B) w' S' (Pi b ++ B) → HRel w' S' (Pi b ++ B) → At w' S' (V b) v → K (a.put o.dst v) w') → o.wp P a w K Q
def TStep (P : Program) (all : Array Oper) (n : Nat) (B : Heap) (o : Oper) (e : Env) (Ti : Heap) (V : Bk → AV) (Pi : Bk → Heap) : Prop :=
  (∀ d, o.dst = some d → d < n) ∧ ((Wanted all o e true ∧ TV P all n B o e Ti V Pi) ∨ (Wanted all o e false ∧ ∀ b, Pi b = Ti ∧ V b = .raw undef))

/-- What an operation may look at: values that are told, and new memory. -/
def orE (e c : Env) : Env := fun s => match e s with | some av => some av | none => c s
theorem orE_l {e c : Env} {s : Nat} {av : AV} (h : e s = some av) : orE e c s = some av := by simp [orE, h]
theorem Wanted.up {all : Array Oper} {o : Oper} {e c : Env} {b : Bool} (h : Wanted all o e b) : Wanted all o (orE e c) b := by
  unfold Wanted at *
  cases hg : o.guard with
  | none => rw [hg] at h; exact h
  | some g =>
    rw [hg] at h
    obtain ⟨s, h1, h2⟩ := h
    refine ⟨s, h1, ?_⟩
    rcases h2 with ⟨x, h3, h4⟩ | ⟨h3, h4⟩
    · exact .inl ⟨x, orE_l h3, h4⟩
    · exact .inr ⟨orE_l h3, h4⟩
theorem RelE.down {w : World} {S : Nat → Prop} {ls : List Nat} {e c : Env} {a : Act} (h : RelE w S ls (orE e c) a) : RelE w S ls e a := fun s hs av hav => h s hs av (orE_l hav)
theorem TStep.up {P : Program} {all : Array Oper} {n : Nat} {B : Heap} {o : Oper} {e c : Env} {Ti : Heap} {V : Bk → AV} {Pi : Bk → Heap} (h : TStep P all n B o e Ti V Pi) : TStep P all n B o (orE e c) Ti V Pi := by
  refine ⟨h.1, h.2.imp (fun x => ⟨x.1.up, fun w S a h1 h2 h3 h4 => x.2 w S a h1 h2 h3 h4.down⟩) (fun x => ⟨x.1.up, x.2⟩)⟩
theorem dyn_from {all : Array Oper} {avs : Nat → Option AV} {V : Nat → Bk → AV} {cn : Nat → (Nat → Bk) → Env} {m : Nat} (h0 : ∀ β s, cn 0 β s = none) (hc : ∀ i o, i < m → all[i]? = some o → ∀ β, cn (i + 1) β = match avs i with | none => eputO (cn i β) o.dst (some (V i (β i))) | some _ => cn i β) (hm : m ≤ all.size) :
    ∀ i, i ≤ m → ∀ β s av, cn i β s = some av → ∃ k o, k < i ∧ all[k]? = some o ∧ o.dst = some s ∧ avs k = none ∧ av = V k (β k) := by
  intro i
  induction i with
  | zero => intro _ β s av h; rw [h0] at h; cases h
  | succ i ih =>
    intro hi β s av h
    have hok : all[i]? = some all[i] := by simp [show i < all.size by omega]
    rw [hc i _ (by omega) hok] at h
    cases hav : avs i with
    | some x =>
      rw [hav] at h
      obtain ⟨k, o, h1, h2⟩ := ih (by omega) β s av h
      exact ⟨k, o, by omega, h2⟩
    | none =>
      rw [hav] at h
      by_cases hd : (all[i]).dst = some s
      · simp only [hd, eputO_eq] at h
        exact ⟨i, _, by omega, hok, hd, hav, (Option.some.inj h).symm⟩
      · simp only [eputO_ne hd] at h
        obtain ⟨k, o, h1, h2⟩ := ih (by omega) β s av h
        exact ⟨k, o, by omega, h2⟩

theorem any_headT {cn : Nat → (Nat → Bk) → Env} {B : Heap} {tk : List Tok} {V : Nat → Bk → AV} (hB : MonoB all m) (hT : TokOk all m tk) (hm : m ≤ all.size) {Q : Exit → Act → World → Prop} (h0 : en 0 = e)
    (hc0 : ∀ β s, cn 0 β s = none) (hcn : ∀ i o, i < m → all[i]? = some o → ∀ β, cn (i + 1) β = match avs i with | none => eputO (cn i β) o.dst (some (V i (β i))) | some _ => cn i β)
    (hs : ∀ i o, i < m → all[i]? = some o → (∀ β, TStep P all n (readT tk i β ++ B) o (orE (en i) (cn i β)) (tinT tk i β) (V i) (fun b => toutT tk i (updB β i b))) ∧ en (i + 1) = eputO (en i) o.dst (avs i) ∧ (∀ av, avs i = some av → ∀ b, V i b = av))
    (hU : ∀ i j oi oj d, i < m → j < m → i ≠ j → all[i]? = some oi → all[j]? = some oj → avs i = none → oi.dst = some d → oj.dst ≠ some d) {w0 : World} {S0 : Nat → Prop} {hp0 : Heap}
    (fin : ∀ β a w S, a.tmps.size = n → a.defers = [] → HRel w S (endT tk β ++ B) → Evo w0 S0 hp0 w S (endT tk β ++ B) → EnvOk w S (en m) a → (∀ j o d, j < m → all[j]? = some o → avs j = none → o.dst = some d → ∃ v, a.tmps[d]? = some v ∧ At w S (V j (β j)) v) → wpList P all Q (all.toList.drop m) a w) :
    ∀ (fuel : Nat) (listed : Array Bool) (a : Act) (w : World) (S : Nat → Prop) (β : Nat → Bk), LOk all m listed → (listed.toList.count true) + fuel = all.size → a.tmps.size = n → a.defers = [] → HRel w S (heapT tk listed β ++ B) → Evo w0 S0 hp0 w S (heapT tk listed β ++ B) → EnvOk w S (curO all avs e listed all.size) a →
      (∀ j o d, listed.getD j false = true → all[j]? = some o → avs j = none → o.dst = some d → ∃ v, a.tmps[d]? = some v ∧ At w S (V j (β j)) v) →
      wpAny P .any all Q fuel listed a w := by
  have hs2 : ∀ i o, i < m → all[i]? = some o → en (i + 1) = eputO (en i) o.dst (avs i) := fun i o h1 h2 => (hs i o h1 h2).2.1
  have hirr : ∀ c i, Anc all c i → c ≠ i := by
    have key : ∀ c i, Anc all c i → i < c := by
      intro c i h
      have one : ∀ {j i : Nat} {oj : Oper}, all[j]? = some oj → waits oj i = true → i < j := by
        intro j i oj hj hw
        simp only [waits, List.any_eq_true, Bool.and_eq_true] at hw
        obtain ⟨e', he', hb', hon'⟩ := hw
        have := monoB_edge hB hj (by simpa using he') hb'
        obtain rfl : e'.on = i := Nat.eq_of_beq_eq_true hon'
        exact this
      induction h with
      | one hj hw => exact one hj hw
      | step hj hw _ ih => have := one hj hw; omega
    intro c i h e; have := key c i h; omega
  have done : ∀ (fuel : Nat) (listed : Array Bool) (a : Act) (w : World) (S : Nat → Prop) (β : Nat → Bk), LOk all m listed → (listed.toList.count true) + fuel = all.size → a.tmps.size = n → a.defers = [] → HRel w S (heapT tk listed β ++ B) → Evo w0 S0 hp0 w S (heapT tk listed β ++ B) → EnvOk w S (curO all avs e listed all.size) a →
      (∀ j o d, listed.getD j false = true → all[j]? = some o → avs j = none → o.dst = some d → ∃ v, a.tmps[d]? = some v ∧ At w S (V j (β j)) v) →
      (∀ i, i < m → listed.getD i false = true) → wpAny P .any all Q fuel listed a w := by
    intro fuel listed a w S β L hc hsz hdf hr hg hen hdyn hall
    have hno : ∀ i, m ≤ i → listed.getD i false = false := fun i hi => by
      cases hv : listed.getD i false with
      | false => rfl
      | true => have := L.head i hv; omega
    have hcount : listed.toList.count true = m := by
      have : listed.toList = List.replicate m true ++ List.replicate (all.size - m) false := by
        apply List.ext_getElem?
        intro i
        rcases Nat.lt_or_ge i m with hi | hi
        · have hil : i < listed.size := by rw [L.size]; omega
          rw [List.getElem?_append_left (by simpa using hi)]
          have := hall i hi
          simp [hil] at this
          simp [hil, hi, this]
        · rw [List.getElem?_append_right (by simpa using hi)]
          rcases Nat.lt_or_ge i listed.size with hil | hil
          · have := hno i hi
            simp [hil] at this
            have h2 : i - m < all.size - m := by rw [L.size] at hil; omega
            simp [hil, h2, this]
          · have h2 : ¬ i - m < all.size - m := by rw [L.size] at hil; omega
            simp [List.getElem?_eq_none (l := listed.toList) (by simpa using hil), h2]
      rw [this, List.count_append, List.count_replicate, List.count_replicate]
      simp
    have hcur : curO all avs e listed all.size = en m := by
      have key : ∀ k, k ≤ all.size → curO all avs e listed k = en (min k m) := by
        intro k
        induction k with
        | zero => intro _; simp [curO, h0]
        | succ k ih =>
          intro hk
          have hok : all[k]? = some all[k] := by simp [show k < all.size by omega]
          simp only [curO, hok, Option.bind_some, ih (by omega)]
          rcases Nat.lt_or_ge k m with h | h
          · rw [if_pos (hall k h), Nat.min_eq_left (by omega), Nat.min_eq_left (by omega), hs2 k _ h hok]
          · rw [if_neg (by rw [hno k h]; simp), Nat.min_eq_right (by omega), Nat.min_eq_right (by omega)]
      rw [key all.size (Nat.le_refl _), Nat.min_eq_right hm]
    have hheap : heapT tk listed β = endT tk β := by
      unfold heapT endT
      congr 1
      apply List.filter_congr
      intro t ht
      obtain ⟨q1, q2, _⟩ := hT t ht
      unfold onT
      cases hp : t.prod with
      | none =>
        cases hc : t.cons with
        | none => rfl
        | some c => simp [hall c (q2 c hc).1]
      | some p =>
        cases hc : t.cons with
        | none => simp [hall p (q1 p hp)]
        | some c => simp [hall c (q2 c hc).1]
    rw [hcur] at hen
    rw [hheap] at hr hg
    exact any_tail hB fuel m listed a w (Nat.le_refl _) (by omega) L.size hall hno (fin β a w S hsz hdf hr hg hen (fun j o d hj ho hav hd => hdyn j o d (hall j hj) ho hav hd))
  intro fuel
  induction fuel with
  | zero =>
    intro listed a w S β L hc hsz hdf hr hg hen hdyn
    refine done 0 listed a w S β L hc hsz hdf hr hg hen hdyn (fun i hi => ?_)
    have hcnt : listed.toList.count true = listed.toList.length := by rw [Array.length_toList, L.size]; omega
    have hall := List.count_eq_length.1 hcnt
    have hil : i < listed.size := by rw [L.size]; omega
    have := hall listed[i] (by simp)
    simp [hil]; exact this.symm
  | succ fuel ih =>
    intro listed a w S β L hc hsz hdf hr hg hen hdyn
    by_cases hall : ∀ i, i < m → listed.getD i false = true
    · exact done _ listed a w S β L hc hsz hdf hr hg hen hdyn hall
    · refine ⟨fun hrd => (hall fun i hi => ready_nil hB L.size hrd i (by omega)).elim, fun i hi => ?_⟩
      obtain ⟨hi1, hi2⟩ := ready_not hi
      have hni := getD_tf hi2
      have hoi : all[i]? = some all[i] := by simp [hi1]
      have him : i < m := by
        rcases Nat.lt_or_ge i m with h | h
        · exact h
        · refine (hall fun j hj => ?_).elim
          have hoj : all[j]? = some all[j] := by simp [show j < all.size by omega]
          exact Closed.ready L.closed ((monoB_spec hB hoi hoj (by omega)).2 h) hi
      have hil : i < listed.size := by rw [L.size]; exact hi1
      obtain ⟨hstp, _, hV⟩ := hs i _ him hoi
      obtain ⟨hdn, hstep⟩ := hstp β
      have hrel : RelE w S (looks all all[i]) (orE (en i) (cn i β)) a := by
        intro s hsl av hav
        rw [orE] at hav
        cases hen' : en i s with
        | none =>
          rw [hen'] at hav
          obtain ⟨k, o, k1, k2, k3, k4, k5⟩ := dyn_from hc0 hcn hm i (by omega) β s av hav
          have hkl : listed.getD k false = true := Closed.ready L.closed ((monoB_spec hB hoi k2 k1).1 him (clash_look k3 hsl)) hi
          rw [k5]
          exact hdyn k o s hkl k2 k4 k3
        | some av' =>
        rw [hen'] at hav
        obtain rfl := Option.some.inj hav
        have hc := curO_look (avs := avs) (en := en) (e := e) hB L h0 hs2 hm hoi him hni (fun j hj => Closed.ready L.closed hj hi) hsl all.size (Nat.le_refl _)
        rw [Nat.min_eq_right (by omega)] at hc
        exact hen s av' (by rw [hc]; exact hen')
      have L' : LOk all m (listed.setIfInBounds i true) := by
        refine ⟨by simpa using L.size, fun k hk => ?_, fun k j o hk hok hw => ?_⟩
        · rw [getD_set hil] at hk
          split at hk
          · omega
          · exact L.head k hk
        · rw [getD_set hil] at hk
          rw [getD_set hil]
          split
          · rfl
          · split at hk
            · rename_i hki
              subst hki
              obtain rfl : all[k] = o := by rw [hoi] at hok; exact Option.some.inj hok
              exact ready_waits hoi hi hw
            · exact L.closed k j o hk hok hw
      have hcnt : (listed.setIfInBounds i true).toList.count true + fuel = all.size := by
        have hlist : listed[i] = false := by simpa [hil] using hni
        have : (listed.setIfInBounds i true).toList = listed.toList.set i true := by simp
        rw [this, List.count_set (by simpa using hil)]
        have hl2 : listed.toList[i]'(by simpa using hil) = false := by simpa using hlist
        rw [hl2]
        have e1 : (if (false == true) = true then 1 else 0) = 0 := rfl
        have e2 : (if (true == true) = true then 1 else 0) = 1 := rfl
        rw [e1, e2]
        omega
      -- the memory, parted
      let rest := (tk.filter (fun t => (onT listed t && !isC i t) && !isR i t)).map (·.at β)
      have prd := tok_read hT L.closed hni (fun j hj => Closed.ready L.closed hj hi) (fun c h => hirr c i h) β
      have shuf : ∀ T : Heap, (T ++ (readT tk i β ++ rest) ++ B).Perm ((T ++ (readT tk i β ++ B)) ++ rest) := fun T => by
        rw [List.append_assoc, List.append_assoc, List.append_assoc, List.append_assoc]
        exact List.Perm.append_left _ (List.Perm.append_left _ List.perm_append_comm)
      have pin : (heapT tk listed β ++ B).Perm ((tinT tk i β ++ (readT tk i β ++ B)) ++ rest) :=
        (((tok_in hT hni (fun j hj => Closed.ready L.closed hj hi) β).trans (List.Perm.append_left _ prd)).append_right B).trans (shuf _)
      have pout : ∀ b, ((toutT tk i (updB β i b) ++ (readT tk i β ++ B)) ++ rest).Perm (heapT tk (listed.setIfInBounds i true) (updB β i b) ++ B) := fun b =>
        List.Perm.symm ((((tok_out hT L.closed hil hni (fun c h => hirr c i h) β b).trans (List.Perm.append_left _ prd)).append_right B).trans (shuf _))
      have hrp : HRel w S ((tinT tk i β ++ (readT tk i β ++ B)) ++ rest) := hr.perm pin
      have psz : ∀ v, (a.put (all[i]).dst v).tmps.size = n := fun v => by cases (all[i]).dst <;> simp [Act.put, hsz]
      have pdf : ∀ v, (a.put (all[i]).dst v).defers = [] := fun v => by cases (all[i]).dst <;> simp [Act.put, hdf]
      have evoP : ∀ {w1 w2 : World} {S1 S2 : Nat → Prop} {h1 h2 h1' h2' : Heap}, Evo w1 S1 h1 w2 S2 h2 → h1.Perm h1' → h2.Perm h2' → Evo w1 S1 h1' w2 S2 h2' := by
        intro w1 w2 S1 S2 h1 h2 h1' h2' ev p1 p2
        have has : ∀ {g g' : Heap} {k : Nat}, g.Perm g' → (Has g k ↔ Has g' k) := fun p =>
          ⟨fun ⟨x, hx, hb⟩ => ⟨x, p.mem_iff.1 hx, hb⟩, fun ⟨x, hx, hb⟩ => ⟨x, p.mem_iff.2 hx, hb⟩⟩
        exact ⟨ev.os, ev.tape, ev.output, ev.size, ev.keep, fun k hk hh => ev.other k hk (fun hc => hh ((has p1).1 hc)), fun k hk => ((ev.new k ((has p2).2 hk)).imp (has p1).1 id), ev.drawn⟩
      have next : ∀ (b : Bk) (v : Value) (w' : World) (S' : Nat → Prop), Evo w S (tinT tk i β ++ (readT tk i β ++ B)) w' S' (toutT tk i (updB β i b) ++ (readT tk i β ++ B)) → HRel w' S' (toutT tk i (updB β i b) ++ (readT tk i β ++ B)) → At w' S' (V i b) v → wpAny P .any all Q fuel (listed.setIfInBounds i true) (a.put (all[i]).dst v) w' := by
        intro b v w' S' hev hr' hat
        have hr2 : HRel w' S' ((toutT tk i (updB β i b) ++ (readT tk i β ++ B)) ++ rest) := hrp.frame hev hr'
        have ev2 := hev.frame rest
        refine ih _ _ _ S' (updB β i b) L' hcnt (psz v) (pdf v) (hr2.perm (pout b)) (hg.trans (evoP ev2 pin.symm (pout b))) ?_ ?_
        · intro s av hav
          rw [curO_set (avs := avs) (e := e) hB L hoi him hni s all.size (Nat.le_refl _), if_pos (by omega)] at hav
          by_cases hd : (all[i]).dst = some s
          · rw [hd, eputO_eq] at hav
            have hsn := hdn s hd
            exact ⟨v, by rw [hd]; simp [Act.put, hsz, hsn], by rw [← hV av hav b]; exact hat⟩
          · rw [eputO_ne hd] at hav
            obtain ⟨u, h1, h2⟩ := hen s av hav
            refine ⟨u, ?_, h2.mono hev.keep⟩
            cases hdd : (all[i]).dst with
            | none => simpa [Act.put] using h1
            | some d' =>
              have hne : d' ≠ s := fun e => hd (by rw [hdd, e])
              simp [Act.put, hne, h1]
        · intro j o d hj ho hav hd
          by_cases hji : j = i
          · subst hji
            rw [hoi] at ho; obtain rfl := Option.some.inj ho
            have hsn := hdn d hd
            exact ⟨v, by rw [hd]; simp [Act.put, hsz, hsn], by rw [updB_eq]; exact hat⟩
          · have hjl : listed.getD j false = true := by rw [getD_set hil, if_neg hji] at hj; exact hj
            obtain ⟨u, h1, h2⟩ := hdyn j o d hjl ho hav hd
            refine ⟨u, ?_, by rw [updB_ne hji]; exact h2.mono hev.keep⟩
            cases hdd : (all[i]).dst with
            | none => simpa [Act.put] using h1
            | some d' =>
              have hne : d' ≠ d := fun e => hU j i o all[i] d (L.head j hjl) him hji ho hoi hav hd (by rw [hdd, e])
              simp [Act.put, hne, h1]
      simp only [wpOp, hoi]
      rcases hstep with ⟨hw, hmv⟩ | ⟨hw, hav⟩
      · rw [if_pos (wanted_of hw hrel)]
        exact .inl (hmv w S a hsz hdf (hrp.sub (List.sublist_append_left _ _)) hrel _ _ (fun b v w' S' hev hr' hat => next b v w' S' hev hr' hat))
      · rw [if_neg (by rw [wanted_of hw hrel]; simp)]
        obtain ⟨e1, e2⟩ := hav ⟨none, 0⟩
        replace e1 : toutT tk i (updB β i ⟨none, 0⟩) = tinT tk i β := e1
        refine next ⟨none, 0⟩ _ w S (by rw [e1]; exact Evo.refl _ _ _) (by rw [e1]; exact hrp.sub (List.sublist_append_left _ _)) ?_
        rw [e2]; exact .raw _
end order
end Go.Eng
