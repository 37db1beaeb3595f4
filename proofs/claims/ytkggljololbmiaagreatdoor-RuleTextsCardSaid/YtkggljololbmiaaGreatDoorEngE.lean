/- The engine: abstract values, the symbolic heap, one rule for each operation. No program in sight. -/
import Derived.Test.YtkggljololbmiaaGreatDoorEngD
import Derived.Laws.Runes
import Derived.Laws.Concat
import Derived.Lib.LaidU8
import Derived.Lib.LaidTab
import Derived.HandedShaped
import Derived.Lib.ConvBytes
import Derived.Shelf.Strings.BuilderF
/- The engine, part 36: delete in a map; pointers that may be nil; calls with several new arrays. No program in sight. -/
set_option linter.unusedVariables false
set_option linter.unusedSimpArgs false
set_option linter.unusedSectionVars false
namespace Go.Eng
open Go
variable [GTab]

@[reducible] def TM {X : Type} (o : Option X) (A : AV → Heap → Prop) (B : X → AV → Heap → Prop) : AV → Heap → Prop := match o with
  | none => A
  | some x => B x
def T6 {α0 α1 α2 α3 α4 α5 : Type} (H : α0 → α1 → α2 → α3 → α4 → α5 → Heap) (V : α0 → α1 → α2 → α3 → α4 → α5 → AV) : AV → Heap → Prop := fun v h => ∃ b0 b1 b2 b3 b4 b5, h = H b0 b1 b2 b3 b4 b5 ∧ v = V b0 b1 b2 b3 b4 b5
def T7 {α0 α1 α2 α3 α4 α5 α6 : Type} (H : α0 → α1 → α2 → α3 → α4 → α5 → α6 → Heap) (V : α0 → α1 → α2 → α3 → α4 → α5 → α6 → AV) : AV → Heap → Prop := fun v h => ∃ b0 b1 b2 b3 b4 b5 b6, h = H b0 b1 b2 b3 b4 b5 b6 ∧ v = V b0 b1 b2 b3 b4 b5 b6
section rules
variable {P : Program} {all : Array Oper} {rest : List Oper} {n : Nat} {tm : List (Nat × AV)} {hp : Heap} {Q : St → Prop} {d : Nat} {ty : TypeId} {pos : String} {af : Array Edge}
theorem t_call6 {α0 α1 α2 α3 α4 α5 : Type} {f : FuncId} {args : List Operand} {ts : Array TypeId} {l l' : List AV} {h0 hr : Heap} {H H' : α0 → α1 → α2 → α3 → α4 → α5 → Heap} {V : α0 → α1 → α2 → α3 → α4 → α5 → AV} [IsFn P f] (hl : evL tm args = some l) (c : ACall P f l' h0 (T6 H V)) (co : CoL hp l l') (hs : Sel hp h0 hr) (ha : ∀ b0 b1 b2 b3 b4 b5, appO (H b0 b1 b2 b3 b4 b5) hr = some (H' b0 b1 b2 b3 b4 b5)) (hn : Nat.blt d n = true)
    (kk : ∀ b0 b1 b2 b3 b4 b5, ARun P all rest ⟨n, (d, V b0 b1 b2 b3 b4 b5) :: tm, H' b0 b1 b2 b3 b4 b5⟩ Q) : ARun P all (⟨some d, .call { callee := .value (.func f), args := args.toArray, argTypes := ts }, ty, pos, af, none⟩ :: rest) ⟨n, tm, hp⟩ Q :=
  t_call hl c co hs hn (fun r h' ⟨b0, b1, b2, b3, b4, b5, e1, e2⟩ => by subst e1; subst e2; rw [appO_eq (ha b0 b1 b2 b3 b4 b5)]; exact kk b0 b1 b2 b3 b4 b5)
theorem t_call7 {α0 α1 α2 α3 α4 α5 α6 : Type} {f : FuncId} {args : List Operand} {ts : Array TypeId} {l l' : List AV} {h0 hr : Heap} {H H' : α0 → α1 → α2 → α3 → α4 → α5 → α6 → Heap} {V : α0 → α1 → α2 → α3 → α4 → α5 → α6 → AV} [IsFn P f] (hl : evL tm args = some l) (c : ACall P f l' h0 (T7 H V)) (co : CoL hp l l') (hs : Sel hp h0 hr) (ha : ∀ b0 b1 b2 b3 b4 b5 b6, appO (H b0 b1 b2 b3 b4 b5 b6) hr = some (H' b0 b1 b2 b3 b4 b5 b6)) (hn : Nat.blt d n = true)
    (kk : ∀ b0 b1 b2 b3 b4 b5 b6, ARun P all rest ⟨n, (d, V b0 b1 b2 b3 b4 b5 b6) :: tm, H' b0 b1 b2 b3 b4 b5 b6⟩ Q) : ARun P all (⟨some d, .call { callee := .value (.func f), args := args.toArray, argTypes := ts }, ty, pos, af, none⟩ :: rest) ⟨n, tm, hp⟩ Q :=
  t_call hl c co hs hn (fun r h' ⟨b0, b1, b2, b3, b4, b5, b6, e1, e2⟩ => by subst e1; subst e2; rw [appO_eq (ha b0 b1 b2 b3 b4 b5 b6)]; exact kk b0 b1 b2 b3 b4 b5 b6)
end rules

/-! ### new memory is handed on inside of a region that draws its order -/
def rmT (d : Nat) : List (Nat × AV) → List (Nat × AV)
  | [] => []
  | (k, v) :: r => match Nat.beq k d with
    | true => rmT d r
    | false => (k, v) :: rmT d r
theorem lk_rmT (d : Nat) : ∀ tm : List (Nat × AV), lk (rmT d tm) = eputO (lk tm) (some d) none
  | [] => by
    funext s
    show lk [] s = eputO (lk []) (some d) none s
    simp [lk, eputO]
  | (k, v) :: r => by
    funext s
    have ih := congrFun (lk_rmT d r) s
    simp only [rmT]
    cases hk : Nat.beq k d with
    | true =>
      obtain rfl := Nat.eq_of_beq_eq_true hk
      simp only [ih, eputO, lk]
      by_cases hs : k = s
      · rw [if_pos hs, if_pos hs]
      · have : Nat.beq k s = false := by
          cases hb : Nat.beq k s with
          | true => exact absurd (Nat.eq_of_beq_eq_true hb) hs
          | false => rfl
        rw [if_neg hs, if_neg hs, this]
    | false =>
      simp only [lk, eputO] at ih ⊢
      rw [ih]
      by_cases hs : d = s
      · subst hs
        rw [if_pos rfl, if_pos rfl, hk]
      · rw [if_neg hs, if_neg hs]
section rules
variable {P : Program} {all : Array Oper} {n : Nat} {B : Heap} {tk : List Tok} {dy : List Nat} {i : Nat} {rest : List Oper} {tm tm' : List (Nat × AV)} {acc : (Nat → Bk) → List (Nat × AV)} {Q : (Nat → Bk) → List (Nat × AV) → Prop} {d : Nat} {ty : TypeId} {pos : String} {af : Array Edge} {op : Op}
theorem AT.dynR {o : Oper} {d : Nat} {V : Bk → AV} (hd : o.dst = some d) (hr : rmT d tm = tm') (hdy : dy.contains i = true) (h : ∀ β, ∀ X ∈ altT tk i β, TStep P all n (X ++ B) o (orE (lk tm) (lk (acc β))) (tinT tk i β) V (fun b => toutT tk i (updB β i b))) (k : AT P all n B tk dy (i + 1) rest tm' (fun β => (d, V (β i)) :: acc β) Q) : AT P all n B tk dy i (o :: rest) tm acc Q := by
  obtain ⟨D, tm1, k1, k2⟩ := k
  refine ⟨(none, V) :: D, tm1, .cons h (fun av' e b => by cases e) (fun _ => hdy) ?_, fun β => ?_⟩
  · rw [hd, ← lk_rmT, hr]
    have e2 : dynC none (fun β => lk (acc β)) (some d) V i = fun β => lk ((d, V (β i)) :: acc β) := by
      funext β
      simp only [dynC]
      rw [lk_cons]; rfl
    rw [e2]; exact k1
  · have := k2 β
    simp only [dynS, hd]
    exact this
/-- One operation that takes memory that was made in the same region and hands it on under a new name. -/
theorem AT.runE {V : Bk → AV} {Ti H1 : (Nat → Bk) → Heap} {Pi H2 : Bk → Heap} (hrd : ∀ β, altT tk i β = [[]]) (hti : ∀ β, tinT tk i β = Ti β) (hto : ∀ β b, toutT tk i (updB β i b) = Pi b) (h1 : ∀ β, appO (Ti β) B = some (H1 β)) (h2 : ∀ b, appO (Pi b) B = some (H2 b)) (hn : Nat.blt d n = true) (hr : rmT d tm = tm') (hdy : dy.contains i = true)
    (hrun : ∀ β, ARun P all [⟨some d, op, ty, pos, af, none⟩] ⟨n, rst (looks all ⟨some d, op, ty, pos, af, none⟩) (tm ++ acc β), H1 β⟩ (fun σ' => ∃ b tm1, σ' = ⟨n, tm1, H2 b⟩ ∧ lk tm1 d = some (V b)))
    (k : AT P all n B tk dy (i + 1) rest tm' (fun β => (d, V (β i)) :: acc β) Q) : AT P all n B tk dy i (⟨some d, op, ty, pos, af, none⟩ :: rest) tm acc Q := by
  refine AT.dynR rfl hr hdy (fun β X hX => ?_) k
  rw [hrd β] at hX
  obtain rfl := List.mem_singleton.1 hX
  rw [List.nil_append, hti β, show (fun b => toutT tk i (updB β i b)) = Pi from funext (hto β), ← lk_append]
  refine tstep_run rfl (fun d' hd' => by obtain rfl := Option.some.inj hd'; simpa using hn) (h1 β) h2 ?_ (fun e => by cases e)
  refine fun w S a r => wpList_mono ?_ _ _ _ (hrun β w S a r)
  rintro e a' w' ⟨he, σ', S', ⟨b, tm1, q1, q2⟩, hh⟩
  exact ⟨he, σ', S', ⟨b, tm1, q1, fun d' hd' => by obtain rfl := Option.some.inj hd'; exact q2⟩, hh⟩
end rules
end Go.Eng

/- The engine, part 37: pools: memory that a map's entries own. No program in sight. -/
set_option linter.unusedVariables false
set_option linter.unusedSimpArgs false
set_option linter.unusedSectionVars false
namespace Go.Eng
open Go
variable [GTab]

theorem eb_pool (b : Bk) (es : List (Bk × PO)) (n : Nat) : n ∈ eb (b, .pool es) ↔ b.blk = some n ∨ ∃ e ∈ es, e.1.blk = some n := by
  simp [eb, Ob.more, List.mem_filterMap]
theorem eb_pobk (e : Bk × PO) : eb (e.1, e.2.ob) = e.1.blk.toList := by
  obtain ⟨b, o⟩ := e
  cases o <;> simp [eb, Ob.more, PO.ob]
/-- What a heap's entries are, told with a piece of a pool outside. -/
theorem pool_take {w : World} {S : Nat → Prop} {hp hp' : Heap} {bp : Bk} {es es' : List (Bk × PO)} {x : Bk × PO} (r : HRel w S hp) (u : Upd hp bp (.pool es) bp (.pool es') hp') (hperm : es.Perm (x :: es')) :
    HRel w S ((x.1, x.2.ob) :: hp') ∧ Evo w S hp w S ((x.1, x.2.ob) :: hp') := by
  obtain ⟨p, q, rfl, rfl⟩ := u.split
  obtain ⟨hb0, hall⟩ : bp.blk = none ∧ ∀ e ∈ es, HoldsP w S e.1 e.2 := r.holds (bp, .pool es) (mem_mid.2 (.inl rfl))
  have hsub : ∀ e ∈ es', e ∈ es := fun e he => hperm.mem_iff.2 (List.mem_cons_of_mem _ he)
  have hx : x ∈ es := hperm.mem_iff.2 (by simp)
  have hfro : x.2.ob.isFro ↔ False := by cases x.2 <;> exact Iff.rfl
  have hebs : ∀ n, n ∈ eb (bp, .pool es) ↔ n ∈ eb (x.1, x.2.ob) ∨ n ∈ eb (bp, .pool es') := by
    intro n
    rw [eb_pool, eb_pool, eb_pobk, hb0]
    constructor
    · rintro (h | ⟨e, he, hn⟩)
      · cases h
      · rcases List.mem_cons.1 (hperm.mem_iff.1 he) with rfl | he
        · exact .inl (by simp [hn])
        · exact .inr (.inr ⟨e, he, hn⟩)
    · rintro (h | h | ⟨e, he, hn⟩)
      · exact .inr ⟨x, hx, by simpa using h⟩
      · cases h
      · exact .inr ⟨e, hsub e he, hn⟩
  have hasI : ∀ n, Has ((x.1, x.2.ob) :: (p ++ (bp, .pool es') :: q)) n ↔ Has (p ++ (bp, .pool es) :: q) n := by
    intro n
    constructor
    · rintro ⟨e, he, hn⟩
      rcases List.mem_cons.1 he with rfl | he
      · exact ⟨_, mem_mid.2 (.inl rfl), (hebs n).2 (.inl hn)⟩
      · rcases mem_mid.1 he with rfl | he
        · exact ⟨_, mem_mid.2 (.inl rfl), (hebs n).2 (.inr hn)⟩
        · exact ⟨e, mem_mid.2 (.inr he), hn⟩
    · rintro ⟨e, he, hn⟩
      rcases mem_mid.1 he with rfl | he
      · rcases (hebs n).1 hn with h | h
        · exact ⟨_, List.mem_cons_self, h⟩
        · exact ⟨_, List.mem_cons_of_mem _ (mem_mid.2 (.inl rfl)), h⟩
      · exact ⟨e, List.mem_cons_of_mem _ (mem_mid.2 (.inr he)), hn⟩
  have hpn : (((x.1, x.2.ob) :: (p ++ (bp, .pool es') :: q)).flatMap eb).Perm ((p ++ (bp, .pool es) :: q).flatMap eb) := by
    have e1 : (eb (bp, .pool es)).Perm (eb (x.1, x.2.ob) ++ eb (bp, .pool es')) := by
      rw [eb_pobk]
      simp only [eb, Ob.more, hb0, Option.toList_none, List.nil_append]
      refine (hperm.filterMap _).trans ?_
      rw [List.filterMap_cons]
      cases x.1.blk <;> simp
    rw [List.flatMap_cons, List.flatMap_append, List.flatMap_append, List.flatMap_cons, List.flatMap_cons]
    refine List.Perm.trans ?_ ((e1.symm.append_right _).append_left _)
    rw [← List.append_assoc, ← List.append_assoc, ← List.append_assoc, ← List.append_assoc]
    refine (List.Perm.append_right _ ?_)
    exact (List.perm_append_comm.append_right _)
  refine ⟨⟨(hpn.nodup_iff).2 r.nodup, ?_, ?_, r.slt, r.glob⟩, ⟨rfl, rfl, rfl, Nat.le_refl _, fun n hn => ⟨hn, rfl⟩, fun n _ _ => ⟨rfl, id⟩, fun n hn => .inl ((hasI n).1 hn), fun _ => Nat.le_refl _⟩⟩
  · intro e he
    rcases List.mem_cons.1 he with rfl | he
    · exact HoldsP.ob.1 (hall x hx)
    · rcases mem_mid.1 he with rfl | he
      · exact ⟨hb0, fun e he => hall e (hsub e he)⟩
      · exact r.holds e (mem_mid.2 (.inr he))
  · intro e he n hn
    rcases List.mem_cons.1 he with rfl | he
    · have := r.sep (bp, .pool es) (mem_mid.2 (.inl rfl)) n ((hebs n).2 (.inl hn))
      exact ⟨fun h => (this.1 h).elim, fun h => (hfro.1 h).elim⟩
    · rcases mem_mid.1 he with rfl | he
      · have := r.sep (bp, .pool es) (mem_mid.2 (.inl rfl)) n ((hebs n).2 (.inr hn))
        exact ⟨fun h => (this.1 h).elim, fun h => h.elim⟩
      · exact r.sep e (mem_mid.2 (.inr he)) n hn
/-- The other way: an entry goes into a pool. -/
theorem pool_put {w : World} {S : Nat → Prop} {hp hp1 hp' : Heap} {bp : Bk} {es es' : List (Bk × PO)} {x : Bk × PO} (r : HRel w S hp) (dl : Del hp x.1 x.2.ob hp1) (u : Upd hp1 bp (.pool es) bp (.pool es') hp') (hperm : es'.Perm (x :: es)) :
    HRel w S hp' ∧ Evo w S hp w S hp' := by
  obtain ⟨p0, q0, rfl, rfl⟩ := dl.split
  have r1 : HRel w S ((x.1, x.2.ob) :: (p0 ++ q0)) := by
    refine ⟨?_, fun e he => r.holds e (mem_mid.2 (by simpa using he)), fun e he => r.sep e (mem_mid.2 (by simpa using he)), r.slt, r.glob⟩
    refine ((List.Perm.flatMap_right eb ?_).nodup_iff).1 r.nodup
    exact List.perm_middle
  generalize hq : p0 ++ q0 = h1 at u r1
  obtain ⟨p, q, rfl, rfl⟩ := u.split
  obtain ⟨hb0, hall⟩ : bp.blk = none ∧ ∀ e ∈ es, HoldsP w S e.1 e.2 := r1.holds (bp, .pool es) (List.mem_cons_of_mem _ (mem_mid.2 (.inl rfl)))
  have hxh : HoldsP w S x.1 x.2 := HoldsP.ob.2 (r1.holds (x.1, x.2.ob) (by simp))
  have hfro : x.2.ob.isFro ↔ False := by cases x.2 <;> exact Iff.rfl
  have hebs : ∀ n, n ∈ eb (bp, .pool es') ↔ n ∈ eb (x.1, x.2.ob) ∨ n ∈ eb (bp, .pool es) := by
    intro n
    rw [eb_pool, eb_pool, eb_pobk, hb0]
    constructor
    · rintro (h | ⟨e, he, hn⟩)
      · cases h
      · rcases List.mem_cons.1 (hperm.mem_iff.1 he) with rfl | he
        · exact .inl (by simp [hn])
        · exact .inr (.inr ⟨e, he, hn⟩)
    · rintro (h | h | ⟨e, he, hn⟩)
      · exact .inr ⟨x, hperm.mem_iff.2 (by simp), by simpa using h⟩
      · cases h
      · exact .inr ⟨e, hperm.mem_iff.2 (List.mem_cons_of_mem _ he), hn⟩
  have e1 : (eb (bp, .pool es')).Perm (eb (x.1, x.2.ob) ++ eb (bp, .pool es)) := by
    rw [eb_pobk]
    simp only [eb, Ob.more, hb0, Option.toList_none, List.nil_append]
    refine (hperm.filterMap _).trans ?_
    rw [List.filterMap_cons]
    cases x.1.blk <;> simp
  have hpn : (((x.1, x.2.ob) :: (p ++ (bp, .pool es) :: q)).flatMap eb).Perm ((p ++ (bp, .pool es') :: q).flatMap eb) := by
    rw [List.flatMap_cons, List.flatMap_append, List.flatMap_append, List.flatMap_cons, List.flatMap_cons]
    refine List.Perm.trans ?_ ((e1.symm.append_right _).append_left _)
    rw [← List.append_assoc, ← List.append_assoc, ← List.append_assoc, ← List.append_assoc]
    refine (List.Perm.append_right _ ?_)
    exact (List.perm_append_comm.append_right _)
  have hasI : ∀ n, Has (p ++ (bp, .pool es') :: q) n → Has ((x.1, x.2.ob) :: (p ++ (bp, .pool es) :: q)) n := by
    rintro n ⟨e, he, hn⟩
    rcases mem_mid.1 he with rfl | he
    · rcases (hebs n).1 hn with h | h
      · exact ⟨_, List.mem_cons_self, h⟩
      · exact ⟨_, List.mem_cons_of_mem _ (mem_mid.2 (.inl rfl)), h⟩
    · exact ⟨e, List.mem_cons_of_mem _ (mem_mid.2 (.inr he)), hn⟩
  have hhas0 : ∀ n, Has ((x.1, x.2.ob) :: (p ++ (bp, .pool es) :: q)) n → Has (p0 ++ (x.1, x.2.ob) :: q0) n := fun n hn => by
    obtain ⟨e, he, hen⟩ := hn
    refine ⟨e, mem_mid.2 ?_, hen⟩
    rw [hq]
    simpa using he
  refine ⟨⟨(hpn.nodup_iff).1 r1.nodup, ?_, ?_, r.slt, r.glob⟩, ⟨rfl, rfl, rfl, Nat.le_refl _, fun n hn => ⟨hn, rfl⟩, fun n _ _ => ⟨rfl, id⟩, fun n hn => .inl (hhas0 n (hasI n hn)), fun _ => Nat.le_refl _⟩⟩
  · intro e he
    rcases mem_mid.1 he with rfl | he
    · refine ⟨hb0, fun e he => ?_⟩
      rcases List.mem_cons.1 (hperm.mem_iff.1 he) with rfl | he
      · exact hxh
      · exact hall e he
    · exact r1.holds e (List.mem_cons_of_mem _ (mem_mid.2 (.inr he)))
  · intro e he n hn
    rcases mem_mid.1 he with rfl | he
    · refine ⟨fun hs => ?_, fun h => h.elim⟩
      rcases (hebs n).1 hn with h | h
      · exact hfro.1 ((r1.sep _ (by simp) n h).1 hs)
      · exact (r1.sep (bp, .pool es) (List.mem_cons_of_mem _ (mem_mid.2 (.inl rfl))) n h).1 hs
    · exact r1.sep e (List.mem_cons_of_mem _ (mem_mid.2 (.inr he))) n hn
end Go.Eng

/- The engine, part 38: maps whose entries own memory: slices and pointers. No program in sight. -/
set_option linter.unusedVariables false
set_option linter.unusedSimpArgs false
set_option linter.unusedSectionVars false
namespace Go.Eng
open Go
variable [GTab]

/-- How the values of a map are kept: what stands in the map, what lies in memory. -/
structure Kept (V : Type) where
  val : Bk → V → AV
  po : V → PO
def keptS {E : Type} (sz : Nat) (g : E → AV) : Kept (List E) := ⟨fun b v => .sl sz b 0 v.length, fun v => .arr sz (v.map g)⟩
section plain
variable {K V : Type}
def mapE (gk : K → AV) (kp : Kept V) (β : K → Bk) (M : List (K × V)) : List (AV × AV) := M.map fun e => (gk e.1, kp.val (β e.1) e.2)
def poolE (kp : Kept V) (β : K → Bk) (M : List (K × V)) : List (Bk × PO) := M.map fun e => (β e.1, kp.po e.2)
def withB (β : K → Bk) (M : List (K × V)) : List (K × (Bk × V)) := M.map fun e => (e.1, (β e.1, e.2))
theorem mapE_withB (gk : K → AV) (kp : Kept V) (β : K → Bk) (M : List (K × V)) : mapE gk kp β M = (withB β M).map fun e => (gk e.1, kp.val e.2.1 e.2.2) := by
  unfold mapE withB; rw [List.map_map]; rfl
variable [DecidableEq K]
def updK (β : K → Bk) (k : K) (b : Bk) : K → Bk := fun k' => if k' = k then b else β k'
theorem withB_get (β : K → Bk) (M : List (K × V)) (k : K) : mget? (withB β M) k = (mget? M k).map fun v => (β k, v) := by
  induction M with
  | nil => rfl
  | cons e r ih =>
    show (if e.1 = k then some (β e.1, e.2) else mget? (withB β r) k) = (if e.1 = k then some e.2 else mget? r k).map _
    rw [ih]
    split
    · rename_i h; rw [h]; rfl
    · rfl
theorem mget_split {M : List (K × V)} {k : K} {v : V} (hn : (M.map Prod.fst).Nodup) (h : mget? M k = some v) : M.Perm ((k, v) :: mdel M k) := by
  induction M with
  | nil => cases h
  | cons e r ih =>
    rw [List.map_cons, List.nodup_cons] at hn
    unfold mget? at h
    unfold mdel
    rw [List.filter_cons]
    split at h
    · rename_i hk
      obtain rfl := Option.some.inj h
      rw [if_neg (by simp [hk])]
      have : r.filter (fun e => decide (e.1 ≠ k)) = r := List.filter_eq_self.2 fun x hx => by
        simp only [ne_eq, decide_not, Bool.not_eq_true', decide_eq_false_iff_not]
        intro hxk
        exact hn.1 (List.mem_map.2 ⟨x, hx, by rw [hxk, hk]⟩)
      rw [this, ← hk]
    · rename_i hk
      rw [if_pos (by simp [hk])]
      exact (List.Perm.cons e (ih hn.2 h)).trans (List.Perm.swap _ _ _)
theorem mdel_fst (M : List (K × V)) (k : K) : ∀ e ∈ mdel M k, e.1 ≠ k := fun e he => by
  have := (List.mem_filter.1 he).2
  simpa using this
theorem poolE_upd (kp : Kept V) (β : K → Bk) (k : K) (b : Bk) {M : List (K × V)} (h : ∀ e ∈ M, e.1 ≠ k) : poolE kp (updK β k b) M = poolE kp β M := by
  unfold poolE
  exact List.map_congr_left fun e he => by unfold updK; rw [if_neg (h e he)]
variable [KLt K]
theorem mset_perm (M : List (K × V)) (k : K) (v : V) : (mset M k v).Perm ((k, v) :: mdel M k) := mins_perm k v _
theorem poolE_set (kp : Kept V) (β : K → Bk) (k : K) (b : Bk) (M : List (K × V)) (v : V) : (poolE kp (updK β k b) (mset M k v)).Perm ((b, kp.po v) :: poolE kp β (mdel M k)) := by
  refine ((mset_perm M k v).map _).trans ?_
  rw [List.map_cons]
  have e1 : (mdel M k).map (fun e => (updK β k b e.1, kp.po e.2)) = poolE kp β (mdel M k) := poolE_upd kp β k b (mdel_fst M k)
  rw [e1]
  have : updK β k b k = b := by unfold updK; rw [if_pos rfl]
  rw [this]
end plain
/-- The keys of a map are distinct. -/
theorem mapE_nodup {K V : Type} {gk : K → AV} {kp : Kept V} {β : K → Bk} {w : World} {S : Nat → Prop} {hp : Heap} {b : Bk} {M : List (K × V)} (hinj : ∀ a b, gk a = gk b → a = b) (r : HRel w S hp) (f : Fnd hp b (.mp (mapE gk kp β M))) : (M.map Prod.fst).Nodup := by
  rw [mapE_withB] at f
  obtain ⟨L, c, M', n, ents, p1, _, _, _, _, _, _, p8⟩ := mp_open (gv := fun p : Bk × V => kp.val p.1 p.2) hinj r f
  have := (p1.map Prod.fst).nodup_iff.1 p8
  unfold withB at this
  rw [List.map_map] at this
  exact this
theorem upd_same {hp hp' : Heap} {b : Bk} {o o' : Ob} (u : Upd hp b o b o' hp') (h : o = o') : hp = hp' := by
  obtain ⟨p, q, rfl, rfl⟩ := u.split
  rw [h]
section rules
variable {P : Program} {all : Array Oper} {rest : List Oper} {n : Nat} {tm : List (Nat × AV)} {hp : Heap} {Q : St → Prop} {d : Nat} {ty : TypeId} {pos : String} {af : Array Edge}
/-- A look-up of a slice that a map owns: it is taken out. -/
theorem t_lookupS {K E : Type} [DecidableEq K] {gk : K → AV} {sz : Nat} {g : E → AV} {β : K → Bk} {M : List (K × List E)} {key : K} {xs : List E} {t kt vt : TypeId} {i : TypeInfo} {x y : Operand} {bm bp : Bk} {hp' : Heap} [TUnder P t (.map kt vt)] [TInfo P vt i] [MKey P kt gk] (hx : evA tm x = some (.mref bm)) (hy : evA tm y = some (gk key)) (f : Fnd hp bm (.mp (mapE gk (keptS sz g) β M))) (u : Upd hp bp (.pool (poolE (keptS sz g) β M)) bp (.pool (poolE (keptS sz g) β (mdel M key))) hp') (hz : i.zero = some (.slice none 0 0)) (h : mgetO M key [] = some xs) (hn : Nat.blt d n = true)
    (kk : ∀ b, (∀ v, mget? M key = some v → b = β key ∧ v = xs) → ARun P all rest ⟨n, (d, .sl sz b 0 xs.length) :: tm, (b, .arr sz (xs.map g)) :: hp'⟩ Q) : ARun P all (⟨some d, .lookup t x y false, ty, pos, af, none⟩ :: rest) ⟨n, tm, hp⟩ Q := by
  refine ARun.opx rfl fun w S a r => ?_
  have hnd := mapE_nodup (MKey.inj P kt) r.hp f
  have kx := evA_at (σ := ⟨n, tm, hp⟩) r hx
  have ky := evA_at (σ := ⟨n, tm, hp⟩) r hy
  obtain ⟨nb, hb, ex⟩ := kx.mref_inv
  have f' := f
  rw [mapE_withB] at f'
  obtain ⟨L, c, M', nb', ents, p1, p2, p3, p4, p5, p6, p7, p8⟩ := mp_open (gv := fun p : Bk × List E => (keptS sz g).val p.1 p.2) (MKey.inj P kt) r.hp f'
  obtain rfl : nb' = nb := by rw [p4] at hb; exact Option.some.inj hb
  have hfind := MKey.find (P := P) (t := kt) (g := gk) ky ents.toList (M'.map Prod.fst) (by simpa using p6.symm) (fun j k' e h1 h2 => by
    rw [List.getElem?_map] at h1
    cases hm : M'[j]? with
    | none => rw [hm] at h1; cases h1
    | some q => rw [hm] at h1; rw [← Option.some.inj h1]; exact (p7 j q e hm h2).1)
  have hmg := mget_perm p1 p8 key
  rw [withB_get] at hmg
  have hv := Option.some.inj h
  rcases findP_M (gv := fun p : Bk × List E => (keptS sz g).val p.1 p.2) (w := w) (S := S) (k := key) M' ents.toList 0 p6.symm (fun j e m h1 h2 => (p7 j e m h1 h2).2) with ⟨q1, q2⟩ | ⟨v', j, val, q1, q2, q3, _⟩
  · -- nothing there
    rw [q1] at hmg
    have hno : mget? M key = none := by
      cases hc : mget? M key with
      | none => rfl
      | some v => rw [hc] at hmg; cases hmg
    rw [hno, Option.getD_none] at hv
    subst hv
    have hsame := upd_same u (by rw [mdel_none hno])
    obtain ⟨g1, g2, g3⟩ := add_rel (b := ⟨none, 0⟩) (o := .arr sz (([] : List E).map g)) r.hp (Ext.refl w) id ⟨by simp, by simp, .inl ⟨rfl, rfl⟩⟩ (.inl rfl)
    refine ⟨.slice none 0 0, w, S, ⟨n, (d, .sl sz ⟨none, 0⟩ 0 0) :: tm, (⟨none, 0⟩, .arr sz (([] : List E).map g)) :: hp'⟩, ?_, ?_, ?_, kk ⟨none, 0⟩ (fun v hv => by rw [hno] at hv; cases hv)⟩
    · simp [execOp, Instr.lookup, ex, run_underlying (TUnder.h (P := P) (t := t)), run_getMap p5, MKey.check (P := P) (t := kt) ky, hfind, q2, zeroValue, typeInfo, TInfo.h (P := P) (t := vt), hz]
    · rw [← hsame]
      exact (r.heap g3 g1).put hn (.slph sz _ rfl)
    · rw [← hsame]; exact g2
  · rw [q1] at hmg
    obtain ⟨v, hvv⟩ : ∃ v, mget? M key = some v := by
      cases hc : mget? M key with
      | none => rw [hc] at hmg; cases hmg
      | some v => exact ⟨v, rfl⟩
    rw [hvv, Option.getD_some] at hv
    subst hv
    rw [hvv] at hmg
    have hv' : v' = (β key, v) := Option.some.inj hmg
    subst hv'
    have hpm : (poolE (keptS sz g) β M).Perm ((β key, .arr sz (v.map g)) :: poolE (keptS sz g) β (mdel M key)) := ((mget_split hnd hvv).map _)
    obtain ⟨g1, g2⟩ := pool_take r.hp u hpm
    refine ⟨val, w, S, ⟨n, (d, .sl sz (β key) 0 v.length) :: tm, (β key, .arr sz (v.map g)) :: hp'⟩, ?_, (r.heap (fun m hm => ⟨hm, rfl⟩) g1).put hn q3, g2, kk (β key) (fun v2 hv2 => ⟨rfl, by rw [hvv] at hv2; exact (Option.some.inj hv2).symm⟩)⟩
    simp [execOp, Instr.lookup, ex, run_underlying (TUnder.h (P := P) (t := t)), run_getMap p5, MKey.check (P := P) (t := kt) ky, hfind, q2]
end rules
/-- A slice that was looked at goes back. -/
theorem ImpX.backS {n : Nat} {tm : List (Nat × AV)} {hp hp1 hp' : Heap} {T : St → Prop} {K E : Type} [DecidableEq K] {gk : K → AV} {sz : Nat} {g : E → AV} {β : K → Bk} {M : List (K × List E)} {key : K} {xs : List E} {b bm bp : Bk} (hinj : ∀ a b, gk a = gk b → a = b) (h : mgetO M key [] = some xs) (hb : ∀ v, mget? M key = some v → b = β key ∧ v = xs) (f : Fnd hp bm (.mp (mapE gk (keptS sz g) β M))) (dl : Del hp b (.arr sz (xs.map g)) hp1) (u : Upd hp1 bp (.pool (poolE (keptS sz g) β (mdel M key))) bp (.pool (poolE (keptS sz g) β M)) hp') (k : ImpX ⟨n, tm, hp'⟩ T) : ImpX ⟨n, tm, hp⟩ T := by
  refine ImpX.step (σ1 := ⟨n, tm, hp'⟩) (fun w S a r => ?_) k
  have hnd := mapE_nodup hinj r.hp f
  cases hc : mget? M key with
  | none =>
    have hsame := upd_same u (by rw [mdel_none hc])
    have hs : hp1.Sublist hp := by
      obtain ⟨p, q, rfl, rfl⟩ := dl.split
      exact List.Sublist.append (List.Sublist.refl _) (List.sublist_cons_self _ _)
    rw [← hsame]
    exact ⟨_, S, rfl, r.less ⟨rfl, fun _ _ h => h, hs⟩, Evo.less (Evo.refl w S hp) fun _ hn => hn.sub hs⟩
  | some v =>
    obtain ⟨rfl, rfl⟩ := hb v hc
    have hpm : (poolE (keptS sz g) β M).Perm ((β key, .arr sz (v.map g)) :: poolE (keptS sz g) β (mdel M key)) := ((mget_split hnd hc).map _)
    obtain ⟨g1, g2⟩ := pool_put (x := (β key, .arr sz (v.map g))) r.hp dl u hpm
    exact ⟨_, S, rfl, r.heap (fun m hm => ⟨hm, rfl⟩) g1, g2⟩
theorem withB_mdel {K V : Type} [DecidableEq K] (β : K → Bk) (M : List (K × V)) (k : K) : mdel (withB β M) k = withB β (mdel M k) := by
  unfold mdel withB
  rw [List.filter_map]
  rfl
theorem withB_mins {K V : Type} [KLt K] (β : K → Bk) (k : K) (b : Bk) (v : V) (hk : β k = b) : ∀ M : List (K × V), mins k (b, v) (withB β M) = withB β (mins k v M)
  | [] => by simp [mins, withB, hk]
  | e :: r => by
    show mins k (b, v) ((e.1, (β e.1, e.2)) :: withB β r) = withB β (mins k v (e :: r))
    unfold mins
    by_cases h : KLt.lt e.1 k = true
    · rw [if_pos h, if_pos h, withB_mins β k b v hk r]; rfl
    · rw [if_neg h, if_neg h]; simp [withB, hk]
theorem withB_upd {K V : Type} [DecidableEq K] (β : K → Bk) (k : K) (b : Bk) {M : List (K × V)} (h : ∀ e ∈ M, e.1 ≠ k) : withB (updK β k b) M = withB β M := by
  unfold withB
  exact List.map_congr_left fun e he => by unfold updK; rw [if_neg (h e he)]
theorem withB_mset {K V : Type} [DecidableEq K] [KLt K] (β : K → Bk) (M : List (K × V)) (k : K) (b : Bk) (v : V) : mset (withB β M) k (b, v) = withB (updK β k b) (mset M k v) := by
  unfold mset
  rw [withB_mdel, ← withB_upd β k b (mdel_fst M k), withB_mins _ _ _ _ (by unfold updK; rw [if_pos rfl])]
section rules
variable {P : Program} {all : Array Oper} {rest : List Oper} {n : Nat} {tm : List (Nat × AV)} {hp : Heap} {Q : St → Prop} {d : Nat} {ty : TypeId} {pos : String} {af : Array Edge}
/-- A value that owns memory is put into a map: the map alone. -/
theorem t_mapUpdateO {K V : Type} [DecidableEq K] [KLt K] {gk : K → AV} {kp : Kept V} {β : K → Bk} {M : List (K × V)} {key : K} {v : V} {t kt vt : TypeId} {x y z : Operand} {b bm : Bk} {hp' : Heap} {av : AV} [TUnder P t (.map kt vt)] [MKey P kt gk] (hx : evA tm x = some (.mref bm)) (hy : evA tm y = some (gk key)) (hz : evA tm z = some av) (hav : av = kp.val b v) (u : Upd hp bm (.mp (mapE gk kp β M)) bm (.mp (mapE gk kp (updK β key b) (mset M key v))) hp')
    (kk : ARun P all rest ⟨n, tm, hp'⟩ Q) : ARun P all (⟨none, .mapUpdate t x y z, ty, pos, af, none⟩ :: rest) ⟨n, tm, hp⟩ Q := by
  rw [mapE_withB, mapE_withB, ← withB_mset] at u
  exact t_mapUpdate (gk := gk) (gv := fun p : Bk × V => kp.val p.1 p.2) (M := withB β M) (key := key) (v := (b, v)) hx hy hz hav u kk
end rules
/-- What was put into the map goes into the pool. -/
theorem ImpX.poolPut {n : Nat} {tm : List (Nat × AV)} {hp hp1 hp' : Heap} {T : St → Prop} {K V : Type} [DecidableEq K] [KLt K] {kp : Kept V} {β : K → Bk} {M : List (K × V)} {key : K} {v : V} {b bp : Bk} {o : Ob} (ho : o = (kp.po v).ob) (dl : Del hp b o hp1) (u : Upd hp1 bp (.pool (poolE kp β (mdel M key))) bp (.pool (poolE kp (updK β key b) (mset M key v))) hp') (k : ImpX ⟨n, tm, hp'⟩ T) : ImpX ⟨n, tm, hp⟩ T := by
  refine ImpX.step (σ1 := ⟨n, tm, hp'⟩) (fun w S a r => ?_) k
  subst ho
  obtain ⟨g1, g2⟩ := pool_put (x := (b, kp.po v)) r.hp dl u (poolE_set kp β key b M v)
  exact ⟨_, S, rfl, r.heap (fun m hm => ⟨hm, rfl⟩) g1, g2⟩
section rules
variable {P : Program} {all : Array Oper} {rest : List Oper} {n : Nat} {tm : List (Nat × AV)} {hp : Heap} {Q : St → Prop} {d : Nat} {ty : TypeId} {pos : String} {af : Array Edge}
/-- A new map that owns its values has an empty pool. -/
theorem t_makeMapO {K V : Type} {gk : K → AV} {kp : Kept V} {β : K → Bk} {t : TypeId} (hn : Nat.blt d n = true) (kk : ∀ b bp : Bk, ARun P all rest ⟨n, (d, .mref b) :: tm, (b, .mp (mapE gk kp β [])) :: (bp, .pool (poolE kp β [])) :: hp⟩ Q) : ARun P all (⟨some d, .makeMap t none, ty, pos, af, none⟩ :: rest) ⟨n, tm, hp⟩ Q := by
  have g : ARun P all (⟨some d, .makeMap t none, ty, pos, af, none⟩ :: rest) ⟨n, tm, (⟨none, 0⟩, .pool []) :: hp⟩ Q := t_makeMap hn (fun b => kk b ⟨none, 0⟩)
  refine ARun.ghost (ImpX.step (σ1 := ⟨n, tm, (⟨none, 0⟩, .pool []) :: hp⟩) (fun w S a r => ?_) (ImpX.here g))
  obtain ⟨g1, g2, g3⟩ := add_rel (b := ⟨none, 0⟩) (o := .pool []) r.hp (Ext.refl w) id ⟨rfl, by simp⟩ (.inl rfl)
  exact ⟨_, S, rfl, r.heap g3 g1, g2⟩
end rules
end Go.Eng

/- The engine, part 39: lists of strings that functions of the library make; tables that are read by name. No program in sight. -/
set_option linter.unusedVariables false
set_option linter.unusedSimpArgs false
set_option linter.unusedSectionVars false
namespace Go.Eng
open Go
variable [GTab]

/-- The cells of a row of a table. -/
def rowOf (o : Option Obj) : Option (Array Value) := match o with
  | some (.cells vs _ _) => some vs
  | _ => none
theorem var_row {P : Program} {w : World} {name : String} {g : Nat} (hg : P.globalNamed name = some g) : w.var? P name = rowOf (w.heap[g]?) := by
  unfold World.var?
  rw [hg]
  rfl
theorem flat_strs (xs : List (List UInt8)) : flat (xs.map AV.str) = xs.map AV.str := flat_ones (fun _ => rfl) xs
theorem fresh_strs {w : World} {S : Nat → Prop} (r : HRel w S []) (xs : List (List UInt8)) (E : TypeId) {vs : Array Value} (hv : vs = (xs.map fun s => Value.string ⟨s.toArray⟩).toArray) :
    At (w.alloc (.cells vs E)) S (.sl 1 ⟨some w.heap.size, xs.length⟩ 0 xs.length) (.slice (some ⟨w.heap.size, 0, none⟩) xs.length xs.length) ∧
      HRel (w.alloc (.cells vs E)) S [(⟨some w.heap.size, xs.length⟩, .arr 1 (xs.map AV.str))] ∧ Evo w S [] (w.alloc (.cells vs E)) S [(⟨some w.heap.size, xs.length⟩, .arr 1 (xs.map AV.str))] := by
  subst hv
  have e0 := Ext.alloc w (.cells (xs.map fun s => Value.string ⟨s.toArray⟩).toArray E)
  have hh : Holds (w.alloc (.cells (xs.map fun s => Value.string ⟨s.toArray⟩).toArray E)) S ⟨some w.heap.size, xs.length⟩ (.arr 1 (xs.map AV.str)) := by
    refine ⟨fun x hx => ?_, by simp, .inr ⟨w.heap.size, (xs.map fun s => Value.string ⟨s.toArray⟩).toArray, E, rfl, ?_, by simp, ?_⟩⟩
    · obtain ⟨s, _, rfl⟩ := List.mem_map.1 hx
      exact ⟨rfl, fun c hc => by rw [List.mem_singleton.1 hc]; rfl⟩
    · show (w.heap.push _)[w.heap.size]? = _
      simp
    · rw [flat_strs]
      intro i c v hc hv
      simp only [List.getElem?_map, List.getElem?_toArray, Option.map_eq_some_iff] at hc hv
      obtain ⟨s, h1, rfl⟩ := hc
      obtain ⟨s', h2, rfl⟩ := hv
      rw [h1] at h2
      obtain rfl := Option.some.inj h2
      exact .str s
  obtain ⟨k1, k2, k3⟩ := add_rel r e0 id hh (.inr ⟨_, rfl, Nat.le_refl _⟩)
  refine ⟨?_, k1, k2⟩
  have := At.sl (w := w.alloc (.cells (xs.map fun s => Value.string ⟨s.toArray⟩).toArray E)) (S := S) 1 ⟨some w.heap.size, xs.length⟩ 0 xs.length w.heap.size xs.length rfl (Nat.le_refl _) (by simp)
  simpa using this
/-! ### tables -/
/-- A row of numbers. -/
def tNum (k : IntKind) (zs : List Int) (o : Option Obj) : Prop := rowOf o = some (zs.map fun z => Value.int k z).toArray
/-- A cell with a number. -/
def tInt (k : IntKind) (o : Option Obj) : Prop := ∃ vs m, rowOf o = some vs ∧ vs[0]? = some (.int k m)
/-- A cell with an interface's value. -/
def tIfc (o : Option Obj) : Prop := ∃ vs ev, rowOf o = some vs ∧ vs[0]? = some ev ∧ (ev = .nilIface ∨ ∃ te pe, ev = .iface te pe)
theorem row_cell (w : World) (g i : Nat) {vs : Array Value} (h : rowOf (w.heap[g]?) = some vs) : w.cell? ⟨g, i, none⟩ = vs[i]? := by
  unfold World.cell?
  unfold rowOf at h
  split at h
  · rename_i vs' e f ho
    obtain rfl := Option.some.inj h
    simp [ho]
  · cases h
def tabOf : List (Nat × (Option Obj → Prop)) → Nat → Option (Option Obj → Prop)
  | [], _ => none
  | (k, o) :: r, g => if g = k then some o else tabOf r g
theorem tabOf_mem : ∀ {l : List (Nat × (Option Obj → Prop))} {g : Nat} {o : Option Obj → Prop}, tabOf l g = some o → (g, o) ∈ l
  | [], _, _, h => by cases h
  | (k, o') :: r, g, o, h => by
    unfold tabOf at h
    split at h
    · rename_i hg
      rw [hg, Option.some.inj h]; simp
    · exact List.mem_cons_of_mem _ (tabOf_mem h)
theorem row_lt {w : World} {g : Nat} {vs : Array Value} (h : rowOf (w.heap[g]?) = some vs) : g < w.heap.size := by
  rcases Nat.lt_or_ge g w.heap.size with h' | h'
  · exact h'
  · rw [Array.getElem?_eq_none h'] at h; cases h
end Go.Eng
namespace Go.Eng
open Go
section errs
variable [GTab] {P : Program} {all : Array Oper} {rest : List Oper} {n : Nat} {tm : List (Nat × AV)} {hp : Heap} {Q : St → Prop} {d : Nat} {ty : TypeId} {pos : String} {af : Array Edge}
/-- An error's value, and whether it is none. -/
def errV (e : Value) (ok : Bool) : Prop := (e = .nilIface ∧ ok = true) ∨ ((∃ te pe, e = .iface te pe) ∧ ok = false)
/-- A function that makes nothing that is spoken of, and returns a number and an error. -/
def PuE (P : Program) (f : FuncId) (args : List AV) (m : Int) (ok : Bool) : Prop := ACall P f args [] (fun r h => ∃ e, r = .tup [I m, .raw e] ∧ errV e ok)
theorem t_callE {f : FuncId} {args : List Operand} {ts : Array TypeId} {l l' : List AV} {m : Int} {ok : Bool} [IsFn P f] (hl : evL tm args = some l) (c : PuE P f l' m ok) (co : CoL hp l l') (hn : Nat.blt d n = true)
    (kk : ∀ e, errV e ok → ARun P all rest ⟨n, (d, .tup [I m, .raw e]) :: tm, hp⟩ Q) : ARun P all (⟨some d, .call { callee := .value (.func f), args := args.toArray, argTypes := ts }, ty, pos, af, none⟩ :: rest) ⟨n, tm, hp⟩ Q := by
  refine r_call0 hl c co hn (fun r h' hr => ?_)
  obtain ⟨e, rfl, he⟩ := hr
  exact ARun.weaken (σ' := ⟨n, (d, .tup [I m, .raw e]) :: tm, hp⟩) ⟨rfl, fun _ _ h => h, List.sublist_append_right _ _⟩ (kk e he)
theorem eq_in {t : TypeId} {ms : Array (String × TypeId)} [TUnder P t (.interface ms)] (te : TypeId) (pe : Value) (w : World) : (Op.equal t (.iface te pe) .nilIface).run P w = .ok false w := by
  show (Op.equalIn (9999 + 1) t _ _).run P w = _
  rw [Op.equalIn]
  simp [run_underlying (TUnder.h (P := P) (t := t))]
theorem eq_ii {t : TypeId} {ms : Array (String × TypeId)} [TUnder P t (.interface ms)] (w : World) : (Op.equal t .nilIface .nilIface).run P w = .ok true w := by
  show (Op.equalIn (9999 + 1) t _ _).run P w = _
  rw [Op.equalIn]
  simp [run_underlying (TUnder.h (P := P) (t := t))]
theorem q_eqE {xt yt : TypeId} {ms : Array (String × TypeId)} {x : Operand} {e : Value} {ok : Bool} [TUnder P xt (.interface ms)] (he : errV e ok) (hx : evA tm x = some (.raw e)) : QV P ⟨some d, .binOp .eql xt x (.const .nilIface) yt, ty, pos, af, none⟩ ⟨n, tm, hp⟩ (.bool ok) := by
  refine fun w S a r => ⟨.bool ok, fun w1 _ => ?_, .bool _⟩
  have hr := (evA_at (σ := ⟨n, tm, hp⟩) r hx).raw_inv
  have hc : a.eval (.const .nilIface) = .nilIface := rfl
  rcases he with ⟨rfl, rfl⟩ | ⟨⟨te, pe, rfl⟩, rfl⟩
  · have h1 := eq_ii (P := P) (t := xt) w1
    simp [execOp, hr, hc, eqGuard, binOp, h1]
  · have h1 := eq_in (P := P) (t := xt) te pe w1
    simp [execOp, hr, hc, eqGuard, binOp, h1]
/-- string(r) for a number r. -/
def strR (n : Int) : List UInt8 := (Utf8.encode n).data.toList
theorem q_conv_is {src dst : TypeId} {D : TypeDesc} {x : Operand} {k : IntKind} {i : Int} [TUnder P src D] [TUnder P dst .string] (hx : evA tm x = some (.int k i)) : QV P ⟨some d, .convert src dst x, ty, pos, af, none⟩ ⟨n, tm, hp⟩ (.str (strR i)) := by
  intro w S a r
  refine ⟨.string (Utf8.encode i), fun w1 _ => ?_, .str (strR i)⟩
  have h := run_convert_int_string w1 src dst k i (P := P) (by rw [TUnder.h (P := P) (t := src)]; rfl) (TUnder.h (P := P) (t := dst))
  simp only [execOp, (evA_at (σ := ⟨n, tm, hp⟩) r hx).int_inv, Sem.run_bind, h, Result.andThen_ok]
  rfl
/-- Two strings, one behind the other. -/
def catO (a b : List UInt8) : Option (List UInt8) := if a.length + b.length ≤ 9223372036854775807 then some (a ++ b) else none
theorem q_sadd {xt yt : TypeId} {x y : Operand} {s t r : List UInt8} (h : catO s t = some r) (hx : evA tm x = some (.str s)) (hy : evA tm y = some (.str t)) : QV P ⟨some d, .binOp .add xt x y yt, ty, pos, af, none⟩ ⟨n, tm, hp⟩ (.str r) := by
  unfold catO at h
  split at h
  · rename_i hs
    obtain rfl := Option.some.inj h
    refine fun w S a r => ⟨.string (⟨s.toArray⟩ ++ ⟨t.toArray⟩), fun w1 _ => ?_, ?_⟩
    · have h1 := run_string_add_sum (P := P) (w := w1) (⟨s.toArray⟩ : ByteArray) (⟨t.toArray⟩ : ByteArray) (by simpa [ByteArray.size] using hs)
      simp [execOp, (evA_at (σ := ⟨n, tm, hp⟩) r hx).str_inv, (evA_at (σ := ⟨n, tm, hp⟩) r hy).str_inv, eqGuard, binOp, h1]
    · have : ((⟨s.toArray⟩ : ByteArray) ++ ⟨t.toArray⟩) = ⟨(s ++ t).toArray⟩ := by apply ByteArray.ext; simp
      rw [this]
      exact .str _
  · cases h
end errs
end Go.Eng

/- The engine, part 40: arrays of a fixed length whose elements are one cell each. No program in sight. -/
set_option linter.unusedVariables false
set_option linter.unusedSimpArgs false
set_option linter.unusedSectionVars false
namespace Go.Eng
open Go
variable [GTab]
/-- An element of an array of this length. -/
def idxA {α : Type} (m : Nat) (xs : List α) (j : Int) : Option α := if j < m then idx xs j else none
theorem idxA_some {α : Type} {m : Nat} {xs : List α} {j : Int} {el : α} (h : idxA m xs j = some el) : j < m ∧ idx xs j = some el := by
  unfold idxA at h
  split at h
  · exact ⟨by assumption, h⟩
  · cases h
theorem run_indexAr {P : Program} {t e : TypeId} {i : TypeInfo} {m : Nat} (ht : P.underlying t = some (.array m e)) (hi : P.info? e = some i) (ad : Addr) (k : IntKind) (j : Int) (h0 : 0 ≤ j) (h1 : j < m) (w : World) :
    (Instr.indexAt t (.pointer (some ad)) (.int k j)).run P w = .ok (.pointer (some (ad.add (j.toNat * i.size)))) w := by
  simp [Instr.indexAt, asIntOf, run_underlying ht, h0, h1, sizeOf, typeInfo, hi, Instr.sureAddr]
section rules
variable {P : Program} {all : Array Oper} {rest : List Oper} {n : Nat} {tm : List (Nat × AV)} {hp : Heap} {Q : St → Prop} {d : Nat} {ty : TypeId} {pos : String} {af : Array Edge}
theorem t_index_ar {α : Type} {Xs : List α} {el : α} {t e : TypeId} {i : TypeInfo} {m : Nat} {x y : Operand} {k : IntKind} {j : Int} {b : Bk} [TUnder P t (.array m e)] [TInfo P e i] (hx : evA tm x = some (.ptr b 0)) (hsz : Nat.beq i.size 1 = true) (hy : evA tm y = some (.int k j))
    (hv : idxA m Xs j = some el) : QV P ⟨some d, .indexAddr t x y, ty, pos, af, none⟩ ⟨n, tm, hp⟩ (.aptr 1 b j.toNat 0) := by
  obtain ⟨hm, hv⟩ := idxA_some hv
  obtain ⟨h0, h1, _⟩ := idx_some hv
  have hs : i.size = 1 := Nat.eq_of_beq_eq_true hsz
  exact fun w S a r => by
    obtain ⟨q, hb, hq⟩ := (evA_at (σ := ⟨n, tm, hp⟩) r hx).ptr_inv
    refine ⟨.pointer (some ⟨q, j.toNat * 1 + 0, none⟩), fun w1 _ => ?_, .aptr _ _ _ _ q hb⟩
    have := run_indexAr (P := P) (TUnder.h (P := P) (t := t)) (TInfo.h (P := P) (t := e)) ⟨q, 0, none⟩ k j h0 hm w1
    rw [add_at, hs] at this
    simp [execOp, hq, (evA_at (σ := ⟨n, tm, hp⟩) r hy).int_inv, this]
theorem n_allocA {α : Type} {g : α → AV} {Xs : List α} {E : TypeId} {i : TypeInfo} {z : Value} [TInfo P E i] (hz : i.zero = some z) (hc : normL (zAV z).cells = some (Xs.map g)) (h1 : allOne (Xs.map g) = true) (he : allEl 1 (Xs.map g) = true) (hf : flat (Xs.map g) = Xs.map g) (hn : Nat.blt d n = true)
    (kk : ∀ b : Bk, ARun P all rest ⟨n, (d, .ptr b 0) :: tm, (b, .arr 1 (Xs.map g)) :: hp⟩ Q) : ARun P all (⟨some d, .alloc E, ty, pos, af, none⟩ :: rest) ⟨n, tm, hp⟩ Q := by
  have hcc := normL_eq hc
  refine ARun.opx rfl fun w S a r => ?_
  obtain ⟨hl, hat⟩ := zAV_cells_at w S z (by rw [hcc]; exact allOne_spec h1)
  rw [hcc] at hl hat
  have e0 := Ext.alloc w (.cells z.cells E)
  have hh : Holds (w.alloc (.cells z.cells E)) S ⟨some w.heap.size, (Xs.map g).length⟩ (.arr 1 (Xs.map g)) := by
    refine ⟨allEl_spec he, Nat.le_refl _, .inr ⟨w.heap.size, z.cells, E, rfl, ?_, by simp only [Nat.mul_one]; exact hl.symm, ?_⟩⟩
    · show (w.heap.push _)[w.heap.size]? = _
      simp
    · rw [hf]
      exact hat.mono fun m hm => ⟨hm, e0.same m (r.hp.slt m hm)⟩
  obtain ⟨k1, k2, k3⟩ := add_rel r.hp e0 id hh (.inr ⟨_, rfl, Nat.le_refl _⟩)
  refine ⟨.pointer (some ⟨w.heap.size, 0, none⟩), w.alloc (.cells z.cells E), S, _, ?_, (r.heap k3 k1).put hn (.ptr ⟨some w.heap.size, (Xs.map g).length⟩ 0 _ rfl), k2, kk ⟨some w.heap.size, (Xs.map g).length⟩⟩
  have hi := TInfo.h (P := P) (t := E)
  simp [execOp, Instr.alloc, newVar, newRow, zeroValue, typeInfo, hi, hz]
end rules
end Go.Eng

/- The engine, part 41: from what a row lays to the tables that the engine speaks of. No program in sight. -/
set_option linter.unusedVariables false
set_option linter.unusedSimpArgs false
namespace Go.Eng
open Go Go.Lib
variable [GTab]
set_option linter.unusedSectionVars false
theorem row_of_cell {w : World} {g : Nat} {v : Value} (h : w.cell? ⟨g, 0, none⟩ = some v) : ∃ vs, rowOf (w.heap[g]?) = some vs ∧ vs[0]? = some v := by
  unfold World.cell? at h
  cases ho : w.heap[g]? with
  | none => simp [ho] at h
  | some o =>
    cases o with
    | cells vs e f => exact ⟨vs, rfl, by simpa [ho] using h⟩
    | _ => simp [ho] at h
theorem int_row {w : World} {g : Nat} {k : IntKind} {m : Int} (h : w.cell? ⟨g, 0, none⟩ = some (.int k m)) : g < w.heap.size ∧ tInt k (w.heap[g]?) := by
  obtain ⟨vs, h1, h2⟩ := row_of_cell h
  exact ⟨row_lt h1, vs, m, h1, h2⟩
theorem num_row {P : Program} {W : World} {name : String} {k : IntKind} {zs : List Int} {g : Nat} {t e : TypeId} {n : Nat}
    (hg : P.globalNamed name = some g) (hty : (P.globals[g]?).map (·.type) = some t) (ht : P.underlying t = some (.array n e)) (he : P.underlying e = some (.int k)) (hce : P.cellsOf e = 1) (hct : P.cellsOf t = n)
    (h : VarReads P W name (tabData k zs)) : g < W.heap.size ∧ tNum k zs (W.heap[g]?) := by
  obtain ⟨g', t', cs, fuel, p, hg', ht', hvar, hd⟩ := h
  obtain rfl := Option.some.inj (hg.symm.trans hg')
  obtain rfl := Option.some.inj (hty.symm.trans ht')
  rw [var_row hg] at hvar
  refine ⟨row_lt hvar, ?_⟩
  unfold tNum
  rw [hvar, ← cells_of_tab ht he hce hct hd]
theorem ifc_row {P : Program} {W : World} {name : String} {d : DataW Unit} {g : Nat} {t : TypeId} {ms : Array (String × TypeId)}
    (hg : P.globalNamed name = some g) (hty : (P.globals[g]?).map (·.type) = some t) (ht : P.underlying t = some (.interface ms)) (h : VarReads P W name d) : g < W.heap.size ∧ tIfc (W.heap[g]?) := by
  obtain ⟨g', t', cs, fuel, p, hg', ht', hvar, hd⟩ := h
  obtain rfl := Option.some.inj (hg.symm.trans hg')
  obtain rfl := Option.some.inj (hty.symm.trans ht')
  rw [var_row hg] at hvar
  refine ⟨row_lt hvar, ?_⟩
  have key : ∀ l : List Value, DataW.trod (fun _ => ()) P W 0 (fun _ => true) false fuel t l = some (d, p) → ∃ ev, l[0]? = some ev ∧ (ev = .nilIface ∨ ∃ te pe, ev = .iface te pe) := by
    intro l hl
    cases fuel with
    | zero => simp [DataW.trod] at hl
    | succ fuel =>
      unfold DataW.trod at hl
      simp only [ht] at hl
      split at hl <;> first | (exact ⟨_, rfl, .inl rfl⟩) | (exact ⟨_, rfl, .inr ⟨_, _, rfl⟩⟩) | (simp_all)
  obtain ⟨ev, h1, h2⟩ := key cs.toList hd
  exact ⟨cs, ev, hvar, by simpa using h1, h2⟩
end Go.Eng

/- The engine, part 42: a row that lays variables, at a world that is shaped: what the kit's two forms (laid; shaped) give apart, given together. No program in sight. -/
set_option linter.unusedVariables false
namespace Go.Eng
open Go
variable {H : Type} {enc : TypeId × Value → H}
theorem handed_both {a : Assume} {C : Checked} {os : Os} {f : FuncId} {fn : Func} {s : ChangeSpec} {conds : List PathCond} {apart fresh handsOn again : Bool} {X : World → Array Value → Prop}
    (hX : ∀ (w w' : World) (args : Array Value), w.heap = w'.heap → X w args → X w' args)
    (own : ownKnob C.prog.godebug = none) (started : os.Started) (noInit : C.prog.inits.idxOf? f = none) (hfn : C.prog.funcs[f]? = some fn)
    (witness : ∃ (w : World) (tape : Tape) (i : Input), w.os = os ∧ (w.forCall tape i).Shaped C.prog ∧ i.vars = [] ∧ Input.okWide C.prog (w.forCall tape i) .any w.heap.size f i ∧
      ((s.pre enc C.prog fn conds apart (w.forCall tape i).memory i.args ∧ X (w.forCall tape i).memory i.args) ∧ sizedMet enc C.prog fn (OpenSpec.ofChange s) apart (w.forCall tape i).memory i.args) ∧ a.holds C.prog (lone (Frame.enter C.prog f i.args .normal) [] (w.forCall tape i)))
    (walk : ∀ (W : World) (base : Nat) (args : Array Value) (ds gs : List (DataW H)) (before : List MemPlace),
      (∀ (j : Nat) t v, fn.params[j]? = some t → args[j]? = some v → Value.okWide C.prog W .any base t v) →
      DataW.Whole enc C.prog fn.params.toList s.vars apart W args.toList ds gs before →
      conds.all (PathCond.test C.prog ⟨fn.params.toList, ds, s.plain.varTypes C.prog, gs⟩) = true →
      (DataW.weightsEach C.prog (fn.params.toList ++ s.plain.varTypes C.prog) (ds ++ gs)).all (· ≤ reachBytes) = true → X W args ∧ W.ShapedOpen C.prog →
      a.holds C.prog (lone (Frame.enter C.prog f args .normal) [] W) →
      Calls C.prog f args W fun e W' => ∃ v, e = .returned v ∧ s.post enc C.prog fn apart fresh handsOn again W args v W') :
    ReturnsInHanded a C os f .any (fun w args => (s.pre enc C.prog fn conds apart w args ∧ X w args) ∧ sizedMet enc C.prog fn (OpenSpec.ofChange s) apart w args) (s.post enc C.prog fn apart fresh handsOn again) := by
  refine returnsInHanded_of_calls own started noInit witness ?_
  intro w tape i _ shaped _ ok pre held
  obtain ⟨_, _, _, fn', there, _, _, _, _, vals⟩ := ok
  cases Option.some.inj (there.symm.trans hfn)
  obtain ⟨⟨⟨ds, gs, before, whole, tests⟩, x⟩, sized⟩ := pre
  have K := walk (w.forCall tape i) w.heap.size i.args ds gs before vals (DataW.Whole.of_heap (w' := w.forCall tape i) (by rfl) whole) tests (sized.weights whole) ⟨hX _ _ _ (by rfl) x, shaped⟩ held
  exact K.mono fun e W' ⟨v, he, hp⟩ => by
    subst he
    exact ChangeSpec.post_blind hp
end Go.Eng

/- The engine, part 43: a slice whose room is known; what slices.Delete does with it. No program in sight. -/
set_option linter.unusedVariables false
set_option linter.unusedSimpArgs false
set_option linter.unusedSectionVars false
namespace Go.Eng
open Go
variable [GTab]

section rules
variable {P : Program} {all : Array Oper} {rest : List Oper} {n : Nat} {tm : List (Nat × AV)} {hp : Heap} {Q : St → Prop} {d : Nat} {ty : TypeId} {pos : String} {af : Array Edge}
end rules
end Go.Eng

/- The engine, part 44: a string's bytes as a list. No program in sight. -/
set_option linter.unusedVariables false
set_option linter.unusedSimpArgs false
set_option linter.unusedSectionVars false
namespace Go.Eng
open Go
variable [GTab]

/-- One block more that is only read. -/
theorem HRel.one {w w' : World} {S : Nat → Prop} {h : Heap} (r : HRel w S h) (e : Ext w w') (hs : w.heap.size < w'.heap.size) : HRel w' (fun n => S n ∨ n = w.heap.size) h ∧ Evo w S h w' (fun n => S n ∨ n = w.heap.size) h := by
  have hlt : ∀ x ∈ h, ∀ n, n ∈ eb x → n < w.heap.size := fun x hx n hn => r.lt ⟨x, hx, hn⟩
  have hk : ∀ n, S n → (S n ∨ n = w.heap.size) ∧ w'.heap[n]? = w.heap[n]? := fun n hn => ⟨.inl hn, e.same n (r.slt n hn)⟩
  refine ⟨⟨r.nodup, fun x hx => (r.holds x hx).mono hk (fun n hn => e.same n (hlt x hx n hn)), fun x hx n hn => ⟨fun hn' => ?_, fun hf => .inl ((r.sep x hx n hn).2 hf)⟩, fun n hn => ?_, fun g o ho => ⟨.inl (r.glob g o ho).1, gkeep (e.same g (r.slt g (r.glob g o ho).1)) (r.glob g o ho).2⟩⟩,
    ⟨e.os, e.tape, e.output, e.size, hk, fun n hn _ => ⟨e.same n hn, fun hn' => ?_⟩, fun n hn => .inl hn, e.drawn⟩⟩
  · rcases hn' with h' | h'
    · exact (r.sep x hx n hn).1 h'
    · have := hlt x hx n hn; omega
  · rcases hn with h' | h'
    · exact Nat.lt_of_lt_of_le (r.slt n h') e.size
    · omega
  · rcases hn' with h' | h'
    · exact h'
    · omega
section rules
variable {P : Program} {all : Array Oper} {rest : List Oper} {n : Nat} {tm : List (Nat × AV)} {hp : Heap} {Q : St → Prop} {d : Nat} {ty : TypeId} {pos : String} {af : Array Edge}
theorem flat_intsK (k : IntKind) (xs : List Int) : flat (xs.map (AV.int k)) = xs.map (AV.int k) := flat_ones (fun _ => rfl) xs
end rules
end Go.Eng

/- The engine, part 45: string builders: a box and the row behind it. No program in sight. -/
set_option linter.unusedVariables false
set_option linter.unusedSectionVars false
namespace Go.Eng
open Go
variable [GTab]

/-- A builder's memory turns; its row stays or goes over to new memory; all else stands. -/
theorem bld_rel {w w' : World} {S : Nat → Prop} {hp hp' : Heap} {b : Bk} {T E : TypeId} {q q' : Option Nat} {bs bs' : List UInt8} (r : HRel w S hp) (u : Upd hp b (.bld T E q bs) b (.bld T E q' bs') hp')
    (hos : w'.os = w.os) (htp : w'.tape = w.tape) (hou : w'.output = w.output) (hsz : w.heap.size ≤ w'.heap.size) (hd : GTab.dr → w.drawn ≤ w'.drawn)
    (hk : ∀ n, n < w.heap.size → b.blk ≠ some n → q ≠ some n → w'.heap[n]? = w.heap[n]?)
    (hh : Holds w' S b (.bld T E q' bs')) (hq : q' = q ∨ ∃ m, q' = some m ∧ w.heap.size ≤ m) :
    HRel w' S hp' ∧ Evo w S hp w' S hp' := by
  obtain ⟨p, t, rfl, rfl⟩ := u.split
  have hin : (b, .bld T E q bs) ∈ p ++ (b, .bld T E q bs) :: t := by simp
  have heb : ∀ n, n ∈ eb (b, .bld T E q bs) ↔ b.blk = some n ∨ q = some n := fun n => by simp [eb, Ob.more]
  have heb' : ∀ n, n ∈ eb (b, .bld T E q' bs') ↔ b.blk = some n ∨ q' = some n := fun n => by simp [eb, Ob.more]
  have nS : ∀ n, n ∈ eb (b, .bld T E q bs) → ¬ S n := fun n hn hs => ((r.sep _ hin n hn).1 hs).elim
  have keep : ∀ n, S n → S n ∧ w'.heap[n]? = w.heap[n]? := fun n hs => ⟨hs, hk n (r.slt n hs) (fun e => nS n ((heb n).2 (.inl e)) hs) (fun e => nS n ((heb n).2 (.inr e)) hs)⟩
  have hnd := r.nodup
  rw [List.flatMap_append, List.flatMap_cons, List.nodup_append, List.nodup_append] at hnd
  have others : ∀ e ∈ p ++ t, ∀ n, n ∈ eb e → n < w.heap.size ∧ b.blk ≠ some n ∧ q ≠ some n := by
    intro e he n hn
    have hno : ¬ n ∈ eb (b, .bld T E q bs) := fun hb => by
      rcases List.mem_append.1 he with h | h
      · exact hnd.2.2 n (List.mem_flatMap.2 ⟨e, h, hn⟩) n (List.mem_append_left _ hb) rfl
      · exact hnd.2.1.2.2 n hb n (List.mem_flatMap.2 ⟨e, h, hn⟩) rfl
    exact ⟨r.lt ⟨e, mem_mid.2 (.inr he), hn⟩, fun e => hno ((heb n).2 (.inl e)), fun e => hno ((heb n).2 (.inr e))⟩
  have fresh' : ∀ n, n ∈ eb (b, .bld T E q' bs') → n ∈ eb (b, .bld T E q bs) ∨ w.heap.size ≤ n := by
    intro n hn
    rcases (heb' n).1 hn with h | h
    · exact .inl ((heb n).2 (.inl h))
    · rcases hq with e | ⟨m, e, hm⟩
      · exact .inl ((heb n).2 (.inr (e ▸ h)))
      · rw [e] at h; have := Option.some.inj h; exact .inr (by omega)
  have hno' : ∀ e ∈ p ++ t, ∀ n, n ∈ eb e → ¬ n ∈ eb (b, .bld T E q' bs') := by
    intro e he n hn hb
    obtain ⟨h1, h2, h3⟩ := others e he n hn
    rcases fresh' n hb with h | h
    · rcases (heb n).1 h with h | h
      · exact h2 h
      · exact h3 h
    · omega
  have hbq : (eb (b, .bld T E q' bs')).Nodup := by
    have h0 : (eb (b, Ob.bld T E q bs)).Nodup := hnd.2.1.1
    show (b.blk.toList ++ q'.toList).Nodup
    replace h0 : (b.blk.toList ++ q.toList).Nodup := h0
    rcases hq with e | ⟨m, e, hm⟩
    · rw [e]; exact h0
    · subst e
      obtain ⟨n, pp, vv, g1, g2, _⟩ := r.holds _ hin
      have hlt := hp_lt g2
      rw [g1]
      simp
      omega
  refine ⟨⟨?_, ?_, ?_, fun n hs => Nat.lt_of_lt_of_le (r.slt n hs) hsz, fun g o ho => ⟨(r.glob g o ho).1, gkeep (keep g (r.glob g o ho).1).2 (r.glob g o ho).2⟩⟩, ⟨hos, htp, hou, hsz, keep, ?_, ?_, hd⟩⟩
  · rw [List.flatMap_append, List.flatMap_cons, List.nodup_append, List.nodup_append]
    refine ⟨hnd.1, ⟨hbq, hnd.2.1.2.1, fun x hx y hy hxy => ?_⟩, fun x hx y hy hxy => ?_⟩
    · subst hxy
      obtain ⟨e, he, hen⟩ := List.mem_flatMap.1 hy
      exact hno' e (List.mem_append_right _ he) x hen hx
    · subst hxy
      rcases List.mem_append.1 hy with hy | hy
      · obtain ⟨e, he, hen⟩ := List.mem_flatMap.1 hx
        exact hno' e (List.mem_append_left _ he) x hen hy
      · exact hnd.2.2 x hx x (List.mem_append_right _ hy) rfl
  · intro e he
    rcases mem_mid.1 he with rfl | he
    · exact hh
    · exact (r.holds e (mem_mid.2 (.inr he))).mono keep (fun n hn => hk n (others e he n hn).1 (others e he n hn).2.1 (others e he n hn).2.2)
  · intro e he n hn
    rcases mem_mid.1 he with rfl | he
    · refine ⟨fun hs => ?_, fun h => h.elim⟩
      rcases fresh' n hn with h | h
      · exact (nS n h hs).elim
      · have := r.slt n hs; omega
    · exact r.sep e (mem_mid.2 (.inr he)) n hn
  · intro n hn hhas
    exact ⟨hk n hn (fun h => hhas ⟨_, hin, (heb n).2 (.inl h)⟩) (fun h => hhas ⟨_, hin, (heb n).2 (.inr h)⟩), id⟩
  · rintro n ⟨e, he, hen⟩
    rcases mem_mid.1 he with rfl | he
    · rcases fresh' n hen with h | h
      · exact .inl ⟨_, hin, h⟩
      · exact .inr h
    · exact .inl ⟨e, mem_mid.2 (.inr he), hen⟩
section
variable {P : Program} {all : Array Oper} {rest : List Oper} {n : Nat} {tm : List (Nat × AV)} {hp : Heap} {Q : St → Prop} {d : Nat} {ty : TypeId} {pos : String} {af : Array Edge}
/-- A new builder. -/
theorem n_allocB {E : TypeId} {i : TypeInfo} (B : TypeId) [TInfo P E i] (hz : i.zero = some (.agg #[.pointer none, .slice none 0 0])) (hn : Nat.blt d n = true)
    (kk : ∀ b : Bk, ARun P all rest ⟨n, (d, .ptr b 0) :: tm, (b, .bld E B none []) :: hp⟩ Q) : ARun P all (⟨some d, .alloc E, ty, pos, af, none⟩ :: rest) ⟨n, tm, hp⟩ Q := by
  refine ARun.opx rfl fun w S a r => ?_
  have hE := Ext.alloc w (.cells #[.pointer none, .slice none 0 0] E)
  have hb : (w.alloc (.cells #[.pointer none, .slice none 0 0] E)).heap[w.heap.size]? = some (.cells #[.pointer none, .slice none 0 0] E (0, 0)) := heap_alloc_new w _
  obtain ⟨g1, g2, g3⟩ := add_rel (b := ⟨some w.heap.size, 0⟩) (o := .bld E B none []) r.hp hE (fun h => h) ⟨w.heap.size, .pointer none, .slice none 0 0, rfl, hb, .inl rfl, World.ownsRowF_nil _ _ _ _, rfl⟩ (.inr ⟨_, rfl, Nat.le_refl _⟩)
  refine ⟨.pointer (some ⟨w.heap.size, 0, none⟩), _, S, _, ?_, (r.heap g3 g1).put hn (.ptr ⟨some w.heap.size, 0⟩ 0 _ rfl), g2, kk ⟨some w.heap.size, 0⟩⟩
  have hi := TInfo.h (P := P) (t := E)
  simp [execOp, Instr.alloc, newVar, newRow, zeroValue, typeInfo, hi, hz, Value.cells]
end
/-- What a builder's write makes of it. -/
def bldW (x s : List UInt8) : Option (List UInt8) := if x.length + s.length ≤ 1000000000000 then some (x ++ s) else none
theorem bldW_some {x s y : List UInt8} (h : bldW x s = some y) : y = x ++ s ∧ x.length + s.length ≤ 1000000000000 := by
  unfold bldW at h
  split at h
  · rename_i hl; exact ⟨(Option.some.inj h).symm, hl⟩
  · cases h
end Go.Eng

/- The engine, part 46: what a builder's methods do, told exactly. No program in sight. -/
set_option linter.unusedVariables false
set_option linter.unusedSectionVars false
namespace Go.Eng
open Go Go.Proofs Go.Shelf Go.RowKit Go.Lib

theorem bl_lt {w : World} {n : Nat} {o : Obj} (h : w.heap[n]? = some o) : n < w.heap.size := by
  rcases Nat.lt_or_ge n w.heap.size with h' | h'
  · exact h'
  · simp [Array.getElem?_eq_none h'] at h
theorem row_keep {w w' : World} {base : Nat} {e : TypeId} {size : Nat} {v : Value} {n : Nat} {xs : List Value} (h : w.ownsRowF base e size v n xs) (hk : ∀ k, v.ownBlock = some k → w'.heap[k]? = w.heap[k]?) : w'.ownsRowF base e size v n xs := by
  refine ⟨h.1, ?_⟩
  rcases h.2 with hn | ⟨g, cap, cur, fz, rfl, hb, hgg, rest⟩
  · exact .inl hn
  · exact .inr ⟨g, cap, cur, fz, rfl, hb, by rw [hk g rfl]; exact hgg, rest⟩
section
variable {P : Program} (w : World)
/-- append of a string to a row that is owned: where the new row lies. -/
theorem run_appS (t u ty e : TypeId) (i : TypeInfo) (ht : P.underlying t = some (.slice e)) (hu : P.underlying u = some .string) (hi : P.info? e = some i) (hz : i.zero = some (.int .u8 0))
    (hsize : i.size = 1) (hby : i.bytes = 1) (v : Value) (n : Nat) (xs : List Value) (hown : w.ownsRowF 0 e 1 v n xs) (s : ByteArray) (h63 : n + s.size ≤ maxLen) (hbytes : n + s.size ≤ 140737488355328) :
    ∃ v' w', (Builtin.append_ #[t, u] ty #[v, .string s]).run P w = .ok v' w' ∧ w'.ownsRowF 0 e 1 v' (n + s.size) (xs ++ strCells s) ∧ w.grownBy w' v.ownBlock ∧
      (v'.ownBlock = v.ownBlock ∨ ∃ m, v'.ownBlock = some m ∧ w.heap.size ≤ m) := by
  obtain ⟨v', w', h1, h2, h3, _⟩ := Lib.run_append_own_stringF (P := P) w 0 t u ty e i ht hu hi hz hsize hby v n xs hown s h63 hbytes (Nat.zero_le _)
  refine ⟨v', w', h1, h2, h3, ?_⟩
  rcases hown.2 with ⟨rfl, rfl⟩ | ⟨g, cap, cur, fz, rfl, hbg, hg, hfz, hnc, hcm, hcs, htake⟩
  · obtain ⟨v2, w2, k1, k2, k3, _⟩ := Lib.run_append_own_string (P := P) w w.heap.size t u ty e i ht hu hi hz hsize hby (.slice none 0 0) 0 xs ⟨hown.1, .inl ⟨rfl, rfl⟩⟩ s h63 hbytes (Nat.le_refl _)
    rw [h1] at k1
    injection k1 with e1 e2
    subst e1
    cases hb : v'.ownBlock with
    | none => exact .inl rfl
    | some m => exact .inr ⟨m, rfl, (k2.lt m hb).1⟩
  · have hsmall : n + s.size ≤ 9223372036854775807 := by simp only [maxLen] at h63; omega
    have hxl : xs.length = n := by simpa using hown.1
    by_cases hroom : n + s.size ≤ cap
    · have hr := Lib.run_append_room_stringF (P := P) w t u ty e i ht hu hi hsize g n cap cur fz hg (by simpa using hfz) s hroom (by omega)
      rw [h1] at hr
      injection hr with e1 e2
      subst e1
      exact .inl rfl
    · have holds : ∀ j u, xs[j]? = some u → w.cell? ((⟨g, 0, none⟩ : Addr).add j) = some u := hown.cells (g := g) rfl
      have hr := Lib.run_append_grow_string (P := P) w t u ty e i (.int .u8 0) ht hu hi hz ⟨g, 0, none⟩ n cap xs (by rw [hsize]; simpa using hxl) holds s (by omega) (by omega) (by rw [hby]; exact growslice_fits (by omega) (by omega))
      rw [h1] at hr
      injection hr with e1 e2
      subst e1
      exact .inr ⟨_, rfl, Nat.le_refl _⟩
theorem wpList_appS {ops : Array Oper} {rest : List Oper} {o : Oper} {a : Act} {Q : Exit → Act → World → Prop} (hgd : o.guard = none) (sl x : Operand) (t u : TypeId)
    (ho : o.op = .call { callee := .builtin .append, args := #[sl, x], argTypes := #[t, u] })
    (e : TypeId) (i : TypeInfo) (ht : P.underlying t = some (.slice e)) (hu : P.underlying u = some .string) (hi : P.info? e = some i) (hz : i.zero = some (.int .u8 0))
    (hsize : i.size = 1) (hby : i.bytes = 1)
    (v : Value) (n : Nat) (xs : List Value) (hs : a.eval sl = v) (hown : w.ownsRowF 0 e 1 v n xs) (s : ByteArray) (hx : a.eval x = .string s)
    (h63 : n + s.size ≤ maxLen) (hbytes : n + s.size ≤ 140737488355328)
    (h : ∀ v' w', w'.ownsRowF 0 e 1 v' (n + s.size) (xs ++ strCells s) → w.grownBy w' v.ownBlock → (v'.ownBlock = v.ownBlock ∨ ∃ m, v'.ownBlock = some m ∧ w.heap.size ≤ m) → wpList P ops Q rest (a.put o.dst v') w') : wpList P ops Q (o :: rest) a w := by
  refine wpList_plain hgd fun K hK => ?_
  obtain ⟨v', w', hr, h2, h3, h4⟩ := run_appS (P := P) w t u o.type e i ht hu hi hz hsize hby v n xs hown s h63 hbytes
  unfold Oper.wp execOp
  simp only [ho, resolve, invoke, builtin, Sem.run_bind, Sem.run_pure, Result.andThen_ok, List.map_toArray, List.map_cons, List.map_nil, hs, hx, hr]
  exact hK _ _ (h v' w' h2 h3 h4)
end
variable {P : Program} {ρ : Ren}
/-- What stays when only blocks b and row turn. -/
structure KeepB (w w' : World) (b : Nat) (row : Option Nat) : Prop where
  os : w'.os = w.os
  tape : w'.tape = w.tape
  output : w'.output = w.output
  size : w.heap.size ≤ w'.heap.size
  keep : ∀ n, n < w.heap.size → n ≠ b → row ≠ some n → w'.heap[n]? = w.heap[n]?
theorem KeepB.refl (w : World) (b : Nat) (row : Option Nat) : KeepB w w b row := ⟨rfl, rfl, rfl, Nat.le_refl _, fun _ _ _ _ => rfl⟩
theorem KeepB.trans {w w1 w2 : World} {b : Nat} {row : Option Nat} (h : KeepB w w1 b row) (k : KeepB w1 w2 b row) : KeepB w w2 b row :=
  ⟨k.os.trans h.os, k.tape.trans h.tape, k.output.trans h.output, Nat.le_trans h.size k.size, fun n h1 h2 h3 => (k.keep n (Nat.lt_of_lt_of_le h1 h.size) h2 h3).trans (h.keep n h1 h2 h3)⟩
theorem KeepB.set (w : World) (b : Nat) (row : Option Nat) (j : Nat) (x : Value) : KeepB w (w.setCell ⟨b, j, none⟩ x) b row :=
  ⟨rfl, rfl, rfl, by simp [World.setCell], fun n _ h _ => Below.heap_setCell _ _ _ _ (fun e => h (by simp [e]))⟩
theorem KeepB.grown {w w' : World} {b : Nat} {row : Option Nat} (h : w.grownBy w' row) : KeepB w w' b row :=
  ⟨h.os, h.tape, h.output, h.size, fun n h1 _ h3 => h.block n h1 (fun e => h3 e.symm)⟩
theorem setC0 {w : World} {b : Nat} {p v x : Value} {T : TypeId} (hb : w.heap[b]? = some (.cells #[p, v] T (0, 0))) : (w.setCell ⟨b, 0, none⟩ x).heap[b]? = some (.cells #[x, v] T (0, 0)) := by
  simp [World.setCell, Array.getElem?_modify, hb]
theorem setC1 {w : World} {b : Nat} {p v x : Value} {T : TypeId} (hb : w.heap[b]? = some (.cells #[p, v] T (0, 0))) : (w.setCell ⟨b, 1, none⟩ x).heap[b]? = some (.cells #[p, x] T (0, 0)) := by
  simp [World.setCell, Array.getElem?_modify, hb]
/-- What WriteString does. -/
def WriteSpec (P : Program) (f : FuncId) (T E : TypeId) : Prop := ∀ (b : Nat) (p v : Value) (bs : List Value) (s : ByteArray) (w : World), w.heap[b]? = some (.cells #[p, v] T (0, 0)) → (p = .pointer none ∨ p = .pointer (some ⟨b, 0, none⟩)) →
    w.ownsRowF 0 E 1 v bs.length bs → v.ownBlock ≠ some b → bs.length + s.size ≤ 140737488355328 →
    Calls P f #[.pointer (some ⟨b, 0, none⟩), .string s] w fun e w' => e = .returned (.tuple #[.int .i64 s.size, .nilIface]) ∧
      ∃ v', w'.heap[b]? = some (.cells #[.pointer (some ⟨b, 0, none⟩), v'] T (0, 0)) ∧ w'.ownsRowF 0 E 1 v' (bs.length + s.size) (bs ++ strCells s) ∧
        (v'.ownBlock = v.ownBlock ∨ ∃ m, v'.ownBlock = some m ∧ w.heap.size ≤ m) ∧ KeepB w w' b v.ownBlock
theorem KeepB.freeze (w : World) (b g n : Nat) : KeepB w (w.freeze ⟨g, 0, none⟩ n) b (some g) := by
  unfold World.freeze
  split
  · exact KeepB.refl w b _
  · exact ⟨rfl, rfl, rfl, by simp, fun k _ _ hk => by
      simp only [Array.getElem?_modify]
      rw [if_neg (fun e => hk (by rw [← e]))]⟩
theorem KeepB.drew {w w' : World} {b : Nat} {row : Option Nat} (h : KeepB w w' b row) : KeepB w w'.drew b row := ⟨h.os, h.tape, h.output, h.size, h.keep⟩
theorem KeepB.alloc {w w' : World} {b : Nat} {row : Option Nat} (h : KeepB w w' b row) (o : Obj) : KeepB w (w'.alloc o) b row :=
  ⟨h.os, h.tape, h.output, Nat.le_trans h.size (by simp), fun n h1 h2 h3 => (heap_alloc_old w' o (Nat.lt_of_lt_of_le h1 h.size)).trans (h.keep n h1 h2 h3)⟩
set_option maxHeartbeats 2000000 in
set_option maxRecDepth 100000 in
theorem stringX (L : Lays.n169 P ρ) (X : Builder.Extra P ρ) (b : Nat) (p v : Value) (l : List UInt8) (w : World) (hb : w.heap[b]? = some (.cells #[p, v] (ρ.t 72) (0, 0))) (hp : p = .pointer none ∨ p = .pointer (some ⟨b, 0, none⟩))
    (ho : w.ownsRowF 0 (ρ.t 5) 1 v l.length (Lib.byteCells l)) (hne : v.ownBlock ≠ some b) :
    Calls P (ρ.f 169) #[.pointer (some ⟨b, 0, none⟩)] w fun e w' => e = .returned (.string ⟨l.toArray⟩) ∧ KeepB w w' b v.ownBlock := by
  have hlt := bl_lt hb
  have mixed := L.mixed
  have t72 := L.t72; have a72 := L.a72; have z72 := L.z72; have v72 := L.v72; have u72 := run_underlying L.t72
  have t70 := L.t70; have a70 := L.a70; have z70 := L.z70; have v70 := L.v70; have u70 := run_underlying L.t70
  have t37 := L.t37; have a37 := L.a37; have z37 := L.z37; have v37 := L.v37; have u37 := run_underlying L.t37
  have t127 := L.t127; have a127 := L.a127; have z127 := L.z127; have v127 := L.v127; have u127 := run_underlying L.t127
  have t3 := L.t3; have a3 := L.a3; have z3 := L.z3; have v3 := L.v3; have u3 := run_underlying L.t3
  have t9 := L.t9; have a9 := L.a9; have z9 := L.z9; have v9 := L.v9; have u9 := run_underlying L.t9
  have t5 := X.t5; have a5 := X.a5; have z5 := X.z5; have v5 := X.v5; have u5 := run_underlying X.t5
  have hUN := Any.unsafeString_none L X
  have c1 : w.drew.cell? ⟨b, 1, none⟩ = some v := by
    have : w.drew.heap[b]? = some (.cells #[p, v] (ρ.t 72) (0, 0)) := hb
    rw [Lib.cell_of_heap this]; rfl
  rcases ho.2 with ⟨rfl, hl⟩ | ⟨g, cap, cur, fz, rfl, hbg, hg, hfz, hnc, hcm, hcs, htake⟩
  · obtain rfl : l = [] := List.length_eq_zero_iff.1 hl
    have hSD : (Builtin.unsafeSliceData_ #[(ρ.t 37)] (ρ.t 127) #[.slice none 0 0]).run P w.drew = .ok (.pointer none) w.drew := rfl
    go_enter L.f169, Body.n169_ntmps ρ
    go_wp2
    go_region_o
    all_goals (go_wp2; go_ret; exact ⟨rfl, (KeepB.refl w b _).drew⟩)
  · by_cases h0 : l = []
    · subst h0
      by_cases hc0 : cap = 0
      · subst hc0
        have hSD : (Builtin.unsafeSliceData_ #[(ρ.t 37)] (ρ.t 127) #[.slice (some ⟨g, 0, none⟩) 0 0]).run P w.drew = .ok (.pointer (some ⟨w.drew.heap.size, 0, none⟩)) (w.drew.alloc (.view ⟨g, 0, none⟩ (ρ.t 5))) :=
          Lib.run_unsafeSliceData_zero w.drew _ _ (ρ.t 5) L.t127 ⟨g, 0, none⟩ 0 ((ρ.t 5), cur.size) (by have hg' : w.drew.heap[g]? = some (.cells cur (ρ.t 5) fz) := hg; simp [World.shape?, hg'])
        have c2 : (w.drew.alloc (.view ⟨g, 0, none⟩ (ρ.t 5))).cell? ⟨b, 1, none⟩ = some (.slice (some ⟨g, 0, none⟩) 0 0) := by
          have : (w.drew.alloc (.view ⟨g, 0, none⟩ (ρ.t 5))).heap[b]? = _ := (heap_alloc_old w.drew _ hlt).trans hb
          rw [Lib.cell_of_heap this]; rfl
        have c3 : (w.alloc (.view ⟨g, 0, none⟩ (ρ.t 5))).drew.cell? ⟨b, 1, none⟩ = some (.slice (some ⟨g, 0, none⟩) 0 0) := c2
        have c0 : w.cell? ⟨b, 1, none⟩ = some (.slice (some ⟨g, 0, none⟩) 0 0) := c1
        go_enter L.f169, Body.n169_ntmps ρ
        go_wp2
        go_region_o
        all_goals (go_wp2; go_ret; exact ⟨rfl, ((KeepB.refl w b _).drew).alloc _⟩)
      · have hSD : (Builtin.unsafeSliceData_ #[(ρ.t 37)] (ρ.t 127) #[.slice (some ⟨g, 0, none⟩) 0 cap]).run P w.drew = .ok (.pointer (some ⟨g, 0, none⟩)) w.drew :=
          Lib.run_unsafeSliceData_row _ _ _ _ _ _ hc0
        clear hc0
        go_enter L.f169, Body.n169_ntmps ρ
        go_wp2
        go_region_o
        all_goals (go_wp2; go_ret; exact ⟨rfl, (KeepB.refl w b _).drew⟩)
    · have hl0 : l.length ≠ 0 := by simpa using h0
      have hSD : (Builtin.unsafeSliceData_ #[(ρ.t 37)] (ρ.t 127) #[.slice (some ⟨g, 0, none⟩) l.length cap]).run P w.drew = .ok (.pointer (some ⟨g, 0, none⟩)) w.drew :=
        Lib.run_unsafeSliceData_row _ _ _ _ _ _ (by omega)
      have hUS : (Builtin.unsafeString_ #[(ρ.t 127), (ρ.t 3)] (ρ.t 9) #[.pointer (some ⟨g, 0, none⟩), .int .i64 l.length]).run P w.drew = .ok (.string ⟨l.toArray⟩) (w.drew.freeze ⟨g, 0, none⟩ l.length) := by
        refine Lib.run_unsafeString_row w.drew (ρ.t 127) (ρ.t 3) (ρ.t 9) (ρ.t 5) L.t127 X.cellsByte g cur.size (by have hg' : w.drew.heap[g]? = some (.cells cur (ρ.t 5) fz) := hg; simp [World.shape?, hg']) l h0 (by omega) (by unfold maxLen at hcm; omega) ?_
        intro j x hx
        exact ho.cells (g := g) rfl j (.int .u8 x.toNat) (by simp [Lib.byteCells, hx])
      clear hUN
      go_enter L.f169, Body.n169_ntmps ρ
      go_wp2
      go_region_o
      all_goals (go_wp2; go_ret; exact ⟨rfl, (KeepB.refl w b _).drew.trans (KeepB.freeze _ b g _)⟩)
end Go.Eng

/- The engine, part 47: builders' methods as contracts. No program in sight. -/
set_option linter.unusedVariables false
set_option linter.unusedSectionVars false
namespace Go.Eng
open Go Go.Proofs Go.Shelf Go.Lib
variable {P : Program} {ρ : Ren} [GTab]
theorem bld_ne {w : World} {S : Nat → Prop} {b : Bk} {T E : TypeId} {q : Option Nat} {x : List UInt8} (r : HRel w S [(b, .bld T E q x)]) {n : Nat} (hn : b.blk = some n) : q ≠ some n := by
  have h := r.nodup
  intro e
  subst e
  simp [eb, Ob.more, hn] at h
theorem bytesC (x : List UInt8) : strCells ⟨x.toArray⟩ = Lib.byteCells x := rfl
theorem bld_write {f : FuncId} {T E : TypeId} (hd : ¬ GTab.dr) (hW : WriteSpec P f T E) {b : Bk} {q : Option Nat} {x s y : List UInt8} (h : bldW x s = some y) :
    ACall P f [.ptr b 0, .str s] [(b, .bld T E q x)] (T1 (fun q' : Bk => [(b, .bld T E q'.blk y)]) (fun _ => .tup [I s.length, .raw .nilIface])) := by
  obtain ⟨rfl, hl⟩ := bldW_some h
  intro w S vs r hlen ha
  match vs, hlen with
  | ⟨[u0, u1]⟩, _ =>
    have hs := (ha 1 _ _ rfl rfl).str_inv
    obtain ⟨m, hm, hu⟩ := (ha 0 _ _ rfl rfl).ptr_inv
    subst hs hu
    obtain ⟨n, p, v, g1, g2, g3, g4, g5⟩ := r.holds _ (List.mem_singleton.2 rfl)
    obtain rfl : n = m := by rw [g1] at hm; exact Option.some.inj hm
    have hq := bld_ne r hm
    have hx : (Lib.byteCells x).length = x.length := Lib.byteCells_length x
    have hsz : (⟨s.toArray⟩ : ByteArray).size = s.length := by simp [ByteArray.size]
    refine (hW n p v (Lib.byteCells x) ⟨s.toArray⟩ w g2 g3 (by rw [hx]; exact g4) (by rw [g5]; exact hq) (by rw [hx, hsz]; omega)).mono ?_
    rintro e w' ⟨rfl, v', k1, k2, k3, k4⟩
    rw [g5] at k3 k4
    have hh : Holds w' S b (.bld T E v'.ownBlock (x ++ s)) := ⟨n, _, v', g1, k1, .inr rfl, by
      rw [hx, hsz, bytesC, ← Lib.byteCells_append] at k2
      rw [List.length_append]; exact k2, rfl⟩
    obtain ⟨r1, r2⟩ := bld_rel r .here k4.os k4.tape k4.output k4.size (fun hh => absurd hh hd) (fun i h1 h2 h3 => k4.keep i h1 (fun e => h2 (by rw [e]; exact g1)) h3) hh k3
    refine ⟨_, _, _, S, rfl, ⟨⟨v'.ownBlock, 0⟩, rfl, rfl⟩, ?_, r1, r2⟩
    rw [hsz]
    refine .tup _ _ rfl (fun i c u hc hu => ?_)
    match i with
    | 0 => simp at hc hu; subst hc hu; exact .int _ _
    | 1 => simp at hc hu; subst hc hu; exact .raw _
    | i + 2 => simp at hc
theorem bld_string (hd : ¬ GTab.dr) (L : Lays.n169 P ρ) (X : Builder.Extra P ρ) {b : Bk} {q : Option Nat} {x : List UInt8} :
    ACall P (ρ.f 169) [.ptr b 0] [(b, .bld (ρ.t 72) (ρ.t 5) q x)] (T0 [] (.str x)) := by
  intro w S vs r hlen ha
  match vs, hlen with
  | ⟨[u0]⟩, _ =>
    obtain ⟨m, hm, hu⟩ := (ha 0 _ _ rfl rfl).ptr_inv
    subst hu
    obtain ⟨n, p, v, g1, g2, g3, g4, g5⟩ := r.holds _ (List.mem_singleton.2 rfl)
    obtain rfl : n = m := by rw [g1] at hm; exact Option.some.inj hm
    have hq := bld_ne r hm
    refine (stringX L X n p v x w g2 g3 g4 (by rw [g5]; exact hq)).mono ?_
    rintro e w' ⟨rfl, k⟩
    rw [g5] at k
    have hin : ∀ i, b.blk = some i ∨ q = some i → i ∈ eb (b, Ob.bld (ρ.t 72) (ρ.t 5) q x) := fun i hi => by simp [eb, Ob.more]; exact hi
    have nS : ∀ i, S i → i ≠ n ∧ q ≠ some i := fun i hi => ⟨fun e => ((r.sep _ (List.mem_singleton.2 rfl) i (hin i (.inl (by rw [e]; exact g1)))).1 hi).elim, fun e => ((r.sep _ (List.mem_singleton.2 rfl) i (hin i (.inr e))).1 hi).elim⟩
    have keep : ∀ i, S i → S i ∧ w'.heap[i]? = w.heap[i]? := fun i hi => ⟨hi, k.keep i (r.slt i hi) (nS i hi).1 (nS i hi).2⟩
    refine ⟨_, _, [], S, rfl, ⟨rfl, rfl⟩, .str _, ⟨by simp, fun e he => absurd he (by simp), fun e he => absurd he (by simp), fun i hi => Nat.lt_of_lt_of_le (r.slt i hi) k.size, fun g o ho => ⟨(r.glob g o ho).1, gkeep (keep g (r.glob g o ho).1).2 (r.glob g o ho).2⟩⟩, ⟨k.os, k.tape, k.output, k.size, keep, ?_, ?_, fun hh => absurd hh hd⟩⟩
    · intro i hi hh
      refine ⟨k.keep i hi (fun e => hh ⟨_, List.mem_singleton.2 rfl, hin i (.inl (by rw [e]; exact g1))⟩) (fun e => hh ⟨_, List.mem_singleton.2 rfl, hin i (.inr e)⟩), id⟩
    · rintro i ⟨e, he, _⟩
      exact absurd he (by simp)
end Go.Eng

