/- The engine: abstract values, the symbolic heap, one rule for each operation. No program in sight. -/
import Derived.Test.YtpibecbdhjbanaaGreatDoorEngD
import Derived.Laws.Runes
import Derived.Laws.Concat
import Derived.Lib.LaidU8
import Derived.Lib.LaidTab
import Derived.HandedShaped
import Derived.Lib.ConvBytes
import Derived.Shelf.Strings.BuilderF
/- The engine, part 36: delete in a map; pointers that may be nil; calls with several new arrays. No program in sight. -/
set_option linter.unusedVariables false
set_option linter.unusedSimpArgs false
set_option linter.unusedSectionVars false
namespace Go.Eng
open Go
variable [GTab]

/-! ### options -/
def casesO {X A : Type} (o : Option X) (a : A) (f : X → A) : A := match o with
  | none => a
  | some x => f x
theorem casesO_none {X A : Type} (a : A) (f : X → A) : casesO none a f = a := rfl
theorem casesO_some {X A : Type} (x : X) (a : A) (f : X → A) : casesO (some x) a f = f x := rfl
theorem optE {X A : Type} {o : Option X} {a r : A} {f : X → A} {C : Prop} (h : casesO o a f = r) (kn : o = none → a = r → C) (ks : ∀ x, o = some x → f x = r → C) : C := by
  cases o with
  | none => exact kn rfl h
  | some x => exact ks x rfl h
@[reducible] def TM {X : Type} (o : Option X) (A : AV → Heap → Prop) (B : X → AV → Heap → Prop) : AV → Heap → Prop := match o with
  | none => A
  | some x => B x
def T4 {α0 α1 α2 α3 : Type} (H : α0 → α1 → α2 → α3 → Heap) (V : α0 → α1 → α2 → α3 → AV) : AV → Heap → Prop := fun v h => ∃ b0 b1 b2 b3, h = H b0 b1 b2 b3 ∧ v = V b0 b1 b2 b3
def T5 {α0 α1 α2 α3 α4 : Type} (H : α0 → α1 → α2 → α3 → α4 → Heap) (V : α0 → α1 → α2 → α3 → α4 → AV) : AV → Heap → Prop := fun v h => ∃ b0 b1 b2 b3 b4, h = H b0 b1 b2 b3 b4 ∧ v = V b0 b1 b2 b3 b4
def T10 {α0 α1 α2 α3 α4 α5 α6 α7 α8 α9 : Type} (H : α0 → α1 → α2 → α3 → α4 → α5 → α6 → α7 → α8 → α9 → Heap) (V : α0 → α1 → α2 → α3 → α4 → α5 → α6 → α7 → α8 → α9 → AV) : AV → Heap → Prop := fun v h => ∃ b0 b1 b2 b3 b4 b5 b6 b7 b8 b9, h = H b0 b1 b2 b3 b4 b5 b6 b7 b8 b9 ∧ v = V b0 b1 b2 b3 b4 b5 b6 b7 b8 b9
section rules
variable {P : Program} {all : Array Oper} {rest : List Oper} {n : Nat} {tm : List (Nat × AV)} {hp : Heap} {Q : St → Prop} {d : Nat} {ty : TypeId} {pos : String} {af : Array Edge}
theorem t_call4 {α0 α1 α2 α3 : Type} {f : FuncId} {args : List Operand} {ts : Array TypeId} {l l' : List AV} {h0 hr : Heap} {H H' : α0 → α1 → α2 → α3 → Heap} {V : α0 → α1 → α2 → α3 → AV} [IsFn P f] (hl : evL tm args = some l) (c : ACall P f l' h0 (T4 H V)) (co : CoL hp l l') (hs : Sel hp h0 hr) (ha : ∀ b0 b1 b2 b3, appO (H b0 b1 b2 b3) hr = some (H' b0 b1 b2 b3)) (hn : Nat.blt d n = true)
    (kk : ∀ b0 b1 b2 b3, ARun P all rest ⟨n, (d, V b0 b1 b2 b3) :: tm, H' b0 b1 b2 b3⟩ Q) : ARun P all (⟨some d, .call { callee := .value (.func f), args := args.toArray, argTypes := ts }, ty, pos, af, none⟩ :: rest) ⟨n, tm, hp⟩ Q :=
  t_call hl c co hs hn (fun r h' ⟨b0, b1, b2, b3, e1, e2⟩ => by subst e1; subst e2; rw [appO_eq (ha b0 b1 b2 b3)]; exact kk b0 b1 b2 b3)
theorem t_call5 {α0 α1 α2 α3 α4 : Type} {f : FuncId} {args : List Operand} {ts : Array TypeId} {l l' : List AV} {h0 hr : Heap} {H H' : α0 → α1 → α2 → α3 → α4 → Heap} {V : α0 → α1 → α2 → α3 → α4 → AV} [IsFn P f] (hl : evL tm args = some l) (c : ACall P f l' h0 (T5 H V)) (co : CoL hp l l') (hs : Sel hp h0 hr) (ha : ∀ b0 b1 b2 b3 b4, appO (H b0 b1 b2 b3 b4) hr = some (H' b0 b1 b2 b3 b4)) (hn : Nat.blt d n = true)
    (kk : ∀ b0 b1 b2 b3 b4, ARun P all rest ⟨n, (d, V b0 b1 b2 b3 b4) :: tm, H' b0 b1 b2 b3 b4⟩ Q) : ARun P all (⟨some d, .call { callee := .value (.func f), args := args.toArray, argTypes := ts }, ty, pos, af, none⟩ :: rest) ⟨n, tm, hp⟩ Q :=
  t_call hl c co hs hn (fun r h' ⟨b0, b1, b2, b3, b4, e1, e2⟩ => by subst e1; subst e2; rw [appO_eq (ha b0 b1 b2 b3 b4)]; exact kk b0 b1 b2 b3 b4)
theorem t_call10 {α0 α1 α2 α3 α4 α5 α6 α7 α8 α9 : Type} {f : FuncId} {args : List Operand} {ts : Array TypeId} {l l' : List AV} {h0 hr : Heap} {H H' : α0 → α1 → α2 → α3 → α4 → α5 → α6 → α7 → α8 → α9 → Heap} {V : α0 → α1 → α2 → α3 → α4 → α5 → α6 → α7 → α8 → α9 → AV} [IsFn P f] (hl : evL tm args = some l) (c : ACall P f l' h0 (T10 H V)) (co : CoL hp l l') (hs : Sel hp h0 hr) (ha : ∀ b0 b1 b2 b3 b4 b5 b6 b7 b8 b9, appO (H b0 b1 b2 b3 b4 b5 b6 b7 b8 b9) hr = some (H' b0 b1 b2 b3 b4 b5 b6 b7 b8 b9)) (hn : Nat.blt d n = true)
    (kk : ∀ b0 b1 b2 b3 b4 b5 b6 b7 b8 b9, ARun P all rest ⟨n, (d, V b0 b1 b2 b3 b4 b5 b6 b7 b8 b9) :: tm, H' b0 b1 b2 b3 b4 b5 b6 b7 b8 b9⟩ Q) : ARun P all (⟨some d, .call { callee := .value (.func f), args := args.toArray, argTypes := ts }, ty, pos, af, none⟩ :: rest) ⟨n, tm, hp⟩ Q :=
  t_call hl c co hs hn (fun r h' ⟨b0, b1, b2, b3, b4, b5, b6, b7, b8, b9, e1, e2⟩ => by subst e1; subst e2; rw [appO_eq (ha b0 b1 b2 b3 b4 b5 b6 b7 b8 b9)]; exact kk b0 b1 b2 b3 b4 b5 b6 b7 b8 b9)
end rules

section rules
variable {P : Program} {all : Array Oper} {n : Nat} {B : Heap} {tk : List Tok} {dy : List Nat} {i : Nat} {rest : List Oper} {tm tm' : List (Nat × AV)} {acc : (Nat → Bk) → List (Nat × AV)} {Q : (Nat → Bk) → List (Nat × AV) → Prop} {d : Nat} {ty : TypeId} {pos : String} {af : Array Edge} {op : Op}
end rules
end Go.Eng

/- The engine, part 37: pools: memory that a map's entries own. No program in sight. -/
set_option linter.unusedVariables false
set_option linter.unusedSimpArgs false
set_option linter.unusedSectionVars false
namespace Go.Eng
open Go
variable [GTab]

theorem eb_pool (b : Bk) (es : List (Bk × PO)) (n : Nat) : n ∈ eb (b, .pool es) ↔ b.blk = some n ∨ ∃ e ∈ es, e.1.blk = some n := by
  simp [eb, Ob.more, List.mem_filterMap]
theorem eb_pobk (e : Bk × PO) : eb (e.1, e.2.ob) = e.1.blk.toList := by
  obtain ⟨b, o⟩ := e
  cases o <;> simp [eb, Ob.more, PO.ob]
/-- What a heap's entries are, told with a piece of a pool outside. -/
theorem pool_take {w : World} {S : Nat → Prop} {hp hp' : Heap} {bp : Bk} {es es' : List (Bk × PO)} {x : Bk × PO} (r : HRel w S hp) (u : Upd hp bp (.pool es) bp (.pool es') hp') (hperm : es.Perm (x :: es')) :
    HRel w S ((x.1, x.2.ob) :: hp') ∧ Evo w S hp w S ((x.1, x.2.ob) :: hp') := by
  obtain ⟨p, q, rfl, rfl⟩ := u.split
  obtain ⟨hb0, hall⟩ : bp.blk = none ∧ ∀ e ∈ es, HoldsP w S e.1 e.2 := r.holds (bp, .pool es) (mem_mid.2 (.inl rfl))
  have hsub : ∀ e ∈ es', e ∈ es := fun e he => hperm.mem_iff.2 (List.mem_cons_of_mem _ he)
  have hx : x ∈ es := hperm.mem_iff.2 (by simp)
  have hfro : x.2.ob.isFro ↔ False := by cases x.2 <;> exact Iff.rfl
  have hebs : ∀ n, n ∈ eb (bp, .pool es) ↔ n ∈ eb (x.1, x.2.ob) ∨ n ∈ eb (bp, .pool es') := by
    intro n
    rw [eb_pool, eb_pool, eb_pobk, hb0]
    constructor
    · rintro (h | ⟨e, he, hn⟩)
      · cases h
      · rcases List.mem_cons.1 (hperm.mem_iff.1 he) with rfl | he
        · exact .inl (by simp [hn])
        · exact .inr (.inr ⟨e, he, hn⟩)
    · rintro (h | h | ⟨e, he, hn⟩)
      · exact .inr ⟨x, hx, by simpa using h⟩
      · cases h
      · exact .inr ⟨e, hsub e he, hn⟩
  have hasI : ∀ n, Has ((x.1, x.2.ob) :: (p ++ (bp, .pool es') :: q)) n ↔ Has (p ++ (bp, .pool es) :: q) n := by
    intro n
    constructor
    · rintro ⟨e, he, hn⟩
      rcases List.mem_cons.1 he with rfl | he
      · exact ⟨_, mem_mid.2 (.inl rfl), (hebs n).2 (.inl hn)⟩
      · rcases mem_mid.1 he with rfl | he
        · exact ⟨_, mem_mid.2 (.inl rfl), (hebs n).2 (.inr hn)⟩
        · exact ⟨e, mem_mid.2 (.inr he), hn⟩
    · rintro ⟨e, he, hn⟩
      rcases mem_mid.1 he with rfl | he
      · rcases (hebs n).1 hn with h | h
        · exact ⟨_, List.mem_cons_self, h⟩
        · exact ⟨_, List.mem_cons_of_mem _ (mem_mid.2 (.inl rfl)), h⟩
      · exact ⟨e, List.mem_cons_of_mem _ (mem_mid.2 (.inr he)), hn⟩
  have hpn : (((x.1, x.2.ob) :: (p ++ (bp, .pool es') :: q)).flatMap eb).Perm ((p ++ (bp, .pool es) :: q).flatMap eb) := by
    have e1 : (eb (bp, .pool es)).Perm (eb (x.1, x.2.ob) ++ eb (bp, .pool es')) := by
      rw [eb_pobk]
      simp only [eb, Ob.more, hb0, Option.toList_none, List.nil_append]
      refine (hperm.filterMap _).trans ?_
      rw [List.filterMap_cons]
      cases x.1.blk <;> simp
    rw [List.flatMap_cons, List.flatMap_append, List.flatMap_append, List.flatMap_cons, List.flatMap_cons]
    refine List.Perm.trans ?_ ((e1.symm.append_right _).append_left _)
    rw [← List.append_assoc, ← List.append_assoc, ← List.append_assoc, ← List.append_assoc]
    refine (List.Perm.append_right _ ?_)
    exact (List.perm_append_comm.append_right _)
  refine ⟨⟨(hpn.nodup_iff).2 r.nodup, ?_, ?_, r.slt, r.glob⟩, ⟨rfl, rfl, rfl, Nat.le_refl _, fun n hn => ⟨hn, rfl⟩, fun n _ _ => ⟨rfl, id⟩, fun n hn => .inl ((hasI n).1 hn), fun _ => Nat.le_refl _⟩⟩
  · intro e he
    rcases List.mem_cons.1 he with rfl | he
    · exact HoldsP.ob.1 (hall x hx)
    · rcases mem_mid.1 he with rfl | he
      · exact ⟨hb0, fun e he => hall e (hsub e he)⟩
      · exact r.holds e (mem_mid.2 (.inr he))
  · intro e he n hn
    rcases List.mem_cons.1 he with rfl | he
    · have := r.sep (bp, .pool es) (mem_mid.2 (.inl rfl)) n ((hebs n).2 (.inl hn))
      exact ⟨fun h => (this.1 h).elim, fun h => (hfro.1 h).elim⟩
    · rcases mem_mid.1 he with rfl | he
      · have := r.sep (bp, .pool es) (mem_mid.2 (.inl rfl)) n ((hebs n).2 (.inr hn))
        exact ⟨fun h => (this.1 h).elim, fun h => h.elim⟩
      · exact r.sep e (mem_mid.2 (.inr he)) n hn
/-- The other way: an entry goes into a pool. -/
theorem pool_put {w : World} {S : Nat → Prop} {hp hp1 hp' : Heap} {bp : Bk} {es es' : List (Bk × PO)} {x : Bk × PO} (r : HRel w S hp) (dl : Del hp x.1 x.2.ob hp1) (u : Upd hp1 bp (.pool es) bp (.pool es') hp') (hperm : es'.Perm (x :: es)) :
    HRel w S hp' ∧ Evo w S hp w S hp' := by
  obtain ⟨p0, q0, rfl, rfl⟩ := dl.split
  have r1 : HRel w S ((x.1, x.2.ob) :: (p0 ++ q0)) := by
    refine ⟨?_, fun e he => r.holds e (mem_mid.2 (by simpa using he)), fun e he => r.sep e (mem_mid.2 (by simpa using he)), r.slt, r.glob⟩
    refine ((List.Perm.flatMap_right eb ?_).nodup_iff).1 r.nodup
    exact List.perm_middle
  generalize hq : p0 ++ q0 = h1 at u r1
  obtain ⟨p, q, rfl, rfl⟩ := u.split
  obtain ⟨hb0, hall⟩ : bp.blk = none ∧ ∀ e ∈ es, HoldsP w S e.1 e.2 := r1.holds (bp, .pool es) (List.mem_cons_of_mem _ (mem_mid.2 (.inl rfl)))
  have hxh : HoldsP w S x.1 x.2 := HoldsP.ob.2 (r1.holds (x.1, x.2.ob) (by simp))
  have hfro : x.2.ob.isFro ↔ False := by cases x.2 <;> exact Iff.rfl
  have hebs : ∀ n, n ∈ eb (bp, .pool es') ↔ n ∈ eb (x.1, x.2.ob) ∨ n ∈ eb (bp, .pool es) := by
    intro n
    rw [eb_pool, eb_pool, eb_pobk, hb0]
    constructor
    · rintro (h | ⟨e, he, hn⟩)
      · cases h
      · rcases List.mem_cons.1 (hperm.mem_iff.1 he) with rfl | he
        · exact .inl (by simp [hn])
        · exact .inr (.inr ⟨e, he, hn⟩)
    · rintro (h | h | ⟨e, he, hn⟩)
      · exact .inr ⟨x, hperm.mem_iff.2 (by simp), by simpa using h⟩
      · cases h
      · exact .inr ⟨e, hperm.mem_iff.2 (List.mem_cons_of_mem _ he), hn⟩
  have e1 : (eb (bp, .pool es')).Perm (eb (x.1, x.2.ob) ++ eb (bp, .pool es)) := by
    rw [eb_pobk]
    simp only [eb, Ob.more, hb0, Option.toList_none, List.nil_append]
    refine (hperm.filterMap _).trans ?_
    rw [List.filterMap_cons]
    cases x.1.blk <;> simp
  have hpn : (((x.1, x.2.ob) :: (p ++ (bp, .pool es) :: q)).flatMap eb).Perm ((p ++ (bp, .pool es') :: q).flatMap eb) := by
    rw [List.flatMap_cons, List.flatMap_append, List.flatMap_append, List.flatMap_cons, List.flatMap_cons]
    refine List.Perm.trans ?_ ((e1.symm.append_right _).append_left _)
    rw [← List.append_assoc, ← List.append_assoc, ← List.append_assoc, ← List.append_assoc]
    refine (List.Perm.append_right _ ?_)
    exact (List.perm_append_comm.append_right _)
  have hasI : ∀ n, Has (p ++ (bp, .pool es') :: q) n → Has ((x.1, x.2.ob) :: (p ++ (bp, .pool es) :: q)) n := by
    rintro n ⟨e, he, hn⟩
    rcases mem_mid.1 he with rfl | he
    · rcases (hebs n).1 hn with h | h
      · exact ⟨_, List.mem_cons_self, h⟩
      · exact ⟨_, List.mem_cons_of_mem _ (mem_mid.2 (.inl rfl)), h⟩
    · exact ⟨e, List.mem_cons_of_mem _ (mem_mid.2 (.inr he)), hn⟩
  have hhas0 : ∀ n, Has ((x.1, x.2.ob) :: (p ++ (bp, .pool es) :: q)) n → Has (p0 ++ (x.1, x.2.ob) :: q0) n := fun n hn => by
    obtain ⟨e, he, hen⟩ := hn
    refine ⟨e, mem_mid.2 ?_, hen⟩
    rw [hq]
    simpa using he
  refine ⟨⟨(hpn.nodup_iff).1 r1.nodup, ?_, ?_, r.slt, r.glob⟩, ⟨rfl, rfl, rfl, Nat.le_refl _, fun n hn => ⟨hn, rfl⟩, fun n _ _ => ⟨rfl, id⟩, fun n hn => .inl (hhas0 n (hasI n hn)), fun _ => Nat.le_refl _⟩⟩
  · intro e he
    rcases mem_mid.1 he with rfl | he
    · refine ⟨hb0, fun e he => ?_⟩
      rcases List.mem_cons.1 (hperm.mem_iff.1 he) with rfl | he
      · exact hxh
      · exact hall e he
    · exact r1.holds e (List.mem_cons_of_mem _ (mem_mid.2 (.inr he)))
  · intro e he n hn
    rcases mem_mid.1 he with rfl | he
    · refine ⟨fun hs => ?_, fun h => h.elim⟩
      rcases (hebs n).1 hn with h | h
      · exact hfro.1 ((r1.sep _ (by simp) n h).1 hs)
      · exact (r1.sep (bp, .pool es) (List.mem_cons_of_mem _ (mem_mid.2 (.inl rfl))) n h).1 hs
    · exact r1.sep e (List.mem_cons_of_mem _ (mem_mid.2 (.inr he))) n hn
end Go.Eng

/- The engine, part 38: maps whose entries own memory: slices and pointers. No program in sight. -/
set_option linter.unusedVariables false
set_option linter.unusedSimpArgs false
set_option linter.unusedSectionVars false
namespace Go.Eng
open Go
variable [GTab]

/-- How the values of a map are kept: what stands in the map, what lies in memory. -/
structure Kept (V : Type) where
  val : Bk → V → AV
  po : V → PO
def keptS {E : Type} (sz : Nat) (g : E → AV) : Kept (List E) := ⟨fun b v => .sl sz b 0 v.length, fun v => .arr sz (v.map g)⟩
section plain
variable {K V : Type}
def mapE (gk : K → AV) (kp : Kept V) (β : K → Bk) (M : List (K × V)) : List (AV × AV) := M.map fun e => (gk e.1, kp.val (β e.1) e.2)
def poolE (kp : Kept V) (β : K → Bk) (M : List (K × V)) : List (Bk × PO) := M.map fun e => (β e.1, kp.po e.2)
def withB (β : K → Bk) (M : List (K × V)) : List (K × (Bk × V)) := M.map fun e => (e.1, (β e.1, e.2))
theorem mapE_withB (gk : K → AV) (kp : Kept V) (β : K → Bk) (M : List (K × V)) : mapE gk kp β M = (withB β M).map fun e => (gk e.1, kp.val e.2.1 e.2.2) := by
  unfold mapE withB; rw [List.map_map]; rfl
variable [DecidableEq K]
def updK (β : K → Bk) (k : K) (b : Bk) : K → Bk := fun k' => if k' = k then b else β k'
theorem withB_get (β : K → Bk) (M : List (K × V)) (k : K) : mget? (withB β M) k = (mget? M k).map fun v => (β k, v) := by
  induction M with
  | nil => rfl
  | cons e r ih =>
    show (if e.1 = k then some (β e.1, e.2) else mget? (withB β r) k) = (if e.1 = k then some e.2 else mget? r k).map _
    rw [ih]
    split
    · rename_i h; rw [h]; rfl
    · rfl
theorem mget_split {M : List (K × V)} {k : K} {v : V} (hn : (M.map Prod.fst).Nodup) (h : mget? M k = some v) : M.Perm ((k, v) :: mdel M k) := by
  induction M with
  | nil => cases h
  | cons e r ih =>
    rw [List.map_cons, List.nodup_cons] at hn
    unfold mget? at h
    unfold mdel
    rw [List.filter_cons]
    split at h
    · rename_i hk
      obtain rfl := Option.some.inj h
      rw [if_neg (by simp [hk])]
      have : r.filter (fun e => decide (e.1 ≠ k)) = r := List.filter_eq_self.2 fun x hx => by
        simp only [ne_eq, decide_not, Bool.not_eq_true', decide_eq_false_iff_not]
        intro hxk
        exact hn.1 (List.mem_map.2 ⟨x, hx, by rw [hxk, hk]⟩)
      rw [this, ← hk]
    · rename_i hk
      rw [if_pos (by simp [hk])]
      exact (List.Perm.cons e (ih hn.2 h)).trans (List.Perm.swap _ _ _)
theorem mdel_fst (M : List (K × V)) (k : K) : ∀ e ∈ mdel M k, e.1 ≠ k := fun e he => by
  have := (List.mem_filter.1 he).2
  simpa using this
theorem poolE_upd (kp : Kept V) (β : K → Bk) (k : K) (b : Bk) {M : List (K × V)} (h : ∀ e ∈ M, e.1 ≠ k) : poolE kp (updK β k b) M = poolE kp β M := by
  unfold poolE
  exact List.map_congr_left fun e he => by unfold updK; rw [if_neg (h e he)]
variable [KLt K]
theorem mset_perm (M : List (K × V)) (k : K) (v : V) : (mset M k v).Perm ((k, v) :: mdel M k) := mins_perm k v _
theorem poolE_set (kp : Kept V) (β : K → Bk) (k : K) (b : Bk) (M : List (K × V)) (v : V) : (poolE kp (updK β k b) (mset M k v)).Perm ((b, kp.po v) :: poolE kp β (mdel M k)) := by
  refine ((mset_perm M k v).map _).trans ?_
  rw [List.map_cons]
  have e1 : (mdel M k).map (fun e => (updK β k b e.1, kp.po e.2)) = poolE kp β (mdel M k) := poolE_upd kp β k b (mdel_fst M k)
  rw [e1]
  have : updK β k b k = b := by unfold updK; rw [if_pos rfl]
  rw [this]
end plain
/-- The keys of a map are distinct. -/
theorem mapE_nodup {K V : Type} {gk : K → AV} {kp : Kept V} {β : K → Bk} {w : World} {S : Nat → Prop} {hp : Heap} {b : Bk} {M : List (K × V)} (hinj : ∀ a b, gk a = gk b → a = b) (r : HRel w S hp) (f : Fnd hp b (.mp (mapE gk kp β M))) : (M.map Prod.fst).Nodup := by
  rw [mapE_withB] at f
  obtain ⟨L, c, M', n, ents, p1, _, _, _, _, _, _, p8⟩ := mp_open (gv := fun p : Bk × V => kp.val p.1 p.2) hinj r f
  have := (p1.map Prod.fst).nodup_iff.1 p8
  unfold withB at this
  rw [List.map_map] at this
  exact this
theorem upd_same {hp hp' : Heap} {b : Bk} {o o' : Ob} (u : Upd hp b o b o' hp') (h : o = o') : hp = hp' := by
  obtain ⟨p, q, rfl, rfl⟩ := u.split
  rw [h]
section rules
variable {P : Program} {all : Array Oper} {rest : List Oper} {n : Nat} {tm : List (Nat × AV)} {hp : Heap} {Q : St → Prop} {d : Nat} {ty : TypeId} {pos : String} {af : Array Edge}
/-- A look-up of a slice that a map owns: it is taken out. -/
theorem t_lookupS {K E : Type} [DecidableEq K] {gk : K → AV} {sz : Nat} {g : E → AV} {β : K → Bk} {M : List (K × List E)} {key : K} {xs : List E} {t kt vt : TypeId} {i : TypeInfo} {x y : Operand} {bm bp : Bk} {hp' : Heap} [TUnder P t (.map kt vt)] [TInfo P vt i] [MKey P kt gk] (hx : evA tm x = some (.mref bm)) (hy : evA tm y = some (gk key)) (f : Fnd hp bm (.mp (mapE gk (keptS sz g) β M))) (u : Upd hp bp (.pool (poolE (keptS sz g) β M)) bp (.pool (poolE (keptS sz g) β (mdel M key))) hp') (hz : i.zero = some (.slice none 0 0)) (h : mgetO M key [] = some xs) (hn : Nat.blt d n = true)
    (kk : ∀ b, (∀ v, mget? M key = some v → b = β key ∧ v = xs) → ARun P all rest ⟨n, (d, .sl sz b 0 xs.length) :: tm, (b, .arr sz (xs.map g)) :: hp'⟩ Q) : ARun P all (⟨some d, .lookup t x y false, ty, pos, af, none⟩ :: rest) ⟨n, tm, hp⟩ Q := by
  refine ARun.opx rfl fun w S a r => ?_
  have hnd := mapE_nodup (MKey.inj P kt) r.hp f
  have kx := evA_at (σ := ⟨n, tm, hp⟩) r hx
  have ky := evA_at (σ := ⟨n, tm, hp⟩) r hy
  obtain ⟨nb, hb, ex⟩ := kx.mref_inv
  have f' := f
  rw [mapE_withB] at f'
  obtain ⟨L, c, M', nb', ents, p1, p2, p3, p4, p5, p6, p7, p8⟩ := mp_open (gv := fun p : Bk × List E => (keptS sz g).val p.1 p.2) (MKey.inj P kt) r.hp f'
  obtain rfl : nb' = nb := by rw [p4] at hb; exact Option.some.inj hb
  have hfind := MKey.find (P := P) (t := kt) (g := gk) ky ents.toList (M'.map Prod.fst) (by simpa using p6.symm) (fun j k' e h1 h2 => by
    rw [List.getElem?_map] at h1
    cases hm : M'[j]? with
    | none => rw [hm] at h1; cases h1
    | some q => rw [hm] at h1; rw [← Option.some.inj h1]; exact (p7 j q e hm h2).1)
  have hmg := mget_perm p1 p8 key
  rw [withB_get] at hmg
  have hv := Option.some.inj h
  rcases findP_M (gv := fun p : Bk × List E => (keptS sz g).val p.1 p.2) (w := w) (S := S) (k := key) M' ents.toList 0 p6.symm (fun j e m h1 h2 => (p7 j e m h1 h2).2) with ⟨q1, q2⟩ | ⟨v', j, val, q1, q2, q3, _⟩
  · -- nothing there
    rw [q1] at hmg
    have hno : mget? M key = none := by
      cases hc : mget? M key with
      | none => rfl
      | some v => rw [hc] at hmg; cases hmg
    rw [hno, Option.getD_none] at hv
    subst hv
    have hsame := upd_same u (by rw [mdel_none hno])
    obtain ⟨g1, g2, g3⟩ := add_rel (b := ⟨none, 0⟩) (o := .arr sz (([] : List E).map g)) r.hp (Ext.refl w) id ⟨by simp, by simp, .inl ⟨rfl, rfl⟩⟩ (.inl rfl)
    refine ⟨.slice none 0 0, w, S, ⟨n, (d, .sl sz ⟨none, 0⟩ 0 0) :: tm, (⟨none, 0⟩, .arr sz (([] : List E).map g)) :: hp'⟩, ?_, ?_, ?_, kk ⟨none, 0⟩ (fun v hv => by rw [hno] at hv; cases hv)⟩
    · simp [execOp, Instr.lookup, ex, run_underlying (TUnder.h (P := P) (t := t)), run_getMap p5, MKey.check (P := P) (t := kt) ky, hfind, q2, zeroValue, typeInfo, TInfo.h (P := P) (t := vt), hz]
    · rw [← hsame]
      exact (r.heap g3 g1).put hn (.slph sz _ rfl)
    · rw [← hsame]; exact g2
  · rw [q1] at hmg
    obtain ⟨v, hvv⟩ : ∃ v, mget? M key = some v := by
      cases hc : mget? M key with
      | none => rw [hc] at hmg; cases hmg
      | some v => exact ⟨v, rfl⟩
    rw [hvv, Option.getD_some] at hv
    subst hv
    rw [hvv] at hmg
    have hv' : v' = (β key, v) := Option.some.inj hmg
    subst hv'
    have hpm : (poolE (keptS sz g) β M).Perm ((β key, .arr sz (v.map g)) :: poolE (keptS sz g) β (mdel M key)) := ((mget_split hnd hvv).map _)
    obtain ⟨g1, g2⟩ := pool_take r.hp u hpm
    refine ⟨val, w, S, ⟨n, (d, .sl sz (β key) 0 v.length) :: tm, (β key, .arr sz (v.map g)) :: hp'⟩, ?_, (r.heap (fun m hm => ⟨hm, rfl⟩) g1).put hn q3, g2, kk (β key) (fun v2 hv2 => ⟨rfl, by rw [hvv] at hv2; exact (Option.some.inj hv2).symm⟩)⟩
    simp [execOp, Instr.lookup, ex, run_underlying (TUnder.h (P := P) (t := t)), run_getMap p5, MKey.check (P := P) (t := kt) ky, hfind, q2]
end rules
/-- A slice that was looked at goes back. -/
theorem ImpX.backS {n : Nat} {tm : List (Nat × AV)} {hp hp1 hp' : Heap} {T : St → Prop} {K E : Type} [DecidableEq K] {gk : K → AV} {sz : Nat} {g : E → AV} {β : K → Bk} {M : List (K × List E)} {key : K} {xs : List E} {b bm bp : Bk} (hinj : ∀ a b, gk a = gk b → a = b) (h : mgetO M key [] = some xs) (hb : ∀ v, mget? M key = some v → b = β key ∧ v = xs) (f : Fnd hp bm (.mp (mapE gk (keptS sz g) β M))) (dl : Del hp b (.arr sz (xs.map g)) hp1) (u : Upd hp1 bp (.pool (poolE (keptS sz g) β (mdel M key))) bp (.pool (poolE (keptS sz g) β M)) hp') (k : ImpX ⟨n, tm, hp'⟩ T) : ImpX ⟨n, tm, hp⟩ T := by
  refine ImpX.step (σ1 := ⟨n, tm, hp'⟩) (fun w S a r => ?_) k
  have hnd := mapE_nodup hinj r.hp f
  cases hc : mget? M key with
  | none =>
    have hsame := upd_same u (by rw [mdel_none hc])
    have hs : hp1.Sublist hp := by
      obtain ⟨p, q, rfl, rfl⟩ := dl.split
      exact List.Sublist.append (List.Sublist.refl _) (List.sublist_cons_self _ _)
    rw [← hsame]
    exact ⟨_, S, rfl, r.less ⟨rfl, fun _ _ h => h, hs⟩, Evo.less (Evo.refl w S hp) fun _ hn => hn.sub hs⟩
  | some v =>
    obtain ⟨rfl, rfl⟩ := hb v hc
    have hpm : (poolE (keptS sz g) β M).Perm ((β key, .arr sz (v.map g)) :: poolE (keptS sz g) β (mdel M key)) := ((mget_split hnd hc).map _)
    obtain ⟨g1, g2⟩ := pool_put (x := (β key, .arr sz (v.map g))) r.hp dl u hpm
    exact ⟨_, S, rfl, r.heap (fun m hm => ⟨hm, rfl⟩) g1, g2⟩
theorem withB_mdel {K V : Type} [DecidableEq K] (β : K → Bk) (M : List (K × V)) (k : K) : mdel (withB β M) k = withB β (mdel M k) := by
  unfold mdel withB
  rw [List.filter_map]
  rfl
theorem withB_mins {K V : Type} [KLt K] (β : K → Bk) (k : K) (b : Bk) (v : V) (hk : β k = b) : ∀ M : List (K × V), mins k (b, v) (withB β M) = withB β (mins k v M)
  | [] => by simp [mins, withB, hk]
  | e :: r => by
    show mins k (b, v) ((e.1, (β e.1, e.2)) :: withB β r) = withB β (mins k v (e :: r))
    unfold mins
    by_cases h : KLt.lt e.1 k = true
    · rw [if_pos h, if_pos h, withB_mins β k b v hk r]; rfl
    · rw [if_neg h, if_neg h]; simp [withB, hk]
theorem withB_upd {K V : Type} [DecidableEq K] (β : K → Bk) (k : K) (b : Bk) {M : List (K × V)} (h : ∀ e ∈ M, e.1 ≠ k) : withB (updK β k b) M = withB β M := by
  unfold withB
  exact List.map_congr_left fun e he => by unfold updK; rw [if_neg (h e he)]
theorem withB_mset {K V : Type} [DecidableEq K] [KLt K] (β : K → Bk) (M : List (K × V)) (k : K) (b : Bk) (v : V) : mset (withB β M) k (b, v) = withB (updK β k b) (mset M k v) := by
  unfold mset
  rw [withB_mdel, ← withB_upd β k b (mdel_fst M k), withB_mins _ _ _ _ (by unfold updK; rw [if_pos rfl])]
section rules
variable {P : Program} {all : Array Oper} {rest : List Oper} {n : Nat} {tm : List (Nat × AV)} {hp : Heap} {Q : St → Prop} {d : Nat} {ty : TypeId} {pos : String} {af : Array Edge}
theorem t_insertO {K V : Type} [DecidableEq K] [KLt K] {gk : K → AV} {kp : Kept V} {β : K → Bk} {M : List (K × V)} {key : K} {v : V} {t kt vt : TypeId} {x y z : Operand} {b bm : Bk} {hp' : Heap} {av : AV} [TUnder P t (.map kt vt)] [MKey P kt gk] (hx : evA tm x = some (.mref bm)) (hy : evA tm y = some (gk key)) (hz : evA tm z = some av) (hav : av = kp.val b v) (u : Upd hp bm (.mp (mapE gk kp β M)) bm (.mp (mapE gk kp (updK β key b) (mset M key v))) hp')
    (kk : ARun P all rest ⟨n, tm, hp'⟩ Q) : ARun P all (⟨none, .insert t x y z, ty, pos, af, none⟩ :: rest) ⟨n, tm, hp⟩ Q := by
  rw [mapE_withB, mapE_withB, ← withB_mset] at u
  exact t_insert (gk := gk) (gv := fun p : Bk × V => kp.val p.1 p.2) (M := withB β M) (key := key) (v := (b, v)) hx hy hz hav u kk
end rules
/-- What was put into the map goes into the pool. -/
theorem ImpX.poolPut {n : Nat} {tm : List (Nat × AV)} {hp hp1 hp' : Heap} {T : St → Prop} {K V : Type} [DecidableEq K] [KLt K] {kp : Kept V} {β : K → Bk} {M : List (K × V)} {key : K} {v : V} {b bp : Bk} {o : Ob} (ho : o = (kp.po v).ob) (dl : Del hp b o hp1) (u : Upd hp1 bp (.pool (poolE kp β (mdel M key))) bp (.pool (poolE kp (updK β key b) (mset M key v))) hp') (k : ImpX ⟨n, tm, hp'⟩ T) : ImpX ⟨n, tm, hp⟩ T := by
  refine ImpX.step (σ1 := ⟨n, tm, hp'⟩) (fun w S a r => ?_) k
  subst ho
  obtain ⟨g1, g2⟩ := pool_put (x := (b, kp.po v)) r.hp dl u (poolE_set kp β key b M v)
  exact ⟨_, S, rfl, r.heap (fun m hm => ⟨hm, rfl⟩) g1, g2⟩
/-- Memory of an entry that is to be put anew is given up. -/
theorem ImpX.poolDrop {n : Nat} {tm : List (Nat × AV)} {hp hp' : Heap} {T : St → Prop} {K V : Type} [DecidableEq K] {kp : Kept V} {β : K → Bk} {M : List (K × V)} (key : K) {bp : Bk} (u : Upd hp bp (.pool (poolE kp β M)) bp (.pool (poolE kp β (mdel M key))) hp') (k : ImpX ⟨n, tm, hp'⟩ T) : ImpX ⟨n, tm, hp⟩ T := by
  refine ImpX.step (σ1 := ⟨n, tm, hp'⟩) (fun w S a r => ?_) k
  obtain ⟨p, q, rfl, rfl⟩ := u.split
  have hsub : (poolE kp β (mdel M key)).Sublist (poolE kp β M) := (List.filter_sublist).map _
  have hmem : (bp, Ob.pool (poolE kp β M)) ∈ p ++ (bp, .pool (poolE kp β M)) :: q := mem_mid.2 (.inl rfl)
  have hbs : ∀ n, n ∈ eb (bp, .pool (poolE kp β (mdel M key))) → n ∈ eb (bp, .pool (poolE kp β M)) := fun n hn => by
    rw [eb_pool] at hn ⊢
    exact hn.imp id fun ⟨e, he, h⟩ => ⟨e, hsub.subset he, h⟩
  have hebsub : (eb (bp, .pool (poolE kp β (mdel M key)))).Sublist (eb (bp, .pool (poolE kp β M))) := by
    unfold eb Ob.more
    exact List.Sublist.append (List.Sublist.refl _) (hsub.filterMap _)
  have hrel : HRel w S (p ++ (bp, .pool (poolE kp β (mdel M key))) :: q) := by
    refine ⟨?_, ?_, ?_, r.hp.slt, r.hp.glob⟩
    · have := r.hp.nodup
      rw [List.flatMap_append, List.flatMap_cons] at this ⊢
      exact this.sublist (List.Sublist.append (List.Sublist.refl _) (List.Sublist.append hebsub (List.Sublist.refl _)))
    · intro e he
      rcases mem_mid.1 he with rfl | he
      · obtain ⟨h0, h1⟩ : bp.blk = none ∧ ∀ e ∈ poolE kp β M, HoldsP w S e.1 e.2 := r.hp.holds _ hmem
        exact ⟨h0, fun e he => h1 e (hsub.subset he)⟩
      · exact r.hp.holds e (mem_mid.2 (.inr he))
    · intro e he n hn
      rcases mem_mid.1 he with rfl | he
      · have := r.hp.sep _ hmem n (hbs n hn)
        exact ⟨fun h => (this.1 h).elim, fun h => h.elim⟩
      · exact r.hp.sep e (mem_mid.2 (.inr he)) n hn
  refine ⟨_, S, rfl, r.heap (fun m hm => ⟨hm, rfl⟩) hrel, rfl, rfl, rfl, Nat.le_refl _, fun n hn => ⟨hn, rfl⟩, fun n _ _ => ⟨rfl, id⟩, fun n hn => .inl ?_, fun _ => Nat.le_refl _⟩
  obtain ⟨e, he, hn⟩ := hn
  rcases mem_mid.1 he with rfl | he
  · exact ⟨_, hmem, hbs n hn⟩
  · exact ⟨e, mem_mid.2 (.inr he), hn⟩
section rules
variable {P : Program} {all : Array Oper} {rest : List Oper} {n : Nat} {tm : List (Nat × AV)} {hp : Heap} {Q : St → Prop} {d : Nat} {ty : TypeId} {pos : String} {af : Array Edge}
/-- A new map that owns its values has an empty pool. -/
theorem t_makeMapO {K V : Type} {gk : K → AV} {kp : Kept V} {β : K → Bk} {t : TypeId} (hn : Nat.blt d n = true) (kk : ∀ b bp : Bk, ARun P all rest ⟨n, (d, .mref b) :: tm, (b, .mp (mapE gk kp β [])) :: (bp, .pool (poolE kp β [])) :: hp⟩ Q) : ARun P all (⟨some d, .makeMap t none, ty, pos, af, none⟩ :: rest) ⟨n, tm, hp⟩ Q := by
  have g : ARun P all (⟨some d, .makeMap t none, ty, pos, af, none⟩ :: rest) ⟨n, tm, (⟨none, 0⟩, .pool []) :: hp⟩ Q := t_makeMap hn (fun b => kk b ⟨none, 0⟩)
  refine ARun.ghost (ImpX.step (σ1 := ⟨n, tm, (⟨none, 0⟩, .pool []) :: hp⟩) (fun w S a r => ?_) (ImpX.here g))
  obtain ⟨g1, g2, g3⟩ := add_rel (b := ⟨none, 0⟩) (o := .pool []) r.hp (Ext.refl w) id ⟨rfl, by simp⟩ (.inl rfl)
  exact ⟨_, S, rfl, r.heap g3 g1, g2⟩
end rules
end Go.Eng

/- The engine, part 39: lists of strings that functions of the library make; tables that are read by name. No program in sight. -/
set_option linter.unusedVariables false
set_option linter.unusedSimpArgs false
set_option linter.unusedSectionVars false
namespace Go.Eng
open Go
variable [GTab]

/-- The cells of a row of a table. -/
def rowOf (o : Option Obj) : Option (Array Value) := match o with
  | some (.cells vs _ _) => some vs
  | _ => none
theorem var_row {P : Program} {w : World} {name : String} {g : Nat} (hg : P.globalNamed name = some g) : w.var? P name = rowOf (w.heap[g]?) := by
  unfold World.var?
  rw [hg]
  rfl
theorem flat_strs (xs : List (List UInt8)) : flat (xs.map AV.str) = xs.map AV.str := flat_ones (fun _ => rfl) xs
theorem fresh_strs {w : World} {S : Nat → Prop} (r : HRel w S []) (xs : List (List UInt8)) (E : TypeId) {vs : Array Value} (hv : vs = (xs.map fun s => Value.string ⟨s.toArray⟩).toArray) :
    At (w.alloc (.cells vs E)) S (.sl 1 ⟨some w.heap.size, xs.length⟩ 0 xs.length) (.slice (some ⟨w.heap.size, 0, none⟩) xs.length xs.length) ∧
      HRel (w.alloc (.cells vs E)) S [(⟨some w.heap.size, xs.length⟩, .arr 1 (xs.map AV.str))] ∧ Evo w S [] (w.alloc (.cells vs E)) S [(⟨some w.heap.size, xs.length⟩, .arr 1 (xs.map AV.str))] := by
  subst hv
  have e0 := Ext.alloc w (.cells (xs.map fun s => Value.string ⟨s.toArray⟩).toArray E)
  have hh : Holds (w.alloc (.cells (xs.map fun s => Value.string ⟨s.toArray⟩).toArray E)) S ⟨some w.heap.size, xs.length⟩ (.arr 1 (xs.map AV.str)) := by
    refine ⟨fun x hx => ?_, by simp, .inr ⟨w.heap.size, (xs.map fun s => Value.string ⟨s.toArray⟩).toArray, E, rfl, ?_, by simp, ?_⟩⟩
    · obtain ⟨s, _, rfl⟩ := List.mem_map.1 hx
      exact ⟨rfl, fun c hc => by rw [List.mem_singleton.1 hc]; rfl⟩
    · show (w.heap.push _)[w.heap.size]? = _
      simp
    · rw [flat_strs]
      intro i c v hc hv
      simp only [List.getElem?_map, List.getElem?_toArray, Option.map_eq_some_iff] at hc hv
      obtain ⟨s, h1, rfl⟩ := hc
      obtain ⟨s', h2, rfl⟩ := hv
      rw [h1] at h2
      obtain rfl := Option.some.inj h2
      exact .str s
  obtain ⟨k1, k2, k3⟩ := add_rel r e0 id hh (.inr ⟨_, rfl, Nat.le_refl _⟩)
  refine ⟨?_, k1, k2⟩
  have := At.sl (w := w.alloc (.cells (xs.map fun s => Value.string ⟨s.toArray⟩).toArray E)) (S := S) 1 ⟨some w.heap.size, xs.length⟩ 0 xs.length w.heap.size xs.length rfl (Nat.le_refl _) (by simp)
  simpa using this
/-! ### tables -/
/-- A row of numbers. -/
def tNum (k : IntKind) (zs : List Int) (o : Option Obj) : Prop := rowOf o = some (zs.map fun z => Value.int k z).toArray
/-- A cell with a number. -/
def tInt (k : IntKind) (o : Option Obj) : Prop := ∃ vs m, rowOf o = some vs ∧ vs[0]? = some (.int k m)
/-- A cell with an interface's value. -/
def tIfc (o : Option Obj) : Prop := ∃ vs ev, rowOf o = some vs ∧ vs[0]? = some ev ∧ (ev = .nilIface ∨ ∃ te pe, ev = .iface te pe)
theorem row_cell (w : World) (g i : Nat) {vs : Array Value} (h : rowOf (w.heap[g]?) = some vs) : w.cell? ⟨g, i, none⟩ = vs[i]? := by
  unfold World.cell?
  unfold rowOf at h
  split at h
  · rename_i vs' e f ho
    obtain rfl := Option.some.inj h
    simp [ho]
  · cases h
def tabOf : List (Nat × (Option Obj → Prop)) → Nat → Option (Option Obj → Prop)
  | [], _ => none
  | (k, o) :: r, g => if g = k then some o else tabOf r g
theorem tabOf_mem : ∀ {l : List (Nat × (Option Obj → Prop))} {g : Nat} {o : Option Obj → Prop}, tabOf l g = some o → (g, o) ∈ l
  | [], _, _, h => by cases h
  | (k, o') :: r, g, o, h => by
    unfold tabOf at h
    split at h
    · rename_i hg
      rw [hg, Option.some.inj h]; simp
    · exact List.mem_cons_of_mem _ (tabOf_mem h)
theorem row_lt {w : World} {g : Nat} {vs : Array Value} (h : rowOf (w.heap[g]?) = some vs) : g < w.heap.size := by
  rcases Nat.lt_or_ge g w.heap.size with h' | h'
  · exact h'
  · rw [Array.getElem?_eq_none h'] at h; cases h
end Go.Eng
namespace Go.Eng
open Go
section errs
variable [GTab] {P : Program} {all : Array Oper} {rest : List Oper} {n : Nat} {tm : List (Nat × AV)} {hp : Heap} {Q : St → Prop} {d : Nat} {ty : TypeId} {pos : String} {af : Array Edge}
/-- An error's value, and whether it is none. -/
def errV (e : Value) (ok : Bool) : Prop := (e = .nilIface ∧ ok = true) ∨ ((∃ te pe, e = .iface te pe) ∧ ok = false)
/-- A function that makes nothing that is spoken of, and returns a number and an error. -/
def PuE (P : Program) (f : FuncId) (args : List AV) (m : Int) (ok : Bool) : Prop := ACall P f args [] (fun r h => ∃ e, r = .tup [I m, .raw e] ∧ errV e ok)
theorem t_callE {f : FuncId} {args : List Operand} {ts : Array TypeId} {l l' : List AV} {m : Int} {ok : Bool} [IsFn P f] (hl : evL tm args = some l) (c : PuE P f l' m ok) (co : CoL hp l l') (hn : Nat.blt d n = true)
    (kk : ∀ e, errV e ok → ARun P all rest ⟨n, (d, .tup [I m, .raw e]) :: tm, hp⟩ Q) : ARun P all (⟨some d, .call { callee := .value (.func f), args := args.toArray, argTypes := ts }, ty, pos, af, none⟩ :: rest) ⟨n, tm, hp⟩ Q := by
  refine r_call0 hl c co hn (fun r h' hr => ?_)
  obtain ⟨e, rfl, he⟩ := hr
  exact ARun.weaken (σ' := ⟨n, (d, .tup [I m, .raw e]) :: tm, hp⟩) ⟨rfl, fun _ _ h => h, List.sublist_append_right _ _⟩ (kk e he)
theorem eq_in {t : TypeId} {ms : Array (String × TypeId)} [TUnder P t (.interface ms)] (te : TypeId) (pe : Value) (w : World) : (Op.equal t (.iface te pe) .nilIface).run P w = .ok false w := by
  show (Op.equalIn (9999 + 1) t _ _).run P w = _
  rw [Op.equalIn]
  simp [run_underlying (TUnder.h (P := P) (t := t))]
theorem eq_ii {t : TypeId} {ms : Array (String × TypeId)} [TUnder P t (.interface ms)] (w : World) : (Op.equal t .nilIface .nilIface).run P w = .ok true w := by
  show (Op.equalIn (9999 + 1) t _ _).run P w = _
  rw [Op.equalIn]
  simp [run_underlying (TUnder.h (P := P) (t := t))]
theorem q_eqE {xt yt : TypeId} {ms : Array (String × TypeId)} {x : Operand} {e : Value} {ok : Bool} [TUnder P xt (.interface ms)] (he : errV e ok) (hx : evA tm x = some (.raw e)) : QV P ⟨some d, .binOp .eql xt x (.const .nilIface) yt, ty, pos, af, none⟩ ⟨n, tm, hp⟩ (.bool ok) := by
  refine fun w S a r => ⟨.bool ok, fun w1 _ => ?_, .bool _⟩
  have hr := (evA_at (σ := ⟨n, tm, hp⟩) r hx).raw_inv
  have hc : a.eval (.const .nilIface) = .nilIface := rfl
  rcases he with ⟨rfl, rfl⟩ | ⟨⟨te, pe, rfl⟩, rfl⟩
  · have h1 := eq_ii (P := P) (t := xt) w1
    simp [execOp, hr, hc, eqGuard, binOp, h1]
  · have h1 := eq_in (P := P) (t := xt) te pe w1
    simp [execOp, hr, hc, eqGuard, binOp, h1]
/-- Two strings, one behind the other. -/
def catO (a b : List UInt8) : Option (List UInt8) := if a.length + b.length ≤ 9223372036854775807 then some (a ++ b) else none
theorem q_sadd {xt yt : TypeId} {x y : Operand} {s t r : List UInt8} (h : catO s t = some r) (hx : evA tm x = some (.str s)) (hy : evA tm y = some (.str t)) : QV P ⟨some d, .binOp .add xt x y yt, ty, pos, af, none⟩ ⟨n, tm, hp⟩ (.str r) := by
  unfold catO at h
  split at h
  · rename_i hs
    obtain rfl := Option.some.inj h
    refine fun w S a r => ⟨.string (⟨s.toArray⟩ ++ ⟨t.toArray⟩), fun w1 _ => ?_, ?_⟩
    · have h1 := run_string_add_sum (P := P) (w := w1) (⟨s.toArray⟩ : ByteArray) (⟨t.toArray⟩ : ByteArray) (by simpa [ByteArray.size] using hs)
      simp [execOp, (evA_at (σ := ⟨n, tm, hp⟩) r hx).str_inv, (evA_at (σ := ⟨n, tm, hp⟩) r hy).str_inv, eqGuard, binOp, h1]
    · have : ((⟨s.toArray⟩ : ByteArray) ++ ⟨t.toArray⟩) = ⟨(s ++ t).toArray⟩ := by apply ByteArray.ext; simp
      rw [this]
      exact .str _
  · cases h
end errs
end Go.Eng

/- The engine, part 40: arrays of a fixed length whose elements are one cell each. No program in sight. -/
set_option linter.unusedVariables false
set_option linter.unusedSimpArgs false
set_option linter.unusedSectionVars false
namespace Go.Eng
open Go
variable [GTab]
section rules
variable {P : Program} {all : Array Oper} {rest : List Oper} {n : Nat} {tm : List (Nat × AV)} {hp : Heap} {Q : St → Prop} {d : Nat} {ty : TypeId} {pos : String} {af : Array Edge}
end rules
end Go.Eng

/- The engine, part 41: from what a row lays to the tables that the engine speaks of. No program in sight. -/
set_option linter.unusedVariables false
set_option linter.unusedSimpArgs false
namespace Go.Eng
open Go Go.Lib
variable [GTab]
set_option linter.unusedSectionVars false
theorem row_of_cell {w : World} {g : Nat} {v : Value} (h : w.cell? ⟨g, 0, none⟩ = some v) : ∃ vs, rowOf (w.heap[g]?) = some vs ∧ vs[0]? = some v := by
  unfold World.cell? at h
  cases ho : w.heap[g]? with
  | none => simp [ho] at h
  | some o =>
    cases o with
    | cells vs e f => exact ⟨vs, rfl, by simpa [ho] using h⟩
    | _ => simp [ho] at h
theorem int_row {w : World} {g : Nat} {k : IntKind} {m : Int} (h : w.cell? ⟨g, 0, none⟩ = some (.int k m)) : g < w.heap.size ∧ tInt k (w.heap[g]?) := by
  obtain ⟨vs, h1, h2⟩ := row_of_cell h
  exact ⟨row_lt h1, vs, m, h1, h2⟩
theorem num_row {P : Program} {W : World} {name : String} {k : IntKind} {zs : List Int} {g : Nat} {t e : TypeId} {n : Nat}
    (hg : P.globalNamed name = some g) (hty : (P.globals[g]?).map (·.type) = some t) (ht : P.underlying t = some (.array n e)) (he : P.underlying e = some (.int k)) (hce : P.cellsOf e = 1) (hct : P.cellsOf t = n)
    (h : VarReads P W name (tabData k zs)) : g < W.heap.size ∧ tNum k zs (W.heap[g]?) := by
  obtain ⟨g', t', cs, fuel, p, hg', ht', hvar, hd⟩ := h
  obtain rfl := Option.some.inj (hg.symm.trans hg')
  obtain rfl := Option.some.inj (hty.symm.trans ht')
  rw [var_row hg] at hvar
  refine ⟨row_lt hvar, ?_⟩
  unfold tNum
  rw [hvar, ← cells_of_tab ht he hce hct hd]
theorem ifc_row {P : Program} {W : World} {name : String} {d : DataW Unit} {g : Nat} {t : TypeId} {ms : Array (String × TypeId)}
    (hg : P.globalNamed name = some g) (hty : (P.globals[g]?).map (·.type) = some t) (ht : P.underlying t = some (.interface ms)) (h : VarReads P W name d) : g < W.heap.size ∧ tIfc (W.heap[g]?) := by
  obtain ⟨g', t', cs, fuel, p, hg', ht', hvar, hd⟩ := h
  obtain rfl := Option.some.inj (hg.symm.trans hg')
  obtain rfl := Option.some.inj (hty.symm.trans ht')
  rw [var_row hg] at hvar
  refine ⟨row_lt hvar, ?_⟩
  have key : ∀ l : List Value, DataW.trod (fun _ => ()) P W 0 (fun _ => true) false fuel t l = some (d, p) → ∃ ev, l[0]? = some ev ∧ (ev = .nilIface ∨ ∃ te pe, ev = .iface te pe) := by
    intro l hl
    cases fuel with
    | zero => simp [DataW.trod] at hl
    | succ fuel =>
      unfold DataW.trod at hl
      simp only [ht] at hl
      split at hl <;> first | (exact ⟨_, rfl, .inl rfl⟩) | (exact ⟨_, rfl, .inr ⟨_, _, rfl⟩⟩) | (simp_all)
  obtain ⟨ev, h1, h2⟩ := key cs.toList hd
  exact ⟨cs, ev, hvar, by simpa using h1, h2⟩
end Go.Eng

/- The engine, part 42: a row that lays variables, at a world that is shaped: what the kit's two forms (laid; shaped) give apart, given together. No program in sight. -/
set_option linter.unusedVariables false
namespace Go.Eng
open Go
variable {H : Type} {enc : TypeId × Value → H}
theorem handed_both {a : Assume} {C : Checked} {os : Os} {f : FuncId} {fn : Func} {s : ChangeSpec} {conds : List PathCond} {apart fresh handsOn again : Bool} {X : World → Array Value → Prop}
    (hX : ∀ (w w' : World) (args : Array Value), w.heap = w'.heap → X w args → X w' args)
    (own : ownKnob C.prog.godebug = none) (started : os.Started) (noInit : C.prog.inits.idxOf? f = none) (hfn : C.prog.funcs[f]? = some fn)
    (witness : ∃ (w : World) (tape : Tape) (i : Input), w.os = os ∧ (w.forCall tape i).Shaped C.prog ∧ i.vars = [] ∧ Input.okWide C.prog (w.forCall tape i) .any w.heap.size f i ∧
      ((s.pre enc C.prog fn conds apart (w.forCall tape i).memory i.args ∧ X (w.forCall tape i).memory i.args) ∧ sizedMet enc C.prog fn (OpenSpec.ofChange s) apart (w.forCall tape i).memory i.args) ∧ a.holds C.prog (lone (Frame.enter C.prog f i.args .normal) [] (w.forCall tape i)))
    (walk : ∀ (W : World) (base : Nat) (args : Array Value) (ds gs : List (DataW H)) (before : List MemPlace),
      (∀ (j : Nat) t v, fn.params[j]? = some t → args[j]? = some v → Value.okWide C.prog W .any base t v) →
      DataW.Whole enc C.prog fn.params.toList s.vars apart W args.toList ds gs before →
      conds.all (PathCond.test C.prog ⟨fn.params.toList, ds, s.plain.varTypes C.prog, gs⟩) = true →
      (DataW.weightsEach C.prog (fn.params.toList ++ s.plain.varTypes C.prog) (ds ++ gs)).all (· ≤ reachBytes) = true → X W args ∧ W.ShapedOpen C.prog →
      a.holds C.prog (lone (Frame.enter C.prog f args .normal) [] W) →
      Calls C.prog f args W fun e W' => ∃ v, e = .returned v ∧ s.post enc C.prog fn apart fresh handsOn again W args v W') :
    ReturnsInHanded a C os f .any (fun w args => (s.pre enc C.prog fn conds apart w args ∧ X w args) ∧ sizedMet enc C.prog fn (OpenSpec.ofChange s) apart w args) (s.post enc C.prog fn apart fresh handsOn again) := by
  refine returnsInHanded_of_calls own started noInit witness ?_
  intro w tape i _ shaped _ ok pre held
  obtain ⟨_, _, _, fn', there, _, _, _, _, vals⟩ := ok
  cases Option.some.inj (there.symm.trans hfn)
  obtain ⟨⟨⟨ds, gs, before, whole, tests⟩, x⟩, sized⟩ := pre
  have K := walk (w.forCall tape i) w.heap.size i.args ds gs before vals (DataW.Whole.of_heap (w' := w.forCall tape i) (by rfl) whole) tests (sized.weights whole) ⟨hX _ _ _ (by rfl) x, shaped⟩ held
  exact K.mono fun e W' ⟨v, he, hp⟩ => by
    subst he
    exact ChangeSpec.post_blind hp
end Go.Eng

/- The engine, part 43: a slice whose room is known; what slices.Delete does with it. No program in sight. -/
set_option linter.unusedVariables false
set_option linter.unusedSimpArgs false
set_option linter.unusedSectionVars false
namespace Go.Eng
open Go
variable [GTab]

section rules
variable {P : Program} {all : Array Oper} {rest : List Oper} {n : Nat} {tm : List (Nat × AV)} {hp : Heap} {Q : St → Prop} {d : Nat} {ty : TypeId} {pos : String} {af : Array Edge}
end rules
end Go.Eng

/- The engine, part 44: a string's bytes as a list. No program in sight. -/
set_option linter.unusedVariables false
set_option linter.unusedSimpArgs false
set_option linter.unusedSectionVars false
namespace Go.Eng
open Go
variable [GTab]

/-- A string's bytes, as numbers. -/
def bytesI (s : List UInt8) : List Int := s.map fun c => (c.toNat : Int)
theorem bytes_ext (w : World) (e : TypeId) (s : ByteArray) : Ext w (Lib.bytesWorld w e s) := by
  refine ⟨rfl, rfl, rfl, by rw [Lib.bytesWorld_size]; omega, fun n hn => Lib.bytesWorld_at_old w e s n hn, fun _ => ?_⟩
  show w.drawn ≤ w.drawn + 1
  omega
/-- One block more that is only read. -/
theorem HRel.one {w w' : World} {S : Nat → Prop} {h : Heap} (r : HRel w S h) (e : Ext w w') (hs : w.heap.size < w'.heap.size) : HRel w' (fun n => S n ∨ n = w.heap.size) h ∧ Evo w S h w' (fun n => S n ∨ n = w.heap.size) h := by
  have hlt : ∀ x ∈ h, ∀ n, n ∈ eb x → n < w.heap.size := fun x hx n hn => r.lt ⟨x, hx, hn⟩
  have hk : ∀ n, S n → (S n ∨ n = w.heap.size) ∧ w'.heap[n]? = w.heap[n]? := fun n hn => ⟨.inl hn, e.same n (r.slt n hn)⟩
  refine ⟨⟨r.nodup, fun x hx => (r.holds x hx).mono hk (fun n hn => e.same n (hlt x hx n hn)), fun x hx n hn => ⟨fun hn' => ?_, fun hf => .inl ((r.sep x hx n hn).2 hf)⟩, fun n hn => ?_, fun g o ho => ⟨.inl (r.glob g o ho).1, gkeep (e.same g (r.slt g (r.glob g o ho).1)) (r.glob g o ho).2⟩⟩,
    ⟨e.os, e.tape, e.output, e.size, hk, fun n hn _ => ⟨e.same n hn, fun hn' => ?_⟩, fun n hn => .inl hn, e.drawn⟩⟩
  · rcases hn' with h' | h'
    · exact (r.sep x hx n hn).1 h'
    · have := hlt x hx n hn; omega
  · rcases hn with h' | h'
    · exact Nat.lt_of_lt_of_le (r.slt n h') e.size
    · omega
  · rcases hn' with h' | h'
    · exact h'
    · omega
section rules
variable {P : Program} {all : Array Oper} {rest : List Oper} {n : Nat} {tm : List (Nat × AV)} {hp : Heap} {Q : St → Prop} {d : Nat} {ty : TypeId} {pos : String} {af : Array Edge}
theorem flat_intsK (k : IntKind) (xs : List Int) : flat (xs.map (AV.int k)) = xs.map (AV.int k) := flat_ones (fun _ => rfl) xs
/-- A string's bytes: a list that is only read. -/
theorem t_conv_sb {src dst e : TypeId} {D : TypeDesc} {x : Operand} {s : List UInt8} [TUnder P src D] [TUnder P dst (.slice e)] [TUnder P e (.int .u8)] (hx : evA tm x = some (.str s)) (hn : Nat.blt d n = true)
    (kk : ARun P all rest ⟨n, (d, .list 1 ((bytesI s).map (AV.int .u8))) :: tm, hp⟩ Q) : ARun P all (⟨some d, .convert src dst x, ty, pos, af, none⟩ :: rest) ⟨n, tm, hp⟩ Q := by
  refine ARun.opx rfl fun w S a r => ?_
  have e1 := (evA_at (σ := ⟨n, tm, hp⟩) r hx).str_inv
  have hrun := Lib.run_convert_string_bytes (P := P) w src dst e ⟨s.toArray⟩ (TUnder.h (P := P) (t := src)) (TUnder.h (P := P) (t := dst)) (TUnder.h (P := P) (t := e))
  have hE := bytes_ext w e ⟨s.toArray⟩
  obtain ⟨g1, g2⟩ := r.hp.one hE (by rw [Lib.bytesWorld_size]; omega)
  have hsz : (⟨s.toArray⟩ : ByteArray).size = s.length := by simp [ByteArray.size]
  have hat : At (Lib.bytesWorld w e ⟨s.toArray⟩) (fun n => S n ∨ n = w.heap.size) (.list 1 ((bytesI s).map (AV.int .u8))) (.slice (some ⟨w.heap.size, 0, none⟩) (⟨s.toArray⟩ : ByteArray).size (grownCap w (⟨s.toArray⟩ : ByteArray).size 0 e)) := by
    have hl : ((bytesI s).map (AV.int .u8)).length = (⟨s.toArray⟩ : ByteArray).size := by rw [hsz]; simp [bytesI]
    rw [← hl]
    refine .list 1 _ _ _ ((bytesI s).map fun z => Value.int .u8 z) (fun y hy => ?_) ?_ (fun i c v hc hv => ?_) (fun i v hv => ?_) ?_
    · obtain ⟨z, _, rfl⟩ := List.mem_map.1 hy
      exact ⟨rfl, fun c hc => by rw [List.mem_singleton.1 hc]; rfl⟩
    · rw [flat_intsK]; simp
    · rw [flat_intsK] at hc
      simp only [List.getElem?_map, Option.map_eq_some_iff] at hc hv
      obtain ⟨z, h1, rfl⟩ := hc
      obtain ⟨z', h2, rfl⟩ := hv
      rw [h1] at h2; obtain rfl := Option.some.inj h2
      exact .int _ _
    · have hi : i < s.length := by
        have := (List.getElem?_eq_some_iff.1 hv).1
        simpa [bytesI] using this
      refine ⟨_, rfl, rfl, .inr rfl, ?_⟩
      rw [Nat.zero_add, Lib.bytesWorld_cell w e ⟨s.toArray⟩ i (by rw [hsz]; exact hi)]
      simp only [List.getElem?_map, bytesI, Option.map_eq_some_iff] at hv
      obtain ⟨z, ⟨c, h1, rfl⟩, rfl⟩ := hv
      simp [List.getD, h1]
    · rw [hl]; exact grownCap_ge w _ 0 e
  refine ⟨_, Lib.bytesWorld w e ⟨s.toArray⟩, _, _, ?_, (r.heap g2.keep g1).put hn hat, g2, kk⟩
  simp only [execOp, e1, Sem.run_bind, hrun, Result.andThen_ok]
  rfl
end rules
end Go.Eng

/- The engine, part 45: string builders: a box and the row behind it. No program in sight. -/
set_option linter.unusedVariables false
set_option linter.unusedSectionVars false
namespace Go.Eng
open Go
variable [GTab]

section
variable {P : Program} {all : Array Oper} {rest : List Oper} {n : Nat} {tm : List (Nat × AV)} {hp : Heap} {Q : St → Prop} {d : Nat} {ty : TypeId} {pos : String} {af : Array Edge}
end
end Go.Eng

/- The engine, part 46: what a builder's methods do, told exactly. No program in sight. -/
set_option linter.unusedVariables false
set_option linter.unusedSectionVars false
namespace Go.Eng
open Go Go.Proofs Go.Shelf Go.RowKit Go.Lib

section
variable {P : Program} (w : World)
end
variable {P : Program} {ρ : Ren}
end Go.Eng

/- The engine, part 47: builders' methods as contracts. No program in sight. -/
set_option linter.unusedVariables false
set_option linter.unusedSectionVars false
namespace Go.Eng
open Go Go.Proofs Go.Shelf Go.Lib
variable {P : Program} {ρ : Ren} [GTab]
end Go.Eng

