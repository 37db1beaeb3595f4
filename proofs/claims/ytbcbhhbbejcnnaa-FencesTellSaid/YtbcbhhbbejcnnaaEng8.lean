/- The engine, part 8: tests. No program in sight. -/
import Derived.Test.YtbcbhhbbejcnnaaEng7
set_option linter.unusedVariables false
namespace Go.Eng
open Go

section
variable {P : Program} {R : St → Prop} {k : List It} {σ : St}
theorem ATodo.cond_d {c : Operand} {x y : Code} {p : Prop} [Decidable p] (hc : evA σ.tm c = some (.bool (decide p))) (h1 : p → ATodo P R (.code x :: k) σ) (h2 : ¬ p → ATodo P R (.code y :: k) σ) : ATodo P R (.code (.cond c x y) :: k) σ :=
  ATodo.cond hc (fun h => h1 (of_decide_eq_true h)) (fun h => h2 (of_decide_eq_false h))
theorem ATodo.cond_nd {c : Operand} {x y : Code} {p : Prop} [Decidable p] (hc : evA σ.tm c = some (.bool (!decide p))) (h1 : ¬ p → ATodo P R (.code x :: k) σ) (h2 : p → ATodo P R (.code y :: k) σ) : ATodo P R (.code (.cond c x y) :: k) σ :=
  ATodo.cond hc (fun h => h1 (by simpa using h)) (fun h => h2 (by simpa using h))
theorem ATodo.cond_dt {c : Operand} {x y : Code} {p : Prop} [Decidable p] (hc : evA σ.tm c = some (.bool (decide p))) (hp : p) (h1 : ATodo P R (.code x :: k) σ) : ATodo P R (.code (.cond c x y) :: k) σ :=
  ATodo.cond hc (fun h => h1) (fun h => absurd hp (of_decide_eq_false h))
theorem ATodo.cond_df {c : Operand} {x y : Code} {p : Prop} [Decidable p] (hc : evA σ.tm c = some (.bool (decide p))) (hp : ¬ p) (h1 : ATodo P R (.code y :: k) σ) : ATodo P R (.code (.cond c x y) :: k) σ :=
  ATodo.cond hc (fun h => absurd (of_decide_eq_true h) hp) (fun h => h1)
theorem ATodo.cond_ndt {c : Operand} {x y : Code} {p : Prop} [Decidable p] (hc : evA σ.tm c = some (.bool (!decide p))) (hp : ¬ p) (h1 : ATodo P R (.code x :: k) σ) : ATodo P R (.code (.cond c x y) :: k) σ :=
  ATodo.cond_nd hc (fun _ => h1) (fun h => absurd h hp)
theorem ATodo.cond_ndf {c : Operand} {x y : Code} {p : Prop} [Decidable p] (hc : evA σ.tm c = some (.bool (!decide p))) (hp : p) (h1 : ATodo P R (.code y :: k) σ) : ATodo P R (.code (.cond c x y) :: k) σ :=
  ATodo.cond_nd hc (fun h => absurd hp h) (fun _ => h1)
end

/-- A test's outcome, written into its slot. -/
theorem StRel.lit {w : World} {S : Nat → Prop} {n : Nat} {tm : List (Nat × AV)} {hp : Heap} {a : Act} {s : Nat} {b c : Bool} (r : StRel w S ⟨n, tm, hp⟩ a) (hs : lk tm s = some (.bool b)) (hb : b = c) : StRel w S ⟨n, (s, .bool c) :: tm, hp⟩ a := by
  subst hb
  refine ⟨r.size, r.defers, fun t av h => ?_, r.hp⟩
  simp only [lk] at h
  split at h
  · rename_i hb
    obtain rfl : s = t := by simpa using hb
    obtain rfl := Option.some.inj h
    exact r.tm s _ hs
  · exact r.tm t av h

section rules
variable {P : Program} {all : Array Oper} {rest : List Oper} {n : Nat} {tm : List (Nat × AV)} {hp : Heap} {Q : St → Prop} {d : Nat} {ty : TypeId} {pos : String} {af : Array Edge} {op : Op} {j s : Nat}

theorem ARun.lit {l : List Oper} {b c : Bool} (hs : lk tm s = some (.bool b)) (hb : b = c) (k : ARun P all l ⟨n, (s, .bool c) :: tm, hp⟩ Q) : ARun P all l ⟨n, tm, hp⟩ Q :=
  fun w S a r => k w S a (r.lit hs hb)
theorem AQ.lit {l : List Oper} {b c : Bool} (hs : lk tm s = some (.bool b)) (hb : b = c) (k : AQ P all l ⟨n, (s, .bool c) :: tm, hp⟩ Q) : AQ P all l ⟨n, tm, hp⟩ Q :=
  fun w S a r => k w S a (r.lit hs hb)

theorem ARun.guard {want b : Bool} (hj : (all[j]?).bind (·.dst) = some s) (hs : lk tm s = some (.bool b)) (hn : Nat.blt d n = true) (h1 : b = want → ARun P all (⟨some d, op, ty, pos, af, none⟩ :: rest) ⟨n, (s, .bool want) :: tm, hp⟩ Q)
    (h2 : b = !want → ARun P all rest ⟨n, (d, .raw undef) :: (s, .bool (!want)) :: tm, hp⟩ Q) : ARun P all (⟨some d, op, ty, pos, af, some (j, want)⟩ :: rest) ⟨n, tm, hp⟩ Q := by
  by_cases hb : b = want
  · exact ARun.lit hs hb (ARun.guard_yes hj (by simp [lk]) rfl (h1 hb))
  · have hb' : b = !want := by cases b <;> cases want <;> simp_all
    exact ARun.lit hs hb' (ARun.guard_no hj (b := !want) (by simp [lk]) rfl hn (h2 hb'))
theorem AQ.guard {want b : Bool} (hj : (all[j]?).bind (·.dst) = some s) (hs : lk tm s = some (.bool b)) (hn : Nat.blt d n = true) (h1 : b = want → AQ P all (⟨some d, op, ty, pos, af, none⟩ :: rest) ⟨n, (s, .bool want) :: tm, hp⟩ Q)
    (h2 : b = !want → AQ P all rest ⟨n, (d, .raw undef) :: (s, .bool (!want)) :: tm, hp⟩ Q) : AQ P all (⟨some d, op, ty, pos, af, some (j, want)⟩ :: rest) ⟨n, tm, hp⟩ Q := by
  by_cases hb : b = want
  · exact AQ.lit hs hb (AQ.guard_yes hj (by simp [lk]) rfl (h1 hb))
  · have hb' : b = !want := by cases b <;> cases want <;> simp_all
    exact AQ.lit hs hb' (AQ.guard_no hj (b := !want) (by simp [lk]) rfl hn (h2 hb'))

theorem ARun.guard_dt {p : Prop} [Decidable p] (hj : (all[j]?).bind (·.dst) = some s) (hs : lk tm s = some (.bool (decide p))) (hn : Nat.blt d n = true) (h1 : p → ARun P all (⟨some d, op, ty, pos, af, none⟩ :: rest) ⟨n, (s, .bool true) :: tm, hp⟩ Q)
    (h2 : ¬ p → ARun P all rest ⟨n, (d, .raw undef) :: (s, .bool false) :: tm, hp⟩ Q) : ARun P all (⟨some d, op, ty, pos, af, some (j, true)⟩ :: rest) ⟨n, tm, hp⟩ Q :=
  ARun.guard hj hs hn (fun h => h1 (of_decide_eq_true h)) (fun h => h2 (of_decide_eq_false h))
theorem ARun.guard_df {p : Prop} [Decidable p] (hj : (all[j]?).bind (·.dst) = some s) (hs : lk tm s = some (.bool (decide p))) (hn : Nat.blt d n = true) (h1 : ¬ p → ARun P all (⟨some d, op, ty, pos, af, none⟩ :: rest) ⟨n, (s, .bool false) :: tm, hp⟩ Q)
    (h2 : p → ARun P all rest ⟨n, (d, .raw undef) :: (s, .bool true) :: tm, hp⟩ Q) : ARun P all (⟨some d, op, ty, pos, af, some (j, false)⟩ :: rest) ⟨n, tm, hp⟩ Q :=
  ARun.guard hj hs hn (fun h => h1 (of_decide_eq_false h)) (fun h => h2 (of_decide_eq_true h))
theorem AQ.guard_dt {p : Prop} [Decidable p] (hj : (all[j]?).bind (·.dst) = some s) (hs : lk tm s = some (.bool (decide p))) (hn : Nat.blt d n = true) (h1 : p → AQ P all (⟨some d, op, ty, pos, af, none⟩ :: rest) ⟨n, (s, .bool true) :: tm, hp⟩ Q)
    (h2 : ¬ p → AQ P all rest ⟨n, (d, .raw undef) :: (s, .bool false) :: tm, hp⟩ Q) : AQ P all (⟨some d, op, ty, pos, af, some (j, true)⟩ :: rest) ⟨n, tm, hp⟩ Q :=
  AQ.guard hj hs hn (fun h => h1 (of_decide_eq_true h)) (fun h => h2 (of_decide_eq_false h))
theorem AQ.guard_df {p : Prop} [Decidable p] (hj : (all[j]?).bind (·.dst) = some s) (hs : lk tm s = some (.bool (decide p))) (hn : Nat.blt d n = true) (h1 : ¬ p → AQ P all (⟨some d, op, ty, pos, af, none⟩ :: rest) ⟨n, (s, .bool false) :: tm, hp⟩ Q)
    (h2 : p → AQ P all rest ⟨n, (d, .raw undef) :: (s, .bool true) :: tm, hp⟩ Q) : AQ P all (⟨some d, op, ty, pos, af, some (j, false)⟩ :: rest) ⟨n, tm, hp⟩ Q :=
  AQ.guard hj hs hn (fun h => h1 (of_decide_eq_false h)) (fun h => h2 (of_decide_eq_true h))

/-- A negated test: as a test of the contrary. -/
theorem q_not_d {xt : TypeId} {x : Operand} {p : Prop} [Decidable p] (hx : evA tm x = some (.bool (decide p))) : QV P ⟨some d, .unOp .not xt x, ty, pos, af, none⟩ ⟨n, tm, hp⟩ (.bool (decide (¬ p))) := by
  have h : (!decide p) = decide (¬ p) := by by_cases h : p <;> simp [h]
  rw [← h]
  exact q_not hx
end rules

/-! ### the end of a function -/
theorem ret1 {P : Program} {fn : Func} {σ : St} {Q : AV → Heap → Prop} {t : Nat} {av : AV} (h : fn.results = #[.tmp t]) (ht : lk σ.tm t = some av) (hq : Q av σ.hp) : ∃ r, Res P fn σ r ∧ Q r σ.hp := ⟨av, .tmp t av h ht, hq⟩
theorem ret2 {P : Program} {fn : Func} {σ : St} {Q : AV → Heap → Prop} {t u : Nat} {av au : AV} (h : fn.results = #[.tmp t, .tmp u]) (ht : lk σ.tm t = some av) (hu : lk σ.tm u = some au) (hq : Q (.tup [av, au]) σ.hp) : ∃ r, Res P fn σ r ∧ Q r σ.hp :=
  ⟨_, .tmp2 t u av au h ht hu, hq⟩
theorem ret3 {P : Program} {fn : Func} {σ : St} {Q : AV → Heap → Prop} {t u s : Nat} {av au as : AV} (h : fn.results = #[.tmp t, .tmp u, .tmp s]) (ht : lk σ.tm t = some av) (hu : lk σ.tm u = some au) (hs : lk σ.tm s = some as) (hq : Q (.tup [av, au, as]) σ.hp) : ∃ r, Res P fn σ r ∧ Q r σ.hp :=
  ⟨_, .tmp3 t u s av au as h ht hu hs, hq⟩
theorem ret0 {P : Program} {fn : Func} {σ : St} {Q : AV → Heap → Prop} (h : fn.results = #[]) (hq : Q (.tup []) σ.hp) : ∃ r, Res P fn σ r ∧ Q r σ.hp := ⟨_, .none h, hq⟩

end Go.Eng
