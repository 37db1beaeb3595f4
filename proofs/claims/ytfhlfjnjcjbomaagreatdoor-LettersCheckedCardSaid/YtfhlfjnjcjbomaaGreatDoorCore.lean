/- What the plain functions stand on; the tables of the program. -/
import Derived.Test.YtfhlfjnjcjbomaaGreatDoorEngD
import Derived.Lib.Bytealg
import Derived.Shelf.Unicode.DecodeSlow
import Derived.Lib.ValidU
import Derived.Lib.SlTrimSet
import Derived.Below
import Derived.Shelf.GgClosure.StringsIndexFunc
import Derived.Lib.Repeat
namespace Go.Beacon
open Go Go.Eng
def cellOf (o : Option Obj) (i : Nat) : Option Value := match o with
  | some (.cells vs _ _) => vs[i]?
  | _ => none
theorem cellOf_eq (w : World) (g i : Nat) : w.cell? ⟨g, i, none⟩ = cellOf (w.heap[g]?) i := by
  unfold World.cell? cellOf
  cases w.heap[g]? with
  | none => rfl
  | some o => cases o <;> rfl
def tFirst (o : Option Obj) : Prop := ∀ c, c < 256 → cellOf o c = some (.int .u8 (Lib.firstT c))
def tAcc (o : Option Obj) : Prop := ∀ i, i < 16 → cellOf o (2 * i) = some (.int .u8 (Lib.accLo i)) ∧ cellOf o (2 * i + 1) = some (.int .u8 (Lib.accHi i))
/-- The tables that are spoken of. -/
instance seatTab : GTab := ⟨fun g => if g = 1 then some tFirst else if g = 2 then some tAcc else none, False⟩
theorem tabs_at {w : World} {S : Nat → Prop} {h : Heap} (r : HRel w S h) : Lib.Utf8Tabs 1 2 w := by
  have h1 := (r.glob 1 tFirst (by simp [GTab.tab])).2
  have h2 := (r.glob 2 tAcc (by simp [GTab.tab])).2
  exact ⟨fun c hc => by rw [cellOf_eq]; exact h1 c hc, fun i hi => by rw [cellOf_eq, cellOf_eq]; exact h2 i hi⟩
theorem tabs_lt {w : World} {g i : Nat} {v : Value} (h : w.cell? ⟨g, i, none⟩ = some v) : g < w.heap.size := by
  rcases Nat.lt_or_ge g w.heap.size with h' | h'
  · exact h'
  · unfold World.cell? at h; simp [Array.getElem?_eq_none h'] at h
theorem seat_glob {w : World} (hT : Lib.Utf8Tabs 1 2 w) : ∀ g o, GTab.tab g = some o → g < w.heap.size ∧ o (w.heap[g]?) := by
  intro g o ho
  replace ho : (if g = 1 then some tFirst else if g = 2 then some tAcc else none) = some o := ho
  split at ho
  · rename_i hg
    obtain rfl := Option.some.inj ho
    subst hg
    exact ⟨tabs_lt (hT.1 0 (by decide)), fun c hc => by rw [← cellOf_eq]; exact hT.1 c hc⟩
  · split at ho
    · rename_i hg
      obtain rfl := Option.some.inj ho
      subst hg
      exact ⟨tabs_lt (hT.2 0 (by decide)).1, fun c hc => by rw [← cellOf_eq, ← cellOf_eq]; exact hT.2 c hc⟩
    · cases ho
/-- A world of which the kit says that nothing below was turned. -/
theorem below_ext {w w' : World} (h : Go.RowKit.Below w.heap.size w w') : Ext w w' := ⟨h.os, h.tape, h.output, h.size, h.block, fun q => by cases q⟩
abbrev indexByteI (s : Str) (c : Int) : Int := Lib.indexByte s c.toNat.toUInt8
/-- utf8.ValidString. -/
def trimO (s cs : Str) : Option Str := if s.length ≤ 9223372036854775807 ∧ cs.length < 4294967281 ∧ cs.all (fun b => decide (b.toNat < 128)) = true then some (Lib.trimS s cs) else none
/-- strings.Repeat. -/
def repeatO (s : Str) (c : Int) : Option Str := if 0 ≤ c ∧ c ≤ 9223372036854775807 ∧ s.length * c.toNat ≤ 140737488355328 then some (Lib.repeatL s c.toNat) else none
def validO (s : Str) : Option Bool := if s.length ≤ 9223372036854775807 then some (Lib.validD s) else none
/-- strings.ContainsFunc. -/
noncomputable def containsF (s : Str) (f : Int → Option Bool) : Option Bool := open Classical in if ∀ x : Nat, x ≤ 1114111 → ∃ u, f (x : Int) = some u then some (decide (0 ≤ Lib.idxFunc (fun x => (f (x : Int)).getD false) true ⟨s.toArray⟩)) else none
end Go.Beacon
