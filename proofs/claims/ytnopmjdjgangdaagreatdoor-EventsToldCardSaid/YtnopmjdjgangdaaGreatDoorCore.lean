/- What the plain functions stand on; the tables of the program. -/
import Derived.Test.YtnopmjdjgangdaaGreatDoorEngE
import Derived.Test.YtnopmjdjgangdaaGreatDoorEngF
import Derived.Lib.IndexMore
import Derived.Lib.Bytealg
import Derived.Shelf.Unicode.DecodeSlow
import Derived.Lib.ValidU
import Derived.Lib.SlTrimSet
import Derived.Below
import Derived.Shelf.GgClosure.StringsIndexFunc
import Derived.Lib.Repeat
import Derived.Lib.LaidTab
import Derived.Lib.Split
import Derived.Lib.SplitLaws
import Derived.Lib.ItoaNum
import Derived.Lib.AtoiAll
import Derived.Shelf.Strconv.Itoa3
import Derived.Shelf.Strings.Split
namespace Go.Beacon
open Go Go.Eng
def cellOf (o : Option Obj) (i : Nat) : Option Value := match o with
  | some (.cells vs _ _) => vs[i]?
  | _ => none
theorem cellOf_eq (w : World) (g i : Nat) : w.cell? ⟨g, i, none⟩ = cellOf (w.heap[g]?) i := by
  unfold World.cell? cellOf
  cases w.heap[g]? with
  | none => rfl
  | some o => cases o <;> rfl
def tFirst (o : Option Obj) : Prop := ∀ c, c < 256 → cellOf o c = some (.int .u8 (Lib.firstT c))
def tAcc (o : Option Obj) : Prop := ∀ i, i < 16 → cellOf o (2 * i) = some (.int .u8 (Lib.accLo i)) ∧ cellOf o (2 * i + 1) = some (.int .u8 (Lib.accHi i))
/-- The tables that are spoken of. -/
def seatRows : List (Nat × (Option Obj → Prop)) := []
  ++ [(2, tFirst), (3, tAcc)]
  ++ [(4, tNum .u64 Lib.pow10Tab)]
  ++ [(0, tInt .i64)]
/-- Draws are not counted. -/
instance seatTab : GTab := ⟨tabOf seatRows, False⟩
theorem seat_glob {w : World} (hT : ∀ e ∈ seatRows, e.1 < w.heap.size ∧ e.2 (w.heap[e.1]?)) : ∀ g o, GTab.tab g = some o → g < w.heap.size ∧ o (w.heap[g]?) := fun g o h => hT (g, o) (tabOf_mem h)
theorem tabs_lt {w : World} {g i : Nat} {v : Value} (h : w.cell? ⟨g, i, none⟩ = some v) : g < w.heap.size := by
  rcases Nat.lt_or_ge g w.heap.size with h' | h'
  · exact h'
  · unfold World.cell? at h; simp [Array.getElem?_eq_none h'] at h
theorem tabs_at {w : World} {S : Nat → Prop} {h : Heap} (r : HRel w S h) : Lib.Utf8Tabs 2 3 w := by
  have h1 := (r.glob 2 tFirst rfl).2
  have h2 := (r.glob 3 tAcc rfl).2
  exact ⟨fun c hc => by rw [cellOf_eq]; exact h1 c hc, fun i hi => by rw [cellOf_eq, cellOf_eq]; exact h2 i hi⟩
theorem rows_utf8 {w : World} (hT : Lib.Utf8Tabs 2 3 w) : (2 < w.heap.size ∧ tFirst (w.heap[(2 : Nat)]?)) ∧ (3 < w.heap.size ∧ tAcc (w.heap[(3 : Nat)]?)) :=
  ⟨⟨tabs_lt (hT.1 0 (by decide)), fun c hc => by rw [← cellOf_eq]; exact hT.1 c hc⟩, ⟨tabs_lt (hT.2 0 (by decide)).1, fun c hc => by rw [← cellOf_eq, ← cellOf_eq]; exact hT.2 c hc⟩⟩
/-- A world of which the kit says that nothing below was turned. -/
theorem below_ext {w w' : World} (h : Go.RowKit.Below w.heap.size w w') : Ext w w' := ⟨h.os, h.tape, h.output, h.size, h.block, fun q => by cases q⟩
abbrev indexByteI (s : Str) (c : Int) : Int := Lib.indexByte s c.toNat.toUInt8
/-- utf8.ValidString. -/
def trimO (s cs : Str) : Option Str := if s.length ≤ 9223372036854775807 ∧ cs.length < 4294967281 ∧ cs.all (fun b => decide (b.toNat < 128)) = true then some (Lib.trimS s cs) else none
/-- strconv.Itoa. -/
def itoaO (n : Int) : Option Str := if -9223372036854775808 ≤ n ∧ n ≤ 9223372036854775807 then some (Lib.itoa n) else none
def index2 (s t : Str) : Option Int := if s.length < 4294967281 then some (Lib.index s t) else none
def indexO (s : Str) : Str → Option Int
  | [c] => some (Lib.indexByte s c)
  | [c, d] => index2 s [c, d]
  | _ => none
/-- strings.Split, at separators that are not empty. -/
def splitO (s sep : Str) : Option (List Str) := if s.length < 4294967281 ∧ 1 ≤ sep.length then some ((Lib.splitB ⟨sep.toArray⟩ 0 (Lib.countB ⟨s.toArray⟩ ⟨sep.toArray⟩) ⟨s.toArray⟩).map fun b => b.data.toList) else none
/-- strings.Cut. -/
def cutO (s sep : Str) : Option (Str × Str × Bool) := if s.length < 4294967281 then some (Lib.cut s sep) else none
/-- A world that has grown. -/
theorem grow_ext (w : World) (k : Nat) (os : Array Obj) (hd : ¬ GTab.dr) : Ext w (Go.Sort.grow (w.drewN k) os) :=
  ⟨rfl, rfl, rfl, by simp [Go.Sort.grow, World.drewN], fun n hn => by show (w.heap ++ os)[n]? = _; rw [Array.getElem?_append_left hn], fun q => absurd q hd⟩
/-- strings.Repeat. -/
def repeatO (s : Str) (c : Int) : Option Str := if 0 ≤ c ∧ c ≤ 9223372036854775807 ∧ s.length * c.toNat ≤ 140737488355328 then some (Lib.repeatL s c.toNat) else none
def validO (s : Str) : Option Bool := if s.length ≤ 9223372036854775807 then some (Lib.validD s) else none
end Go.Beacon

