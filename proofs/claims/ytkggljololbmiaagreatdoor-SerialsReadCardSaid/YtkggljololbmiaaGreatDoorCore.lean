/- What the plain functions stand on; the tables of the program. -/
import Derived.Test.YtkggljololbmiaaGreatDoorEngE
import Derived.Test.YtkggljololbmiaaGreatDoorEngF
import Derived.Lib.IndexMore
import Derived.Lib.Bytealg
import Derived.Shelf.Unicode.DecodeSlow
import Derived.Lib.ValidU
import Derived.Lib.SlTrimSet
import Derived.Below
import Derived.Shelf.GgClosure.StringsIndexFunc
import Derived.Lib.Repeat
import Derived.Lib.LaidTab
import Derived.Lib.Split
import Derived.Lib.SplitLaws
import Derived.Lib.ItoaNum
import Derived.Lib.AtoiAll
import Derived.Shelf.Strconv.Itoa3
import Derived.Shelf.Strings.Split
namespace Go.Beacon
open Go Go.Eng
/-- The tables that are spoken of. -/
def seatRows : List (Nat × (Option Obj → Prop)) := []
  ++ [(6, tNum .u64 Lib.pow10Tab)]
  ++ [(3, tInt .i64)]
  ++ [(1, tIfc), (2, tIfc)]
/-- Draws are not counted. -/
instance seatTab : GTab := ⟨tabOf seatRows, False⟩
theorem seat_glob {w : World} (hT : ∀ e ∈ seatRows, e.1 < w.heap.size ∧ e.2 (w.heap[e.1]?)) : ∀ g o, GTab.tab g = some o → g < w.heap.size ∧ o (w.heap[g]?) := fun g o h => hT (g, o) (tabOf_mem h)
/-- A world of which the kit says that nothing below was turned. -/
theorem below_ext {w w' : World} (h : Go.RowKit.Below w.heap.size w w') : Ext w w' := ⟨h.os, h.tape, h.output, h.size, h.block, fun q => by cases q⟩
abbrev indexByteI (s : Str) (c : Int) : Int := Lib.indexByte s c.toNat.toUInt8
/-- strings.IndexRune at an ASCII rune. -/
def indexRuneO (s : Str) (c : Int) : Option Int := if 0 ≤ c ∧ c < 128 then some (indexByteI s c) else none
/-- utf8.ValidString. -/
def trimO (s cs : Str) : Option Str := if s.length ≤ 9223372036854775807 ∧ cs.length < 4294967281 ∧ cs.all (fun b => decide (b.toNat < 128)) = true then some (Lib.trimS s cs) else none
/-- strconv.Itoa. -/
def itoaO (n : Int) : Option Str := if -9223372036854775808 ≤ n ∧ n ≤ 9223372036854775807 then some (Lib.itoa n) else none
def index2 (s t : Str) : Option Int := if s.length < 4294967281 then some (Lib.index s t) else none
def indexO (s : Str) : Str → Option Int
  | [c] => some (Lib.indexByte s c)
  | [c, d] => index2 s [c, d]
  | _ => none
/-- strconv.Atoi: the number, and whether there is no error. -/
def atoiO (s : Str) : Option (Int × Bool) := if s.length ≤ 281474976710656 then some (match Lib.atoiAll s with
  | .ok v => (v, true)
  | .range => (Lib.atoiSat s, false)
  | _ => (0, false)) else none
/-- strings.Split, at separators that are not empty. -/
def splitO (s sep : Str) : Option (List Str) := if s.length < 4294967281 ∧ 1 ≤ sep.length then some ((Lib.splitB ⟨sep.toArray⟩ 0 (Lib.countB ⟨s.toArray⟩ ⟨sep.toArray⟩) ⟨s.toArray⟩).map fun b => b.data.toList) else none
/-- strings.Cut. -/
def cutO (s sep : Str) : Option (Str × Str × Bool) := if s.length < 4294967281 then some (Lib.cut s sep) else none
/-- A world that has grown. -/
theorem grow_ext (w : World) (k : Nat) (os : Array Obj) (hd : ¬ GTab.dr) : Ext w (Go.Sort.grow (w.drewN k) os) :=
  ⟨rfl, rfl, rfl, by simp [Go.Sort.grow, World.drewN], fun n hn => by show (w.heap ++ os)[n]? = _; rw [Array.getElem?_append_left hn], fun q => absurd q hd⟩
/-- strings.Repeat. -/
def repeatO (s : Str) (c : Int) : Option Str := if 0 ≤ c ∧ c ≤ 9223372036854775807 ∧ s.length * c.toNat ≤ 140737488355328 then some (Lib.repeatL s c.toNat) else none
end Go.Beacon

