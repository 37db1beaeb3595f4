/- What the plain functions stand on; the tables of the program. -/
import Derived.Test.YtblakecmhjcdmaaDoorEngD
import Derived.Lib.Bytealg
import Derived.Shelf.Unicode.DecodeSlow
import Derived.Lib.ValidU
import Derived.Lib.SlTrimSet
import Derived.Below
import Derived.Shelf.GgClosure.StringsIndexFunc
namespace Go.Beacon
open Go Go.Eng
def cellOf (o : Option Obj) (i : Nat) : Option Value := match o with
  | some (.cells vs _ _) => vs[i]?
  | _ => none
theorem cellOf_eq (w : World) (g i : Nat) : w.cell? ⟨g, i, none⟩ = cellOf (w.heap[g]?) i := by
  unfold World.cell? cellOf
  cases w.heap[g]? with
  | none => rfl
  | some o => cases o <;> rfl
def tFirst (o : Option Obj) : Prop := ∀ c, c < 256 → cellOf o c = some (.int .u8 (Lib.firstT c))
def tAcc (o : Option Obj) : Prop := ∀ i, i < 16 → cellOf o (2 * i) = some (.int .u8 (Lib.accLo i)) ∧ cellOf o (2 * i + 1) = some (.int .u8 (Lib.accHi i))
/-- No table is spoken of; draws are not counted. -/
instance seatTab : GTab := ⟨fun _ => none, False⟩
theorem seat_glob0 {w : World} : ∀ g o, GTab.tab g = some o → g < w.heap.size ∧ o (w.heap[g]?) := fun _ _ h => by cases h
/-- A world of which the kit says that nothing below was turned. -/
theorem below_ext {w w' : World} (h : Go.RowKit.Below w.heap.size w w') : Ext w w' := ⟨h.os, h.tape, h.output, h.size, h.block, fun q => by cases q⟩
abbrev indexByteI (s : Str) (c : Int) : Int := Lib.indexByte s c.toNat.toUInt8
/-- utf8.ValidString. -/
def trimO (s cs : Str) : Option Str := if s.length ≤ 9223372036854775807 ∧ cs.length < 4294967281 ∧ cs.all (fun b => decide (b.toNat < 128)) = true then some (Lib.trimS s cs) else none
def validO (s : Str) : Option Bool := if s.length ≤ 9223372036854775807 then some (Lib.validD s) else none
/-- strings.ContainsFunc. -/
noncomputable def containsF (s : Str) (f : Int → Option Bool) : Option Bool := open Classical in if ∀ x : Nat, x ≤ 1114111 → ∃ u, f (x : Int) = some u then some (decide (0 ≤ Lib.idxFunc (fun x => (f (x : Int)).getD false) true ⟨s.toArray⟩)) else none
end Go.Beacon
