/- Contracts of library functions that are not walked here: the shelf's, in the engine's words. -/
import Derived.Test.YtblakecmhjcdmaaCore
import Derived.Test.YtblakecmhjcdmaaInst
import Derived.Test.YtblakecmhjcdmaaShelf
set_option maxRecDepth 100000
set_option linter.unusedVariables false
namespace Go.Proofs.Ytblakecmhjcdmaa
open Go Go.Eng Go.Proofs Go.Beacon
theorem strings_Compare_c [GI : GTab] {a b : Str} {r : Int} (h : Lib.compareBytes a b = r) : Pu Try.prog 94 [.str a, .str b] (I r) := by
  intro w S vs hr hl ha
  match vs, hl with
  | ⟨[x, y]⟩, _ =>
    have h1 := (ha 0 _ _ rfl rfl).str_inv
    have h2 := (ha 1 _ _ rfl rfl).str_inv
    subst h1 h2 h
    refine (Try.strings_Compare _ _ _).mono ?_
    rintro e w' ⟨rfl, rfl⟩
    exact ⟨_, _, [], S, rfl, rfl, .int _ _, hr, Evo.refl _ _ _⟩
theorem strings_IndexByte_c [GI : GTab] {s : Str} {c : Int} {r : Int} (h : indexByteI s c = r) : Pu Try.prog 81 [.str s, .int .u8 c] (I r) := by
  intro w S vs hr hl ha
  match vs, hl with
  | ⟨[x, y]⟩, _ =>
    have h1 := (ha 0 _ _ rfl rfl).str_inv
    have h2 := (ha 1 _ _ rfl rfl).int_inv
    subst h1 h2 h
    refine (Try.strings_IndexByte _ _ _).mono ?_
    rintro e w' ⟨rfl, rfl⟩
    exact ⟨_, _, [], S, rfl, rfl, .int _ _, hr, Evo.refl _ _ _⟩
end Go.Proofs.Ytblakecmhjcdmaa
