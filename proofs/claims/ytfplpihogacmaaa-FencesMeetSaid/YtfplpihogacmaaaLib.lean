/- Contracts of library functions that are not walked here: the shelf's, in the engine's words. -/
import Derived.Test.YtfplpihogacmaaaCore
import Derived.Test.YtfplpihogacmaaaInst
import Derived.Test.YtfplpihogacmaaaShelf
set_option maxRecDepth 100000
set_option linter.unusedVariables false
namespace Go.Proofs.Ytfplpihogacmaaa
open Go Go.Eng Go.Proofs Go.Beacon
theorem strings_Compare_c {a b : Str} {r : Int} (h : Lib.compareBytes a b = r) : Pu Try.prog 163 [.str a, .str b] (I r) := by
  intro w S vs hr hl ha
  match vs, hl with
  | ⟨[x, y]⟩, _ =>
    have h1 := (ha 0 _ _ rfl rfl).str_inv
    have h2 := (ha 1 _ _ rfl rfl).str_inv
    subst h1 h2 h
    refine (Try.strings_Compare _ _ _).mono ?_
    rintro e w' ⟨rfl, rfl⟩
    exact ⟨_, _, [], S, rfl, rfl, .int _ _, hr, Evo.refl _ _ _⟩
theorem strings_IndexByte_c {s : Str} {c : Int} {r : Int} (h : indexByteI s c = r) : Pu Try.prog 189 [.str s, .int .u8 c] (I r) := by
  intro w S vs hr hl ha
  match vs, hl with
  | ⟨[x, y]⟩, _ =>
    have h1 := (ha 0 _ _ rfl rfl).str_inv
    have h2 := (ha 1 _ _ rfl rfl).int_inv
    subst h1 h2 h
    refine (Try.strings_IndexByte _ _ _).mono ?_
    rintro e w' ⟨rfl, rfl⟩
    exact ⟨_, _, [], S, rfl, rfl, .int _ _, hr, Evo.refl _ _ _⟩
end Go.Proofs.Ytfplpihogacmaaa
