/- Contracts of library functions that are not walked here: the shelf's, in the engine's words. -/
import Derived.Test.YtppnalkmokajgaaGreatDoorCore
import Derived.Test.YtppnalkmokajgaaGreatDoorInst
import Derived.Test.YtppnalkmokajgaaGreatDoorShelf
import Derived.Shelf.Strings.SlTrimAscii
set_option maxRecDepth 100000
set_option linter.unusedVariables false
namespace Go.Proofs.YtppnalkmokajgaaGreatDoor
open Go Go.Eng Go.Proofs Go.Beacon
theorem strings_Compare_c [GI : GTab] {a b : Str} {r : Int} (h : Lib.compareBytes a b = r) : Pu Tryz.prog 136 [.str a, .str b] (I r) := by
  intro w S vs hr hl ha
  match vs, hl with
  | ⟨[x, y]⟩, _ =>
    have h1 := (ha 0 _ _ rfl rfl).str_inv
    have h2 := (ha 1 _ _ rfl rfl).str_inv
    subst h1 h2 h
    refine (Tryz.strings_Compare _ _ _).mono ?_
    rintro e w' ⟨rfl, rfl⟩
    exact ⟨_, _, [], S, rfl, rfl, .int _ _, hr, Evo.refl _ _ _⟩
theorem strings_IndexByte_c [GI : GTab] {s : Str} {c : Int} {r : Int} (h : indexByteI s c = r) : Pu Tryz.prog 138 [.str s, .int .u8 c] (I r) := by
  intro w S vs hr hl ha
  match vs, hl with
  | ⟨[x, y]⟩, _ =>
    have h1 := (ha 0 _ _ rfl rfl).str_inv
    have h2 := (ha 1 _ _ rfl rfl).int_inv
    subst h1 h2 h
    refine (Tryz.strings_IndexByte _ _ _).mono ?_
    rintro e w' ⟨rfl, rfl⟩
    exact ⟨_, _, [], S, rfl, rfl, .int _ _, hr, Evo.refl _ _ _⟩
theorem strings_Trim_c {s cs r : Str} (h : trimO s cs = some r) : Pu Tryz.prog 137 [.str s, .str cs] (.str r) := by
  intro w S vs hr hl ha
  match vs, hl with
  | ⟨[x, y]⟩, _ =>
    have h1 := (ha 0 _ _ rfl rfl).str_inv
    have h2 := (ha 1 _ _ rfl rfl).str_inv
    subst h1 h2
    unfold trimO at h
    split at h
    · rename_i hs
      obtain rfl := Option.some.inj h
      refine (Any.strings_Trim_laid Tryz.lays160 (by kernel_rfl) ⟨s.toArray⟩ ⟨cs.toArray⟩ w (by simpa [ByteArray.size] using hs.1) (by simpa [ByteArray.size] using hs.2.1) (by simpa using ascii_of_all hs.2.2)).mono ?_
      rintro e w' ⟨rfl, hb⟩
      have hE := below_ext hb
      exact ⟨_, _, [], S, rfl, rfl, .str _, hr.ext hE, Evo.ext hr.slt hE⟩
    · cases h
end Go.Proofs.YtppnalkmokajgaaGreatDoor

