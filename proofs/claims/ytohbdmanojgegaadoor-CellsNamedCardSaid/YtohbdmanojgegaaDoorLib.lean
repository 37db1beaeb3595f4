/- Contracts of library functions that are not walked here: the shelf's, in the engine's words. -/
import Derived.Test.YtohbdmanojgegaaDoorCore
import Derived.Test.YtohbdmanojgegaaDoorInst
import Derived.Test.YtohbdmanojgegaaDoorShelf
import Derived.Shelf.Strings.SlTrimAscii
set_option maxRecDepth 100000
set_option linter.unusedVariables false
namespace Go.Proofs.YtohbdmanojgegaaDoor
open Go Go.Eng Go.Proofs Go.Beacon
theorem strings_IndexByte_c [GI : GTab] {s : Str} {c : Int} {r : Int} (h : indexByteI s c = r) : Pu Tryd.prog 53 [.str s, .int .u8 c] (I r) := by
  intro w S vs hr hl ha
  match vs, hl with
  | ⟨[x, y]⟩, _ =>
    have h1 := (ha 0 _ _ rfl rfl).str_inv
    have h2 := (ha 1 _ _ rfl rfl).int_inv
    subst h1 h2 h
    refine (Tryd.strings_IndexByte _ _ _).mono ?_
    rintro e w' ⟨rfl, rfl⟩
    exact ⟨_, _, [], S, rfl, rfl, .int _ _, hr, Evo.refl _ _ _⟩
theorem strings_Trim_c {s cs r : Str} (h : trimO s cs = some r) : Pu Tryd.prog 31 [.str s, .str cs] (.str r) := by
  intro w S vs hr hl ha
  match vs, hl with
  | ⟨[x, y]⟩, _ =>
    have h1 := (ha 0 _ _ rfl rfl).str_inv
    have h2 := (ha 1 _ _ rfl rfl).str_inv
    subst h1 h2
    unfold trimO at h
    split at h
    · rename_i hs
      obtain rfl := Option.some.inj h
      refine (Any.strings_Trim_laid Tryd.lays160 (by kernel_rfl) ⟨s.toArray⟩ ⟨cs.toArray⟩ w (by simpa [ByteArray.size] using hs.1) (by simpa [ByteArray.size] using hs.2.1) (by simpa using ascii_of_all hs.2.2)).mono ?_
      rintro e w' ⟨rfl, hb⟩
      have hE := below_ext hb
      exact ⟨_, _, [], S, rfl, rfl, .str _, hr.ext hE, Evo.ext hr.slt hE⟩
    · cases h
theorem strconv_Itoa_c {n : Int} {r : Str} (h : itoaO n = some r) : Pu Tryd.prog 39 [I n] (.str r) := by
  intro w S vs hr hl ha
  match vs, hl with
  | ⟨[x]⟩, _ =>
    have h1 := (ha 0 _ _ rfl rfl).int_inv
    subst h1
    unfold itoaO at h
    split at h
    · rename_i hs
      obtain rfl := Option.some.inj h
      have ht := (hr.glob 3 (tNum .u64 Lib.pow10Tab) rfl).2
      refine (Any.strconv_Itoa Tryd.laysM171 n hs.1 hs.2 w (by unfold Lib.TabIs; rw [var_row (g := 3) (by kernel_rfl)]; exact ht)).mono ?_
      rintro e w' ⟨rfl, k, os, rfl⟩
      have hE := grow_ext w k os id
      exact ⟨_, _, [], S, rfl, rfl, .str _, hr.ext hE, Evo.ext hr.slt hE⟩
    · cases h
end Go.Proofs.YtohbdmanojgegaaDoor

