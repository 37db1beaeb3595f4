/- Contracts of library functions that are not walked here: the shelf's, in the engine's words. -/
import Derived.Test.YtnopmjdjgangdaaGreatDoorCore
import Derived.Test.YtnopmjdjgangdaaGreatDoorInst
import Derived.Test.YtnopmjdjgangdaaGreatDoorShelf
import Derived.Shelf.Strings.SlTrimAscii
set_option maxRecDepth 100000
set_option linter.unusedVariables false
namespace Go.Proofs.YtnopmjdjgangdaaGreatDoor
open Go Go.Eng Go.Proofs Go.Beacon
theorem strings_Compare_c [GI : GTab] {a b : Str} {r : Int} (h : Lib.compareBytes a b = r) : Pu Tryz.prog 82 [.str a, .str b] (I r) := by
  intro w S vs hr hl ha
  match vs, hl with
  | ⟨[x, y]⟩, _ =>
    have h1 := (ha 0 _ _ rfl rfl).str_inv
    have h2 := (ha 1 _ _ rfl rfl).str_inv
    subst h1 h2 h
    refine (Tryz.strings_Compare _ _ _).mono ?_
    rintro e w' ⟨rfl, rfl⟩
    exact ⟨_, _, [], S, rfl, rfl, .int _ _, hr, Evo.refl _ _ _⟩
theorem strings_IndexByte_c [GI : GTab] {s : Str} {c : Int} {r : Int} (h : indexByteI s c = r) : Pu Tryz.prog 127 [.str s, .int .u8 c] (I r) := by
  intro w S vs hr hl ha
  match vs, hl with
  | ⟨[x, y]⟩, _ =>
    have h1 := (ha 0 _ _ rfl rfl).str_inv
    have h2 := (ha 1 _ _ rfl rfl).int_inv
    subst h1 h2 h
    refine (Tryz.strings_IndexByte _ _ _).mono ?_
    rintro e w' ⟨rfl, rfl⟩
    exact ⟨_, _, [], S, rfl, rfl, .int _ _, hr, Evo.refl _ _ _⟩
theorem utf8_ValidString_c {s : Str} {r : Bool} (h : validO s = some r) : Pu Tryz.prog 266 [.str s] (.bool r) := by
  intro w S vs hr hl ha
  match vs, hl with
  | ⟨[x]⟩, _ =>
    have h1 := (ha 0 _ _ rfl rfl).str_inv
    subst h1
    unfold validO at h
    split at h
    · rename_i hs
      obtain rfl := Option.some.inj h
      refine (Any.utf8_ValidString Tryz.lays196 ⟨s.toArray⟩ w (by simpa [ByteArray.size] using hs) (tabs_at hr)).mono ?_
      rintro e w' ⟨rfl, hb⟩
      have hE := below_ext hb
      exact ⟨_, _, [], S, rfl, rfl, .bool _, hr.ext hE, Evo.ext hr.slt hE⟩
    · cases h
theorem strings_Trim_c {s cs r : Str} (h : trimO s cs = some r) : Pu Tryz.prog 72 [.str s, .str cs] (.str r) := by
  intro w S vs hr hl ha
  match vs, hl with
  | ⟨[x, y]⟩, _ =>
    have h1 := (ha 0 _ _ rfl rfl).str_inv
    have h2 := (ha 1 _ _ rfl rfl).str_inv
    subst h1 h2
    unfold trimO at h
    split at h
    · rename_i hs
      obtain rfl := Option.some.inj h
      refine (Any.strings_Trim_laid Tryz.lays160 (by kernel_rfl) ⟨s.toArray⟩ ⟨cs.toArray⟩ w (by simpa [ByteArray.size] using hs.1) (by simpa [ByteArray.size] using hs.2.1) (by simpa using ascii_of_all hs.2.2)).mono ?_
      rintro e w' ⟨rfl, hb⟩
      have hE := below_ext hb
      exact ⟨_, _, [], S, rfl, rfl, .str _, hr.ext hE, Evo.ext hr.slt hE⟩
    · cases h
theorem strings_Repeat_c {s : Str} {c : Int} {r : Str} (h : repeatO s c = some r) : Pu Tryz.prog 154 [.str s, I c] (.str r) := by
  intro w S vs hr hl ha
  match vs, hl with
  | ⟨[x, y]⟩, _ =>
    have h1 := (ha 0 _ _ rfl rfl).str_inv
    have h2 := (ha 1 _ _ rfl rfl).int_inv
    subst h1 h2
    unfold repeatO at h
    split at h
    · rename_i hs
      obtain rfl := Option.some.inj h
      have hc : (c.toNat : Int) = c := Int.toNat_of_nonneg hs.1
      have hk := Tryz.strings_Repeat ⟨s.toArray⟩ c.toNat w (by omega) (by simpa [ByteArray.size] using hs.2.2)
      rw [hc] at hk
      refine hk.mono ?_
      rintro e w' ⟨rfl, hb⟩
      have hE := below_ext hb
      exact ⟨_, _, [], S, rfl, rfl, .str _, hr.ext hE, Evo.ext hr.slt hE⟩
    · cases h
theorem strings_ToUpper_c {s r : Str} (h : toUpperO s = some r) : Pu Tryz.prog 73 [.str s] (.str r) := by
  intro w S vs hr hl ha
  match vs, hl with
  | ⟨[x]⟩, _ =>
    have h1 := (ha 0 _ _ rfl rfl).str_inv
    subst h1
    unfold toUpperO at h
    split at h
    · rename_i hs
      obtain rfl := Option.some.inj h
      have hk := Tryz.strings_ToUpper_ascii ⟨s.toArray⟩ w (by simpa [ByteArray.size] using hs.1) (fun j b hb => of_decide_eq_true (List.all_eq_true.1 hs.2 b (List.mem_of_getElem? (by simpa using hb))))
      refine hk.mono ?_
      rintro e w' ⟨rfl, hb⟩
      have hE := below_ext hb
      refine ⟨_, _, [], S, rfl, rfl, ?_, hr.ext hE, Evo.ext hr.slt hE⟩
      exact .str _
    · cases h
theorem strconv_Itoa_c {n : Int} {r : Str} (h : itoaO n = some r) : Pu Tryz.prog 153 [I n] (.str r) := by
  intro w S vs hr hl ha
  match vs, hl with
  | ⟨[x]⟩, _ =>
    have h1 := (ha 0 _ _ rfl rfl).int_inv
    subst h1
    unfold itoaO at h
    split at h
    · rename_i hs
      obtain rfl := Option.some.inj h
      have ht := (hr.glob 4 (tNum .u64 Lib.pow10Tab) rfl).2
      refine (Any.strconv_Itoa Tryz.laysM171 n hs.1 hs.2 w (by unfold Lib.TabIs; rw [var_row (g := 4) (by kernel_rfl)]; exact ht)).mono ?_
      rintro e w' ⟨rfl, k, os, rfl⟩
      have hE := grow_ext w k os id
      exact ⟨_, _, [], S, rfl, rfl, .str _, hr.ext hE, Evo.ext hr.slt hE⟩
    · cases h
theorem strings_Split_c {s sep : Str} {r : List Str} (h : splitO s sep = some r) : ACall Tryz.prog 142 [.str s, .str sep] [] (T1 (fun d => [(d, .arr 1 (r.map AV.str))]) (fun d => .sl 1 d 0 r.length)) := by
  intro w S vs hr hl ha
  match vs, hl with
  | ⟨[x, y]⟩, _ =>
    have h1 := (ha 0 _ _ rfl rfl).str_inv
    have h2 := (ha 1 _ _ rfl rfl).str_inv
    subst h1 h2
    unfold splitO at h
    split at h
    · rename_i hs
      obtain ⟨us, m, h3, h4⟩ := (hr.glob 0 (tInt .i64) rfl).2
      refine (Tryz.strings_Split ⟨s.toArray⟩ ⟨sep.toArray⟩ m w (by simpa [ByteArray.size] using hs.1) (by rw [row_cell w 0 0 h3]; exact h4) (by simpa [ByteArray.size] using hs.2)).mono ?_
      rintro e w' ⟨rfl, rfl⟩
      obtain rfl := Option.some.inj h
      have hlen : ((Lib.splitB ⟨sep.toArray⟩ 0 (Lib.countB ⟨s.toArray⟩ ⟨sep.toArray⟩) ⟨s.toArray⟩).map fun b => b.data.toList).length = Lib.countB ⟨s.toArray⟩ ⟨sep.toArray⟩ + 1 := by
        rw [List.length_map]; exact Lib.splitB_all _ (by simpa [ByteArray.size] using hs.2) 0 _ _ rfl
      rw [← hlen]
      generalize Lib.splitB ⟨sep.toArray⟩ 0 (Lib.countB ⟨s.toArray⟩ ⟨sep.toArray⟩) ⟨s.toArray⟩ = L
      have K := fun E => fresh_strs hr (L.map fun b => b.data.toList) E (vs := (L.map Value.string).toArray) (by rw [List.map_map]; rfl)
      exact ⟨_, _, _, S, rfl, ⟨_, rfl, rfl⟩, (K _).1, (K _).2.1, (K _).2.2⟩
    · cases h
theorem tripAt [GI : GTab] {w : World} {S : Nat → Prop} {a b c : AV} {x y z : Value} (h1 : At w S a x) (h2 : At w S b y) (h3 : At w S c z) : At w S (.tup [a, b, c]) (.tuple #[x, y, z]) := by
  refine .tup _ _ rfl (fun i c v hc hv => ?_)
  match i with
  | 0 => cases hc; cases hv; exact h1
  | 1 => cases hc; cases hv; exact h2
  | 2 => cases hc; cases hv; exact h3
  | i + 3 => simp at hc
theorem drewN_ext (w : World) (k : Nat) (hd : ¬ GTab.dr) : Ext w (w.drewN k) :=
  ⟨rfl, rfl, rfl, Nat.le_refl _, fun n hn => rfl, fun q => absurd q hd⟩
theorem strings_Cut_c {s sep : Str} {r : Str × Str × Bool} (h : cutO s sep = some r) : Pu Tryz.prog 317 [.str s, .str sep] (.tup [.str r.1, .str r.2.1, .bool r.2.2]) := by
  intro w S vs hr hl ha
  match vs, hl with
  | ⟨[x, y]⟩, _ =>
    have h1 := (ha 0 _ _ rfl rfl).str_inv
    have h2 := (ha 1 _ _ rfl rfl).str_inv
    subst h1 h2
    unfold cutO at h
    split at h
    · rename_i hs
      obtain rfl := Option.some.inj h
      obtain ⟨us, m, h3, h4⟩ := (hr.glob 0 (tInt .i64) rfl).2
      refine (Tryz.strings_Cut ⟨s.toArray⟩ ⟨sep.toArray⟩ m w (by simpa [ByteArray.size] using hs) (by show w.cell? ⟨0, 0, none⟩ = some (.int .i64 m); rw [row_cell w 0 0 h3]; exact h4)).mono ?_
      rintro e w' ⟨rfl, k, rfl⟩
      have hE := drewN_ext w k id
      exact ⟨_, _, [], S, rfl, rfl, tripAt (.str _) (.str _) (.bool _), hr.ext hE, Evo.ext hr.slt hE⟩
    · cases h
/-- strings.Index of one byte. -/
theorem strings_Index_c {s t : Str} {r : Int} (h : indexO s t = some r) : Pu Tryz.prog 199 [.str s, .str t] (I r) := by
  intro w S vs hr hl ha
  match vs, hl with
  | ⟨[x, y]⟩, _ =>
    have h1 := (ha 0 _ _ rfl rfl).str_inv
    have h2 := (ha 1 _ _ rfl rfl).str_inv
    subst h1 h2
    unfold indexO at h
    split at h
    · obtain rfl := Option.some.inj h
      refine (Tryz.strings_Index_one _ _ _).mono ?_
      rintro e w' ⟨rfl, rfl⟩
      exact ⟨_, _, [], S, rfl, rfl, .int _ _, hr, Evo.refl _ _ _⟩
    · rename_i c d hl2
      unfold index2 at h
      split at h
      · rename_i hs
        obtain rfl := Option.some.inj h
        obtain ⟨us, m, h3, h4⟩ := (hr.glob 0 (tInt .i64) rfl).2
        refine (Tryz.strings_Index ⟨s.toArray⟩ ⟨[c, d].toArray⟩ m w (by simpa [ByteArray.size] using hs) (by rw [row_cell w 0 0 h3]; exact h4)).mono ?_
        rintro e w' ⟨rfl, rfl⟩
        exact ⟨_, _, [], S, rfl, rfl, .int _ _, hr, Evo.refl _ _ _⟩
      · cases h
    · cases h
end Go.Proofs.YtnopmjdjgangdaaGreatDoor

