/- Contracts of library functions that are not walked here: the shelf's, in the engine's words. -/
import Derived.Test.YtkggljololbmiaaGreatDoorCore
import Derived.Test.YtkggljololbmiaaGreatDoorInst
import Derived.Test.YtkggljololbmiaaGreatDoorShelf
import Derived.Shelf.Strings.SlTrimAscii
set_option maxRecDepth 100000
set_option linter.unusedVariables false
namespace Go.Proofs.YtkggljololbmiaaGreatDoor
open Go Go.Eng Go.Proofs Go.Beacon
theorem strings_Compare_c [GI : GTab] {a b : Str} {r : Int} (h : Lib.compareBytes a b = r) : Pu Tryz.prog 160 [.str a, .str b] (I r) := by
  intro w S vs hr hl ha
  match vs, hl with
  | ⟨[x, y]⟩, _ =>
    have h1 := (ha 0 _ _ rfl rfl).str_inv
    have h2 := (ha 1 _ _ rfl rfl).str_inv
    subst h1 h2 h
    refine (Tryz.strings_Compare _ _ _).mono ?_
    rintro e w' ⟨rfl, rfl⟩
    exact ⟨_, _, [], S, rfl, rfl, .int _ _, hr, Evo.refl _ _ _⟩
theorem strings_IndexByte_c [GI : GTab] {s : Str} {c : Int} {r : Int} (h : indexByteI s c = r) : Pu Tryz.prog 139 [.str s, .int .u8 c] (I r) := by
  intro w S vs hr hl ha
  match vs, hl with
  | ⟨[x, y]⟩, _ =>
    have h1 := (ha 0 _ _ rfl rfl).str_inv
    have h2 := (ha 1 _ _ rfl rfl).int_inv
    subst h1 h2 h
    refine (Tryz.strings_IndexByte _ _ _).mono ?_
    rintro e w' ⟨rfl, rfl⟩
    exact ⟨_, _, [], S, rfl, rfl, .int _ _, hr, Evo.refl _ _ _⟩
theorem strings_Trim_c {s cs r : Str} (h : trimO s cs = some r) : Pu Tryz.prog 61 [.str s, .str cs] (.str r) := by
  intro w S vs hr hl ha
  match vs, hl with
  | ⟨[x, y]⟩, _ =>
    have h1 := (ha 0 _ _ rfl rfl).str_inv
    have h2 := (ha 1 _ _ rfl rfl).str_inv
    subst h1 h2
    unfold trimO at h
    split at h
    · rename_i hs
      obtain rfl := Option.some.inj h
      refine (Any.strings_Trim_laid Tryz.lays160 (by kernel_rfl) ⟨s.toArray⟩ ⟨cs.toArray⟩ w (by simpa [ByteArray.size] using hs.1) (by simpa [ByteArray.size] using hs.2.1) (by simpa using ascii_of_all hs.2.2)).mono ?_
      rintro e w' ⟨rfl, hb⟩
      have hE := below_ext hb
      exact ⟨_, _, [], S, rfl, rfl, .str _, hr.ext hE, Evo.ext hr.slt hE⟩
    · cases h
theorem strings_TrimPrefix_c [GI : GTab] {s p r : Str} (h : Lib.trimPrefix s p = r) : Pu Tryz.prog 185 [.str s, .str p] (.str r) := by
  intro w S vs hr hl ha
  match vs, hl with
  | ⟨[x, y]⟩, _ =>
    have h1 := (ha 0 _ _ rfl rfl).str_inv
    have h2 := (ha 1 _ _ rfl rfl).str_inv
    subst h1 h2 h
    refine (Tryz.strings_TrimPrefix _ _ _).mono ?_
    rintro e w' ⟨rfl, rfl⟩
    exact ⟨_, _, [], S, rfl, rfl, .str _, hr, Evo.refl _ _ _⟩
theorem strconv_Itoa_c {n : Int} {r : Str} (h : itoaO n = some r) : Pu Tryz.prog 55 [I n] (.str r) := by
  intro w S vs hr hl ha
  match vs, hl with
  | ⟨[x]⟩, _ =>
    have h1 := (ha 0 _ _ rfl rfl).int_inv
    subst h1
    unfold itoaO at h
    split at h
    · rename_i hs
      obtain rfl := Option.some.inj h
      have ht := (hr.glob 6 (tNum .u64 Lib.pow10Tab) rfl).2
      refine (Any.strconv_Itoa Tryz.laysM171 n hs.1 hs.2 w (by unfold Lib.TabIs; rw [var_row (g := 6) (by kernel_rfl)]; exact ht)).mono ?_
      rintro e w' ⟨rfl, k, os, rfl⟩
      have hE := grow_ext w k os id
      exact ⟨_, _, [], S, rfl, rfl, .str _, hr.ext hE, Evo.ext hr.slt hE⟩
    · cases h
theorem strings_Split_c {s sep : Str} {r : List Str} (h : splitO s sep = some r) : ACall Tryz.prog 58 [.str s, .str sep] [] (T1 (fun d => [(d, .arr 1 (r.map AV.str))]) (fun d => .sl 1 d 0 r.length)) := by
  intro w S vs hr hl ha
  match vs, hl with
  | ⟨[x, y]⟩, _ =>
    have h1 := (ha 0 _ _ rfl rfl).str_inv
    have h2 := (ha 1 _ _ rfl rfl).str_inv
    subst h1 h2
    unfold splitO at h
    split at h
    · rename_i hs
      obtain ⟨us, m, h3, h4⟩ := (hr.glob 3 (tInt .i64) rfl).2
      refine (Tryz.strings_Split ⟨s.toArray⟩ ⟨sep.toArray⟩ m w (by simpa [ByteArray.size] using hs.1) (by rw [row_cell w 3 0 h3]; exact h4) (by simpa [ByteArray.size] using hs.2)).mono ?_
      rintro e w' ⟨rfl, rfl⟩
      obtain rfl := Option.some.inj h
      have hlen : ((Lib.splitB ⟨sep.toArray⟩ 0 (Lib.countB ⟨s.toArray⟩ ⟨sep.toArray⟩) ⟨s.toArray⟩).map fun b => b.data.toList).length = Lib.countB ⟨s.toArray⟩ ⟨sep.toArray⟩ + 1 := by
        rw [List.length_map]; exact Lib.splitB_all _ (by simpa [ByteArray.size] using hs.2) 0 _ _ rfl
      rw [← hlen]
      generalize Lib.splitB ⟨sep.toArray⟩ 0 (Lib.countB ⟨s.toArray⟩ ⟨sep.toArray⟩) ⟨s.toArray⟩ = L
      have K := fun E => fresh_strs hr (L.map fun b => b.data.toList) E (vs := (L.map Value.string).toArray) (by rw [List.map_map]; rfl)
      exact ⟨_, _, _, S, rfl, ⟨_, rfl, rfl⟩, (K _).1, (K _).2.1, (K _).2.2⟩
    · cases h
theorem tripAt [GI : GTab] {w : World} {S : Nat → Prop} {a b c : AV} {x y z : Value} (h1 : At w S a x) (h2 : At w S b y) (h3 : At w S c z) : At w S (.tup [a, b, c]) (.tuple #[x, y, z]) := by
  refine .tup _ _ rfl (fun i c v hc hv => ?_)
  match i with
  | 0 => cases hc; cases hv; exact h1
  | 1 => cases hc; cases hv; exact h2
  | 2 => cases hc; cases hv; exact h3
  | i + 3 => simp at hc
theorem drewN_ext (w : World) (k : Nat) (hd : ¬ GTab.dr) : Ext w (w.drewN k) :=
  ⟨rfl, rfl, rfl, Nat.le_refl _, fun n hn => rfl, fun q => absurd q hd⟩
theorem strings_Cut_c {s sep : Str} {r : Str × Str × Bool} (h : cutO s sep = some r) : Pu Tryz.prog 184 [.str s, .str sep] (.tup [.str r.1, .str r.2.1, .bool r.2.2]) := by
  intro w S vs hr hl ha
  match vs, hl with
  | ⟨[x, y]⟩, _ =>
    have h1 := (ha 0 _ _ rfl rfl).str_inv
    have h2 := (ha 1 _ _ rfl rfl).str_inv
    subst h1 h2
    unfold cutO at h
    split at h
    · rename_i hs
      obtain rfl := Option.some.inj h
      obtain ⟨us, m, h3, h4⟩ := (hr.glob 3 (tInt .i64) rfl).2
      refine (Tryz.strings_Cut ⟨s.toArray⟩ ⟨sep.toArray⟩ m w (by simpa [ByteArray.size] using hs) (by show w.cell? ⟨3, 0, none⟩ = some (.int .i64 m); rw [row_cell w 3 0 h3]; exact h4)).mono ?_
      rintro e w' ⟨rfl, k, rfl⟩
      have hE := drewN_ext w k id
      exact ⟨_, _, [], S, rfl, rfl, tripAt (.str _) (.str _) (.bool _), hr.ext hE, Evo.ext hr.slt hE⟩
    · cases h
theorem pairAt [GI : GTab] {w : World} {S : Nat → Prop} {a b : AV} {x y : Value} (h1 : At w S a x) (h2 : At w S b y) : At w S (.tup [a, b]) (.tuple #[x, y]) := by
  refine .tup _ _ rfl (fun i c v hc hv => ?_)
  match i with
  | 0 => cases hc; cases hv; exact h1
  | 1 => cases hc; cases hv; exact h2
  | i + 2 => simp at hc
theorem strconv_Atoi_c {s : Str} {r : Int × Bool} (h : atoiO s = some r) : PuE Tryz.prog 64 [.str s] r.1 r.2 := by
  intro w S vs hr hl ha
  match vs, hl with
  | ⟨[x]⟩, _ =>
    have h1 := (ha 0 _ _ rfl rfl).str_inv
    subst h1
    unfold atoiO at h
    split at h
    · rename_i hs
      have hsz : (⟨s.toArray⟩ : ByteArray).size = s.length := by simp [ByteArray.size]
      obtain rfl := Option.some.inj h
      cases hA : Lib.atoiAll s with
      | ok v =>
        refine (Any.strconv_Atoi_ok Tryz.laysC172 ⟨s.toArray⟩ (by omega) v (by simpa using hA) w).mono ?_
        rintro e w' ⟨rfl, hw⟩
        have hE : Ext w w' := by
          rcases hw with rfl | ⟨t, rfl⟩
          · exact Ext.refl _
          · exact below_ext (Lib.bytesWorld_below _ _ _)
        exact ⟨_, _, [], S, rfl, ⟨_, rfl, .inl ⟨rfl, rfl⟩⟩, pairAt (.int _ _) (.raw _), hr.ext hE, Evo.ext hr.slt hE⟩
      | range =>
        obtain ⟨us, ev, h3, h4, h5⟩ := (hr.glob 2 tIfc rfl).2
        refine (Any.strconv_Atoi_range Tryz.laysC172 ⟨s.toArray⟩ (by omega) (by simpa using hA) ev w (by show w.cell? ⟨2, 0, none⟩ = some ev; rw [row_cell w 2 0 h3]; exact h4) h5).mono ?_
        rintro e w' ⟨N, rfl, _, _, hb⟩
        have hE := below_ext hb
        exact ⟨_, _, [], S, rfl, ⟨_, rfl, .inr ⟨⟨_, _, rfl⟩, rfl⟩⟩, by simpa using pairAt (.int _ _) (.raw _), hr.ext hE, Evo.ext hr.slt hE⟩
      | _ =>
        obtain ⟨us, ev, h3, h4, h5⟩ := (hr.glob 1 tIfc rfl).2
        refine (Any.strconv_Atoi_syntax Tryz.laysC172 ⟨s.toArray⟩ (by omega) (by simpa using hA) ev w (by show w.cell? ⟨1, 0, none⟩ = some ev; rw [row_cell w 1 0 h3]; exact h4) h5).mono ?_
        rintro e w' ⟨N, rfl, _, _, hb⟩
        have hE := below_ext hb
        exact ⟨_, _, [], S, rfl, ⟨_, rfl, .inr ⟨⟨_, _, rfl⟩, rfl⟩⟩, pairAt (.int _ _) (.raw _), hr.ext hE, Evo.ext hr.slt hE⟩
    · cases h
set_option maxHeartbeats 1000000 in
open Go.Shelf Go.RowKit in
theorem bldCopy (b : Nat) (p v : Value) (w : World) (hb : w.heap[b]? = some (.cells #[p, v] 151 (0, 0))) (hp : p = .pointer none ∨ p = .pointer (some ⟨b, 0, none⟩)) :
    Calls Tryz.prog 180 #[.pointer (some ⟨b, 0, none⟩)] w fun e w' => e = .returned (.tuple #[]) ∧ w'.heap[b]? = some (.cells #[.pointer (some ⟨b, 0, none⟩), v] 151 (0, 0)) ∧ w'.heap.size = w.heap.size ∧ ∀ row, KeepB w w' b row := by
  obtain ⟨j, hj, hjs⟩ := Option.map_eq_some_iff.1 Tryz.Builder_Extra_169.sizeBuilder
  have hsh : w.shape? b = some (151, 2) := by simp [World.shape?, hb]
  rcases hp with rfl | rfl
  · have h0 : w.cell? ⟨b, 0, none⟩ = some (.pointer none) := by rw [Lib.cell_of_heap hb]; rfl
    have hfz : w.frozen? ⟨b, 0, none⟩ = false := Lib.frozen_of_heap hb 0
    go_enter Tryz.func180, Tryz.ntmps180
    go_wp2
    rw [Lib.run_to_unsafe w ⟨b, 0, none⟩ Tryz.underlying148 Tryz.underlying257 hj (by rw [hjs]; decide) hsh (Nat.zero_lt_succ 1)]
    simp only [Result.andThen]
    rw [Oper.upon_value]
    go_wp2
    rw [run_callFunc_extern Tryz.func238 (by kernel_rfl) (by kernel_rfl) (by kernel_rfl) (e := Extern.AbiNoEscape.same) (by kernel_rfl)]
    rw [Lib.run_noEscape]
    simp only [Result.andThen]
    rw [Oper.upon_value]
    go_wp2
    rw [Lib.run_from_unsafe w ⟨b, 0, none⟩ Tryz.underlying257 Tryz.underlying148 hj hsh Tryz.Builder_Extra_169.liesBuilder]
    simp only [Result.andThen]
    rw [Oper.upon_value]
    go_wp2
    go_end0
    exact ⟨rfl, setC0 hb, by simp [World.setCell], fun row => KeepB.set w b row 0 _⟩
  · have h0 : w.cell? ⟨b, 0, none⟩ = some (.pointer (some ⟨b, 0, none⟩)) := by rw [Lib.cell_of_heap hb]; rfl
    go_enter Tryz.func180, Tryz.ntmps180
    go_wp2
    rw [Lib.run_neq_ptr_same w _ Tryz.underlying148 hj]
    go_wp2
    go_end0
    exact ⟨rfl, hb, rfl, fun row => KeepB.refl w b row⟩
set_option maxHeartbeats 2000000 in
open Go.Shelf Go.RowKit in
theorem bldWrite : WriteSpec Tryz.prog 117 151 5 := by
  intro b p v bs s w hb hp ho hne hlen
  obtain ⟨i0, hi, hz0, hz1, hz2⟩ := info_parts Tryz.Builder_Extra_169.infoByte
  have hlt := bl_lt hb
  have eC : ∀ args w, (callFunc 180 args).run Tryz.prog w = .ok (.enter 180 args) w := enters_of Tryz.func180 (by kernel_rfl) rfl
  go_enter Tryz.func117, Tryz.ntmps117
  go_wp2_with (go_at_fn 180; refine (bldCopy b p v _ hb hp).mono ?_)
  rintro e w1 ⟨rfl, hb1, hs1, hk1⟩
  have ho1 : w1.ownsRowF 0 5 1 v bs.length bs := row_keep ho (fun k hk => (hk1 none).keep k (ho.lt k hk).2 (fun e => hne (e ▸ hk)) (by simp))
  have c0 : w1.cell? ⟨b, 0, none⟩ = some (.pointer (some ⟨b, 0, none⟩)) := by rw [Lib.cell_of_heap hb1]; rfl
  have c1 : w1.cell? ⟨b, 1, none⟩ = some v := by rw [Lib.cell_of_heap hb1]; rfl
  go_wp2_with (at_builtin; refine wpList_appS _ rfl _ _ 149 9 rfl 5 i0 Tryz.underlying149 Tryz.underlying9 hi hz0 hz1 hz2 _ _ _ rfl ho1 s rfl ?c3 ?c4 ?_)
  case c3 => unfold maxLen; omega
  case c4 => omega
  intro v' w2 hown' hgrow hrow
  have hb2 : w2.heap[b]? = some (.cells #[.pointer (some ⟨b, 0, none⟩), v] 151 (0, 0)) := by
    rw [hgrow.block b (by omega) (fun e => hne e.symm)]
    exact hb1
  have d0 : w2.cell? ⟨b, 0, none⟩ = some (.pointer (some ⟨b, 0, none⟩)) := by rw [Lib.cell_of_heap hb2]; rfl
  have d1 : w2.cell? ⟨b, 1, none⟩ = some v := by rw [Lib.cell_of_heap hb2]; rfl
  have f1 : w2.frozen? ⟨b, 1, none⟩ = false := Lib.frozen_of_heap hb2 1
  have hne' : v'.ownBlock ≠ some b := by
    rcases hrow with h | ⟨m, h, hm⟩
    · rw [h]; exact hne
    · rw [h]; intro e; have := Option.some.inj e; omega
  have hfin : w2.grownBy (w2.setCell ⟨b, 1, none⟩ v') (some b) := ⟨rfl, rfl, rfl, by simp [World.setCell], fun k _ hk => Below.heap_setCell _ _ _ _ (fun e => hk (by simp [e]))⟩
  obtain ⟨ao, n', cap, rfl⟩ : ∃ ao n' cap, v' = .slice ao n' cap := by
    rcases hown'.2 with ⟨hv, _⟩ | ⟨g, cap, cur, fz, hv, _⟩
    · exact ⟨_, _, _, hv⟩
    · exact ⟨_, _, _, hv⟩
  go_wp2
  go_ret2
  refine ⟨rfl, _, setC1 hb2, hown'.kept hfin (.inr hne'), ?_, ((hk1 _).trans (KeepB.grown hgrow)).trans (KeepB.set w2 b _ 1 _)⟩
  rcases hrow with h | ⟨m, h, hm⟩
  · exact .inl h
  · exact .inr ⟨m, h, by omega⟩
theorem noDr : ¬ GTab.dr := fun h => h
theorem strings_Builder_WriteString_c {b : Bk} {q : Option Nat} {x s y : Str} (h : bldW x s = some y) : ACall Tryz.prog 117 [.ptr b 0, .str s] [(b, .bld 151 5 q x)] (T1 (fun q' : Bk => [(b, .bld 151 5 q'.blk y)]) (fun _ => .tup [I s.length, .raw .nilIface])) :=
  bld_write noDr bldWrite h
theorem strings_Builder_String_c {b : Bk} {q : Option Nat} {x : Str} : ACall Tryz.prog 119 [.ptr b 0] [(b, .bld 151 5 q x)] (T0 [] (.str x)) :=
  bld_string noDr Tryz.lays169 Tryz.Builder_Extra_169
open Go.Shelf Go.RowKit in
theorem grown_at {b : Nat} {p : Value} {w : World} {cs : Array Value} (hb : w.heap[b]? = some (.cells #[p, .slice none 0 0] 151 (0, 0))) (hm : cs.size ≤ maxLen) :
    ∃ v', (((w.setCell ⟨b, 1, none⟩ (.slice (some ⟨w.heap.size, 0, none⟩) 0 cs.size)).alloc (.cells cs 5)).drew.drew.drew).heap[b]? = some (.cells #[p, v'] 151 (0, 0)) ∧ (((w.setCell ⟨b, 1, none⟩ (.slice (some ⟨w.heap.size, 0, none⟩) 0 cs.size)).alloc (.cells cs 5)).drew.drew.drew).ownsRowF 0 5 1 v' 0 [] ∧
      (v'.ownBlock = none ∨ ∃ m, v'.ownBlock = some m ∧ w.heap.size ≤ m) ∧ KeepB w (((w.setCell ⟨b, 1, none⟩ (.slice (some ⟨w.heap.size, 0, none⟩) 0 cs.size)).alloc (.cells cs 5)).drew.drew.drew) b none := by
  have hlt := bl_lt hb
  have hsz : (w.setCell ⟨b, 1, none⟩ (.slice (some ⟨w.heap.size, 0, none⟩) 0 cs.size)).heap.size = w.heap.size := by simp [World.setCell]
  refine ⟨.slice (some ⟨w.heap.size, 0, none⟩) 0 cs.size, (heap_alloc_old _ _ (by rw [hsz]; exact hlt)).trans (setC1 hb), ?_, .inr ⟨_, rfl, Nat.le_refl _⟩, (((KeepB.set w b none 1 _).alloc _).drew).drew.drew⟩
  refine ⟨rfl, .inr ⟨w.heap.size, cs.size, cs, (0, 0), rfl, Nat.zero_le _, ?_, Nat.zero_le _, Nat.zero_le _, hm, by simp, by simp⟩⟩
  have := heap_alloc_new (w.setCell ⟨b, 1, none⟩ (.slice (some ⟨w.heap.size, 0, none⟩) 0 cs.size)) (.cells cs 5)
  rw [hsz] at this
  exact this
set_option maxHeartbeats 1000000 in
open Go.Shelf Go.RowKit in
theorem bldGrowIn (b n : Nat) (w : World) (hb : w.heap[b]? = some (.cells #[.pointer (some ⟨b, 0, none⟩), .slice none 0 0] 151 (0, 0))) (hn : n ≤ 281474976710656) :
    Calls Tryz.prog 186 #[.pointer (some ⟨b, 0, none⟩), .int .i64 n] w fun e w' => e = .returned (.tuple #[]) ∧
      ∃ v', w'.heap[b]? = some (.cells #[.pointer (some ⟨b, 0, none⟩), v'] 151 (0, 0)) ∧ w'.ownsRowF 0 5 1 v' 0 [] ∧ (v'.ownBlock = none ∨ ∃ m, v'.ownBlock = some m ∧ w.heap.size ≤ m) ∧ KeepB w w' b none := by
  have hlt := bl_lt hb
  obtain ⟨cs, hrun, hle, hmax⟩ := Lib.run_makeNoZero (P := Tryz.prog) w.drew #[3] 149 5 Tryz.underlying149 n hn
  have hw : IntKind.i64.wrap (IntKind.i64.wrap 0 + (n : Int)) = n := by
    rw [IntKind.wrap_i64, IntKind.wrap_i64]
    omega
  have hcall : (callFunc 243 #[.int .i64 (IntKind.i64.wrap (IntKind.i64.wrap 0 + (n : Int)))]).run Tryz.prog w.drew = .ok (.value (.slice (some ⟨w.drew.heap.size, 0, none⟩) n cs.size)) (w.drew.drew.drew.alloc (.cells cs 5)) := by
    rw [hw, run_callFunc_extern Tryz.func243 (by kernel_rfl) (by kernel_rfl) (by kernel_rfl) (e := Extern.BytealgMakeNoZero.makeNoZero #[3] #[149]) (by kernel_rfl), hrun]
    rfl
  have c1 : w.drew.cell? ⟨b, 1, none⟩ = some (.slice none 0 0) := by
    have : w.drew.heap[b]? = _ := hb
    rw [Lib.cell_of_heap this]; rfl
  have hb2 : (w.alloc (.cells cs 5)).heap[b]? = _ := (Lib.alloc_old w _ b hlt).trans hb
  have c2 : (w.alloc (.cells cs 5)).cell? ⟨b, 1, none⟩ = some (.slice none 0 0) := by rw [Lib.cell_of_heap hb2]; rfl
  have f2 : (w.alloc (.cells cs 5)).frozen? ⟨b, 1, none⟩ = false := Lib.frozen_of_heap hb2 1
  have hcopy : ∀ W : World, (Builtin.copy_ #[149, 149] 3 #[.slice (some ⟨w.heap.size, 0, none⟩) 0 cs.size, .slice none 0 0]).run Tryz.prog W = .ok (goInt 0) W :=
    fun W => run_copy_none W 149 149 3 5 _ _ 0 cs.size 0 0 Tryz.underlying149 Tryz.Builder_Extra_169.sizeByte rfl
  clear hw
  have mixed := Tryz.lays169.mixed
  go_enter Tryz.func186, Tryz.ntmps186
  go_wp2
  have hfin := grown_at (cs := cs) hb (hmax (by unfold maxLen; omega))
  go_region_o
  all_goals (go_wp2; go_end0; exact ⟨rfl, hfin⟩)
set_option maxHeartbeats 1000000 in
open Go.Shelf Go.RowKit in
theorem bldGrow : GrowSpec Tryz.prog 130 151 5 := by
  intro b n p w hb hp hn
  have eC : ∀ args w, (callFunc 180 args).run Tryz.prog w = .ok (.enter 180 args) w := enters_of Tryz.func180 (by kernel_rfl) rfl
  have eG : ∀ args w, (callFunc 186 args).run Tryz.prog w = .ok (.enter 186 args) w := enters_of Tryz.func186 (by kernel_rfl) rfl
  have mixed := Tryz.lays169.mixed
  go_enter Tryz.func130, Tryz.ntmps130
  go_wp2_with (go_at_fn 180; refine (bldCopy b p (.slice none 0 0) _ hb hp).mono ?_)
  rintro e w1 ⟨rfl, hb1, hs1, hk1⟩
  have c1 : w1.cell? ⟨b, 1, none⟩ = some (.slice none 0 0) := by rw [Lib.cell_of_heap hb1]; rfl
  have c1' : w1.drew.cell? ⟨b, 1, none⟩ = some (.slice none 0 0) := c1
  go_wp2
  go_region_o
  all_goals go_wp2_with (go_at_fn 186; refine (bldGrowIn b n w1.drew hb1 hn).mono ?_; rintro e w' ⟨rfl, v', h1, h2, h3, h4⟩)
  all_goals first
    | (go_end0; exact ⟨rfl, v', h1, h2, h3.imp id (fun ⟨m, q1, q2⟩ => ⟨m, q1, by have : w1.drew.heap.size = w1.heap.size := rfl; omega⟩), ((hk1 none).drew).trans h4⟩)
    | (go_end0; exact ⟨rfl, .slice none 0 0, hb1, World.ownsRowF_nil _ _ _ _, .inl rfl, (hk1 none).drew⟩)
theorem strings_Builder_Grow_c {b : Bk} {n : Int} {u : Unit} (h : bldG n = some u) : ACall Tryz.prog 130 [.ptr b 0, I n] [(b, .bld 151 5 none [])] (T1 (fun q' : Bk => [(b, .bld 151 5 q'.blk [])]) (fun _ => .tup [])) :=
  bld_grow noDr bldGrow h
end Go.Proofs.YtkggljololbmiaaGreatDoor

