/- The engine: abstract values, the symbolic heap, one rule for each operation. No program in sight. -/
import Derived.Test.YtpibecbdhjbanaaGreatDoorEngE
import Derived.Shelf.SlSortCmp.NoneTotal
import Derived.Lib.Case
/- The engine, part 48: an operation in a region with tokens that looks at a value told of new memory, and whose result is told without it. No program in sight. -/
set_option linter.unusedVariables false
set_option linter.unusedSectionVars false
namespace Go.Eng
open Go
variable [GTab]
section rules
variable {P : Program} {all : Array Oper} {n : Nat} {B : Heap} {tk : List Tok} {dy : List Nat} {i : Nat} {rest : List Oper} {tm : List (Nat × AV)} {acc : (Nat → Bk) → List (Nat × AV)} {Q : (Nat → Bk) → List (Nat × AV) → Prop} {d : Nat} {ty : TypeId} {pos : String} {af : Array Edge} {op : Op}
end rules
end Go.Eng

/- The engine, part 49: room for a new builder. No program in sight. -/
set_option linter.unusedVariables false
set_option linter.unusedSectionVars false
namespace Go.Eng
open Go Go.Proofs Go.Shelf Go.Lib
variable {P : Program} [GTab]
end Go.Eng

/- The engine, part 50: 'a and b', 'a or b' of plain truths, in a region with tokens: without two ways. No program in sight. -/
set_option linter.unusedVariables false
set_option linter.unusedSectionVars false
namespace Go.Eng
open Go
variable [GTab]
section rules
variable {P : Program} {all : Array Oper} {rest : List Oper} {n : Nat} {tm : List (Nat × AV)} {hp : Heap} {Q : List (Nat × AV) → Prop} {d1 d2 j s x : Nat} {t1 t2 : TypeId} {p1 p2 : String} {a1 a2 : Array Edge} {a b : Bool}
end rules
end Go.Eng

/- The engine, part 51: make of slices whose elements are slices. No program in sight. -/
set_option linter.unusedVariables false
set_option linter.unusedSectionVars false
namespace Go.Eng
open Go
variable [GTab]
section rules
variable {P : Program} {all : Array Oper} {rest : List Oper} {n : Nat} {tm : List (Nat × AV)} {hp : Heap} {Q : St → Prop} {d : Nat} {ty : TypeId} {pos : String} {af : Array Edge}
end rules
end Go.Eng

/- The engine, part 52: memory that is given up. No program in sight. -/
set_option linter.unusedVariables false
set_option linter.unusedSectionVars false
namespace Go.Eng
open Go
variable [GTab]
end Go.Eng

/- The engine, part 53: clear of slices whose elements hold slices. No program in sight. -/
set_option linter.unusedVariables false
set_option linter.unusedSectionVars false
namespace Go.Eng
open Go
variable [GTab]
section rules
variable {P : Program} {all : Array Oper} {rest : List Oper} {n : Nat} {tm : List (Nat × AV)} {hp : Heap} {Q : St → Prop} {d : Nat} {ty : TypeId} {pos : String} {af : Array Edge}
end rules
end Go.Eng

/- The engine, part 54: a captured box that is never written again. No program in sight. -/
set_option linter.unusedVariables false
set_option linter.unusedSectionVars false
namespace Go.Eng
open Go
variable [GTab]
end Go.Eng

/- The engine, part 55: look-ups in maps whose values hold slices. No program in sight. -/
set_option linter.unusedVariables false
set_option linter.unusedSectionVars false
namespace Go.Eng
open Go
variable [GTab]
section rules
variable {P : Program} {all : Array Oper} {rest : List Oper} {n : Nat} {tm : List (Nat × AV)} {hp : Heap} {Q : St → Prop} {d : Nat} {ty : TypeId} {pos : String} {af : Array Edge}
end rules
end Go.Eng

/- The engine, part 56: structs of plain cells as keys of maps. No program in sight. -/
set_option linter.unusedVariables false
set_option linter.unusedSectionVars false
namespace Go.Eng
open Go
variable [GTab]
end Go.Eng

/- A call of a function value that was handed in, in the head of a drawn region. -/
set_option linter.unusedVariables false
set_option linter.unusedSectionVars false
namespace Go.Eng
open Go
variable [GTab]
section rules
variable {P : Program} {all : Array Oper} {rest : List Oper} {n : Nat} {tm : List (Nat × AV)} {hp : Heap} {Q : List (Nat × AV) → Prop} {d : Nat} {ty : TypeId} {pos : String} {af : Array Edge} {op : Op}
theorem AM.callvp {f : FuncId} {x : Operand} {args : List Operand} {ts : Array TypeId} {caps l l' : List AV} {R : AV} [IsFn P f] (hx : evA (rst (looks all ⟨some d, .call { callee := .value x, args := args.toArray, argTypes := ts }, ty, pos, af, none⟩) tm) x = some (.func (.func f) caps)) (hl : evL (rst (looks all ⟨some d, .call { callee := .value x, args := args.toArray, argTypes := ts }, ty, pos, af, none⟩) tm) args = some l) (c : Pu P f l' R) (co : CoL hp (l ++ caps) l') (hn : Nat.blt d n = true)
    (k : AM P all n hp rest ((d, R) :: tm) Q) : AM P all n hp (⟨some d, .call { callee := .value x, args := args.toArray, argTypes := ts }, ty, pos, af, none⟩ :: rest) tm Q := by
  refine AM.mv (fun w S a h1 h2 h3 h4 K Q' hK => ?_) hn k
  have r := strel_rst h1 h2 h3 h4
  obtain ⟨cv, e1, e2, e3⟩ := (evA_at r hx).func_inv
  show Oper.upon P _ a K Q' _
  rw [run_exec_callv a _ e1]
  obtain ⟨g1, g2⟩ := evL_vals r hl
  obtain ⟨g3, g4⟩ := CoL.at r.hp co (vs := args.map a.eval ++ cv.toList) (by simp [g1, e2]) (AtA_cons g1 g2 (by simpa using e3))
  refine (c w S _ (hrel_nil h3.slt h3.glob) (by simpa using g3) g4).mono ?_
  rintro e w' ⟨v, rr, h', S', rfl, rfl, k3, k4, k5⟩
  exact hK v w' S' ⟨k5.toExt, fun m hm => (k5.keep m hm).1, fun m hm hs => (k5.other m hm (fun ⟨x, hx, _⟩ => by simp at hx)).2 hs, k4.slt⟩ k3
end rules
section values
variable {P : Program} {n : Nat} {tm : List (Nat × AV)} {hp : Heap} {d : Nat} {ty : TypeId} {pos : String} {af : Array Edge}
end values
end Go.Eng

/- The engine, part 58: lists that may be nil, compared with nil. No program in sight. -/
set_option linter.unusedVariables false
set_option linter.unusedSectionVars false
namespace Go.Eng
open Go
variable [GTab]
section rules
variable {P : Program} {n : Nat} {tm : List (Nat × AV)} {hp : Heap} {d : Nat} {ty : TypeId} {pos : String} {af : Array Edge}
end rules
end Go.Eng

/- The engine, part 59: what a map owns is frozen: a map of plain lists. No program in sight. -/
set_option linter.unusedVariables false
set_option linter.unusedSectionVars false
namespace Go.Eng
open Go
variable [GTab]
section
variable {K E : Type}
end
end Go.Eng

/- The engine, part 60: method values, and loops that run a fixed number of times. No program in sight. -/
set_option linter.unusedVariables false
set_option linter.unusedSectionVars false
namespace Go.Eng
open Go
variable [GTab]
section rules
variable {P : Program} {all : Array Oper} {rest : List Oper} {n : Nat} {tm : List (Nat × AV)} {hp : Heap} {Q : St → Prop} {d : Nat} {ty : TypeId} {pos : String} {af : Array Edge}
end rules
section
variable {P : Program} {R : St → Prop} {k : List It} {σ : St}
end
end Go.Eng

/- The engine, part 61: guards in regions with tokens. No program in sight. -/
set_option linter.unusedVariables false
set_option linter.unusedSectionVars false
namespace Go.Eng
open Go
variable [GTab]
/-- The same is the same (a short name). -/
theorem J {α : Sort _} {a : α} : a = a := rfl
section rules
variable {P : Program} {all : Array Oper} {n : Nat} {B : Heap} {tk : List Tok} {dy : List Nat} {i : Nat} {rest : List Oper} {tm : List (Nat × AV)} {acc : (Nat → Bk) → List (Nat × AV)} {Q : (Nat → Bk) → List (Nat × AV) → Prop} {d : Nat} {ty : TypeId} {pos : String} {af : Array Edge} {op : Op}
end rules
section
variable {P : Program} {o : Oper} {σ : St}
end
end Go.Eng

/- The engine, part 62: an operation that reads memory before or after it is turned. No program in sight. -/
set_option linter.unusedVariables false
set_option linter.unusedSectionVars false
namespace Go.Eng
open Go
variable [GTab]
section rules
variable {P : Program} {all : Array Oper} {n : Nat} {B : Heap} {tk : List Tok} {dy : List Nat} {i : Nat} {rest : List Oper} {tm : List (Nat × AV)} {acc : (Nat → Bk) → List (Nat × AV)} {Q : (Nat → Bk) → List (Nat × AV) → Prop} {d : Nat} {ty : TypeId} {pos : String} {af : Array Edge} {op : Op}
end rules
end Go.Eng

/- The engine, part 63: an entry of a map that is made or found, then written (m[k] += v). No program in sight. -/
set_option linter.unusedVariables false
set_option linter.unusedSimpArgs false
set_option linter.unusedSectionVars false
namespace Go.Eng
open Go
variable [GTab]

/-- A map of ours, with the stamp that the entry of a key has or would get. -/
theorem ImpX.mpAsk {n : Nat} {tm : List (Nat × AV)} {hp : Heap} {hp' : Nat → Heap} {T : St → Prop} {b : Bk} {es : List (AV × AV)} {k : AV} (u : ∀ q, Upd hp b (.mp es) b (.mps es q k) (hp' q)) (kk : ∀ q, ImpX ⟨n, tm, hp' q⟩ T) : ImpX ⟨n, tm, hp⟩ T := fun w S a r => by
  obtain ⟨L, c, hL, hH⟩ := r.hp.holds _ (u 0).fnd.mem
  have hq : ∃ q, (∃ e ∈ L, e.k = k ∧ e.born = q) ∨ ((∀ e ∈ L, e.k ≠ k) ∧ q = c) := by
    by_cases h : ∃ e ∈ L, e.k = k
    · obtain ⟨e, he, hk⟩ := h; exact ⟨e.born, .inl ⟨e, he, hk, rfl⟩⟩
    · exact ⟨c, .inr ⟨fun e he hk => h ⟨e, he, hk⟩, rfl⟩⟩
  obtain ⟨q, hq⟩ := hq
  obtain ⟨r1, e1, _⟩ := upd_rel r.hp (u q) (GB_refl w b.blk) id id ⟨L, c, hL, hH, hq⟩ (.inl rfl)
  obtain ⟨σ', S', t1, t2, t3⟩ := kk q w S a (r.heap (fun m hm => ⟨hm, rfl⟩) r1)
  exact ⟨σ', S', t1, t2, e1.trans t3⟩
/-- A map's entries, read with keys and values of plain types; the stamp of a key. -/
theorem mps_open {K V : Type} {gk : K → AV} {gv : V → AV} {w : World} {S : Nat → Prop} {hp : Heap} {b : Bk} {M : List (K × V)} {q : Nat} {key : K} (hinj : ∀ a b, gk a = gk b → a = b) (r : HRel w S hp) (f : Fnd hp b (.mps (M.map fun e => (gk e.1, gv e.2)) q (gk key))) :
    ∃ (L : List MEnt) (c : Nat) (M' : List (K × V)) (n : Nat) (ents : Array MapEntry), M'.Perm M ∧ L.map MEnt.kv = M'.map (fun e => (gk e.1, gv e.2)) ∧ HoldsM w S b L c ∧ b.blk = some n ∧ w.heap[n]? = some (.map ents c) ∧ ents.toList.length = M'.length ∧
      (∀ (i : Nat) e m, M'[i]? = some e → ents.toList[i]? = some m → At w S (gk e.1) m.key ∧ At w S (gv e.2) m.val) ∧ (M'.map Prod.fst).Nodup ∧ ((∃ e ∈ L, e.k = gk key ∧ e.born = q) ∨ ((∀ e ∈ L, e.k ≠ gk key) ∧ q = c)) := by
  obtain ⟨L, c, hperm, hH, hq⟩ := r.holds _ f.mem
  obtain ⟨M', h1, h2⟩ := perm_map_inv _ _ _ hperm
  have hH' := hH
  obtain ⟨n, ents, g1, g2, g3, g4, g5, g6, g7⟩ := hH
  have hlen : L.length = M'.length := by have := congrArg List.length h2; simpa using this
  refine ⟨L, c, M', n, ents, h1, h2, hH', g1, g2, by rw [Array.length_toList, g3, hlen], fun i e m he hm => ?_, ?_, hq⟩
  · have : (L.map MEnt.kv)[i]? = some (gk e.1, gv e.2) := by rw [h2, List.getElem?_map, he]; rfl
    rw [List.getElem?_map] at this
    cases hL : L[i]? with
    | none => rw [hL] at this; cases this
    | some x =>
      rw [hL] at this
      have hx : (x.k, x.v) = (gk e.1, gv e.2) := Option.some.inj this
      obtain ⟨q1, q2⟩ := Prod.mk.inj hx
      have := g4 i x m hL (by simpa using hm)
      rw [q1, q2] at this
      exact this.2
  · have hk : L.map (·.k) = (M'.map Prod.fst).map gk := by
      have := congrArg (List.map Prod.fst) h2
      simpa [List.map_map, Function.comp_def, MEnt.kv] using this
    rw [hk] at g7
    exact (List.pairwise_map.1 g7).imp (fun h e => h (by rw [e]))
theorem set_perm {K V : Type} [DecidableEq K] {M M' : List (K × V)} {j : Nat} {key : K} {v v' : V} (p1 : M'.Perm M) (p8 : (M'.map Prod.fst).Nodup) (q4 : M'[j]? = some (key, v)) : (M'.set j (key, v')).Perm ((key, v') :: mdel M key) := by
  have hjM : j < M'.length := (List.getElem?_eq_some_iff.1 q4).1
  have e2 : M' = M'.take j ++ (key, v) :: M'.drop (j + 1) := by
    have := List.take_append_drop j M'
    rw [List.drop_eq_getElem_cons hjM] at this
    have hq : M'[j] = (key, v) := by rw [List.getElem?_eq_getElem hjM] at q4; exact Option.some.inj q4
    rw [hq] at this
    exact this.symm
  have e3 : M'.set j (key, v') = M'.take j ++ (key, v') :: M'.drop (j + 1) := by
    rw [List.set_eq_take_append_cons_drop, if_pos hjM]
  rw [e3]
  refine List.perm_middle.trans (List.Perm.cons _ ?_)
  have e4 : mdel M' key = M'.take j ++ M'.drop (j + 1) := by
    have p8' := p8
    rw [e2, List.map_append, List.map_cons, List.nodup_append, List.nodup_cons] at p8'
    unfold mdel
    rw [e2, List.filter_append, List.filter_cons]
    simp only [ne_eq, not_true_eq_false, decide_false, Bool.false_eq_true, if_false]
    rw [← e2]
    congr 1
    · refine List.filter_eq_self.2 fun e he => ?_
      simp only [decide_not, Bool.not_eq_true', decide_eq_false_iff_not]
      intro hk
      exact p8'.2.2 e.1 (List.mem_map.2 ⟨e, he, rfl⟩) key (by simp) hk
    · refine List.filter_eq_self.2 fun e he => ?_
      simp only [decide_not, Bool.not_eq_true', decide_eq_false_iff_not]
      intro hk
      exact p8'.2.1.1 (List.mem_map.2 ⟨e, he, hk⟩)
  rw [← e4]
  exact p1.filter _
theorem mdel_mset {K V : Type} [DecidableEq K] [KLt K] (M : List (K × V)) (key : K) (v : V) : (mdel (mset M key v) key).Perm (mdel M key) := by
  refine ((mset_perm M key v).filter _).trans ?_
  rw [List.filter_cons, if_neg (by simp)]
  have : (mdel M key).filter (fun e => decide (e.1 ≠ key)) = mdel M key := List.filter_eq_self.2 fun e he => by simpa using mdel_fst M key e he
  rw [this]

section rules
variable {P : Program} {all : Array Oper} {rest : List Oper} {n : Nat} {tm : List (Nat × AV)} {hp : Heap} {Q : St → Prop} {d : Nat} {ty : TypeId} {pos : String} {af : Array Edge}
/-- The entry of a key, made if it is not there. -/
theorem t_mapEntry {K V : Type} [DecidableEq K] [KLt K] {gk : K → AV} {gv : V → AV} {M : List (K × V)} {key : K} {q : Nat} {Z v : V} {t kt vt : TypeId} {i : TypeInfo} {z : Value} {x y : Operand} {b : Bk} {hp' : Heap} [TUnder P t (.map kt vt)] [TInfo P vt i] [MKey P kt gk] (hx : evA tm x = some (.mref b)) (hy : evA tm y = some (gk key)) (hz : i.zero = some z) (hzx : zAV z = gv Z) (h1 : allOne (zAV z).cells = true) (h : mgetO M key Z = some v)
    (u : Upd hp b (.mps (M.map fun e => (gk e.1, gv e.2)) q (gk key)) b (.mps ((mset M key v).map fun e => (gk e.1, gv e.2)) q (gk key)) hp') (hn : Nat.blt d n = true)
    (kk : ARun P all rest ⟨n, (d, .tup [gv v, .int .i64 (q : Int)]) :: tm, hp'⟩ Q) : ARun P all (⟨some d, .mapEntry t x y, ty, pos, af, none⟩ :: rest) ⟨n, tm, hp⟩ Q := by
  refine ARun.opx rfl fun w S a r => ?_
  have kx := evA_at (σ := ⟨n, tm, hp⟩) r hx
  have ky := evA_at (σ := ⟨n, tm, hp⟩) r hy
  obtain ⟨nb, hb, ex⟩ := kx.mref_inv
  obtain ⟨L, c, M', nb', ents, p1, p2, p3, p4, p5, p6, p7, p8, hq⟩ := mps_open (MKey.inj P kt) r.hp u.fnd
  obtain rfl : nb' = nb := by rw [p4] at hb; exact Option.some.inj hb
  unfold mgetO at h
  have hv := Option.some.inj h
  rw [← mget_perm p1 p8] at hv
  have hfind := MKey.find (P := P) (t := kt) (g := gk) ky ents.toList (M'.map Prod.fst) (by simpa using p6.symm) (fun j k' e h1 h2 => by
    rw [List.getElem?_map] at h1
    cases hm : M'[j]? with
    | none => rw [hm] at h1; cases h1
    | some q => rw [hm] at h1; rw [← Option.some.inj h1]; exact (p7 j q e hm h2).1)
  obtain ⟨nb2, ents2, g1, g2, g3, g4, g5, g6, g7⟩ := p3
  obtain rfl : nb2 = nb' := by rw [p4] at g1; exact (Option.some.inj g1).symm
  obtain rfl : ents2 = ents := by rw [p5] at g2; exact (Obj.map.inj (Option.some.inj g2)).1.symm
  have hLM : L.length = M'.length := by have := congrArg List.length p2; simpa using this
  have hLi : ∀ (j : Nat) (x : MEnt) (e : K × V), L[j]? = some x → M'[j]? = some e → x.k = gk e.1 ∧ x.v = gv e.2 := by
    intro j x e h1 h2
    have : (L.map MEnt.kv)[j]? = (M'.map fun e => (gk e.1, gv e.2))[j]? := by rw [p2]
    rw [List.getElem?_map, List.getElem?_map, h1, h2] at this
    exact Prod.mk.inj (Option.some.inj this)
  rcases findP_M (gv := gv) (w := w) (S := S) (k := key) M' ents2.toList 0 p6.symm (fun j e m h1 h2 => (p7 j e m h1 h2).2) with ⟨q1, q2⟩ | ⟨v', j, val, q1, q2, q3, q4⟩
  · -- a new entry
    have hnew : ∀ e ∈ L, e.k ≠ gk key := by
      intro e he hk
      obtain ⟨j, hj⟩ := List.getElem?_of_mem he
      have hjl : j < M'.length := by rw [← hLM]; exact (List.getElem?_eq_some_iff.1 hj).1
      have := (hLi j e M'[j] hj (List.getElem?_eq_getElem hjl)).1
      rw [hk] at this
      exact (mget_none.1 q1) M'[j] (List.getElem_mem hjl) (MKey.inj P kt _ _ this.symm)
    have hqc : q = c := by
      rcases hq with ⟨e, he, hk, _⟩ | ⟨_, hc⟩
      · exact absurd hk (hnew e he)
      · exact hc
    rw [q1, Option.getD_none] at hv
    subst hv
    have kz : At w S (gv Z) z := by rw [← hzx]; exact zAV_at w S z h1
    have hw := map_write (ob := .map (ents2.push ⟨a.eval y, z, c⟩) (c + 1)) r.hp u p4 p5 id id (fun k1 => by
      refine ⟨L ++ [⟨gk key, gv Z, c⟩], c + 1, ?_, ⟨nb2, ents2.push ⟨a.eval y, z, c⟩, p4, setO_same p5, by simp [g3], ?_, ?_, ?_, ?_⟩, .inl ⟨⟨gk key, gv Z, c⟩, by simp, rfl, hqc.symm⟩⟩
      · rw [List.map_append, p2]
        refine List.Perm.trans ?_ ((mins_perm key Z (mdel M key)).symm.map _)
        rw [mdel_none (by rw [← mget_perm p1 p8]; exact q1)]
        exact List.perm_append_comm.trans (List.Perm.cons _ (p1.map _))
      · intro i e m he hm
        rw [Array.getElem?_push] at hm
        rcases Nat.lt_or_ge i L.length with hi | hi
        · rw [List.getElem?_append_left hi] at he
          rw [if_neg (by omega)] at hm
          obtain ⟨s1, s2, s3⟩ := g4 i e m he hm
          exact ⟨s1, s2.mono k1, s3.mono k1⟩
        · have hi2 : i = L.length := by
            have := (List.getElem?_eq_some_iff.1 he).1
            simp at this; omega
          subst hi2
          rw [if_pos g3.symm] at hm
          simp at he
          obtain rfl := Option.some.inj hm
          subst he
          exact ⟨rfl, ky.mono k1, kz.mono k1⟩
      · intro e he
        rcases List.mem_append.1 he with h | h
        · have := g5 e h; omega
        · simp at h; subst h; simp
      · rw [List.map_append, List.nodup_append]
        refine ⟨g6, by simp, fun a1 ha b1 hb1 hab => ?_⟩
        simp at hb1
        subst hb1
        obtain ⟨e, he, rfl⟩ := List.mem_map.1 ha
        have := g5 e he
        omega
      · rw [List.map_append, List.nodup_append]
        refine ⟨g7, by simp, fun a1 ha b1 hb1 hab => ?_⟩
        simp at hb1
        subst hb1
        obtain ⟨e, he, rfl⟩ := List.mem_map.1 ha
        exact hnew e he hab)
    refine ⟨.tuple #[z, goInt c], _, S, _, ?_, (r.heap hw.2.2 hw.1).put hn (.tup _ _ rfl (AtA_two (kz.mono hw.2.2) ?_)), hw.2.1, kk⟩
    · simp [execOp, Instr.mapEntry, ex, run_underlying (TUnder.h (P := P) (t := t)), run_getMap p5, MKey.check (P := P) (t := kt) ky, hfind, q2, zeroValue, typeInfo, TInfo.h (P := P) (t := vt), hz, run_setMap _ p5]
    · rw [hqc]; exact .int _ _
  · -- an entry that is there
    have hjl : j < ents2.toList.length := by rw [p6]; exact (List.getElem?_eq_some_iff.1 q4).1
    have hjs : j < ents2.size := by simpa using hjl
    have hm0 : ents2.toList[j]? = some ents2[j] := by simp [hjs]
    have hk0 := (p7 j _ _ q4 hm0).1
    have hbits : Instr.sameBits 10000 ents2[j].key (a.eval y) = true := MKey.bits (P := P) (t := kt) hk0 ky
    have hjL : j < L.length := by omega
    have hLk : L[j].k = gk key := (hLi j L[j] _ (List.getElem?_eq_getElem hjL) q4).1
    have hborn : ents2[j].born = L[j].born := (g4 j L[j] ents2[j] (List.getElem?_eq_getElem hjL) (Array.getElem?_eq_getElem hjs)).1
    have hqj : L[j].born = q := by
      rcases hq with ⟨e, he, hk, hb⟩ | ⟨hno, _⟩
      · obtain ⟨i, hi⟩ := List.getElem?_of_mem he
        have hil := (List.getElem?_eq_some_iff.1 hi).1
        have e1 : (L.map (·.k))[i]? = some (gk key) := by rw [List.getElem?_map, hi, Option.map_some, hk]
        have e2 : (L.map (·.k))[j]? = some (gk key) := by rw [List.getElem?_map, List.getElem?_eq_getElem hjL, Option.map_some, hLk]
        have hij : i = j := (List.getElem?_inj (by simpa using hil) g7).1 (e1.trans e2.symm)
        subst hij
        rw [← hb]
        exact congrArg MEnt.born (Option.some.inj ((List.getElem?_eq_getElem hjL).symm.trans hi))
      · exact absurd hLk (hno _ (List.getElem_mem hjL))
    rw [q1, Option.getD_some] at hv
    subst hv
    have hw := map_write (ob := .map (ents2.modify j fun e => { e with key := a.eval y }) c) r.hp u p4 p5 id id (fun k1 => by
      refine ⟨L, c, ?_, ⟨nb2, _, p4, setO_same p5, by simp [g3], ?_, g5, g6, g7⟩, .inl ⟨L[j], List.getElem_mem hjL, hLk, hqj⟩⟩
      · rw [p2]
        refine List.Perm.map _ ?_
        refine List.Perm.trans ?_ (mset_perm M key v').symm
        have e1 : M'.set j (key, v') = M' := set_same q4
        rw [← e1]
        exact set_perm p1 p8 q4
      · intro i e m he hm
        rw [Array.getElem?_modify] at hm
        by_cases hij : j = i
        · subst hij
          simp only [if_true, Array.getElem?_eq_getElem hjs, Option.map_some] at hm
          obtain rfl := Option.some.inj hm
          obtain ⟨s1, s2, s3⟩ := g4 j e ents2[j] he (Array.getElem?_eq_getElem hjs)
          have : e = L[j] := Option.some.inj (he.symm.trans (List.getElem?_eq_getElem hjL))
          refine ⟨s1, ?_, s3.mono k1⟩
          rw [this, hLk]; exact ky.mono k1
        · rw [if_neg hij] at hm
          obtain ⟨s1, s2, s3⟩ := g4 i e m he hm
          exact ⟨s1, s2.mono k1, s3.mono k1⟩)
    refine ⟨.tuple #[val, goInt ents2[j].born], _, S, _, ?_, (r.heap hw.2.2 hw.1).put hn (.tup _ _ rfl (AtA_two (q3.mono hw.2.2) ?_)), hw.2.1, kk⟩
    · simp [execOp, Instr.mapEntry, ex, run_underlying (TUnder.h (P := P) (t := t)), run_getMap p5, MKey.check (P := P) (t := kt) ky, hfind, q2, Instr.keyThatStays, hjs, hbits, run_setMap _ p5]
    · rw [hborn, hqj]; exact .int _ _
/-- The entry with a stamp is written. -/
theorem t_entryStore {K V : Type} [DecidableEq K] [KLt K] {gk : K → AV} {gv : V → AV} {M : List (K × V)} {key : K} {q : Nat} {v v' : V} {t kt : TypeId} {x s y : Operand} {b : Bk} {av : AV} {hp' : Heap} [MKey P kt gk] (hx : evA tm x = some (.mref b)) (hs : evA tm s = some (.int .i64 (q : Int))) (hy : evA tm y = some av) (hav : av = gv v')
    (u : Upd hp b (.mps ((mset M key v).map fun e => (gk e.1, gv e.2)) q (gk key)) b (.mp ((mset M key v').map fun e => (gk e.1, gv e.2))) hp')
    (kk : ARun P all rest ⟨n, tm, hp'⟩ Q) : ARun P all (⟨none, .entryStore t x s y, ty, pos, af, none⟩ :: rest) ⟨n, tm, hp⟩ Q := by
  refine ARun.act rfl rfl (fun w S a r => ?_) kk
  have kx := evA_at (σ := ⟨n, tm, hp⟩) r hx
  have ks := (evA_at (σ := ⟨n, tm, hp⟩) r hs).int_inv
  have ky := evA_at (σ := ⟨n, tm, hp⟩) r hy
  obtain ⟨nb, hb, ex⟩ := kx.mref_inv
  obtain ⟨L, c, M', nb', ents, p1, p2, p3, p4, p5, p6, p7, p8, hq⟩ := mps_open (MKey.inj P kt) r.hp u.fnd
  obtain rfl : nb' = nb := by rw [p4] at hb; exact Option.some.inj hb
  obtain ⟨nb2, ents2, g1, g2, g3, g4, g5, g6, g7⟩ := p3
  obtain rfl : nb2 = nb' := by rw [p4] at g1; exact (Option.some.inj g1).symm
  obtain rfl : ents2 = ents := by rw [p5] at g2; exact (Obj.map.inj (Option.some.inj g2)).1.symm
  have hLM : L.length = M'.length := by have := congrArg List.length p2; simpa using this
  have hLi : ∀ (j : Nat) (x : MEnt) (e : K × V), L[j]? = some x → M'[j]? = some e → x.k = gk e.1 ∧ x.v = gv e.2 := by
    intro j x e h1 h2
    have : (L.map MEnt.kv)[j]? = (M'.map fun e => (gk e.1, gv e.2))[j]? := by rw [p2]
    rw [List.getElem?_map, List.getElem?_map, h1, h2] at this
    exact Prod.mk.inj (Option.some.inj this)
  have hin : (key, v) ∈ M' := p1.mem_iff.2 ((mset_perm M key v).mem_iff.2 (by simp))
  obtain ⟨j, hj⟩ := List.getElem?_of_mem hin
  have hjM := (List.getElem?_eq_some_iff.1 hj).1
  have hjL : j < L.length := by omega
  have hjs : j < ents2.size := by omega
  have hLk : L[j].k = gk key := (hLi j L[j] _ (List.getElem?_eq_getElem hjL) hj).1
  have hborn : ents2[j].born = L[j].born := (g4 j L[j] ents2[j] (List.getElem?_eq_getElem hjL) (Array.getElem?_eq_getElem hjs)).1
  have hqj : L[j].born = q := by
    rcases hq with ⟨e, he, hk, hb⟩ | ⟨hno, _⟩
    · obtain ⟨i, hi⟩ := List.getElem?_of_mem he
      have hil := (List.getElem?_eq_some_iff.1 hi).1
      have e1 : (L.map (·.k))[i]? = some (gk key) := by rw [List.getElem?_map, hi, Option.map_some, hk]
      have e2 : (L.map (·.k))[j]? = some (gk key) := by rw [List.getElem?_map, List.getElem?_eq_getElem hjL, Option.map_some, hLk]
      have hij : i = j := (List.getElem?_inj (by simpa using hil) g7).1 (e1.trans e2.symm)
      subst hij
      rw [← hb]
      exact congrArg MEnt.born (Option.some.inj ((List.getElem?_eq_getElem hjL).symm.trans hi))
    · exact absurd hLk (hno _ (List.getElem_mem hjL))
  have hfi : ents2.findIdx? (fun e => (e.born : Int) == (q : Int)) = some j := by
    rw [Array.findIdx?_eq_some_iff_getElem]
    refine ⟨hjs, by simp [hborn, hqj], fun i hi => ?_⟩
    have hi1 : i < ents2.size := by omega
    have hi2 : i < L.length := by omega
    have hb2 : ents2[i].born = L[i].born := (g4 i L[i] ents2[i] (List.getElem?_eq_getElem hi2) (Array.getElem?_eq_getElem hi1)).1
    simp only [beq_iff_eq, Int.natCast_inj, hb2]
    intro hc
    have e1 : (L.map (·.born))[i]? = some q := by rw [List.getElem?_map, List.getElem?_eq_getElem hi2, Option.map_some, hc]
    have e2 : (L.map (·.born))[j]? = some q := by rw [List.getElem?_map, List.getElem?_eq_getElem hjL, Option.map_some, hqj]
    have hij : i = j := (List.getElem?_inj (by simpa using hi2) g6).1 (e1.trans e2.symm)
    omega
  have hw := map_write (ob := .map (ents2.modify j fun e => { e with val := a.eval y }) c) r.hp u p4 p5 id id (fun k1 => by
    refine ⟨L.set j ⟨gk key, gv v', L[j].born⟩, c, ?_, nb2, _, p4, setO_same p5, by simp [g3], ?_, ?_, ?_, ?_⟩
    · rw [List.map_set]
      have e1 : (L.map MEnt.kv).set j (gk key, gv v') = (M'.set j (key, v')).map fun e => (gk e.1, gv e.2) := by rw [p2, List.map_set]
      show ((L.map MEnt.kv).set j (gk key, gv v')).Perm _
      rw [e1]
      refine List.Perm.map _ ?_
      refine (set_perm p1 p8 hj).trans ?_
      refine List.Perm.trans ?_ (mset_perm M key v').symm
      exact List.Perm.cons _ (mdel_mset M key v)
    · intro i e m he hm
      rw [Array.getElem?_modify] at hm
      rw [List.getElem?_set] at he
      by_cases hij : j = i
      · subst hij
        simp only [if_true, hjL] at he
        simp only [if_true, Array.getElem?_eq_getElem hjs, Option.map_some] at hm
        obtain rfl := Option.some.inj he
        obtain rfl := Option.some.inj hm
        obtain ⟨s1, s2, s3⟩ := g4 j L[j] ents2[j] (List.getElem?_eq_getElem hjL) (Array.getElem?_eq_getElem hjs)
        rw [hLk] at s2
        exact ⟨s1, s2.mono k1, by rw [hav] at ky; exact ky.mono k1⟩
      · rw [if_neg hij] at he hm
        obtain ⟨s1, s2, s3⟩ := g4 i e m he hm
        exact ⟨s1, s2.mono k1, s3.mono k1⟩
    · intro e he
      rcases List.mem_or_eq_of_mem_set he with h | h
      · exact g5 e h
      · subst h; exact g5 L[j] (List.getElem_mem hjL)
    · rw [List.map_set]
      have : (L.map (·.born)).set j L[j].born = L.map (·.born) := by
        exact set_same (by rw [List.getElem?_map, List.getElem?_eq_getElem hjL]; rfl)
      rw [this]; exact g6
    · rw [List.map_set]
      have : (L.map (·.k)).set j (gk key) = L.map (·.k) := by
        exact set_same (by rw [List.getElem?_map, List.getElem?_eq_getElem hjL, Option.map_some, hLk])
      rw [this]; exact g7)
  refine ⟨_, S, ?_, r.heap hw.2.2 hw.1, hw.2.1⟩
  have hasI : ∀ w1 : World, (asInt (Value.int .i64 (q : Int))).run P w1 = .ok (q : Int) w1 := fun w1 => by simp [asInt, asIntOf]
  simp [execOp, Instr.entryStore, ex, ks, run_getMap p5, hasI, hfi, run_setMap _ p5]
end rules
end Go.Eng

/- The engine, part 64: objects that pointers of ours lead to: all of one type lie in one pool, by number. No program in sight. -/
set_option linter.unusedVariables false
set_option linter.unusedSimpArgs false
set_option linter.unusedSectionVars false
namespace Go.Eng
open Go
variable [GTab]

theorem Upd.mid {h h' : Heap} {b b' : Bk} {o o' : Ob} (u : Upd h b o b' o' h') (b2 : Bk) (o2 : Ob) : ∃ h2, Upd h b o b2 o2 h2 ∧ Upd h2 b2 o2 b' o' h' := by
  induction u with
  | here => exact ⟨_, .here, .here⟩
  | next _ ih => obtain ⟨h2, a, b⟩ := ih; exact ⟨_, .next a, .next b⟩
  | skip _ ih => obtain ⟨h2, a, b⟩ := ih; exact ⟨_, .skip a, .skip b⟩
/-- A pool's pieces in another order. -/
theorem pool_perm {w : World} {S : Nat → Prop} {hp hp' : Heap} {bp : Bk} {es es' : List (Bk × PO)} (r : HRel w S hp) (u : Upd hp bp (.pool es) bp (.pool es') hp') (h : es.Perm es') : HRel w S hp' ∧ Evo w S hp w S hp' := by
  obtain ⟨p, q, rfl, rfl⟩ := u.split
  obtain ⟨hb0, hall⟩ : bp.blk = none ∧ ∀ e ∈ es, HoldsP w S e.1 e.2 := r.holds (bp, .pool es) (mem_mid.2 (.inl rfl))
  have hebs : ∀ n, n ∈ eb (bp, .pool es') ↔ n ∈ eb (bp, .pool es) := by
    intro n
    rw [eb_pool, eb_pool]
    constructor
    · rintro (k | ⟨e, he, hn⟩)
      · exact .inl k
      · exact .inr ⟨e, h.mem_iff.2 he, hn⟩
    · rintro (k | ⟨e, he, hn⟩)
      · exact .inl k
      · exact .inr ⟨e, h.mem_iff.1 he, hn⟩
  have e1 : (eb (bp, .pool es)).Perm (eb (bp, .pool es')) := by
    simp only [eb, Ob.more]
    exact List.Perm.append_left _ (h.filterMap _)
  have hasI : ∀ n, Has (p ++ (bp, .pool es') :: q) n → Has (p ++ (bp, .pool es) :: q) n := by
    rintro n ⟨e, he, hn⟩
    rcases mem_mid.1 he with rfl | he
    · exact ⟨_, mem_mid.2 (.inl rfl), (hebs n).1 hn⟩
    · exact ⟨e, mem_mid.2 (.inr he), hn⟩
  refine ⟨⟨?_, ?_, ?_, r.slt, r.glob⟩, ⟨rfl, rfl, rfl, Nat.le_refl _, fun n hn => ⟨hn, rfl⟩, fun n _ _ => ⟨rfl, id⟩, fun n hn => .inl (hasI n hn), fun _ => Nat.le_refl _⟩⟩
  · have := r.nodup
    rw [List.flatMap_append, List.flatMap_cons] at this ⊢
    exact ((List.Perm.append_left _ (List.Perm.append_right _ e1)).nodup_iff).1 this
  · intro e he
    rcases mem_mid.1 he with rfl | he
    · exact ⟨hb0, fun e he => hall e (h.mem_iff.2 he)⟩
    · exact r.holds e (mem_mid.2 (.inr he))
  · intro e he n hn
    rcases mem_mid.1 he with rfl | he
    · have := r.sep (bp, .pool es) (mem_mid.2 (.inl rfl)) n ((hebs n).1 hn)
      exact ⟨fun h => (this.1 h).elim, fun h => h.elim⟩
    · exact r.sep e (mem_mid.2 (.inr he)) n hn
theorem HRel.same {w : World} {S : Nat → Prop} {h h' : Heap} (r : HRel w S h) (hp : h.Perm h') : HRel w S h' ∧ Evo w S h w S h' :=
  ⟨r.perm hp, rfl, rfl, rfl, Nat.le_refl _, fun n hn => ⟨hn, rfl⟩, fun n _ _ => ⟨rfl, id⟩, fun n ⟨e, he, hn⟩ => .inl ⟨e, hp.mem_iff.2 he, hn⟩, fun _ => Nat.le_refl _⟩
def obs (xs : List (Bk × PO)) : Heap := xs.map fun e => (e.1, e.2.ob)
/-- Several pieces out of a pool. -/
theorem pool_takeL {w : World} {S : Nat → Prop} {bp : Bk} {es' : List (Bk × PO)} : ∀ (xs es : List (Bk × PO)) {hp hp' : Heap}, HRel w S hp → Upd hp bp (.pool es) bp (.pool es') hp' → es.Perm (xs ++ es') → HRel w S (obs xs ++ hp') ∧ Evo w S hp w S (obs xs ++ hp')
  | [], es, hp, hp', r, u, h => pool_perm r u h
  | x :: xs, es, hp, hp', r, u, h => by
    obtain ⟨h2, u1, u2⟩ := u.mid bp (.pool (xs ++ es'))
    obtain ⟨r1, e1⟩ := pool_take r u1 h
    obtain ⟨r2, e2⟩ := pool_takeL xs (xs ++ es') r1 (.next u2) (List.Perm.refl _)
    obtain ⟨r3, e3⟩ := r2.same (h' := obs (x :: xs) ++ hp') List.perm_middle
    exact ⟨r3, (e1.trans e2).trans e3⟩
/-- Several pieces into a pool. -/
theorem pool_putL {w : World} {S : Nat → Prop} {bp : Bk} {es : List (Bk × PO)} : ∀ (xs es' : List (Bk × PO)) {hp1 hp' : Heap}, HRel w S (obs xs ++ hp1) → Upd hp1 bp (.pool es) bp (.pool es') hp' → es'.Perm (xs ++ es) → HRel w S hp' ∧ Evo w S (obs xs ++ hp1) w S hp'
  | [], es', hp1, hp', r, u, h => pool_perm r u h.symm
  | x :: xs, es', hp1, hp', r, u, h => by
    obtain ⟨h2, u1, u2⟩ := u.mid bp (.pool (xs ++ es))
    obtain ⟨r0, e0⟩ := r.same (h' := obs xs ++ (x.1, x.2.ob) :: hp1) List.perm_middle.symm
    obtain ⟨r1, e1⟩ := pool_putL xs (xs ++ es) r0 (.next u1) (List.Perm.refl _)
    obtain ⟨r2, e2⟩ := pool_put r1 .here u2 h
    exact ⟨r2, (e0.trans e1).trans e2⟩

/-! ### objects by number -/
section ara
variable {V : Type}
/-- The pieces of all objects: kb tells those of one, bo where its box lies, bs where its lists lie. -/
def araG (kb : Bk → (Nat → Bk) → V → List (Bk × PO)) (bo : Nat → Bk) (bs : Nat → Nat → Bk) : Nat → List (Option V) → List (Bk × PO)
  | _, [] => []
  | i, some v :: r => kb (bo i) (bs i) v ++ araG kb bo bs (i + 1) r
  | i, none :: r => araG kb bo bs (i + 1) r
def araE (kb : Bk → (Nat → Bk) → V → List (Bk × PO)) (bo : Nat → Bk) (bs : Nat → Nat → Bk) (M : List V) : List (Bk × PO) := araG kb bo bs 0 (M.map some)
/-- All but object i. -/
def araX (kb : Bk → (Nat → Bk) → V → List (Bk × PO)) (bo : Nat → Bk) (bs : Nat → Nat → Bk) (M : List V) (i : Int) : List (Bk × PO) := araG kb bo bs 0 ((M.map some).set i.toNat none)
variable {kb : Bk → (Nat → Bk) → V → List (Bk × PO)} {bo bo' : Nat → Bk} {bs bs' : Nat → Nat → Bk}
theorem araG_congr : ∀ (l : List (Option V)) (i : Nat), (∀ j v, l[j]? = some (some v) → bo (i + j) = bo' (i + j) ∧ bs (i + j) = bs' (i + j)) → araG kb bo bs i l = araG kb bo' bs' i l
  | [], _, _ => rfl
  | some v :: r, i, h => by
    obtain ⟨h1, h2⟩ := h 0 v rfl
    show kb (bo i) (bs i) v ++ araG kb bo bs (i + 1) r = kb (bo' i) (bs' i) v ++ araG kb bo' bs' (i + 1) r
    rw [show bo i = bo' i from h1, show bs i = bs' i from h2, araG_congr r (i + 1) (fun j v hj => by
      have := h (j + 1) v (by simpa using hj)
      rw [show i + 1 + j = i + (j + 1) by omega]; exact this)]
  | none :: r, i, h => araG_congr r (i + 1) (fun j v hj => by
      have := h (j + 1) v (by simpa using hj)
      rw [show i + 1 + j = i + (j + 1) by omega]; exact this)
theorem araG_set : ∀ (l : List (Option V)) (i j : Nat) (v : V), l[j]? = some none → (araG kb bo bs i (l.set j (some v))).Perm (kb (bo (i + j)) (bs (i + j)) v ++ araG kb bo bs i l)
  | [], _, _, _, h => by simp at h
  | o :: r, i, 0, v, h => by
    obtain rfl : o = none := by simpa using h
    exact List.Perm.refl _
  | some u :: r, i, j + 1, v, h => by
    have := araG_set r (i + 1) j v (by simpa using h)
    rw [show i + 1 + j = i + (j + 1) by omega] at this
    show (kb (bo i) (bs i) u ++ araG kb bo bs (i + 1) (r.set j (some v))).Perm _
    refine (List.Perm.append_left _ this).trans ?_
    show (kb (bo i) (bs i) u ++ (kb (bo (i + (j + 1))) (bs (i + (j + 1))) v ++ araG kb bo bs (i + 1) r)).Perm (kb (bo (i + (j + 1))) (bs (i + (j + 1))) v ++ (kb (bo i) (bs i) u ++ araG kb bo bs (i + 1) r))
    rw [← List.append_assoc, ← List.append_assoc]
    exact List.Perm.append_right _ List.perm_append_comm
  | none :: r, i, j + 1, v, h => by
    have := araG_set r (i + 1) j v (by simpa using h)
    rw [show i + 1 + j = i + (j + 1) by omega] at this
    exact this
theorem araG_app : ∀ (l m : List (Option V)) (i : Nat), araG kb bo bs i (l ++ m) = araG kb bo bs i l ++ araG kb bo bs (i + l.length) m
  | [], m, i => rfl
  | some v :: r, m, i => by
    show kb (bo i) (bs i) v ++ araG kb bo bs (i + 1) (r ++ m) = (kb (bo i) (bs i) v ++ araG kb bo bs (i + 1) r) ++ araG kb bo bs (i + (r.length + 1)) m
    rw [araG_app r m (i + 1), List.append_assoc, show i + 1 + r.length = i + (r.length + 1) by omega]
  | none :: r, m, i => by
    show araG kb bo bs (i + 1) (r ++ m) = araG kb bo bs (i + 1) r ++ araG kb bo bs (i + (r.length + 1)) m
    rw [araG_app r m (i + 1), show i + 1 + r.length = i + (r.length + 1) by omega]
/-- An object in its place. -/
theorem araE_perm {M M' : List V} {i : Int} {v v' : V} {s : Nat → Bk} (h : idx M i = some v) (hM : M' = M.set i.toNat v') (hs : bs' = fun j => if j = i.toNat then s else bs j) : (araE kb bo bs' M').Perm (kb (bo i.toNat) s v' ++ araX kb bo bs M i) := by
  obtain ⟨h0, h1, h2⟩ := idx_some h
  unfold araE araX
  have hl : (M.map some)[i.toNat]? = some (some v) := by rw [List.getElem?_map, h2]; rfl
  have hlt : i.toNat < (M.map some).length := (List.getElem?_eq_some_iff.1 hl).1
  have hn : ((M.map some).set i.toNat none)[i.toNat]? = some none := by rw [List.getElem?_set_self hlt]
  have e1 : M'.map some = ((M.map some).set i.toNat none).set i.toNat (some v') := by rw [hM, List.map_set, List.set_set]
  rw [e1]
  have := araG_set (kb := kb) (bo := bo) (bs := bs') ((M.map some).set i.toNat none) 0 i.toNat v' hn
  rw [Nat.zero_add] at this
  refine this.trans ?_
  rw [show bs' i.toNat = s by rw [hs]; simp]
  refine List.Perm.append_left _ ?_
  rw [araG_congr (bo' := bo) (bs' := bs) ((M.map some).set i.toNat none) 0 (fun j u hj => by
    rw [Nat.zero_add]
    refine ⟨rfl, ?_⟩
    have : j ≠ i.toNat := fun e => by rw [e, hn] at hj; simp at hj
    rw [hs]; simp [this])]
theorem araE_take {M : List V} {i : Int} {v : V} (h : idx M i = some v) : (araE kb bo bs M).Perm (kb (bo i.toNat) (bs i.toNat) v ++ araX kb bo bs M i) :=
  araE_perm h (set_same (idx_some h).2.2).symm (by funext j; split <;> simp_all)
theorem araE_add {M : List V} {b : Bk} {s : Nat → Bk} {v : V} (h1 : ∀ j, j < M.length → bo' j = bo j) (h2 : bo' M.length = b) (h3 : ∀ j, j < M.length → bs' j = bs j) (h4 : bs' M.length = s) : (araE kb bo' bs' (M ++ [v])).Perm (kb b s v ++ araE kb bo bs M) := by
  unfold araE
  rw [List.map_append, araG_app, List.length_map, Nat.zero_add]
  have e1 : araG kb bo' bs' M.length ([v].map some) = kb b s v := by
    show kb (bo' M.length) (bs' M.length) v ++ [] = _
    rw [h2, h4, List.append_nil]
  rw [e1, araG_congr (bo' := bo) (bs' := bs) (M.map some) 0 (fun j u hj => by
    have : j < M.length := by
      have := (List.getElem?_eq_some_iff.1 hj).1
      simpa using this
    rw [Nat.zero_add]
    exact ⟨h1 j this, h3 j this⟩)]
  exact List.perm_append_comm
end ara
/-- An empty pool. -/
theorem ImpX.poolNew {n : Nat} {tm : List (Nat × AV)} {hp : Heap} {T : St → Prop} {V : Type} {kb : Bk → (Nat → Bk) → V → List (Bk × PO)} (k : ∀ (bp : Bk) (bo : Nat → Bk) (bs : Nat → Nat → Bk), ImpX ⟨n, tm, (bp, .pool (araE kb bo bs [])) :: hp⟩ T) : ImpX ⟨n, tm, hp⟩ T := by
  refine ImpX.step (σ1 := ⟨n, tm, (⟨none, 0⟩, .pool (araE kb (fun _ => ⟨none, 0⟩) (fun _ _ => ⟨none, 0⟩) [])) :: hp⟩) (fun w S a r => ?_) (k _ _ _)
  obtain ⟨g1, g2, g3⟩ := add_rel (b := ⟨none, 0⟩) (o := .pool []) r.hp (Ext.refl w) id ⟨rfl, by simp⟩ (.inl rfl)
  exact ⟨_, S, rfl, r.heap g3 g1, g2⟩
theorem ImpX.araTake {n : Nat} {tm : List (Nat × AV)} {hp hp' : Heap} {T : St → Prop} {V : Type} {kb : Bk → (Nat → Bk) → V → List (Bk × PO)} {bo : Nat → Bk} {bs : Nat → Nat → Bk} {M : List V} {i : Int} {v : V} {bp : Bk} (h : idx M i = some v) (u : Upd hp bp (.pool (araE kb bo bs M)) bp (.pool (araX kb bo bs M i)) hp')
    (k : ImpX ⟨n, tm, obs (kb (bo i.toNat) (bs i.toNat) v) ++ hp'⟩ T) : ImpX ⟨n, tm, hp⟩ T := by
  refine ImpX.step (fun w S a r => ?_) k
  obtain ⟨g1, g2⟩ := pool_takeL _ _ r.hp u (araE_take h)
  exact ⟨_, S, rfl, r.heap (fun m hm => ⟨hm, rfl⟩) g1, g2⟩
theorem ImpX.araPut {n : Nat} {tm : List (Nat × AV)} {hp hp1 h0 : Heap} {hp' : (Nat → Nat → Bk) → Heap} {T : St → Prop} {V : Type} {kb : Bk → (Nat → Bk) → V → List (Bk × PO)} {bo : Nat → Bk} {bs : Nat → Nat → Bk} {M M' : List V} {i : Int} {v v' : V} {b0 bp : Bk} {s : Nat → Bk} (h : idx M i = some v) (hb : b0 = bo i.toNat) (hM : M' = M.set i.toNat v') (hs : Sel hp h0 hp1) (ho : h0 = obs (kb b0 s v')) (u : ∀ bs', Upd hp1 bp (.pool (araX kb bo bs M i)) bp (.pool (araE kb bo bs' M')) (hp' bs'))
    (k : ∀ bs', ImpX ⟨n, tm, hp' bs'⟩ T) : ImpX ⟨n, tm, hp⟩ T := by
  refine ImpX.step (σ1 := ⟨n, tm, hp' (fun j => if j = i.toNat then s else bs j)⟩) (fun w S a r => ?_) (k _)
  obtain ⟨g0, e0⟩ := r.hp.same hs.perm
  rw [ho] at g0 e0
  obtain ⟨g1, g2⟩ := pool_putL _ _ g0 (u (fun j => if j = i.toNat then s else bs j)) (by rw [hb]; exact araE_perm h hM rfl)
  exact ⟨_, S, rfl, r.heap (fun m hm => ⟨hm, rfl⟩) g1, e0.trans g2⟩
theorem ImpX.araAdd {n : Nat} {tm : List (Nat × AV)} {hp hp1 h0 : Heap} {hp' : (Nat → Bk) → (Nat → Nat → Bk) → Heap} {T : St → Prop} {V : Type} {kb : Bk → (Nat → Bk) → V → List (Bk × PO)} {bo : Nat → Bk} {bs : Nat → Nat → Bk} {M : List V} {v : V} {b bp : Bk} {s : Nat → Bk} (hs : Sel hp h0 hp1) (ho : h0 = obs (kb b s v)) (u : ∀ bo' bs', Upd hp1 bp (.pool (araE kb bo bs M)) bp (.pool (araE kb bo' bs' (M ++ [v]))) (hp' bo' bs'))
    (k : ∀ bo' bs', (∀ j, j < M.length → bo' j = bo j) → bo' M.length = b → ImpX ⟨n, tm, hp' bo' bs'⟩ T) : ImpX ⟨n, tm, hp⟩ T := by
  have c1 : ∀ j, j < M.length → (fun j => if j = M.length then b else bo j) j = bo j := fun j hj => if_neg (by omega)
  have c2 : (fun j => if j = M.length then b else bo j) M.length = b := if_pos rfl
  refine ImpX.step (σ1 := ⟨n, tm, hp' (fun j => if j = M.length then b else bo j) (fun j => if j = M.length then s else bs j)⟩) (fun w S a r => ?_) (k _ _ c1 c2)
  obtain ⟨g0, e0⟩ := r.hp.same hs.perm
  rw [ho] at g0 e0
  obtain ⟨g1, g2⟩ := pool_putL _ _ g0 (u (fun j => if j = M.length then b else bo j) (fun j => if j = M.length then s else bs j)) (araE_add c1 c2 (fun j hj => if_neg (by omega)) (if_pos rfl))
  exact ⟨_, S, rfl, r.heap (fun m hm => ⟨hm, rfl⟩) g1, e0.trans g2⟩
/-- What stands in memory, said otherwise. -/
theorem ImpX.obEq {n : Nat} {tm : List (Nat × AV)} {hp hp' : Heap} {T : St → Prop} {b : Bk} {o o' : Ob} (he : o = o') (u : Upd hp b o b o' hp') (k : ImpX ⟨n, tm, hp'⟩ T) : ImpX ⟨n, tm, hp⟩ T := by
  subst he
  rw [upd_of_eq u] at k
  exact k
/-- Numbers of objects that are there. -/
def inB (n : Nat) (l : List Int) : Option Unit := if ∀ x ∈ l, 0 ≤ x ∧ x < n then some () else none
theorem inB_some {n : Nat} {l : List Int} {u : Unit} (h : inB n l = some u) : ∀ x ∈ l, 0 ≤ x ∧ x < n := by
  unfold inB at h
  split at h
  · assumption
  · cases h
/-- A pointer to an object, by number. -/
def pA (bo : Nat → Bk) (i : Int) : AV := .ptr (bo i.toNat) 0
theorem pA_eq {bo bo' : Nat → Bk} {N : Nat} (h : ∀ j, j < N → bo' j = bo j) {i : Int} (hi : 0 ≤ i ∧ i < N) : pA bo i = pA bo' i := by
  unfold pA; rw [h i.toNat (by omega)]
theorem re_map {K : Type} {gk : K → AV} {bo bo' : Nat → Bk} {N : Nat} (h : ∀ j, j < N → bo' j = bo j) {M : List (K × Int)} {u : Unit} (hg : inB N (M.map Prod.snd) = some u) : (M.map fun e => (gk e.1, pA bo e.2)) = M.map fun e => (gk e.1, pA bo' e.2) :=
  List.map_congr_left fun e he => by rw [pA_eq h (inB_some hg e.2 (List.mem_map.2 ⟨e, he, rfl⟩))]
theorem pA_new {bo : Nat → Bk} {N : Nat} {b : Bk} (h : bo N = b) (o : Nat) : AV.ptr (bo (N : Int).toNat) o = AV.ptr b o := by
  rw [Int.toNat_natCast, h]

section rules
variable {P : Program} {all : Array Oper} {rest : List Oper} {n : Nat} {tm : List (Nat × AV)} {hp : Heap} {Q : St → Prop} {d : Nat} {ty : TypeId} {pos : String} {af : Array Edge}
theorem t_lookupB0 {K : Type} [DecidableEq K] {gk : K → AV} {gv : Int → AV} {M : List (K × Int)} {key : K} {t kt vt : TypeId} {i : TypeInfo} {x y : Operand} {b : Bk} [TUnder P t (.map kt vt)] [TInfo P vt i] [MKey P kt gk] (hx : evA tm x = some (.mref b)) (hy : evA tm y = some (gk key)) (f : Fnd hp b (.mp (M.map fun e => (gk e.1, gv e.2)))) (hz : i.zero = some (.pointer none)) (h : mget? M key = none) :
    QV P ⟨some d, .lookup t x y true, ty, pos, af, none⟩ ⟨n, tm, hp⟩ (.tup [.raw (.pointer none), .bool false]) := by
  intro w S a r
  have kx := evA_at (σ := ⟨n, tm, hp⟩) r hx
  have ky := evA_at (σ := ⟨n, tm, hp⟩) r hy
  obtain ⟨nb, hb, ex⟩ := kx.mref_inv
  obtain ⟨L, c, M', nb', ents, p1, p2, p3, p4, p5, p6, p7, p8⟩ := mp_open (MKey.inj P kt) r.hp f
  obtain rfl : nb' = nb := by rw [p4] at hb; exact Option.some.inj hb
  rw [← mget_perm p1 p8] at h
  have hfind := MKey.find (P := P) (t := kt) (g := gk) ky ents.toList (M'.map Prod.fst) (by simpa using p6.symm) (fun j k' e h1 h2 => by
    rw [List.getElem?_map] at h1
    cases hm : M'[j]? with
    | none => rw [hm] at h1; cases h1
    | some q => rw [hm] at h1; rw [← Option.some.inj h1]; exact (p7 j q e hm h2).1)
  rcases findP_M (gv := gv) (w := w) (S := S) (k := key) M' ents.toList 0 p6.symm (fun j e m h1 h2 => (p7 j e m h1 h2).2) with ⟨q1, q2⟩ | ⟨v', j, val, q1, q2, q3, _⟩
  · refine ⟨.tuple #[.pointer none, .bool false], fun w1 e1 => ?_, .tup _ _ rfl (AtA_two (.raw _) (.bool _))⟩
    simp [execOp, Instr.lookup, ex, run_underlying (TUnder.h (P := P) (t := t)), run_getMap (e1.heap p5), MKey.check (P := P) (t := kt) ky, hfind, q2, zeroValue, typeInfo, TInfo.h (P := P) (t := vt), hz]
  · rw [q1] at h; cases h
theorem t_lookupB1 {K : Type} [DecidableEq K] {gk : K → AV} {gv : Int → AV} {M : List (K × Int)} {key : K} {v : Int} {t kt vt : TypeId} {i : TypeInfo} {x y : Operand} {b : Bk} [TUnder P t (.map kt vt)] [TInfo P vt i] [MKey P kt gk] (hx : evA tm x = some (.mref b)) (hy : evA tm y = some (gk key)) (f : Fnd hp b (.mp (M.map fun e => (gk e.1, gv e.2)))) (h : mget? M key = some v) :
    QV P ⟨some d, .lookup t x y true, ty, pos, af, none⟩ ⟨n, tm, hp⟩ (.tup [gv v, .bool true]) := by
  intro w S a r
  have kx := evA_at (σ := ⟨n, tm, hp⟩) r hx
  have ky := evA_at (σ := ⟨n, tm, hp⟩) r hy
  obtain ⟨nb, hb, ex⟩ := kx.mref_inv
  obtain ⟨L, c, M', nb', ents, p1, p2, p3, p4, p5, p6, p7, p8⟩ := mp_open (MKey.inj P kt) r.hp f
  obtain rfl : nb' = nb := by rw [p4] at hb; exact Option.some.inj hb
  rw [← mget_perm p1 p8] at h
  have hfind := MKey.find (P := P) (t := kt) (g := gk) ky ents.toList (M'.map Prod.fst) (by simpa using p6.symm) (fun j k' e h1 h2 => by
    rw [List.getElem?_map] at h1
    cases hm : M'[j]? with
    | none => rw [hm] at h1; cases h1
    | some q => rw [hm] at h1; rw [← Option.some.inj h1]; exact (p7 j q e hm h2).1)
  rcases findP_M (gv := gv) (w := w) (S := S) (k := key) M' ents.toList 0 p6.symm (fun j e m h1 h2 => (p7 j e m h1 h2).2) with ⟨q1, q2⟩ | ⟨v', j, val, q1, q2, q3, _⟩
  · rw [q1] at h; cases h
  · rw [q1] at h
    obtain rfl := Option.some.inj h
    refine ⟨.tuple #[val, .bool true], fun w1 e1 => ?_, .tup _ _ rfl (AtA_two q3 (.bool _))⟩
    simp [execOp, Instr.lookup, ex, run_underlying (TUnder.h (P := P) (t := t)), run_getMap (e1.heap p5), MKey.check (P := P) (t := kt) ky, hfind, q2]
end rules
end Go.Eng

/- The engine, part 65: short forms for the proofs that are written by program. No program in sight. -/
set_option linter.unusedVariables false
set_option linter.unusedSectionVars false
namespace Go.Eng
open Go
variable [GTab]
section todo
variable {P : Program} {R : St → Prop} {k : List It} {σ : St}
end todo
section rules
variable {P : Program} {all : Array Oper} {rest : List Oper} {n : Nat} {tm : List (Nat × AV)} {hp : Heap} {Q : St → Prop} {d : Nat} {ty : TypeId} {pos : String} {af : Array Edge} {op : Op} {s : Nat} {j : Nat}
end rules
/-- One result in a slot; nothing is told of memory. -/
theorem hP {P : Program} {σ : St} {s : Nat} {av : AV} {Q : List AV → St → Prop} (h1 : lk σ.tm s = some av) (h2 : Q [av] σ) : ImpX σ (fun σ' => ∃ rs, Rs P σ' [.tmp s] rs ∧ Q rs σ') := ImpX.here ⟨[av], .cons (.tmp _ _ h1) .nil, h2⟩
/-- One result in a slot, and memory. -/
theorem hH {P : Program} {σ : St} {s : Nat} {av : AV} {Q : List AV → Heap → Prop} {hp' : Heap} (h1 : lk σ.tm s = some av) (is : List Nat) (hs : pickH σ.hp is = some hp') (h2 : Q [av] hp') : ImpX σ (fun σ' => ∃ rs, Rs P σ' [.tmp s] rs ∧ (∃ h', HS σ'.hp h' ∧ Q rs h')) := ImpX.here ⟨[av], .cons (.tmp _ _ h1) .nil, hp', pickH_hs hs, h2⟩
theorem hQ {P : Program} {σ : St} {s t : Nat} {av aw : AV} {Q : List AV → St → Prop} (h1 : lk σ.tm s = some av) (h1' : lk σ.tm t = some aw) (h2 : Q [av, aw] σ) : ImpX σ (fun σ' => ∃ rs, Rs P σ' [.tmp s, .tmp t] rs ∧ Q rs σ') := ImpX.here ⟨[av, aw], .cons (.tmp _ _ h1) (.cons (.tmp _ _ h1') .nil), h2⟩
theorem hI {P : Program} {σ : St} {s t : Nat} {av aw : AV} {Q : List AV → Heap → Prop} {hp' : Heap} (h1 : lk σ.tm s = some av) (h1' : lk σ.tm t = some aw) (is : List Nat) (hs : pickH σ.hp is = some hp') (h2 : Q [av, aw] hp') : ImpX σ (fun σ' => ∃ rs, Rs P σ' [.tmp s, .tmp t] rs ∧ (∃ h', HS σ'.hp h' ∧ Q rs h')) := ImpX.here ⟨[av, aw], .cons (.tmp _ _ h1) (.cons (.tmp _ _ h1') .nil), hp', pickH_hs hs, h2⟩
end Go.Eng

/- The engine, part 66: a key that is in the map reads the same. No program in sight. -/
set_option linter.unusedVariables false
set_option linter.unusedSectionVars false
namespace Go.Eng
open Go
section
variable {K V : Type} [DecidableEq K] [KLt K]
end
end Go.Eng

/- The engine, part 67: an operation of a drawn region that puts two new pieces of memory into one value. No program in sight. -/
set_option linter.unusedVariables false
set_option linter.unusedSectionVars false
namespace Go.Eng
open Go
variable [GTab]
section rules
variable {P : Program} {all : Array Oper} {n : Nat} {B : Heap} {tk : List Tok} {dy : List Nat} {i : Nat} {rest : List Oper} {tm tm' : List (Nat × AV)} {acc : (Nat → Bk) → List (Nat × AV)} {Q : (Nat → Bk) → List (Nat × AV) → Prop} {d : Nat} {ty : TypeId} {pos : String} {af : Array Edge} {op : Op}
end rules
end Go.Eng

/- The engine, part 68: a loop whose first round is told apart. No program in sight. -/
set_option linter.unusedVariables false
set_option linter.unusedSectionVars false
namespace Go.Eng
open Go
variable [GTab]
section
variable {P : Program} {R : St → Prop} {k : List It} {σ : St}
end
end Go.Eng

/- The engine, part 69: objects by number: looked at in their pool, put back, frozen. No program in sight. -/
set_option linter.unusedVariables false
set_option linter.unusedSimpArgs false
set_option linter.unusedSectionVars false
namespace Go.Eng
open Go
variable [GTab]

/-- What stands in one cell of an object: a value, or a list of its own. -/
inductive CD : Type 1 where
  | v (a : AV)
  | l {α : Type} (sz : Nat) (g : α → AV) (xs : List α)
def cdC (s : Nat → Bk) : Nat → List CD → List AV
  | _, [] => []
  | k, .v a :: r => a :: cdC s k r
  | k, .l sz _ xs :: r => .sl sz (s k) 0 xs.length :: cdC s (k + 1) r
def cdA (s : Nat → Bk) : Nat → List CD → List (Bk × PO)
  | _, [] => []
  | k, .v _ :: r => cdA s k r
  | k, .l sz g xs :: r => (s k, .arr sz (xs.map g)) :: cdA s (k + 1) r
def cdF : List CD → List AV
  | [] => []
  | .v a :: r => a :: cdF r
  | .l sz g xs :: r => .list sz (xs.map g) :: cdF r
theorem cd_len (s : Nat → Bk) : ∀ (k : Nat) (D : List CD), (cdC s k D).length = (cdF D).length
  | _, [] => rfl
  | k, .v a :: r => congrArg (· + 1) (cd_len s k r)
  | k, .l sz g xs :: r => congrArg (· + 1) (cd_len s (k + 1) r)
/-- The pieces of an object, and its cells when nothing of it turns any more. -/
structure KB {V : Type} (kb : Bk → (Nat → Bk) → V → List (Bk × PO)) (fs : V → List AV) : Prop where
  ok : ∃ D : V → List CD, (∀ b s v, kb b s v = (b, .cells (cdC s 0 (D v))) :: cdA s 0 (D v)) ∧ ∀ v, fs v = cdF (D v)
theorem fnd_of_mem {b : Bk} {o : Ob} : ∀ {h : Heap}, (b, o) ∈ h → Fnd h b o
  | [], h => by simp at h
  | e :: r, h => by
    rcases List.mem_cons.1 h with rfl | h
    · exact .here
    · exact .next (fnd_of_mem h)
theorem cd_cob {s : Nat → Bk} {hp : Heap} : ∀ (D : List CD) (k : Nat), (∀ e ∈ cdA s k D, Fnd hp e.1 e.2.ob) → ∀ (i : Nat) c c', (cdC s k D)[i]? = some c → (cdF D)[i]? = some c' → CoB hp c c'
  | [], _, _, i, c, c', h, _ => by simp [cdC] at h
  | .v a :: r, k, hf, i, c, c', h, h' => by
    match i with
    | 0 =>
      simp only [cdC, cdF, List.getElem?_cons_zero, Option.some.injEq] at h h'
      subst h; subst h'; exact .co (.refl _)
    | i + 1 => exact cd_cob r k (fun e he => hf e (by simpa [cdA] using he)) i c c' (by simpa [cdC] using h) (by simpa [cdF] using h')
  | .l sz g xs :: r, k, hf, i, c, c', h, h' => by
    match i with
    | 0 =>
      simp only [cdC, cdF, List.getElem?_cons_zero, Option.some.injEq] at h h'
      subst h; subst h'
      exact .arr sz (s k) _ _ (hf (s k, .arr sz (xs.map g)) (by simp [cdA])) (by simp)
    | i + 1 => exact cd_cob r (k + 1) (fun e he => hf e (by simp only [cdA, List.mem_cons]; exact .inr he)) i c c' (by simpa [cdC] using h) (by simpa [cdF] using h')
theorem obs_mem {e : Bk × PO} {l : List (Bk × PO)} (h : e ∈ l) : (e.1, e.2.ob) ∈ obs l := List.mem_map.2 ⟨e, h, rfl⟩
theorem KB.cob {V : Type} {kb : Bk → (Nat → Bk) → V → List (Bk × PO)} {fs : V → List AV} (K : KB kb fs) (b : Bk) (s : Nat → Bk) (v : V) (hp' : Heap) : CoB (obs (kb b s v) ++ hp') (.ptr b 0) (.rptr (fs v)) := by
  obtain ⟨D, h1, h2⟩ := K.ok
  rw [h2]
  refine .box b (cdC s 0 (D v)) _ (fnd_of_mem (List.mem_append_left _ ?_)) (cd_len s 0 (D v)).symm (cd_cob (D v) 0 fun e he => fnd_of_mem (List.mem_append_left _ (obs_mem ?_)))
  · rw [h1]; exact List.mem_cons_self ..
  · rw [h1]; exact List.mem_cons_of_mem _ he

/-- The pieces of an object ahead of other memory. -/
def obsO : List (Bk × PO) → Heap → Option Heap
  | [], r => some r
  | (b, .cells cs) :: l, r => match obsO l r with
    | some m => some ((b, .cells cs) :: m)
    | none => none
  | (b, .arr sz xs) :: l, r => match obsO l r with
    | some m => some ((b, .arr sz xs) :: m)
    | none => none
theorem obsO_eq : ∀ {l : List (Bk × PO)} {r m : Heap}, obsO l r = some m → obs l ++ r = m
  | [], r, m, h => Option.some.inj h
  | (b, .cells cs) :: l, r, m, h => by
    unfold obsO at h
    split at h
    · rename_i m' hm
      obtain rfl := Option.some.inj h
      rw [← obsO_eq hm]; rfl
    · cases h
  | (b, .arr sz xs) :: l, r, m, h => by
    unfold obsO at h
    split at h
    · rename_i m' hm
      obtain rfl := Option.some.inj h
      rw [← obsO_eq hm]; rfl
    · cases h
theorem obsO_nil {l : List (Bk × PO)} {m : Heap} (h : obsO l [] = some m) : m = obs l := by rw [← obsO_eq h, List.append_nil]

section view
variable {V : Type} {kb : Bk → (Nat → Bk) → V → List (Bk × PO)} {fs : V → List AV} {bo : Nat → Bk} {bs : Nat → Nat → Bk} {M : List V} {i : Int} {v : V} {hp hp' hp2 : Heap} {b bp : Bk}
/-- An object's pieces lie in memory. -/
theorem ara_view {w : World} {S : Nat → Prop} (r : HRel w S hp) (h : idx M i = some v) (u : Upd hp bp (.pool (araE kb bo bs M)) bp (.pool (araX kb bo bs M i)) hp') : HRel w S (obs (kb (bo i.toNat) (bs i.toNat) v) ++ hp') ∧ ∀ n, Has (obs (kb (bo i.toNat) (bs i.toNat) v) ++ hp') n → Has hp n := by
  obtain ⟨r1, e1⟩ := pool_takeL _ _ r u (araE_take h)
  refine ⟨r1, fun n hn => ?_⟩
  rcases e1.new n hn with h | h
  · exact h
  · have := r1.lt hn; omega
theorem fnd_upd {o : Ob} {hp : Heap} (f : Fnd hp b o) (o' : Ob) : ∃ hp', Upd hp b o b o' hp' := by
  induction f with
  | here => exact ⟨_, .here⟩
  | next _ ih => obtain ⟨h, u⟩ := ih; exact ⟨_, .next u⟩
  | skip _ ih => obtain ⟨h, u⟩ := ih; exact ⟨_, .skip u⟩
/-- A pointer to an object, looked through. -/
theorem CoB.araP (K : KB kb fs) (h : idx M i = some v) (f : Fnd hp bp (.pool (araE kb bo bs M))) : CoB hp (pA bo i) (.rptr (fs v)) := by
  obtain ⟨hp', u⟩ := fnd_upd f (.pool (araX kb bo bs M i))
  refine .sem fun w S x r at_ => ?_
  obtain ⟨r1, r2⟩ := ara_view r h u
  exact ((K.cob (bo i.toNat) (bs i.toNat) v hp').at r1 at_).mono fun m hm => ⟨hm.imp id (r2 m), rfl⟩
theorem CoB.araP' (K : KB kb fs) (h : idx M i = some v) (f : Fnd hp bp (.pool (araE kb bo bs M))) : CoB hp (.ptr (bo i.toNat) 0) (.rptr (fs v)) := CoB.araP K h f
end view

theorem ImpX.araTakeN {n : Nat} {tm : List (Nat × AV)} {hp hp' hp2 : Heap} {T : St → Prop} {V : Type} {kb : Bk → (Nat → Bk) → V → List (Bk × PO)} {bo : Nat → Bk} {bs : Nat → Nat → Bk} {M : List V} {i : Int} {v : V} {bp : Bk} (h : idx M i = some v) (u : Upd hp bp (.pool (araE kb bo bs M)) bp (.pool (araX kb bo bs M i)) hp') (e : obsO (kb (bo i.toNat) (bs i.toNat) v) hp' = some hp2)
    (k : ImpX ⟨n, tm, hp2⟩ T) : ImpX ⟨n, tm, hp⟩ T := ImpX.araTake h u (by rw [obsO_eq e]; exact k)
/-- An object that has turned goes back. -/
theorem ImpX.araPutN {n : Nat} {tm : List (Nat × AV)} {hp hp1 h0 : Heap} {hp' : (Nat → Nat → Bk) → Heap} {T : St → Prop} {V : Type} {kb : Bk → (Nat → Bk) → V → List (Bk × PO)} {bo : Nat → Bk} {bs : Nat → Nat → Bk} {M : List V} {i : Int} {v v' : V} {bp : Bk} {s : Nat → Bk} (h : idx M i = some v) (hs : Sel hp h0 hp1) (ho : obsO (kb (bo i.toNat) s v') [] = some h0) (u : ∀ bs', Upd hp1 bp (.pool (araX kb bo bs M i)) bp (.pool (araE kb bo bs' (M.set i.toNat v'))) (hp' bs'))
    (k : ∀ bs', ImpX ⟨n, tm, hp' bs'⟩ T) : ImpX ⟨n, tm, hp⟩ T := ImpX.araPut h rfl rfl hs (obsO_nil ho) u k
theorem ImpX.araAddN {n : Nat} {tm : List (Nat × AV)} {hp hp1 h0 : Heap} {hp' : (Nat → Bk) → (Nat → Nat → Bk) → Heap} {T : St → Prop} {V : Type} {kb : Bk → (Nat → Bk) → V → List (Bk × PO)} {bo : Nat → Bk} {bs : Nat → Nat → Bk} {M : List V} {v : V} {b bp : Bk} {s : Nat → Bk} (hs : Sel hp h0 hp1) (ho : obsO (kb b s v) [] = some h0) (u : ∀ bo' bs', Upd hp1 bp (.pool (araE kb bo bs M)) bp (.pool (araE kb bo' bs' (M ++ [v]))) (hp' bo' bs'))
    (k : ∀ bo' bs', (∀ j, j < M.length → bo' j = bo j) → bo' M.length = b → ImpX ⟨n, tm, hp' bo' bs'⟩ T) : ImpX ⟨n, tm, hp⟩ T := ImpX.araAdd hs (obsO_nil ho) u k
theorem idx_new {α : Type} (M : List α) (v : α) : idx (M ++ [v]) (M.length : Int) = some v := by
  unfold idx
  rw [if_pos (Int.natCast_nonneg _), Int.toNat_natCast, List.getElem?_append_right (Nat.le_refl _), Nat.sub_self]; rfl
theorem re_new {bo : Nat → Bk} {N : Nat} {b : Bk} (h : bo N = b) (o : Nat) : AV.ptr (bo ((N : Nat) : Int).toNat) o = AV.ptr b o := pA_new h o
theorem re_mp {K : Type} {gk : K → AV} {bo bo' : Nat → Bk} {N : Nat} (h : ∀ j, j < N → bo' j = bo j) {M : List (K × Int)} {u : Unit} (hg : inB N (M.map Prod.snd) = some u) : Ob.mp (M.map fun e => (gk e.1, pA bo e.2)) = Ob.mp (M.map fun e => (gk e.1, pA bo' e.2)) := congrArg Ob.mp (re_map h hg)
/-- Names of lists, by number. -/
def nbk (l : List Bk) (k : Nat) : Bk := l.getD k ⟨none, 0⟩
end Go.Eng

/- The engine, part 70: slices.SortFunc at elements of one cell, by a comparison that looks at memory of ours. No program in sight. -/
set_option linter.unusedVariables false
set_option linter.unusedSimpArgs false
set_option linter.unusedSectionVars false
namespace Go.Eng
open Go Go.Sort Go.Proofs
variable [GTab]

end Go.Eng

/- The engine, part 71: literal arrays, cell by cell. No program in sight. -/
set_option linter.unusedVariables false
set_option linter.unusedSimpArgs false
set_option linter.unusedSectionVars false
namespace Go.Eng
open Go
variable [GTab]

section rules
variable {P : Program} {all : Array Oper} {rest : List Oper} {n : Nat} {tm : List (Nat × AV)} {hp : Heap} {Q : St → Prop} {d : Nat} {ty : TypeId} {pos : String} {af : Array Edge}
end rules
end Go.Eng

/- The engine, part 72: lists behind a front that was dropped. No program in sight. -/
set_option linter.unusedVariables false
set_option linter.unusedSimpArgs false
set_option linter.unusedSectionVars false
namespace Go.Eng
open Go
variable [GTab]

section rules
variable {P : Program} {all : Array Oper} {rest : List Oper} {n : Nat} {tm : List (Nat × AV)} {hp : Heap} {Q : St → Prop} {d : Nat} {ty : TypeId} {pos : String} {af : Array Edge}
end rules
end Go.Eng

/- The engine, part 73: a box that some slots point to is frozen. No program in sight. -/
set_option linter.unusedVariables false
set_option linter.unusedSectionVars false
namespace Go.Eng
open Go
variable [GTab]
/-- Slots that point to what is frozen. -/
def putR (cs : List AV) : List Nat → List (Nat × AV) → List (Nat × AV)
  | [], tm => tm
  | s :: r, tm => (s, .rptr cs) :: putR cs r tm
theorem lk_putR {cs : List AV} {tm : List (Nat × AV)} {t : Nat} {av : AV} : ∀ {ss : List Nat}, lk (putR cs ss tm) t = some av → (t ∈ ss ∧ av = .rptr cs) ∨ lk tm t = some av
  | [], h => .inr h
  | s :: r, h => by
    simp only [putR, lk] at h
    split at h
    · rename_i hb
      obtain rfl : s = t := by simpa using hb
      exact .inl ⟨by simp, (Option.some.inj h).symm⟩
    · rcases lk_putR h with ⟨h1, h2⟩ | h1
      · exact .inl ⟨List.mem_cons_of_mem _ h1, h2⟩
      · exact .inr h1
/-- A box of ours that is not written again: it is frozen, some slots point to what is in it. -/
theorem ImpX.frzPtrL {n : Nat} {ss : List Nat} {tm : List (Nat × AV)} {hp hp1 : Heap} {T : St → Prop} {b : Bk} {cs : List AV} (hs : ∀ s ∈ ss, lk tm s = some (.ptr b 0)) (dl : Del hp b (.cells cs) hp1) (k : ImpX ⟨n, putR cs ss tm, hp1⟩ T) : ImpX ⟨n, tm, hp⟩ T := by
  refine ImpX.step (σ1 := ⟨n, putR cs ss tm, hp1⟩) (fun w S a r => ?_) k
  obtain ⟨p, q, rfl, rfl⟩ := dl.split
  have hmem : (b, Ob.cells cs) ∈ p ++ (b, .cells cs) :: q := mem_mid.2 (.inl rfl)
  obtain ⟨h1, m0, vs, E, hb0, hh, hsz, ha⟩ := r.hp.holds _ hmem
  have hin : ∀ m, b.blk = some m → m < w.heap.size := fun m hm => r.hp.lt ⟨_, hmem, eb_of hm⟩
  let S' : Nat → Prop := fun m => S m ∨ b.blk = some m
  have mono : ∀ m, S m → S' m ∧ w.heap[m]? = w.heap[m]? := fun m hm => ⟨.inl hm, rfl⟩
  have hnd := r.hp.nodup
  have hsub : (p ++ q).Sublist (p ++ (b, Ob.cells cs) :: q) := List.Sublist.append (List.Sublist.refl _) (List.sublist_cons_self _ _)
  have hrel : HRel w S' (p ++ q) := by
    refine ⟨hnd.sublist (sub_flatMap hsub), fun e he => (r.hp.holds e (hsub.subset he)).mono mono (fun _ _ => rfl), fun e he m hm => ?_, fun m hm => ?_, fun g o ho => ⟨.inl (r.hp.glob g o ho).1, (r.hp.glob g o ho).2⟩⟩
    · rw [← r.hp.sep e (hsub.subset he) m hm]
      refine ⟨fun hs => hs.elim id fun hb => ?_, .inl⟩
      exfalso
      rw [List.flatMap_append, List.flatMap_cons, List.nodup_append, List.nodup_append] at hnd
      rcases List.mem_append.1 he with h | h
      · exact hnd.2.2 m (List.mem_flatMap.2 ⟨e, h, hm⟩) m (List.mem_append_left _ (eb_of hb)) rfl
      · exact hnd.2.1.2.2 m (eb_of hb) m (List.mem_flatMap.2 ⟨e, h, hm⟩) rfl
    · rcases hm with h | h
      · exact r.hp.slt m h
      · exact hin m h
  have hr := r.heap mono hrel
  refine ⟨_, S', rfl, ⟨hr.size, hr.defers, fun t av h => ?_, hr.hp⟩, rfl, rfl, rfl, Nat.le_refl _, mono, fun m hm hh => ⟨rfl, fun hs => hs.elim id fun hb => (hh ⟨_, hmem, eb_of hb⟩).elim⟩, fun m hm => .inl ?_, fun _ => Nat.le_refl _⟩
  · rcases lk_putR h with ⟨ht, rfl⟩ | h
    · obtain ⟨v, e1, e2⟩ := hr.tm t _ (hs t ht)
      cases e2 with
      | ptr _ _ m hb =>
        obtain rfl := Option.some.inj (hb.symm.trans hb0)
        refine ⟨_, e1, .rptr cs ⟨m, 0, none⟩ vs.toList (by simp [hsz]) (fun i c v hc hv => (ha i c v hc (by simpa using hv)).mono mono) rfl (.inr hb) (fun i v hv => ?_)⟩
        rw [cell_at hh]; simpa using hv
    · exact hr.tm t av h
  · obtain ⟨e, he, hb⟩ := hm
    exact ⟨e, hsub.subset he, hb⟩
end Go.Eng

/- The engine, part 74: an entry of a map of pointers, made and then written. No program in sight. -/
set_option linter.unusedVariables false
set_option linter.unusedSectionVars false
namespace Go.Eng
open Go
variable [GTab]
/-- A pointer to an object of a pool, or none. -/
def pQ (bo : Nat → Bk) : Option Int → AV
  | none => .raw (.pointer none)
  | some i => pA bo i
def someM {K : Type} (M : List (K × Int)) : List (K × Option Int) := M.map fun e => (e.1, some e.2)
theorem someM_enc {K : Type} {gk : K → AV} (bo : Nat → Bk) (M : List (K × Int)) : ((someM M).map fun e => (gk e.1, pQ bo e.2)) = M.map fun e => (gk e.1, pA bo e.2) := by
  unfold someM; rw [List.map_map]; rfl
theorem someM_get {K : Type} [DecidableEq K] (k : K) : ∀ (M : List (K × Int)), mgetO (someM M) k none = some (mget? M k)
  | [] => rfl
  | e :: M => by
    have ih := someM_get k M
    unfold mgetO someM at ih ⊢
    rw [List.map_cons]
    unfold mget?
    by_cases h : e.1 = k
    · rw [if_pos h, if_pos h]; rfl
    · rw [if_neg h, if_neg h]; exact ih
theorem someM_mins {K : Type} [DecidableEq K] [KLt K] (k : K) (v : Int) : ∀ (M : List (K × Int)), mins k (some v) (someM M) = someM (mins k v M)
  | [] => rfl
  | e :: M => by
    have ih := someM_mins k v M
    unfold someM at ih ⊢
    rw [List.map_cons]
    unfold mins
    by_cases h : KLt.lt e.1 k = true
    · rw [if_pos h, if_pos h, List.map_cons, ih]
    · rw [if_neg h, if_neg h, List.map_cons, List.map_cons]
theorem someM_mset {K : Type} [DecidableEq K] [KLt K] (M : List (K × Int)) (k : K) (v : Int) : mset (someM M) k (some v) = someM (mset M k v) := by
  unfold mset
  rw [← someM_mins]
  congr 1
  unfold mdel someM
  rw [List.filter_map]; rfl
section rules
variable {P : Program} {all : Array Oper} {rest : List Oper} {n : Nat} {tm : List (Nat × AV)} {hp : Heap} {Q : St → Prop} {d : Nat} {ty : TypeId} {pos : String} {af : Array Edge}
theorem t_mapEntryP {K : Type} [DecidableEq K] [KLt K] {gk : K → AV} {bo : Nat → Bk} {M : List (K × Int)} {key : K} {q : Nat} {t kt vt : TypeId} {i : TypeInfo} {z : Value} {x y : Operand} {b : Bk} {hp' : Heap} [TUnder P t (.map kt vt)] [TInfo P vt i] [MKey P kt gk] (hx : evA tm x = some (.mref b)) (hy : evA tm y = some (gk key)) (hz : i.zero = some z) (hzx : zAV z = .raw (.pointer none))
    (u : Upd hp b (.mps (M.map fun e => (gk e.1, pA bo e.2)) q (gk key)) b (.mps ((mset (someM M) key (mget? M key)).map fun e => (gk e.1, pQ bo e.2)) q (gk key)) hp') (hn : Nat.blt d n = true)
    (kk : ARun P all rest ⟨n, (d, .tup [pQ bo (mget? M key), .int .i64 (q : Int)]) :: tm, hp'⟩ Q) : ARun P all (⟨some d, .mapEntry t x y, ty, pos, af, none⟩ :: rest) ⟨n, tm, hp⟩ Q := by
  rw [← someM_enc bo M] at u
  exact t_mapEntry (gk := gk) (gv := pQ bo) (M := someM M) (key := key) (Z := none) (v := mget? M key) hx hy hz hzx (by rw [hzx]; rfl) (someM_get key M) u hn kk
theorem t_entryStoreP {K : Type} [DecidableEq K] [KLt K] {gk : K → AV} {bo : Nat → Bk} {M : List (K × Int)} {key : K} {q : Nat} {v' : Int} {t kt : TypeId} {x s y : Operand} {b : Bk} {av : AV} {hp' : Heap} [MKey P kt gk] (hx : evA tm x = some (.mref b)) (hs : evA tm s = some (.int .i64 (q : Int))) (hy : evA tm y = some av) (hav : av = pA bo v')
    (u : Upd hp b (.mps ((mset (someM M) key (mget? M key)).map fun e => (gk e.1, pQ bo e.2)) q (gk key)) b (.mp ((mset M key v').map fun e => (gk e.1, pA bo e.2))) hp')
    (kk : ARun P all rest ⟨n, tm, hp'⟩ Q) : ARun P all (⟨none, .entryStore t x s y, ty, pos, af, none⟩ :: rest) ⟨n, tm, hp⟩ Q := by
  rw [← someM_enc bo (mset M key v'), ← someM_mset] at u
  exact t_entryStore (gk := gk) (gv := pQ bo) (M := someM M) (key := key) (v := mget? M key) (v' := some v') (t := t) (kt := kt) hx hs hy hav u kk
end rules
end Go.Eng

