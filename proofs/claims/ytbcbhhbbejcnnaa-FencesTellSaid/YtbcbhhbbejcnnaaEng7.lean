/- The engine, part 7: weakening, loops, calls, regions that draw their order. No program in sight. -/
import Derived.Test.YtbcbhhbbejcnnaaEng6
set_option linter.unusedVariables false
namespace Go.Eng
open Go

/-! ### weakening -/
def ImpX (σ : St) (T : St → Prop) : Prop := ∀ w S a, StRel w S σ a → ∃ σ' S', T σ' ∧ StRel w S' σ' a ∧ Evo w S σ.hp w S' σ'.hp

theorem ImpX.here {σ : St} {T : St → Prop} (h : T σ) : ImpX σ T := fun w S a r => ⟨σ, S, h, r, Evo.refl _ _ _⟩
theorem ImpX.step {σ σ1 : St} {T : St → Prop} (h : ImpX σ (· = σ1)) (k : ImpX σ1 T) : ImpX σ T := by
  intro w S a r
  obtain ⟨σ', S', rfl, r', e⟩ := h w S a r
  obtain ⟨σ2, S2, h2, r2, e2⟩ := k w S' a r'
  exact ⟨σ2, S2, h2, r2, e.trans e2⟩
theorem ImpX.mono {σ : St} {T T' : St → Prop} (h : ImpX σ T) (ht : ∀ σ, T σ → T' σ) : ImpX σ T' := fun w S a r =>
  let ⟨σ', S', h1, h2, h3⟩ := h w S a r
  ⟨σ', S', ht _ h1, h2, h3⟩

def AllIn (tm : List (Nat × AV)) : List (Nat × AV) → Prop
  | [] => True
  | (s, av) :: r => lk tm s = some av ∧ AllIn tm r

theorem AllIn.lk {tm : List (Nat × AV)} : ∀ {tm' : List (Nat × AV)}, AllIn tm tm' → ∀ s av, Eng.lk tm' s = some av → Eng.lk tm s = some av
  | [], _, s, av, h => by simp [Eng.lk] at h
  | (k, v) :: r, h, s, av, hh => by
    simp only [Eng.lk] at hh
    split at hh
    · rename_i hb
      obtain rfl : k = s := by simpa using hb
      obtain rfl := Option.some.inj hh
      exact h.1
    · exact AllIn.lk h.2 s av hh

theorem ImpX.less {n : Nat} {tm tm' : List (Nat × AV)} {hp hp' : Heap} {T : St → Prop} (h : AllIn tm tm') (hs : hp'.Sublist hp) (k : ImpX ⟨n, tm', hp'⟩ T) : ImpX ⟨n, tm, hp⟩ T :=
  ImpX.step (σ1 := ⟨n, tm', hp'⟩) (fun w S a r => ⟨_, S, rfl, r.less ⟨rfl, h.lk, hs⟩, Evo.less (Evo.refl w S hp) fun _ hn => hn.sub hs⟩) k

theorem ImpX.arr {n s : Nat} {tm : List (Nat × AV)} {hp : Heap} {T : St → Prop} (sz : Nat) (hs : lk tm s = some .nil) (k : ∀ b, ImpX ⟨n, (s, .sl sz b 0 0) :: tm, (b, .arr sz []) :: hp⟩ T) : ImpX ⟨n, tm, hp⟩ T := by
  refine ImpX.step (σ1 := ⟨n, (s, .sl sz ⟨none, 0⟩ 0 0) :: tm, (⟨none, 0⟩, .arr sz []) :: hp⟩) (fun w S a r => ?_) (k ⟨none, 0⟩)
  obtain ⟨g1, g2, g3⟩ := add_rel (b := ⟨none, 0⟩) (o := .arr sz []) r.hp (Ext.refl w) id ⟨by simp, by simp, .inl ⟨rfl, rfl⟩⟩ (.inl rfl)
  refine ⟨_, S, rfl, ⟨r.size, r.defers, fun t av h => ?_, g1⟩, g2⟩
  simp only [lk] at h
  split at h
  · rename_i hb
    obtain rfl : s = t := by simpa using hb
    obtain rfl := Option.some.inj h
    obtain ⟨v, h1, h2⟩ := r.tm s _ hs
    cases h2
    exact ⟨_, h1, .slph sz _ rfl⟩
  · exact r.tm t av h

/-- What lies in the state's heap, frozen. -/
theorem ImpX.freeze {n sz : Nat} {tm : List (Nat × AV)} {hp hp' : Heap} {T : St → Prop} {b : Bk} {xs : List AV} (u : Upd hp b (.arr sz xs) b (.fro sz xs) hp') (k : ImpX ⟨n, tm, hp'⟩ T) : ImpX ⟨n, tm, hp⟩ T := by
  refine ImpX.step (σ1 := ⟨n, tm, hp'⟩) (fun w S a r => ?_) k
  have hmem := u.fnd.mem
  have hin : ∀ m, b.blk = some m → m < w.heap.size := fun m hm => r.hp.lt ⟨_, hmem, hm⟩
  let S' : Nat → Prop := fun m => S m ∨ b.blk = some m
  have mono : ∀ m, S m → S' m ∧ w.heap[m]? = w.heap[m]? := fun m hm => ⟨.inl hm, rfl⟩
  obtain ⟨p, q, rfl, rfl⟩ := u.split
  have hnd : (List.filterMap (fun x : Bk × Ob => x.1.blk) (p ++ (b, .arr sz xs) :: q)).Nodup := r.hp.nodup
  have hrel : HRel w S' (p ++ (b, .fro sz xs) :: q) := by
    refine ⟨?_, ?_, ?_, ?_⟩
    · have : (List.filterMap (fun x : Bk × Ob => x.1.blk) (p ++ (b, .fro sz xs) :: q)) = (List.filterMap (fun x : Bk × Ob => x.1.blk) (p ++ (b, .arr sz xs) :: q)) := by
        rw [List.filterMap_append, List.filterMap_append]; rfl
      show (List.filterMap (fun x : Bk × Ob => x.1.blk) (p ++ (b, .fro sz xs) :: q)).Nodup
      rw [this]; exact hnd
    · intro e he
      rcases mem_mid.1 he with rfl | he
      · exact (r.hp.holds _ hmem).mono mono (fun _ _ => rfl)
      · exact (r.hp.holds e (mem_mid.2 (.inr he))).mono mono (fun _ _ => rfl)
    · intro e he m hm
      rcases mem_mid.1 he with rfl | he
      · exact ⟨fun _ => trivial, fun _ => .inr hm⟩
      · rw [← r.hp.sep e (mem_mid.2 (.inr he)) m hm]
        refine ⟨fun hs => hs.elim id fun hb => ?_, .inl⟩
        exfalso
        rw [List.filterMap_append, List.filterMap_cons_some (f := fun x : Bk × Ob => x.1.blk) (a := (b, .arr sz xs)) (b := m) hb, List.nodup_append] at hnd
        rcases List.mem_append.1 he with h | h
        · exact hnd.2.2 m (List.mem_filterMap.2 ⟨e, h, hm⟩) m (by simp) rfl
        · exact (List.nodup_cons.1 hnd.2.1).1 (List.mem_filterMap.2 ⟨e, h, hm⟩)
    · intro m hm
      rcases hm with h | h
      · exact r.hp.slt m h
      · exact hin m h
  refine ⟨_, S', rfl, r.heap mono hrel, rfl, rfl, rfl, Nat.le_refl _, mono, fun m hm hh => ⟨rfl, fun hs => hs.elim id fun hb => (hh ⟨_, hmem, hb⟩).elim⟩, fun m hm => .inl ?_, Nat.le_refl _⟩
  obtain ⟨e, he, hb⟩ := hm
  rcases mem_mid.1 he with rfl | he
  · exact ⟨_, hmem, hb⟩
  · exact ⟨e, mem_mid.2 (.inr he), hb⟩

/-! ### one value for another that says less -/
inductive Co (hp : Heap) : AV → AV → Prop
  | refl (a : AV) : Co hp a a
  | nil (sz : Nat) : Co hp .nil (.list sz [])
  | fro (sz : Nat) (b : Bk) (len : Nat) (xs : List AV) (f : Fnd hp b (.fro sz xs)) (h : len = xs.length) : Co hp (.sl sz b 0 len) (.list sz xs)
  | part (sz : Nat) (b : Bk) (off len : Nat) (xs : List AV) (f : Fnd hp b (.fro sz xs)) (h : off + len ≤ xs.length) : Co hp (.sl sz b off len) (.list sz ((xs.drop off).take len))

theorem at_list_of_src {w : World} {S : Nat → Prop} {sz : Nat} {ys : List AV} {v : Value} (h : SrcV w S sz ys v) (hS : ∀ ad len cap, v = .slice (some ad) len cap → 0 < len → ad.spot = none ∧ S ad.block) (hc : ∀ ob len cap, v = .slice ob len cap → len ≤ cap) : At w S (.list sz ys) v := by
  obtain ⟨h0, a, c, nvs, rfl, h1, h2, h3⟩ := h
  refine .list sz ys a c nvs h0 (by rw [flat_length h0, h1]) (fun i c v hc hv => h2 i c v hc (by simpa using hv)) (fun i v hv => ?_) (hc _ _ _ rfl)
  obtain ⟨ad, rfl, h4⟩ := h3 i v hv
  have hlt : i < nvs.length := (List.getElem?_eq_some_iff.1 hv).1
  have hpos : 0 < ys.length := by
    rcases Nat.eq_zero_or_pos ys.length with h | h
    · rw [h1, h] at hlt; simp at hlt
    · exact h
  obtain ⟨g1, g2⟩ := hS ad _ _ rfl hpos
  refine ⟨ad, rfl, g1, g2, ?_⟩
  obtain ⟨bk, of, sp⟩ := ad
  simp only at g1; subst g1
  rw [add_at] at h4; exact h4

theorem sl_block {w : World} {S : Nat → Prop} {sz off len : Nat} {b : Bk} {v : Value} (h : At w S (.sl sz b off len) v) : (∀ ad l c, v = .slice (some ad) l c → 0 < l → ad.spot = none ∧ b.blk = some ad.block) ∧ ∀ ob l c, v = .slice ob l c → l ≤ c := by
  obtain ⟨oa, cap, rfl, e2⟩ := h.sl_inv
  rcases e2 with ⟨_, _, hl, rfl, rfl⟩ | ⟨m, hb, rfl, h1, h2⟩ | ⟨m, ad, hb, rfl, hl, rfl⟩
  · exact ⟨(fun ad l c h => by cases h), (fun ob l c h => by cases h; omega)⟩
  · exact ⟨(fun ad l c h _ => by cases h; exact ⟨rfl, hb⟩), (fun ob l c h => by cases h; omega)⟩
  · exact ⟨(fun ad l c h hl' => by cases h; omega), (fun ob l c h => by cases h; omega)⟩

theorem Co.at {w : World} {S : Nat → Prop} {hp : Heap} {a a' : AV} {v : Value} (c : Co hp a a') (r : HRel w S hp) (h : At w S a v) : At w S a' v := by
  cases c with
  | refl => exact h
  | nil sz => rw [h.nil_inv]; exact .list sz [] none 0 [] (by simp) rfl (fun i c v hc => by simp [flat] at hc) (fun i v hv => by simp at hv) (by simp)
  | fro sz b len xs f hl =>
    have hs := (Src.whole (hp := hp) (sz := sz) b len xs (.inr f) hl).at r h
    exact at_list_of_src hs (fun ad l c hv hp => let ⟨g1, g2⟩ := (sl_block h).1 ad l c hv hp; ⟨g1, (r.sep _ f.mem _ g2).2 trivial⟩) (sl_block h).2
  | part sz b off len xs f hl =>
    have hs := (Src.part (hp := hp) (sz := sz) b off len xs (.inr f) hl).at r h
    exact at_list_of_src hs (fun ad l c hv hp => let ⟨g1, g2⟩ := (sl_block h).1 ad l c hv hp; ⟨g1, (r.sep _ f.mem _ g2).2 trivial⟩) (sl_block h).2

theorem ImpX.co {n s : Nat} {tm : List (Nat × AV)} {hp : Heap} {T : St → Prop} {av av' : AV} (hs : lk tm s = some av) (c : Co hp av av') (k : ImpX ⟨n, (s, av') :: tm, hp⟩ T) : ImpX ⟨n, tm, hp⟩ T := by
  refine ImpX.step (σ1 := ⟨n, (s, av') :: tm, hp⟩) (fun w S a r => ⟨_, S, rfl, ⟨r.size, r.defers, fun t av h => ?_, r.hp⟩, Evo.refl _ _ _⟩) k
  simp only [lk] at h
  split at h
  · rename_i hb
    obtain rfl : s = t := by simpa using hb
    obtain rfl := Option.some.inj h
    obtain ⟨v, h1, h2⟩ := r.tm s _ hs
    exact ⟨v, h1, c.at r.hp h2⟩
  · exact r.tm t av h

section
variable {P : Program} {R : St → Prop} {k : List It} {σ : St}
theorem ATodo.ghost {c : Code} (h : ImpX σ (ATodo P R (.code c :: k))) : ATodo P R (.code c :: k) σ := by
  intro w S a r
  obtain ⟨σ', S', h1, h2, h3⟩ := h w S a r
  exact ATodo.go h1 h2 h3

theorem ARun.ghost {all : Array Oper} {l : List Oper} {Q : St → Prop} (h : ImpX σ (fun σ' => ARun P all l σ' Q)) : ARun P all l σ Q := by
  intro w S a r
  obtain ⟨σ', S', h1, h2, h3⟩ := h w S a r
  exact h1.go h2 h3

theorem ATodo.loopx {body : Code} (I : Nat → St → Prop) (m : Nat) (h0 : ImpX σ (I m)) (hs : ∀ m σ, I m σ → ATodo P R (.code body :: .stop (fun σ' => ∃ m', m' < m ∧ ImpX σ' (I m')) :: k) σ) :
    ATodo P R (.code (.loop body) :: k) σ := by
  refine ATodo.loop (fun m σ => ImpX σ (I m)) m h0 (fun m σ hI => ?_)
  exact ATodo.ghost (hI.mono fun σ' h => hs m σ' h)

theorem ACall.body {f : FuncId} {fn : Func} {c : Code} {args : List AV} {h : Heap} {Q : AV → Heap → Prop} {n : Nat} (hf : P.funcs[f]? = some fn) (hb : fn.body = some c) (hn : fn.ntmps = n)
    (hle : Nat.ble args.length n = true) (kk : ATodo P (fun σ => ImpX σ (fun σ' => ∃ r, Res P fn σ' r ∧ Q r σ'.hp)) [.code c] ⟨n, tm0 args 0, h⟩) : ACall P f args h Q := by
  intro w S vs hr hl ha
  refine calls_of_wp hf hb ?_
  have r0 : StRel w S ⟨n, tm0 args 0, h⟩ { tmps := vs ++ Array.replicate (fn.ntmps - vs.size) undef, defers := [] } := by
    have := Nat.le_of_ble_eq_true hle
    refine ⟨by simp [hn]; omega, rfl, fun s av hs => ?_, hr⟩
    obtain ⟨_, h2⟩ := lk_tm0 args 0 s av hs
    simp only [Nat.sub_zero] at h2
    have hlt : s < args.length := (List.getElem?_eq_some_iff.1 h2).1
    have hlt' : s < vs.size := by omega
    refine ⟨vs[s], by simp [Array.getElem?_append, hlt'], ha s av _ h2 (by simp [hlt'])⟩
  refine wp_mono (kk w S _ r0) ?_
  rintro e a' w' ⟨σ', S', h1, h2, h3⟩
  have fin : ImpX σ' (fun σ'' => ∃ r, Res P fn σ'' r ∧ Q r σ''.hp) → a'.defers = [] ∧ ∃ v, (results fn a'.tmps).run P w' = .ok v w' ∧ ∃ v' r h' S', (Ending.returned v : Ending) = .returned v' ∧ Q r h' ∧ At w' S' r v' ∧ HRel w' S' h' ∧ Evo w S h w' S' h' := by
    intro hi
    obtain ⟨σ2, S2, ⟨r, hres, hq⟩, g2, g3⟩ := hi w' S' a' h2
    obtain ⟨v, hv1, hv2⟩ := hres.run g2
    exact ⟨g2.defers, v, hv1, v, r, σ2.hp, S2, rfl, hq, hv2, g2.hp, h3.trans g3⟩
  cases e with
  | normal => exact fin h1
  | ret => exact fin h1
  | exit id => exact h1.elim
  | goto l => exact h1.elim
  | panic c => exact h1.elim
  | outgrown => exact h1.elim
end

/-! ### calls -/
class IsFn (P : Program) (f : FuncId) : Prop where
  h : ∃ fn, P.funcs[f]? = some fn ∧ (fn.name == "runtime.NumGoroutine") = false ∧ fn.body.isNone = false

theorem run_callFunc {P : Program} (f : FuncId) [IsFn P f] (args : Array Value) (w : World) : (callFunc f args).run P w = .ok (.enter f args) w := by
  obtain ⟨fn, h1, h2, h3⟩ := IsFn.h (P := P) (f := f)
  have h2' : ¬ (fn.name = "runtime.NumGoroutine") := by simpa using h2
  have h3' : ¬ (fn.body = none) := fun h => by simp [h] at h3
  simp [callFunc, h1, h2', h3']

inductive CoL (hp : Heap) : List AV → List AV → Prop
  | nil : CoL hp [] []
  | cons {a a' : AV} {l l' : List AV} (c : Co hp a a') (k : CoL hp l l') : CoL hp (a :: l) (a' :: l')

theorem CoL.at {w : World} {S : Nat → Prop} {hp : Heap} (r : HRel w S hp) : ∀ {l l' : List AV}, CoL hp l l' → ∀ {vs : List Value}, l.length = vs.length → AtA w S l vs.toArray → l'.length = vs.length ∧ AtA w S l' vs.toArray
  | [], _, .nil, vs, hl, h => ⟨hl, h⟩
  | a :: l, _, .cons (a' := a') (l' := l') c k, vs, hl, h => by
    match vs, hl with
    | v :: vs, hl =>
      obtain ⟨g1, g2⟩ := CoL.at r k (vs := vs) (by simpa using hl) (fun i c u hc hu => h (i + 1) c u (by simpa using hc) (by simpa using hu))
      refine ⟨by simpa using g1, fun i c u hc hu => ?_⟩
      match i with
      | 0 =>
        simp at hc hu
        subst hc
        subst hu
        exact Co.at ‹Co hp a a'› r (h 0 a v (by simp) (by simp))
      | i + 1 => exact g2 i c u (by simpa using hc) (by simpa using hu)

section rules
variable {P : Program} {all : Array Oper} {rest : List Oper} {n : Nat} {tm : List (Nat × AV)} {hp : Heap} {Q : St → Prop} {d : Nat} {ty : TypeId} {pos : String} {af : Array Edge}

theorem evL_vals {w : World} {S : Nat → Prop} {σ : St} {a : Act} (r : StRel w S σ a) {xs : List Operand} {l : List AV} (h : evL σ.tm xs = some l) : l.length = (xs.map a.eval).length ∧ AtA w S l (xs.map a.eval).toArray := by
  obtain ⟨h1, h2⟩ := evL_at r h
  exact ⟨by simp [h1], fun i c v hc hv => h2 i c v hc (by simpa using hv)⟩

theorem run_exec_call {f : FuncId} {args : List Operand} {ts : Array TypeId} {dd : Option Nat} [IsFn P f] (a : Act) (w : World) :
    (execOp a.eval ⟨dd, .call { callee := .value (.func f), args := args.toArray, argTypes := ts }, ty, pos, af, none⟩).run P w = .ok (.enter f (args.map a.eval).toArray) w := by
  simp [execOp, resolve, Act.eval, Deferred.ofValue, invoke, run_callFunc]

theorem run_exec_callv {f : FuncId} {x : Operand} {args : List Operand} {ts : Array TypeId} {dd : Option Nat} {caps : Array Value} [IsFn P f] (a : Act) (w : World) (hx : a.eval x = .func (.func f) #[] caps) :
    (execOp a.eval ⟨dd, .call { callee := .value x, args := args.toArray, argTypes := ts }, ty, pos, af, none⟩).run P w = .ok (.enter f ((args.map a.eval) ++ caps.toList).toArray) w := by
  simp [execOp, resolve, hx, Deferred.ofValue, invoke, run_callFunc]

/-- A call, its heap a part of ours. -/
theorem r_call {f : FuncId} {args : List Operand} {ts : Array TypeId} {l l' : List AV} {h0 hr : Heap} {Qc : AV → Heap → Prop} [IsFn P f] (hl : evL tm args = some l) (c : ACall P f l' h0 Qc) (co : CoL hp l l') (hs : hp.Perm (h0 ++ hr)) (hn : Nat.blt d n = true)
    (kk : ∀ r h', Qc r h' → ARun P all rest ⟨n, (d, r) :: tm, h' ++ hr⟩ Q) : ARun P all (⟨some d, .call { callee := .value (.func f), args := args.toArray, argTypes := ts }, ty, pos, af, none⟩ :: rest) ⟨n, tm, hp⟩ Q := by
  refine ARun.callx rfl fun w S a r => ⟨f, _, run_exec_call a w, ?_⟩
  obtain ⟨g1, g2⟩ := evL_vals (σ := ⟨n, tm, hp⟩) r hl
  obtain ⟨g3, g4⟩ := CoL.at r.hp co g1 g2
  have rp := r.hp.perm hs
  refine (c.frame hr w S _ rp (by simpa using g3) g4).mono ?_
  rintro e w' ⟨v, rr, h', S', rfl, ⟨h1, rfl, hq⟩, h3, h4, h5⟩
  have hkeep := h5.keep
  have ev : Evo w S hp w' S' (h1 ++ hr) := { h5 with
    other := fun m hm hh => h5.other m hm (fun ⟨x, hx, hb⟩ => hh ⟨x, hs.mem_iff.2 hx, hb⟩)
    new := fun m hm => (h5.new m hm).imp (fun ⟨x, hx, hb⟩ => ⟨x, hs.mem_iff.2 hx, hb⟩) id }
  exact ⟨v, S', ⟨n, (d, rr) :: tm, h1 ++ hr⟩, rfl, (r.heap hkeep h4).put hn h3, ev, kk rr h1 hq⟩

/-- A call of a function that needs nothing of our heap. -/
theorem r_call0 {f : FuncId} {args : List Operand} {ts : Array TypeId} {l l' : List AV} {Qc : AV → Heap → Prop} [IsFn P f] (hl : evL tm args = some l) (c : ACall P f l' [] Qc) (co : CoL hp l l') (hn : Nat.blt d n = true)
    (kk : ∀ r h', Qc r h' → ARun P all rest ⟨n, (d, r) :: tm, h' ++ hp⟩ Q) : ARun P all (⟨some d, .call { callee := .value (.func f), args := args.toArray, argTypes := ts }, ty, pos, af, none⟩ :: rest) ⟨n, tm, hp⟩ Q :=
  r_call hl c co (List.Perm.refl _) hn kk

theorem Del.perm {h h' : Heap} {b : Bk} {o : Ob} (u : Del h b o h') : h.Perm ([(b, o)] ++ h') := by
  obtain ⟨p, q, rfl, rfl⟩ := u.split
  exact List.perm_middle

/-- .. that needs one entry of it. -/
theorem r_call1 {f : FuncId} {args : List Operand} {ts : Array TypeId} {l l' : List AV} {b : Bk} {o : Ob} {hr : Heap} {Qc : AV → Heap → Prop} [IsFn P f] (hl : evL tm args = some l) (c : ACall P f l' [(b, o)] Qc) (co : CoL hp l l') (u : Del hp b o hr) (hn : Nat.blt d n = true)
    (kk : ∀ r h', Qc r h' → ARun P all rest ⟨n, (d, r) :: tm, h' ++ hr⟩ Q) : ARun P all (⟨some d, .call { callee := .value (.func f), args := args.toArray, argTypes := ts }, ty, pos, af, none⟩ :: rest) ⟨n, tm, hp⟩ Q :=
  r_call hl c co u.perm hn kk

/-- A call of a function value. -/
theorem r_callv {f : FuncId} {x : Operand} {args : List Operand} {ts : Array TypeId} {caps l l' : List AV} {h0 hr : Heap} {Qc : AV → Heap → Prop} [IsFn P f] (hx : evA tm x = some (.func (.func f) caps)) (hl : evL tm args = some l) (c : ACall P f l' h0 Qc) (co : CoL hp (l ++ caps) l') (hs : hp.Perm (h0 ++ hr)) (hn : Nat.blt d n = true)
    (kk : ∀ r h', Qc r h' → ARun P all rest ⟨n, (d, r) :: tm, h' ++ hr⟩ Q) : ARun P all (⟨some d, .call { callee := .value x, args := args.toArray, argTypes := ts }, ty, pos, af, none⟩ :: rest) ⟨n, tm, hp⟩ Q := by
  refine ARun.callx rfl fun w S a r => ?_
  obtain ⟨cv, e1, e2, e3⟩ := (evA_at (σ := ⟨n, tm, hp⟩) r hx).func_inv
  refine ⟨f, _, run_exec_callv a w e1, ?_⟩
  obtain ⟨g1, g2⟩ := evL_vals (σ := ⟨n, tm, hp⟩) r hl
  obtain ⟨g3, g4⟩ := CoL.at r.hp co (vs := args.map a.eval ++ cv.toList) (by simp [g1, e2]) (AtA_cons g1 g2 (by simpa using e3))
  have rp := r.hp.perm hs
  refine (c.frame hr w S _ rp (by simpa using g3) g4).mono ?_
  rintro e w' ⟨v, rr, h', S', rfl, ⟨h1, rfl, hq⟩, h3, h4, h5⟩
  have ev : Evo w S hp w' S' (h1 ++ hr) := { h5 with
    other := fun m hm hh => h5.other m hm (fun ⟨x, hx, hb⟩ => hh ⟨x, hs.mem_iff.2 hx, hb⟩)
    new := fun m hm => (h5.new m hm).imp (fun ⟨x, hx, hb⟩ => ⟨x, hs.mem_iff.2 hx, hb⟩) id }
  exact ⟨v, S', ⟨n, (d, rr) :: tm, h1 ++ hr⟩, rfl, (r.heap h5.keep h4).put hn h3, ev, kk rr h1 hq⟩

/-! a call that looks into arrays which stay ours: its results are plain -/
def AV.noL1 : AV → Bool
  | .int _ _ | .bool _ | .str _ | .nil | .raw _ => true
  | _ => false
def noLL : List AV → Bool
  | [] => true
  | c :: r => c.noL1 && noLL r
def AV.noL2 : AV → Bool
  | .agg cs => noLL cs
  | v => v.noL1
def noLT : List AV → Bool
  | [] => true
  | c :: r => c.noL2 && noLT r
def AV.noL : AV → Bool
  | .agg cs => noLL cs
  | .tup cs => noLT cs
  | v => v.noL1

theorem noL1x_at {w w' : World} {S S' : Nat → Prop} {av : AV} {v : Value} (h : At w S av v) (hn : av.noL1 = true) : At w' S' av v := by
  cases h <;> first | (simp [AV.noL1] at hn; done) | constructor
theorem noLL_mem : ∀ {cs : List AV}, noLL cs = true → ∀ c ∈ cs, c.noL1 = true
  | [], _, c, hc => by simp at hc
  | x :: r, h, c, hc => by
    simp only [noLL, Bool.and_eq_true] at h
    rcases List.mem_cons.1 hc with rfl | hc
    · exact h.1
    · exact noLL_mem h.2 c hc
theorem noLT_mem : ∀ {cs : List AV}, noLT cs = true → ∀ c ∈ cs, c.noL2 = true
  | [], _, c, hc => by simp at hc
  | x :: r, h, c, hc => by
    simp only [noLT, Bool.and_eq_true] at h
    rcases List.mem_cons.1 hc with rfl | hc
    · exact h.1
    · exact noLT_mem h.2 c hc
theorem noL2_at {w w' : World} {S S' : Nat → Prop} {av : AV} {v : Value} (h : At w S av v) (hn : av.noL2 = true) : At w' S' av v := by
  cases av with
  | agg cs =>
    cases h with
    | agg _ vs hl h => exact .agg cs vs hl fun i c u hc hu => noL1x_at (h i c u hc hu) (noLL_mem hn c (List.mem_of_getElem? hc))
  | _ => exact noL1x_at h hn
theorem noL_at {w w' : World} {S S' : Nat → Prop} {av : AV} {v : Value} (h : At w S av v) (hn : av.noL = true) : At w' S' av v := by
  cases h with
  | agg cs vs hl h => exact .agg cs vs hl fun i c u hc hu => noL1x_at (h i c u hc hu) (noLL_mem hn c (List.mem_of_getElem? hc))
  | tup cs vs hl h => exact .tup cs vs hl fun i c u hc hu => noL2_at (h i c u hc hu) (noLT_mem hn c (List.mem_of_getElem? hc))
  | int k n => exact .int k n
  | bool b => exact .bool b
  | str s => exact .str s
  | nil => exact .nil
  | raw v => exact .raw v
  | _ => simp [AV.noL, AV.noL1] at hn

inductive CoB (hp : Heap) : AV → AV → Prop
  | co {a a' : AV} (c : Co hp a a') : CoB hp a a'
  | arr (sz : Nat) (b : Bk) (len : Nat) (xs : List AV) (f : Fnd hp b (.arr sz xs)) (h : len = xs.length) : CoB hp (.sl sz b 0 len) (.list sz xs)
  | part (sz : Nat) (b : Bk) (off len : Nat) (xs : List AV) (f : Fnd hp b (.arr sz xs)) (h : off + len ≤ xs.length) : CoB hp (.sl sz b off len) (.list sz ((xs.drop off).take len))
  | box (b : Bk) (cs cs' : List AV) (f : Fnd hp b (.cells cs)) (hl : cs'.length = cs.length) (h : ∀ (i : Nat) c c', cs[i]? = some c → cs'[i]? = some c' → CoB hp c c') : CoB hp (.ptr b 0) (.rptr cs')
  | func (fn : Fn) (cs cs' : List AV) (hl : cs'.length = cs.length) (h : ∀ (i : Nat) c c', cs[i]? = some c → cs'[i]? = some c' → CoB hp c c') : CoB hp (.func fn cs) (.func fn cs')
inductive CoBL (hp : Heap) : List AV → List AV → Prop
  | nil : CoBL hp [] []
  | cons {a a' : AV} {l l' : List AV} (c : CoB hp a a') (k : CoBL hp l l') : CoBL hp (a :: l) (a' :: l')

/-- All that is immutable while a call looks: the arrays of our heap, too. -/
def SB (S : Nat → Prop) (hp : Heap) : Nat → Prop := fun m => S m ∨ Has hp m

theorem CoBL.each {hp : Heap} : ∀ {l l' : List AV}, CoBL hp l l' → l'.length = l.length ∧ ∀ (i : Nat) c c', l[i]? = some c → l'[i]? = some c' → CoB hp c c'
  | [], _, .nil => ⟨rfl, fun i c c' h => by simp at h⟩
  | _ :: _, _, .cons c k => by
    obtain ⟨g1, g2⟩ := CoBL.each k
    refine ⟨by simp [g1], fun i c1 c2 h1 h2 => ?_⟩
    match i with
    | 0 => simp at h1 h2; subst h1; subst h2; assumption
    | i + 1 => exact g2 i c1 c2 (by simpa using h1) (by simpa using h2)
theorem CoB.boxL {hp : Heap} (b : Bk) (cs cs' : List AV) (f : Fnd hp b (.cells cs)) (k : CoBL hp cs cs') : CoB hp (.ptr b 0) (.rptr cs') := .box b cs cs' f k.each.1 k.each.2
theorem CoB.funcL {hp : Heap} (fn : Fn) (cs cs' : List AV) (k : CoBL hp cs cs') : CoB hp (.func fn cs) (.func fn cs') := .func fn cs cs' k.each.1 k.each.2

theorem CoB.at {w : World} {S : Nat → Prop} {hp : Heap} {a a' : AV} {v : Value} (c : CoB hp a a') (r : HRel w S hp) (h : At w S a v) : At w (SB S hp) a' v := by
  have mono : ∀ m, S m → SB S hp m ∧ w.heap[m]? = w.heap[m]? := fun m hm => ⟨.inl hm, rfl⟩
  induction c generalizing v with
  | box b cs cs' f hl _ ih =>
    cases h with
    | ptr _ _ n hb =>
      obtain ⟨h1, n', vs, E, hb', hh, hs, ha⟩ := r.holds _ f.mem
      obtain rfl := Option.some.inj (hb.symm.trans hb')
      refine .rptr cs' ⟨n, 0, none⟩ vs.toList (by simp [hl, hs]) (fun i c v hc hv => ?_) rfl (.inr ⟨_, f.mem, hb⟩) (fun i v hv => ?_)
      · have hi : i < cs.length := by rw [← hl]; exact (List.getElem?_eq_some_iff.1 hc).1
        exact ih i cs[i] c (by simp [hi]) hc (ha i _ _ (by simp [hi]) (by simpa using hv))
      · rw [cell_at hh]; simpa using hv
  | func fn cs cs' hl _ ih =>
    cases h with
    | func _ _ vs hl2 h2 =>
      refine .func fn cs' vs (by rw [hl, hl2]) (fun i c v hc hv => ?_)
      have hi : i < cs.length := by rw [← hl]; exact (List.getElem?_eq_some_iff.1 hc).1
      exact ih i cs[i] c (by simp [hi]) hc (h2 i _ _ (by simp [hi]) hv)
  | co c => exact (c.at r h).mono mono
  | arr sz b len xs f hl =>
    obtain ⟨h0, a, c, nvs, e1, h1, h2, h3⟩ := (Src.whole (hp := hp) (sz := sz) b len xs (.inl f) hl).at r h
    exact at_list_of_src ⟨h0, a, c, nvs, e1, h1, h2.mono mono, h3⟩ (fun ad l c hv hp => let ⟨g1, g2⟩ := (sl_block h).1 ad l c hv hp; ⟨g1, .inr ⟨_, f.mem, g2⟩⟩) (sl_block h).2
  | part sz b off len xs f hl =>
    obtain ⟨h0, a, c, nvs, e1, h1, h2, h3⟩ := (Src.part (hp := hp) (sz := sz) b off len xs (.inl f) hl).at r h
    exact at_list_of_src ⟨h0, a, c, nvs, e1, h1, h2.mono mono, h3⟩ (fun ad l c hv hp => let ⟨g1, g2⟩ := (sl_block h).1 ad l c hv hp; ⟨g1, .inr ⟨_, f.mem, g2⟩⟩) (sl_block h).2

theorem CoBL.at {w : World} {S : Nat → Prop} {hp : Heap} (r : HRel w S hp) : ∀ {l l' : List AV}, CoBL hp l l' → ∀ {vs : List Value}, l.length = vs.length → AtA w S l vs.toArray → l'.length = vs.length ∧ AtA w (SB S hp) l' vs.toArray
  | [], _, .nil, vs, hl, h => ⟨hl, fun i c v hc => by simp at hc⟩
  | a :: l, _, .cons (a' := a') (l' := l') c k, vs, hl, h => by
    match vs, hl with
    | v :: vs, hl =>
      obtain ⟨g1, g2⟩ := CoBL.at r k (vs := vs) (by simpa using hl) (fun i c u hc hu => h (i + 1) c u (by simpa using hc) (by simpa using hu))
      refine ⟨by simpa using g1, fun i c u hc hu => ?_⟩
      match i with
      | 0 =>
        simp at hc hu
        subst hc
        subst hu
        exact CoB.at ‹CoB hp a a'› r (h 0 a v (by simp) (by simp))
      | i + 1 => exact g2 i c u (by simpa using hc) (by simpa using hu)

/-- What a call without a heap does to the world: new blocks. -/
theorem Evo.toExt {w w' : World} {S S' : Nat → Prop} {h' : Heap} (e : Evo w S [] w' S' h') : Ext w w' :=
  ⟨e.os, e.tape, e.output, e.size, fun m hm => (e.other m hm (fun ⟨x, hx, _⟩ => by simp at hx)).1, e.drawn⟩

theorem hrel_nil {w : World} {S : Nat → Prop} (h : ∀ n, S n → n < w.heap.size) : HRel w S [] := ⟨by simp, by simp, by simp, h⟩

theorem r_callB {f : FuncId} {args : List Operand} {ts : Array TypeId} {l l' : List AV} {Qc : AV → Heap → Prop} [IsFn P f] (hl : evL tm args = some l) (c : ACall P f l' [] Qc) (co : CoBL hp l l') (hn : Nat.blt d n = true)
    (kk : ∀ r h', Qc r h' → r.noL = true ∧ ARun P all rest ⟨n, (d, r) :: tm, hp⟩ Q) : ARun P all (⟨some d, .call { callee := .value (.func f), args := args.toArray, argTypes := ts }, ty, pos, af, none⟩ :: rest) ⟨n, tm, hp⟩ Q := by
  refine ARun.callx rfl fun w S a r => ⟨f, _, run_exec_call a w, ?_⟩
  obtain ⟨g1, g2⟩ := evL_vals (σ := ⟨n, tm, hp⟩) r hl
  obtain ⟨g3, g4⟩ := CoBL.at r.hp co g1 g2
  refine (c w (SB S hp) _ (hrel_nil fun m hm => hm.elim (r.hp.slt m) fun h => r.hp.lt h) (by simpa using g3) g4).mono ?_
  rintro e w' ⟨v, rr, h', S', rfl, hq, h3, h4, h5⟩
  obtain ⟨k1, k2⟩ := kk rr h' hq
  have ex := h5.toExt
  exact ⟨v, S, ⟨n, (d, rr) :: tm, hp⟩, rfl, (r.ext ex).put hn (noL_at h3 k1), Evo.ext r.hp.slt ex, k2⟩

/-! ### regions that draw their order and only look -/
def AQ (P : Program) (all : Array Oper) (l : List Oper) (σ : St) (Q : St → Prop) : Prop :=
  ∀ w S a, StRel w S σ a → wpQuiet P all (Ext w) (fun a' => ∃ tm', Q ⟨σ.n, tm', σ.hp⟩ ∧ StRel w S ⟨σ.n, tm', σ.hp⟩ a') l a

theorem AQ.nil (h : Q ⟨n, tm, hp⟩) : AQ P all [] ⟨n, tm, hp⟩ Q := fun w S a r => wpQuiet_nil ⟨tm, h, r⟩

theorem AQ.qv {av : AV} {op : Op} (q : QV P ⟨some d, op, ty, pos, af, none⟩ ⟨n, tm, hp⟩ av) (hn : Nat.blt d n = true) (k : AQ P all rest ⟨n, (d, av) :: tm, hp⟩ Q) : AQ P all (⟨some d, op, ty, pos, af, none⟩ :: rest) ⟨n, tm, hp⟩ Q := by
  intro w S a r
  obtain ⟨v, h1, h2⟩ := q w S a r
  show (if Region.wanted _ _ then _ else _)
  rw [if_pos (by simp [Region.wanted])]
  refine ⟨v, fun w' hw' => ?_, k w S _ (r.put hn h2)⟩
  show Oper.quietUpon P (Ext w) w' v _
  rw [h1 w' hw']
  exact ⟨rfl, rfl⟩

theorem AQ.guard_no {op : Op} {j : Nat} {want b : Bool} {s : Nat} (hj : (all[j]?).bind (·.dst) = some s) (hs : lk tm s = some (.bool b)) (hb : b = !want) (hn : Nat.blt d n = true)
    (k : AQ P all rest ⟨n, (d, .raw undef) :: tm, hp⟩ Q) : AQ P all (⟨some d, op, ty, pos, af, some (j, want)⟩ :: rest) ⟨n, tm, hp⟩ Q := by
  intro w S a r
  obtain ⟨v, h1, h2⟩ := r.tm s _ hs
  cases h2
  show (if Region.wanted _ _ then _ else _)
  rw [if_neg (by simp [Region.wanted, yielded, hj, h1, hb])]
  exact k w S _ (r.put hn (.raw undef))

theorem AQ.guard_yes {op : Op} {j : Nat} {want b : Bool} {s : Nat} {dd : Option Nat} (hj : (all[j]?).bind (·.dst) = some s) (hs : lk tm s = some (.bool b)) (hb : b = want)
    (k : AQ P all (⟨dd, op, ty, pos, af, none⟩ :: rest) ⟨n, tm, hp⟩ Q) : AQ P all (⟨dd, op, ty, pos, af, some (j, want)⟩ :: rest) ⟨n, tm, hp⟩ Q := by
  intro w S a r
  obtain ⟨v, h1, h2⟩ := r.tm s _ hs
  cases h2
  have := k w S a r
  change (if Region.wanted _ _ then _ else _) at this
  rw [if_pos (by simp [Region.wanted])] at this
  show (if Region.wanted _ _ then _ else _)
  rw [if_pos (by simp [Region.wanted, yielded, hj, h1, hb])]
  exact this

def exV1 : AV → Option Value
  | .int k n => some (.int k n)
  | .bool b => some (.bool b)
  | .str s => some (.string ⟨s.toArray⟩)
  | .raw v => some v
  | _ => none
def exVL : List AV → Option (List Value)
  | [] => some []
  | c :: r => match exV1 c, exVL r with
    | some v, some l => some (v :: l)
    | _, _ => none
def exV : AV → Option Value
  | .agg cs => (exVL cs).map fun l => .agg l.toArray
  | .tup cs => (exVL cs).map fun l => .tuple l.toArray
  | v => exV1 v

theorem exV1x_at {w : World} {S : Nat → Prop} {av : AV} {v V : Value} (h : At w S av v) (he : exV1 av = some V) : v = V := by
  cases h <;> first | (simp [exV1] at he; done) | (simp [exV1] at he; exact he)
theorem exVL_at {w : World} {S : Nat → Prop} : ∀ {cs : List AV} {L vs : List Value}, exVL cs = some L → cs.length = vs.length → (∀ (i : Nat) c v, cs[i]? = some c → vs[i]? = some v → At w S c v) → vs = L
  | [], L, vs, he, hl, h => by simp [exVL] at he; subst he; exact List.eq_nil_of_length_eq_zero (by simpa using hl.symm)
  | c :: cs, L, vs, he, hl, h => by
    match vs, hl with
    | v :: vs, hl =>
      simp only [exVL] at he
      split at he
      · rename_i V L' h1 h2
        obtain rfl := Option.some.inj he
        have e1 := exV1x_at (h 0 c v rfl rfl) h1
        have e2 := exVL_at (vs := vs) h2 (by simpa using hl) (fun i c u hc hu => h (i + 1) c u (by simpa using hc) (by simpa using hu))
        rw [e1, e2]
      · cases he
theorem exV_at {w : World} {S : Nat → Prop} {av : AV} {v V : Value} (h : At w S av v) (he : exV av = some V) : v = V := by
  cases h with
  | agg cs vs hl h =>
    simp only [exV, Option.map_eq_some_iff] at he
    obtain ⟨L, h1, rfl⟩ := he
    have := exVL_at (vs := vs.toList) h1 (by simpa using hl) (fun i c u hc hu => h i c u hc (by simpa using hu))
    rw [← this]
  | tup cs vs hl h =>
    simp only [exV, Option.map_eq_some_iff] at he
    obtain ⟨L, h1, rfl⟩ := he
    have := exVL_at (vs := vs.toList) h1 (by simpa using hl) (fun i c u hc hu => h i c u hc (by simpa using hu))
    rw [← this]
  | int k n => simp [exV, exV1] at he; exact he
  | bool b => simp [exV, exV1] at he; exact he
  | str s => simp [exV, exV1] at he; exact he
  | raw v => simp [exV, exV1] at he; exact he
  | _ => simp [exV, exV1] at he

theorem exV_any {w : World} {S : Nat → Prop} {av : AV} {V : Value} (he : exV av = some V) : At w S av V := by
  have one : ∀ {c : AV} {v : Value}, exV1 c = some v → At w S c v := by
    intro c v h
    cases c <;> first | (simp [exV1] at h; done) | (simp [exV1] at h; subst h; constructor)
  have lst : ∀ {cs : List AV} {L : List Value}, exVL cs = some L → cs.length = L.length ∧ ∀ (i : Nat) c v, cs[i]? = some c → L[i]? = some v → At w S c v := by
    intro cs
    induction cs with
    | nil => intro L h; simp [exVL] at h; subst h; exact ⟨rfl, fun i c v hc => by simp at hc⟩
    | cons c cs ih =>
      intro L h
      simp only [exVL] at h
      split at h
      · rename_i V L' h1 h2
        obtain rfl := Option.some.inj h
        obtain ⟨g1, g2⟩ := ih h2
        refine ⟨by simp [g1], fun i c' v hc hv => ?_⟩
        match i with
        | 0 => simp at hc hv; subst hc; subst hv; exact one h1
        | i + 1 => exact g2 i c' v (by simpa using hc) (by simpa using hv)
      · cases h
  cases av with
  | agg cs =>
    simp only [exV, Option.map_eq_some_iff] at he
    obtain ⟨L, h1, rfl⟩ := he
    obtain ⟨g1, g2⟩ := lst h1
    exact .agg cs _ (by simp [g1]) fun i c v hc hv => g2 i c v hc (by simpa using hv)
  | tup cs =>
    simp only [exV, Option.map_eq_some_iff] at he
    obtain ⟨L, h1, rfl⟩ := he
    obtain ⟨g1, g2⟩ := lst h1
    exact .tup cs _ (by simp [g1]) fun i c v hc hv => g2 i c v hc (by simpa using hv)
  | _ => exact one he

theorem AQ.call {f : FuncId} {args : List Operand} {ts : Array TypeId} {l l' : List AV} {R : AV} {V : Value} {Qc : AV → Heap → Prop} [IsFn P f] (hl : evL tm args = some l) (c : ACall P f l' [] Qc) (co : CoBL hp l l') (hn : Nat.blt d n = true) (hR : ∀ r h', Qc r h' → r = R) (hV : exV R = some V)
    (k : AQ P all rest ⟨n, (d, R) :: tm, hp⟩ Q) : AQ P all (⟨some d, .call { callee := .value (.func f), args := args.toArray, argTypes := ts }, ty, pos, af, none⟩ :: rest) ⟨n, tm, hp⟩ Q := by
  intro w S a r
  show (if Region.wanted _ _ then _ else _)
  rw [if_pos (by simp [Region.wanted])]
  refine ⟨V, fun w' hw' => ?_, k w S _ (r.put hn (exV_any hV))⟩
  show Oper.quietUpon P (Ext w) w' V _
  rw [run_exec_call]
  refine ⟨rfl, ?_⟩
  have r' := r.ext hw'
  obtain ⟨g1, g2⟩ := evL_vals (σ := ⟨n, tm, hp⟩) r' hl
  obtain ⟨g3, g4⟩ := CoBL.at r'.hp co g1 g2
  refine (c w' (SB S hp) _ (hrel_nil fun m hm => hm.elim (r'.hp.slt m) fun h => r'.hp.lt h) (by simpa using g3) g4).mono ?_
  rintro e w'' ⟨v, rr, h', S', rfl, hq, h3, h4, h5⟩
  obtain rfl := hR rr h' hq
  rw [exV_at h3 hV]
  exact ⟨rfl, hw'.trans h5.toExt⟩

theorem ATodo.regionQ {R : St → Prop} {k : List It} {id : Nat} {l : List Oper} (hm : P.follows .mixedOrders = true) (hB : Region.lexB .any l.toArray = true) (h : AQ P l.toArray l ⟨n, tm, hp⟩ (ATodo P R k)) : ATodo P R (.code (.region id l.toArray true) :: k) ⟨n, tm, hp⟩ := by
  intro w S a r
  refine wp_region_quiet (C := Ext w) hm hB (Ext.draws w _ (Nat.le_succ _)) ?_
  have := h w S a r
  have mono : ∀ (l' : List Oper) (a : Act), wpQuiet P l.toArray (Ext w) (fun a' => ∃ tm', ATodo P R k ⟨n, tm', hp⟩ ∧ StRel w S ⟨n, tm', hp⟩ a') l' a →
      wpQuiet P l.toArray (Ext w) (fun a' => ∀ w', Ext w w' → GotE w S hp (TD P R k) .normal a' w') l' a := by
    intro l'
    induction l' with
    | nil =>
      rintro a ⟨tm', h1, h2⟩ w' hw'
      exact ⟨⟨n, tm', hp⟩, S, h1, h2.ext hw', Evo.ext h2.hp.slt hw'⟩
    | cons o l' ih =>
      intro a h
      unfold wpQuiet at h ⊢
      split
      · rename_i hw
        rw [if_pos hw] at h
        exact Oper.quiet_mono ih h
      · rename_i hw
        rw [if_neg hw] at h
        exact ih _ h
  simpa using mono l a this

end rules
end Go.Eng
