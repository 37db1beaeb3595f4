/- The engine, part 22: the rules for regions that draw their order and turn memory. No program in sight. -/
import Derived.Test.YtbcbhhbbejcnnaaEng21
set_option linter.unusedVariables false
namespace Go.Eng
open Go

theorem upon_use {P : Program} {o : Oper} {a : Act} {K0 K : Act → World → Prop} {G : Act → World → Prop} {Q' : Exit → Act → World → Prop} (hK : ∀ v w', K0 (a.put o.dst v) w' → K (a.put o.dst v) w') (hd : ∀ a' w', K0 a' w' → a'.defers = []) :
    ∀ r, o.upon P a K0 (NormalOnly G) r → o.upon P a K Q' r := by
  intro r h
  unfold Oper.upon at *
  split at h
  · exact hK _ _ h
  · exact hK _ _ h
  · rename_i d w'
    have := hd _ _ h
    cases hdst : o.dst <;> simp [Act.put, hdst] at this
  · refine Calls.mono h ?_
    intro e w' he
    cases e with
    | returned v => exact hK _ _ he
    | panicked c => cases he.1
    | outgrown => obtain ⟨a0, w0, h0⟩ := he; cases h0.1
  · exact Rows.mono h fun v w' hv => hK _ _ hv
  · cases h.1
  · exact h.elim

/-- A single operation, run: what follows of it. -/
theorem run_one {P : Program} {all : Array Oper} {o : Oper} {σ : St} {Q : St → Prop} (hg : o.guard = none) (h : ARun P all [o] σ Q) {w : World} {S : Nat → Prop} {a : Act} (r : StRel w S σ a) {K : Act → World → Prop} {Q' : Exit → Act → World → Prop}
    (hK : ∀ v w', Got w S σ.hp Q (a.put o.dst v) w' → K (a.put o.dst v) w') : o.wp P a w K Q' := by
  have := h w S a r
  unfold wpList at this
  rw [if_pos (by simp [Region.wanted, hg])] at this
  rcases this with h1 | ⟨_, a0, w0, h0, _⟩
  · refine upon_use (G := Got w S σ.hp Q) (fun v w' hh => hK v w' hh.2) (fun a' w' hh => ?_) _ h1
    obtain ⟨_, σ', S', _, hr, _⟩ := hh
    exact hr.defers
  · cases h0

variable {P : Program} {all : Array Oper} {n : Nat} {B : Heap} {tk : List Tok}

def dynC (x : Option AV) (c : (Nat → Bk) → Env) (d : Option Nat) (V : Bk → AV) (i : Nat) : (Nat → Bk) → Env := fun β => match x with | none => eputO (c β) d (some (V (β i))) | some _ => c β
inductive ATf (P : Program) (all : Array Oper) (n : Nat) (B : Heap) (tk : List Tok) (dy : List Nat) : Nat → List Oper → Env → ((Nat → Bk) → Env) → List (Option AV × (Bk → AV)) → Env → Prop
  | nil (i : Nat) (e : Env) (c : (Nat → Bk) → Env) : ATf P all n B tk dy i [] e c [] e
  | cons {i : Nat} {o : Oper} {l : List Oper} {e e' : Env} {c : (Nat → Bk) → Env} {D : List (Option AV × (Bk → AV))} {x : Option AV} {V : Bk → AV} (h : ∀ β, TStep P all n (readT tk i β ++ B) o (orE e (c β)) (tinT tk i β) V (fun b => toutT tk i (updB β i b))) (hv : ∀ av, x = some av → ∀ b, V b = av) (hx : x = none → dy.contains i = true)
      (k : ATf P all n B tk dy (i + 1) l (eputO e o.dst x) (dynC x c o.dst V i) D e') : ATf P all n B tk dy i (o :: l) e c ((x, V) :: D) e'

def dynS (β : Nat → Bk) : Nat → List Oper → List (Option AV × (Bk → AV)) → List (Nat × AV) → List (Nat × AV)
  | i, o :: l, (none, V) :: D, a => match o.dst with
    | some d => dynS β (i + 1) l D ((d, V (β i)) :: a)
    | none => dynS β (i + 1) l D a
  | i, _ :: l, (some _, _) :: D, a => dynS β (i + 1) l D a
  | _, _, _, a => a

/-- The operations of the head that are left; what is said of the slots; the slots that hold new memory. -/
def AT (P : Program) (all : Array Oper) (n : Nat) (B : Heap) (tk : List Tok) (dy : List Nat) (i : Nat) (l : List Oper) (tm : List (Nat × AV)) (acc : (Nat → Bk) → List (Nat × AV)) (Q : (Nat → Bk) → List (Nat × AV) → Prop) : Prop :=
  ∃ D tm', ATf P all n B tk dy i l (lk tm) (fun β => lk (acc β)) D (lk tm') ∧ ∀ β, Q β (dynS β i l D (acc β) ++ tm')

section rules
variable {dy : List Nat} {i : Nat} {rest : List Oper} {tm : List (Nat × AV)} {acc : (Nat → Bk) → List (Nat × AV)} {Q : (Nat → Bk) → List (Nat × AV) → Prop} {d : Nat} {ty : TypeId} {pos : String} {af : Array Edge} {op : Op}

theorem AT.nil {F : (Nat → Bk) → List (Nat × AV)} (hF : ∀ β, F β = acc β ++ tm) (h : ∀ β, Q β (F β)) : AT P all n B tk dy i [] tm acc Q :=
  ⟨[], tm, .nil _ _ _, fun β => by rw [show dynS β i [] [] (acc β) = acc β from rfl, ← hF]; exact h β⟩

/-- A value that is the same whatever is made. -/
theorem AT.sta {o : Oper} {d : Nat} {av : AV} (hd : o.dst = some d) (h : ∀ β, TStep P all n (readT tk i β ++ B) o (orE (lk tm) (lk (acc β))) (tinT tk i β) (fun _ => av) (fun b => toutT tk i (updB β i b))) (k : AT P all n B tk dy (i + 1) rest ((d, av) :: tm) acc Q) : AT P all n B tk dy i (o :: rest) tm acc Q := by
  obtain ⟨D, tm', k1, k2⟩ := k
  refine ⟨(some av, fun _ => av) :: D, tm', .cons h (fun av' e b => Option.some.inj e) (fun e => by cases e) ?_, k2⟩
  have : eputO (lk tm) o.dst (some av) = lk ((d, av) :: tm) := by
    rw [lk_cons, hd]; rfl
  rw [this]; exact k1
theorem AT.dyn {o : Oper} {d : Nat} {V : Bk → AV} (hd : o.dst = some d) (hnd : lk tm d = none) (hdy : dy.contains i = true) (h : ∀ β, TStep P all n (readT tk i β ++ B) o (orE (lk tm) (lk (acc β))) (tinT tk i β) V (fun b => toutT tk i (updB β i b))) (k : AT P all n B tk dy (i + 1) rest tm (fun β => (d, V (β i)) :: acc β) Q) : AT P all n B tk dy i (o :: rest) tm acc Q := by
  obtain ⟨D, tm', k1, k2⟩ := k
  refine ⟨(none, V) :: D, tm', .cons h (fun av' e b => by cases e) (fun _ => hdy) ?_, fun β => ?_⟩
  · have : eputO (lk tm) o.dst none = lk tm := by
      funext s
      rw [hd]
      simp only [eputO]
      split
      · rename_i e; subst e; exact hnd.symm
      · rfl
    rw [this]
    have e2 : dynC none (fun β => lk (acc β)) o.dst V i = fun β => lk ((d, V (β i)) :: acc β) := by
      funext β
      simp only [dynC, hd]
      rw [lk_cons]; rfl
    rw [e2]; exact k1
  · have := k2 β
    simp only [dynS, hd]
    exact this
theorem AT.sto {o : Oper} (hd : o.dst = none) (h : ∀ β, TStep P all n (readT tk i β ++ B) o (orE (lk tm) (lk (acc β))) (tinT tk i β) (fun _ => .raw undef) (fun b => toutT tk i (updB β i b))) (k : AT P all n B tk dy (i + 1) rest tm acc Q) : AT P all n B tk dy i (o :: rest) tm acc Q := by
  obtain ⟨D, tm', k1, k2⟩ := k
  refine ⟨(some (.raw undef), fun _ => .raw undef) :: D, tm', .cons h (fun av' e b => Option.some.inj e) (fun e => by cases e) ?_, k2⟩
  rw [hd]; exact k1

def noTokB (tk : List Tok) (i j : Nat) : Bool := tk.all fun t => (match t.prod with | some p => Nat.blt p i || Nat.ble j p | none => true) && (match t.cons with | some p => Nat.blt p i || Nat.ble j p | none => true) && t.rds.all fun p => Nat.blt p i || Nat.ble j p
theorem noTok_in {i j : Nat} (h : noTokB tk i j = true) {k : Nat} (h1 : i ≤ k) (h2 : k < j) (β : Nat → Bk) : tinT tk k β = [] := by
  unfold tinT
  rw [List.map_eq_nil_iff, List.filter_eq_nil_iff]
  intro t ht hc
  have := List.all_eq_true.1 h t ht
  rw [Bool.and_eq_true, Bool.and_eq_true] at this
  replace this := this.1
  unfold isC at hc
  split at hc
  · rename_i c hcc
    obtain rfl : c = k := Nat.eq_of_beq_eq_true hc
    have := this.2
    rw [hcc] at this
    simp at this; omega
  · cases hc
theorem noTok_out {i j : Nat} (h : noTokB tk i j = true) {k : Nat} (h1 : i ≤ k) (h2 : k < j) (β : Nat → Bk) : toutT tk k β = [] := by
  unfold toutT
  rw [List.map_eq_nil_iff, List.filter_eq_nil_iff]
  intro t ht hc
  have := List.all_eq_true.1 h t ht
  rw [Bool.and_eq_true, Bool.and_eq_true] at this
  replace this := this.1
  unfold isP at hc
  split at hc
  · rename_i c hcc
    obtain rfl : c = k := Nat.eq_of_beq_eq_true hc
    have := this.1
    rw [hcc] at this
    simp at this; omega
  · cases hc

theorem noTok_rd {i j : Nat} (h : noTokB tk i j = true) {k : Nat} (h1 : i ≤ k) (h2 : k < j) (β : Nat → Bk) : readT tk k β = [] := by
  unfold readT
  rw [List.map_eq_nil_iff, List.filter_eq_nil_iff]
  intro t ht hc
  have := List.all_eq_true.1 h t ht
  rw [Bool.and_eq_true] at this
  have h3 := List.all_eq_true.1 this.2 k (by simpa [isR] using hc)
  simp at h3; omega
theorem eputO_some (e : Env) (d : Option Nat) (av : AV) : eputO e d (some av) = eput e d av := by
  cases d <;> rfl

theorem mv_tstep {o : Oper} {e : Env} {av : AV} (hd : ∀ d, o.dst = some d → d < n) (hg : Wanted all o e true) (h : MV P all n o e B av) : TStep P all n B o e [] (fun _ => av) (fun _ => []) := by
  refine ⟨hd, .inl ⟨hg, fun w S a h1 h2 h3 h4 K Q hK => ?_⟩⟩
  exact h w S a h1 h2 h3 h4 K Q (fun v w' S' hgr hat => hK ⟨none, 0⟩ v w' S' (hgr.evo h3.slt _) (h3.grow hgr) hat)

theorem am_at : ∀ {l1 : List Oper} {e e' : Env} {i : Nat} (h : AMf P all n B l1 e e') (hn : noTokB tk i (i + l1.length) = true) {l2 : List Oper} {c : (Nat → Bk) → Env} {D : List (Option AV × (Bk → AV))} {e2 : Env}, ATf P all n B tk dy (i + l1.length) l2 e' c D e2 →
    ∃ D1, ATf P all n B tk dy i (l1 ++ l2) e c (D1 ++ D) e2 ∧ D1.length = l1.length ∧ ∀ x ∈ D1, x.1.isSome = true := by
  intro l1 e e' i h
  induction h generalizing i with
  | nil e => intro hn l2 c D e2 k; exact ⟨[], by simpa using k, rfl, by simp⟩
  | @run o l e e' av hg hm hd k ih =>
    intro hn l2 c D e2 kk
    have hn' : noTokB tk (i + 1) (i + 1 + l.length) = true := by
      unfold noTokB at hn ⊢
      rw [List.all_eq_true] at hn ⊢
      intro t ht
      have := hn t ht
      rw [Bool.and_eq_true, Bool.and_eq_true] at this ⊢
      refine ⟨⟨?_, ?_⟩, ?_⟩
      · have h1 := this.1.1
        cases hp : t.prod <;> rw [hp] at h1 <;> simp_all <;> omega
      · have h1 := this.1.2
        cases hp : t.cons <;> rw [hp] at h1 <;> simp_all <;> omega
      · have h1 := this.2
        rw [List.all_eq_true] at h1 ⊢
        intro p hp
        have := h1 p hp
        simp at this ⊢; omega
    obtain ⟨D1, a1, a2, a3⟩ := ih hn' (l2 := l2) (D := D) (e2 := e2) (by rw [show i + 1 + l.length = i + (o :: l).length by simp; omega]; exact kk)
    refine ⟨(some av, fun _ => av) :: D1, ?_, by simp [a2], ?_⟩
    · refine .cons (fun β => ?_) (fun av' e b => Option.some.inj e) (fun e => by cases e) (by rw [eputO_some]; exact a1)
      rw [noTok_in hn (Nat.le_refl _) (by simp), noTok_rd hn (Nat.le_refl _) (by simp), show (fun b => toutT tk i (updB β i b)) = fun _ => [] from funext fun b => noTok_out hn (Nat.le_refl _) (by simp) _]
      exact (mv_tstep hd hg hm).up
    · intro x hx
      rcases List.mem_cons.1 hx with rfl | hx
      · rfl
      · exact a3 x hx
  | @pass o l e e' hg hd k ih =>
    intro hn l2 c D e2 kk
    have hn' : noTokB tk (i + 1) (i + 1 + l.length) = true := by
      unfold noTokB at hn ⊢
      rw [List.all_eq_true] at hn ⊢
      intro t ht
      have := hn t ht
      rw [Bool.and_eq_true, Bool.and_eq_true] at this ⊢
      refine ⟨⟨?_, ?_⟩, ?_⟩
      · have h1 := this.1.1
        cases hp : t.prod <;> rw [hp] at h1 <;> simp_all <;> omega
      · have h1 := this.1.2
        cases hp : t.cons <;> rw [hp] at h1 <;> simp_all <;> omega
      · have h1 := this.2
        rw [List.all_eq_true] at h1 ⊢
        intro p hp
        have := h1 p hp
        simp at this ⊢; omega
    obtain ⟨D1, a1, a2, a3⟩ := ih hn' (l2 := l2) (D := D) (e2 := e2) (by rw [show i + 1 + l.length = i + (o :: l).length by simp; omega]; exact kk)
    refine ⟨(some (.raw undef), fun _ => .raw undef) :: D1, ?_, by simp [a2], ?_⟩
    · refine .cons (fun β => ?_) (fun av' e b => Option.some.inj e) (fun e => by cases e) (by rw [eputO_some]; exact a1)
      rw [noTok_in hn (Nat.le_refl _) (by simp), noTok_rd hn (Nat.le_refl _) (by simp), show (fun b => toutT tk i (updB β i b)) = fun _ => [] from funext fun b => noTok_out hn (Nat.le_refl _) (by simp) _]
      exact ⟨hd, .inr ⟨hg.up, fun b => ⟨rfl, rfl⟩⟩⟩
    · intro x hx
      rcases List.mem_cons.1 hx with rfl | hx
      · rfl
      · exact a3 x hx

theorem dynS_some (β : Nat → Bk) : ∀ {l1 : List Oper} {D1 : List (Option AV × (Bk → AV))} (i : Nat) {l2 : List Oper} {D : List (Option AV × (Bk → AV))} (a : List (Nat × AV)), D1.length = l1.length → (∀ x ∈ D1, x.1.isSome = true) → dynS β i (l1 ++ l2) (D1 ++ D) a = dynS β (i + l1.length) l2 D a
  | [], [], i, l2, D, a, _, _ => by simp
  | o :: l1, (some av, V) :: D1, i, l2, D, a, h, hs => by
    simp only [List.cons_append, dynS]
    rw [dynS_some β (i + 1) a (by simpa using h) (fun x hx => hs x (by simp [hx]))]
    simp [Nat.add_assoc, Nat.add_comm 1]
  | o :: l1, (none, V) :: D1, i, l2, D, a, h, hs => by have := hs (none, V) (by simp); cases this
  | [], _ :: _, i, l2, D, a, h, hs => by cases h
  | _ :: _, [], i, l2, D, a, h, hs => by cases h

/-- Some operations that only look. -/
theorem AT.am {l l1 l2 : List Oper} (m : Nat) (hs : splO m l = some (l1, l2)) (hn : noTokB tk i (i + m) = true) (h : AM P all n B l1 tm (fun tm' => AT P all n B tk dy (i + m) l2 tm' acc Q)) : AT P all n B tk dy i l tm acc Q := by
  obtain ⟨rfl, rfl⟩ := splO_spec hs
  obtain ⟨tm1, h1, D, tm', h2, h3⟩ := h
  obtain ⟨D1, a1, a2, a3⟩ := am_at h1 hn h2
  refine ⟨D1 ++ D, tm', a1, fun β => ?_⟩
  rw [dynS_some β i (acc β) a2 a3]
  exact h3 β

/-- One operation that turns memory, by the rules for operations in order. -/
theorem tstep_run {o : Oper} {Ti H1 : Heap} {V : Bk → AV} {Pi H2 : Bk → Heap} (hg : o.guard = none) (hd : ∀ d, o.dst = some d → d < n) (h1 : appO Ti B = some H1) (h2 : ∀ b, appO (Pi b) B = some (H2 b))
    (hrun : ARun P all [o] ⟨n, rst (looks all o) tm, H1⟩ (fun σ' => ∃ b tm1, σ' = ⟨n, tm1, H2 b⟩ ∧ ∀ d, o.dst = some d → lk tm1 d = some (V b)))
    (hv : o.dst = none → ∀ b, V b = .raw undef) : TStep P all n B o (lk tm) Ti V Pi := by
  refine ⟨hd, .inl ⟨by simp [Wanted, hg], fun w S a s1 s2 s3 s4 K Q hK => ?_⟩⟩
  have e1 := appO_eq h1
  rw [e1] at s3 hK
  refine run_one hg hrun (strel_rst s1 s2 s3 s4) (fun v w' hgot => ?_)
  obtain ⟨σ', S', ⟨b, tm1, rfl, hlk⟩, hr, hev⟩ := hgot
  have e2 := appO_eq (h2 b)
  cases hdst : o.dst with
  | some d =>
    have hdn := hd d hdst
    obtain ⟨u, g1, g2⟩ := hr.tm d _ (hlk d hdst)
    have hu : u = v := by
      rw [hdst] at g1
      simp [Act.put, s1, hdn] at g1
      exact g1.symm
    rw [hu] at g2
    rw [← hdst]
    exact hK b v w' S' (by rw [e2]; exact hev) (by rw [e2]; exact hr.hp) g2
  | none =>
    have : a.put none v = a.put o.dst undef := by rw [hdst]; rfl
    rw [this]
    exact hK b undef w' S' (by rw [e2]; exact hev) (by rw [e2]; exact hr.hp) (by rw [hv hdst b]; exact .raw _)

theorem AT.runS {av : AV} {Ti H1 Pi H2 : Heap} (hrd : ∀ β, readT tk i β = []) (hti : ∀ β, tinT tk i β = Ti) (hto : ∀ β, toutT tk i β = Pi) (h1 : appO Ti B = some H1) (h2 : appO Pi B = some H2) (hn : Nat.blt d n = true)
    (hrun : ARun P all [⟨some d, op, ty, pos, af, none⟩] ⟨n, rst (looks all ⟨some d, op, ty, pos, af, none⟩) tm, H1⟩ (fun σ' => ∃ tm1, σ' = ⟨n, tm1, H2⟩ ∧ lk tm1 d = some av))
    (k : AT P all n B tk dy (i + 1) rest ((d, av) :: tm) acc Q) : AT P all n B tk dy i (⟨some d, op, ty, pos, af, none⟩ :: rest) tm acc Q := by
  refine AT.sta rfl (fun β => ?_) k
  rw [hrd β, List.nil_append, hti β, show (fun b => toutT tk i (updB β i b)) = fun _ => Pi from funext fun b => hto _]
  refine TStep.up ?_
  refine tstep_run rfl (fun d' hd' => by obtain rfl := Option.some.inj hd'; simpa using hn) h1 (fun _ => h2) ?_ (fun e => by cases e)
  refine fun w S a r => wpList_mono ?_ _ _ _ (hrun w S a r)
  rintro e a' w' ⟨he, σ', S', ⟨tm1, q1, q2⟩, hh⟩
  exact ⟨he, σ', S', ⟨⟨none, 0⟩, tm1, q1, fun d' hd' => by obtain rfl := Option.some.inj hd'; exact q2⟩, hh⟩
theorem AT.runD {V : Bk → AV} {Ti H1 : Heap} {Pi H2 : Bk → Heap} (hrd : ∀ β, readT tk i β = []) (hti : ∀ β, tinT tk i β = Ti) (hto : ∀ β b, toutT tk i (updB β i b) = Pi b) (h1 : appO Ti B = some H1) (h2 : ∀ b, appO (Pi b) B = some (H2 b)) (hn : Nat.blt d n = true) (hnd : lk tm d = none) (hdy : dy.contains i = true)
    (hrun : ARun P all [⟨some d, op, ty, pos, af, none⟩] ⟨n, rst (looks all ⟨some d, op, ty, pos, af, none⟩) tm, H1⟩ (fun σ' => ∃ b tm1, σ' = ⟨n, tm1, H2 b⟩ ∧ lk tm1 d = some (V b)))
    (k : AT P all n B tk dy (i + 1) rest tm (fun β => (d, V (β i)) :: acc β) Q) : AT P all n B tk dy i (⟨some d, op, ty, pos, af, none⟩ :: rest) tm acc Q := by
  refine AT.dyn rfl hnd hdy (fun β => ?_) k
  rw [hrd β, List.nil_append, hti β, show (fun b => toutT tk i (updB β i b)) = Pi from funext (hto β)]
  refine TStep.up ?_
  refine tstep_run rfl (fun d' hd' => by obtain rfl := Option.some.inj hd'; simpa using hn) h1 h2 ?_ (fun e => by cases e)
  refine fun w S a r => wpList_mono ?_ _ _ _ (hrun w S a r)
  rintro e a' w' ⟨he, σ', S', ⟨b, tm1, q1, q2⟩, hh⟩
  exact ⟨he, σ', S', ⟨b, tm1, q1, fun d' hd' => by obtain rfl := Option.some.inj hd'; exact q2⟩, hh⟩
theorem AT.run0 {Ti H1 Pi H2 : Heap} (hrd : ∀ β, readT tk i β = []) (hti : ∀ β, tinT tk i β = Ti) (hto : ∀ β, toutT tk i β = Pi) (h1 : appO Ti B = some H1) (h2 : appO Pi B = some H2)
    (hrun : ARun P all [⟨none, op, ty, pos, af, none⟩] ⟨n, rst (looks all ⟨none, op, ty, pos, af, none⟩) tm, H1⟩ (fun σ' => ∃ tm1, σ' = ⟨n, tm1, H2⟩))
    (k : AT P all n B tk dy (i + 1) rest tm acc Q) : AT P all n B tk dy i (⟨none, op, ty, pos, af, none⟩ :: rest) tm acc Q := by
  refine AT.sto rfl (fun β => ?_) k
  rw [hrd β, List.nil_append, hti β, show (fun b => toutT tk i (updB β i b)) = fun _ => Pi from funext fun b => hto _]
  refine TStep.up ?_
  refine tstep_run rfl (fun d' hd' => by cases hd') h1 (fun _ => h2) ?_ (fun _ b => rfl)
  refine fun w S a r => wpList_mono ?_ _ _ _ (hrun w S a r)
  rintro e a' w' ⟨he, σ', S', ⟨tm1, q1⟩, hh⟩
  exact ⟨he, σ', S', ⟨⟨none, 0⟩, tm1, q1, fun d' hd' => by cases hd'⟩, hh⟩
theorem lk_append (a b : List (Nat × AV)) : lk (a ++ b) = orE (lk a) (lk b) := by
  funext s
  induction a with
  | nil => rfl
  | cons x a ih =>
    obtain ⟨k, v⟩ := x
    simp only [List.cons_append, lk, orE] at ih ⊢
    split
    · rfl
    · exact ih
/-- One operation that turns memory that was made in the same region. -/
theorem AT.runN {Ti H1 Pi H2 : (Nat → Bk) → Heap} (hrd : ∀ β, readT tk i β = []) (hti : ∀ β, tinT tk i β = Ti β) (hto : ∀ β b, toutT tk i (updB β i b) = Pi β) (h1 : ∀ β, appO (Ti β) B = some (H1 β)) (h2 : ∀ β, appO (Pi β) B = some (H2 β))
    (hrun : ∀ β, ARun P all [⟨none, op, ty, pos, af, none⟩] ⟨n, rst (looks all ⟨none, op, ty, pos, af, none⟩) (tm ++ acc β), H1 β⟩ (fun σ' => ∃ tm1, σ' = ⟨n, tm1, H2 β⟩))
    (k : AT P all n B tk dy (i + 1) rest tm acc Q) : AT P all n B tk dy i (⟨none, op, ty, pos, af, none⟩ :: rest) tm acc Q := by
  refine AT.sto rfl (fun β => ?_) k
  rw [hrd β, List.nil_append, hti β, show (fun b => toutT tk i (updB β i b)) = fun _ => Pi β from funext (hto β), ← lk_append]
  refine tstep_run rfl (fun d' hd' => by cases hd') (h1 β) (fun _ => h2 β) ?_ (fun _ b => rfl)
  refine fun w S a r => wpList_mono ?_ _ _ _ (hrun β w S a r)
  rintro e a' w' ⟨he, σ', S', ⟨tm1, q1⟩, hh⟩
  exact ⟨he, σ', S', ⟨⟨none, 0⟩, tm1, q1, fun d' hd' => by cases hd'⟩, hh⟩
/-- One operation that looks at a piece that is turned later. -/
theorem AT.rd {av : AV} {Rs H1 : Heap} (hr : ∀ β, readT tk i β = Rs) (h1 : appO Rs B = some H1) (hti : ∀ β, tinT tk i β = []) (hto : ∀ β, toutT tk i β = [])
    (q : QV P ⟨some d, op, ty, pos, af, none⟩ ⟨n, rst (looks all ⟨some d, op, ty, pos, af, none⟩) tm, H1⟩ av) (hn : Nat.blt d n = true)
    (k : AT P all n B tk dy (i + 1) rest ((d, av) :: tm) acc Q) : AT P all n B tk dy i (⟨some d, op, ty, pos, af, none⟩ :: rest) tm acc Q := by
  refine AT.sta rfl (fun β => ?_) k
  rw [hr β, appO_eq h1, hti β, show (fun b => toutT tk i (updB β i b)) = fun _ => [] from funext fun b => hto _]
  refine TStep.up ?_
  refine mv_tstep (fun d' hd' => by obtain rfl := Option.some.inj hd'; simpa using hn) rfl (fun w S a s1 s2 s3 s4 K Q' hK => ?_)
  obtain ⟨v, g1, g2⟩ := q w S a (strel_rst s1 s2 s3 s4)
  show Oper.upon P _ a K Q' _
  rw [g1 w (Ext.refl w)]
  exact hK v w S (Grow.refl s3.slt) g2
end rules
end Go.Eng
