/- The frame of the law: what its walk is told, what its row lays. -/
import Derived.Test.YtckmkjeblanlfaaGreatDoorRows
import Derived.WalkKit
import Derived.ProofKit
import Derived.OpenShut
import Derived.ShutString
import Derived.ChangeOld
import Derived.Below
import Derived.LaidMore
import Derived.Lay
import Derived.Stop.Joined
import Derived.Lib.LaidIn
import Derived.Lib.LaidU8T
import Derived.SevenTiedAt
import Derived.Test.YtckmkjeblanlfaaGreatDoorEngC
import Derived.Test.YtckmkjeblanlfaaGreatDoorEngE
import Derived.Test.YtckmkjeblanlfaaGreatDoorLib
import Derived.Test.YtckmkjeblanlfaaGreatDoorCards
import Derived.Test.YtckmkjeblanlfaaGreatDoorTie
import Derived.Test.YtckmkjeblanlfaaGreatDoorQuoW3
import Derived.Test.YtckmkjeblanlfaaGreatDoorPlLB
namespace Go.Proofs.YtckmkjeblanlfaaGreatDoor.quotasCounted
open Go.ChangeShapes Go.WideShapes Go.ChangeAt Go.RowKit
open Go.ChangeMaps (open_string shut_string)
set_option linter.unusedVariables false
theorem own:ownKnob Tryz.prog.godebug=none:=by kernel_rfl
theorem laidOut:laidOutB Tryz.prog=true:=by kernel_rfl
def PJ (k:IntKind) (w:World) (a:Option Addr) (len cap:Nat) (zs:List Int):Prop:=
 (a=none∧len=0∧cap=0∧zs=[])∨
 ∃ x,a=some x∧len≤cap∧cap≤maxLen∧zs.length=cap∧(∀ i,i < zs.length→w.cell? (x.add i)=some (.int k (zs.getD i 0)))∧∀ n∈zs,(Lit.int k n).wf=true
theorem walk (a0:Option Addr) (MZ M0:Nat) (z0:List Int) (w:World) (w0:PJ .i64 w a0 MZ M0 z0) (hT:∀ e∈Go.Beacon.wN,e.1 < w.heap.size∧e.2 (w.heap[e.1]?)):
 Calls Tryz.prog 4 #[.slice a0 MZ M0] w fun e w'=>e=.returned (.bool true)∧Below w.heap.size w w':=by
 exact Go.Eng.Lm w0 (Go.Beacon.JR hT) (fun l=>zi (Go.Beacon.xW l))
theorem Rg:Go.Pinned.utf8First=Lib.firstData:=by kernel_rfl
theorem Xx:(Rows.laid_unicode_utf8_acceptRanges:DataW Unit)=Lib.acceptData:=by kernel_rfl
noncomputable def EG (os:Os):World:=
 let w0:=World.holding Tryz.prog os ⟨#[],#[],[]⟩
 let heap:=Rows.quotasCountedRow.laid.foldl (fun h x=>match Tryz.prog.globalNamed x.1 with
  | none=>h
  | some g=>match (Tryz.prog.globals[g]?).map (·.type) with
    | none=>h
    | some t=>match DataW.lay Tryz.prog t h.size x.2 with
      | none=>h
      | some y=>(h.modify g fun | .cells _ t f=>.cells y.1.toArray t f | o=>o)++y.2.toArray) w0.heap
 {w0 with heap:=heap}
theorem met (os:Os) (args:Array Value):laidMetH Tryz.prog Rows.quotasCountedRow.laid ((EG os).forCall (fun _ _=>0) ⟨#[],args,[]⟩).memory:=
 laidMetH_of_parts3 (fuel:=8) (laidMet_of_run' 8 (by kernel_rfl) (by kernel_rfl)) (by kernel_rfl) (by kernel_rfl)
theorem Rh {W:World} (h:laidMetH Tryz.prog Rows.quotasCountedRow.laid W) (hs:W.ShapedOpen Tryz.prog):∀ e∈Go.Beacon.wN,e.1 < W.heap.size∧e.2 (W.heap[e.1]?):=by
 rw [MakeChecks.laidMetH_plain _ _ _ (by kernel_rfl)] at h
 have hu:=Go.Beacon.JS (utf8Tabs_of_readsT (U8Types.of196 Tryz.IW) ⟨by kernel_rfl,by kernel_rfl,by kernel_rfl,by kernel_rfl,by kernel_rfl,by kernel_rfl,by kernel_rfl⟩ (Rg▸Lib.laidMet.reads h (d:=Go.Pinned.utf8First) (.tail _ (.head _))) (Xx▸Lib.laidMet.reads h (d:=Rows.laid_unicode_utf8_acceptRanges) (.head _)))
 have r1:=hu.1
 have r2:=hu.2
 obtain ⟨m,hm⟩:=Tryz.L8.s1_3 W hs
 have r0:=Go.Eng.N3 hm
 intro e he
 simp only [Go.Beacon.wN,List.nil_append,List.cons_append,List.mem_cons,List.not_mem_nil,or_false] at he
 rcases he with rfl | rfl | rfl
 ·exact r1
 ·exact r2
 ·exact r0
set_option maxRecDepth 100000 in
theorem lifted (os:Os) (started:os.Started) (H:Type) (enc:TypeId×Value→H):
 ReturnsInHanded {} Tryz.checked os 4 .any (fun w args=>(Rows.quotasCountedSpec.pre enc Tryz.prog Tryz.f4 [] false w args∧laidMetH Tryz.prog Rows.quotasCountedRow.laid w)∧sizedMet enc Tryz.prog Tryz.f4 (OpenSpec.ofChange Rows.quotasCountedSpec) false w args) (Rows.quotasCountedSpec.post enc Tryz.prog Tryz.f4 false true false false):=by
 refine Go.Eng.Gj (C:=Tryz.checked) (X:=fun w _=>laidMetH Tryz.prog Rows.quotasCountedRow.laid w) (fun _ _ _ hh h=>h.of_heap hh) own started (by kernel_rfl) Tryz.func4
  (ChangeSpec.witness_shaped (enc:=enc) (C:=Tryz.checked) (os:=os) (X:=fun w _=>laidMetH Tryz.prog Rows.quotasCountedRow.laid w) false (EG os) #[.slice none 0 0] 8 rfl (World.shaped_of_RefB (by kernel_rfl) (by kernel_rfl)) (by kernel_rfl) (by kernel_rfl) (by kernel_rfl) (met os _)) ?_
 intro W base args ds gs before PK hW _ _ hL _
 have Ub:∀ (j:Nat) t v,Tryz.f4.params[j]? =some t→args[j]? =some v→Value.okWide Tryz.prog W .any base t v:=PK
 have hW':=hW
 obtain ⟨p,q,hA0,hV,rfl,hfz,xZ⟩:=hW
 have hA:DataW.TrodAll enc Tryz.prog W 0 (fun _=>true) true Tryz.f4.params.toList args.toList ds p:=hA0
 rw [Tryz.params4] at hA Ub
 obtain ⟨v0,vs0,d0,ds0,p0,q0,adJ,rfl,rfl,h0,r0⟩:=trodAll_cons hA
 obtain ⟨rfl,rfl,rfl⟩:=trodAll_nil r0
 obtain rfl:args=#[v0]:=by cases args;simp_all
 obtain ⟨rfl,rfl⟩:=trodVars_none hV
 obtain ⟨a0,MZ,M0,rfl⟩:=okWide_slice Tryz.underlying22 (Ub 0 22 v0 rfl rfl)
 have k0:=h0
 have lt0:∀ x∈p0,x.block < W.heap.size:=by obtain ⟨m,hm⟩:=k0;exact DataW.trod_lt m _ _ _ hm
 obtain ⟨z0,w0⟩:∃ zs,PJ .i64 W a0 MZ M0 zs:=by
  obtain ⟨fuel,hf⟩:=h0
  rcases open_ints Tryz.underlying22 Tryz.underlying3 (by kernel_rfl) hf with ⟨KC,_⟩ | ⟨x,l,c,zs,KC,_,hl,hm,hz,_,AD,hwz⟩
  ·simp [Value.cells] at KC
   obtain ⟨rfl,rfl,rfl⟩:=KC
   exact ⟨[],.inl ⟨rfl,rfl,rfl,rfl⟩⟩
  ·simp [Value.cells] at KC
   obtain ⟨rfl,rfl,rfl⟩:=KC
   exact ⟨zs,.inr ⟨_,rfl,hl,hm,by simpa using hz,AD,hwz⟩⟩
 clear hA0 PK
 refine (walk a0 MZ M0 z0 W w0 (Rh hL.1 hL.2)).mono fun e W' ⟨he,bel⟩=>?_
 subst he
 exact ⟨_,rfl,_,_,_,[],_,[],hW',trodAll_mk1 (shut_bool Tryz.underlying4 _),(trodAll_cons_mk (Below.trod laidOut (by kernel_rfl) (of_decide_eq_true (by kernel_rfl)) k0 bel lt0) trodAll_mk0),rfl,bel.frame _,fun h=>by cases h⟩
end Go.Proofs.YtckmkjeblanlfaaGreatDoor.quotasCounted
