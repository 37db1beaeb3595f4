/- The frame of the law: what its walk is told, what its row lays. -/
import Derived.Test.YtodkphmmhgkodaaGreatDoorRows
import Derived.WalkKit
import Derived.ProofKit
import Derived.OpenShut
import Derived.ShutString
import Derived.ChangeOld
import Derived.Below
import Derived.LaidMore
import Derived.Lay
import Derived.Stop.Joined
import Derived.Lib.LaidIn
import Derived.Lib.LaidU8T
import Derived.SevenTiedAt
import Derived.Test.YtodkphmmhgkodaaGreatDoorEngC
import Derived.Test.YtodkphmmhgkodaaGreatDoorEngE
import Derived.Test.YtodkphmmhgkodaaGreatDoorLib
import Derived.Test.YtodkphmmhgkodaaGreatDoorCards
import Derived.Test.YtodkphmmhgkodaaGreatDoorTie
import Derived.Test.YtodkphmmhgkodaaGreatDoorNctW3
import Derived.Test.YtodkphmmhgkodaaGreatDoorPlLB
namespace Go.Proofs.YtodkphmmhgkodaaGreatDoor.peopleTold
open Go.ChangeShapes Go.WideShapes Go.ChangeAt Go.RowKit
open Go.ChangeMaps (open_string shut_string)
set_option linter.unusedVariables false
theorem own:ownKnob Tryz.prog.godebug=none:=by kernel_rfl
theorem laidOut:laidOutB Tryz.prog=true:=by kernel_rfl
def OC (k:IntKind) (w:World) (a:Option Addr) (len cap:Nat) (zs:List Int):Prop:=
 (a=none∧len=0∧cap=0∧zs=[])∨
 ∃ x,a=some x∧len≤cap∧cap≤maxLen∧zs.length=cap∧(∀ i,i < zs.length→w.cell? (x.add i)=some (.int k (zs.getD i 0)))∧∀ n∈zs,(Lit.int k n).wf=true
theorem walk (a0:Option Addr) (LJ LK:Nat) (z0:List Int) (w:World) (w0:OC .i64 w a0 LJ LK z0) (hT:∀ e∈Go.Beacon.yy,e.1 < w.heap.size∧e.2 (w.heap[e.1]?)):
 Calls Tryz.prog 3 #[.slice a0 LJ LK] w fun e w'=>e=.returned (.bool true)∧Below w.heap.size w w':=by
 exact Go.Eng.J6 w0 (Go.Beacon.IP hT) (fun l=>B2 (Go.Beacon.zQ l))
noncomputable def DI (os:Os):World:=
 let w0:=World.holding Tryz.prog os ⟨#[],#[],[]⟩
 let heap:=Rows.peopleToldRow.laid.foldl (fun h x=>match Tryz.prog.globalNamed x.1 with
  | none=>h
  | some g=>match (Tryz.prog.globals[g]?).map (·.type) with
    | none=>h
    | some t=>match DataW.lay Tryz.prog t h.size x.2 with
      | none=>h
      | some y=>(h.modify g fun | .cells _ t f=>.cells y.1.toArray t f | o=>o)++y.2.toArray) w0.heap
 {w0 with heap:=heap}
theorem met (os:Os) (args:Array Value):laidMetH Tryz.prog Rows.peopleToldRow.laid ((DI os).forCall (fun _ _=>0) ⟨#[],args,[]⟩).memory:=
 laidMetH_of_parts3 (fuel:=8) (laidMet_of_run' 8 (by kernel_rfl) (by kernel_rfl)) (by kernel_rfl) (by kernel_rfl)
theorem P3 {W:World} (_:laidMetH Tryz.prog Rows.peopleToldRow.laid W) (_:W.ShapedOpen Tryz.prog):∀ e∈Go.Beacon.yy,e.1 < W.heap.size∧e.2 (W.heap[e.1]?):=by
 intro e he
 cases he
set_option maxRecDepth 100000 in
theorem lifted (os:Os) (started:os.Started) (H:Type) (enc:TypeId×Value→H):
 ReturnsInHanded {} Tryz.checked os 3 .any (fun w args=>(Rows.peopleToldSpec.pre enc Tryz.prog Tryz.f3 [] false w args∧laidMetH Tryz.prog Rows.peopleToldRow.laid w)∧sizedMet enc Tryz.prog Tryz.f3 (OpenSpec.ofChange Rows.peopleToldSpec) false w args) (Rows.peopleToldSpec.post enc Tryz.prog Tryz.f3 false true false false):=by
 refine Go.Eng.Fs (C:=Tryz.checked) (X:=fun w _=>laidMetH Tryz.prog Rows.peopleToldRow.laid w) (fun _ _ _ hh h=>h.of_heap hh) own started (by kernel_rfl) Tryz.func3
  (ChangeSpec.witness_shaped (enc:=enc) (C:=Tryz.checked) (os:=os) (X:=fun w _=>laidMetH Tryz.prog Rows.peopleToldRow.laid w) false (DI os) #[.slice none 0 0] 8 rfl (World.shaped_of_RefB (by kernel_rfl) (by kernel_rfl)) (by kernel_rfl) (by kernel_rfl) (by kernel_rfl) (met os _)) ?_
 intro W base args ds gs before OD hW _ _ hL _
 have SI:∀ (j:Nat) t v,Tryz.f3.params[j]? =some t→args[j]? =some v→Value.okWide Tryz.prog W .any base t v:=OD
 have hW':=hW
 obtain ⟨p,q,YC,hV,rfl,hfz,vE⟩:=hW
 have hA:DataW.TrodAll enc Tryz.prog W 0 (fun _=>true) true Tryz.f3.params.toList args.toList ds p:=YC
 rw [Tryz.params3] at hA SI
 obtain ⟨v0,vs0,d0,ds0,p0,q0,Hx,rfl,rfl,h0,r0⟩:=trodAll_cons hA
 obtain ⟨rfl,rfl,rfl⟩:=trodAll_nil r0
 obtain rfl:args=#[v0]:=by cases args;simp_all
 obtain ⟨rfl,rfl⟩:=trodVars_none hV
 obtain ⟨a0,LJ,LK,rfl⟩:=okWide_slice Tryz.underlying22 (SI 0 22 v0 rfl rfl)
 have k0:=h0
 have lt0:∀ x∈p0,x.block < W.heap.size:=by obtain ⟨m,hm⟩:=k0;exact DataW.trod_lt m _ _ _ hm
 obtain ⟨z0,w0⟩:∃ zs,OC .i64 W a0 LJ LK zs:=by
  obtain ⟨fuel,hf⟩:=h0
  rcases open_ints Tryz.underlying22 Tryz.underlying3 (by kernel_rfl) hf with ⟨Jp,_⟩ | ⟨x,l,c,zs,Jp,_,hl,hm,hz,_,vM,hwz⟩
  ·simp [Value.cells] at Jp
   obtain ⟨rfl,rfl,rfl⟩:=Jp
   exact ⟨[],.inl ⟨rfl,rfl,rfl,rfl⟩⟩
  ·simp [Value.cells] at Jp
   obtain ⟨rfl,rfl,rfl⟩:=Jp
   exact ⟨zs,.inr ⟨_,rfl,hl,hm,by simpa using hz,vM,hwz⟩⟩
 clear YC OD
 refine (walk a0 LJ LK z0 W w0 (P3 hL.1 hL.2)).mono fun e W' ⟨he,YD⟩=>?_
 subst he
 exact ⟨_,rfl,_,_,_,[],_,[],hW',trodAll_mk1 (shut_bool Tryz.underlying4 _),(trodAll_cons_mk (Below.trod laidOut (by kernel_rfl) (of_decide_eq_true (by kernel_rfl)) k0 YD lt0) trodAll_mk0),rfl,YD.frame _,fun h=>by cases h⟩
end Go.Proofs.YtodkphmmhgkodaaGreatDoor.peopleTold
