/- The frame of the law: what its walk is told, what its row lays. -/
import Derived.Test.YtipbfaojbmendaaGreatDoorRows
import Derived.WalkKit
import Derived.ProofKit
import Derived.OpenShut
import Derived.ShutString
import Derived.ChangeOld
import Derived.Below
import Derived.LaidMore
import Derived.Lay
import Derived.Stop.Joined
import Derived.Lib.LaidIn
import Derived.Lib.LaidU8T
import Derived.SevenTiedAt
import Derived.Test.YtipbfaojbmendaaGreatDoorEngC
import Derived.Test.YtipbfaojbmendaaGreatDoorEngE
import Derived.Test.YtipbfaojbmendaaGreatDoorLib
import Derived.Test.YtipbfaojbmendaaGreatDoorCards
import Derived.Test.YtipbfaojbmendaaGreatDoorTie
import Derived.Test.YtipbfaojbmendaaGreatDoorTcrW3
import Derived.Test.YtipbfaojbmendaaGreatDoorPlLC
namespace Go.Proofs.YtipbfaojbmendaaGreatDoor.topCampaignsReach
open Go.ChangeShapes Go.WideShapes Go.ChangeAt Go.RowKit
open Go.ChangeMaps (open_string shut_string)
set_option linter.unusedVariables false
theorem own:ownKnob Tryz.prog.godebug=none:=by kernel_rfl
theorem laidOut:laidOutB Tryz.prog=true:=by kernel_rfl
def Sp (k:IntKind) (w:World) (a:Option Addr) (len cap:Nat) (zs:List Int):Prop:=
 (a=none∧len=0∧cap=0∧zs=[])∨
 ∃ x,a=some x∧len≤cap∧cap≤maxLen∧zs.length=cap∧(∀ i,i < zs.length→w.cell? (x.add i)=some (.int k (zs.getD i 0)))∧∀ n∈zs,(Lit.int k n).wf=true
theorem walk (a0:Option Addr) (OZ O0:Nat) (z0:List Int) (w:World) (w0:Sp .i64 w a0 OZ O0 z0) (hT:∀ e∈Go.Beacon.wu,e.1 < w.heap.size∧e.2 (w.heap[e.1]?)):
 Calls Tryz.prog 3 #[.slice a0 OZ O0] w fun e w'=>e=.returned (.bool true)∧Below w.heap.size w w':=by
 exact Go.Eng.MG w0 (Go.Beacon.Li hT) (fun l=>vW (Go.Beacon.uY l))
noncomputable def EM (os:Os):World:=
 let w0:=World.holding Tryz.prog os ⟨#[],#[],[]⟩
 let heap:=Rows.topCampaignsReachRow.laid.foldl (fun h x=>match Tryz.prog.globalNamed x.1 with
  | none=>h
  | some g=>match (Tryz.prog.globals[g]?).map (·.type) with
    | none=>h
    | some t=>match DataW.lay Tryz.prog t h.size x.2 with
      | none=>h
      | some y=>(h.modify g fun | .cells _ t f=>.cells y.1.toArray t f | o=>o)++y.2.toArray) w0.heap
 {w0 with heap:=heap}
theorem met (os:Os) (args:Array Value):laidMetH Tryz.prog Rows.topCampaignsReachRow.laid ((EM os).forCall (fun _ _=>0) ⟨#[],args,[]⟩).memory:=
 laidMetH_of_parts3 (fuel:=8) (laidMet_of_run' 8 (by kernel_rfl) (by kernel_rfl)) (by kernel_rfl) (by kernel_rfl)
theorem Xg:(Rows.laid_internal_strconv_uint64pow10:DataW Unit)=Lib.tabData .u64 Lib.pow10Tab:=by kernel_rfl
theorem UD {W:World} (h:laidMetH Tryz.prog Rows.topCampaignsReachRow.laid W) (hs:W.ShapedOpen Tryz.prog):∀ e∈Go.Beacon.wu,e.1 < W.heap.size∧e.2 (W.heap[e.1]?):=by
 rw [MakeChecks.laidMetH_plain _ _ _ (by kernel_rfl)] at h
 have r5:=Go.Eng.Qe (g:=5) (t:=249) (by kernel_rfl) (by kernel_rfl) Tryz.underlying249 Tryz.underlying162 (by kernel_rfl) (by kernel_rfl) (Xg▸(Lib.laidMet.reads h (d:=Rows.laid_internal_strconv_uint64pow10) (.tail _ (.tail _ (.head _)))))
 obtain ⟨m,hm⟩:=Tryz.Nt.s1_3 W hs
 have r0:=Go.Eng.Qd hm
 have r1:=Go.Eng.JX (g:=1) (t:=191) (by kernel_rfl) (by kernel_rfl) Tryz.underlying191 (Lib.laidMet.reads h (d:=Rows.laid_strconv_ErrSyntax) (.tail _ (.tail _ (.tail _ (.tail _ (.tail _ (.head _)))))))
 have r2:=Go.Eng.JX (g:=2) (t:=191) (by kernel_rfl) (by kernel_rfl) Tryz.underlying191 (Lib.laidMet.reads h (d:=Rows.laid_strconv_ErrRange) (.tail _ (.tail _ (.tail _ (.tail _ (.head _))))))
 intro e he
 simp only [Go.Beacon.wu,List.nil_append,List.cons_append,List.mem_cons,List.not_mem_nil,or_false] at he
 rcases he with rfl | rfl | rfl | rfl
 ·exact r5
 ·exact r0
 ·exact r1
 ·exact r2
set_option maxRecDepth 100000 in
theorem lifted (os:Os) (started:os.Started) (H:Type) (enc:TypeId×Value→H):
 ReturnsInHanded {} Tryz.checked os 3 .any (fun w args=>(Rows.topCampaignsReachSpec.pre enc Tryz.prog Tryz.f3 [] false w args∧laidMetH Tryz.prog Rows.topCampaignsReachRow.laid w)∧sizedMet enc Tryz.prog Tryz.f3 (OpenSpec.ofChange Rows.topCampaignsReachSpec) false w args) (Rows.topCampaignsReachSpec.post enc Tryz.prog Tryz.f3 false true false false):=by
 refine Go.Eng.GW (C:=Tryz.checked) (X:=fun w _=>laidMetH Tryz.prog Rows.topCampaignsReachRow.laid w) (fun _ _ _ hh h=>h.of_heap hh) own started (by kernel_rfl) Tryz.func3
  (ChangeSpec.witness_shaped (enc:=enc) (C:=Tryz.checked) (os:=os) (X:=fun w _=>laidMetH Tryz.prog Rows.topCampaignsReachRow.laid w) false (EM os) #[.slice none 0 0] 8 rfl (World.shaped_of_RefB (by kernel_rfl) (by kernel_rfl)) (by kernel_rfl) (by kernel_rfl) (by kernel_rfl) (met os _)) ?_
 intro W base args ds gs before Sq hW _ _ hL _
 have xa:∀ (j:Nat) t v,Tryz.f3.params[j]? =some t→args[j]? =some v→Value.okWide Tryz.prog W .any base t v:=Sq
 have hW':=hW
 obtain ⟨p,q,hA0,hV,rfl,hfz,vy⟩:=hW
 have hA:DataW.TrodAll enc Tryz.prog W 0 (fun _=>true) true Tryz.f3.params.toList args.toList ds p:=hA0
 rw [Tryz.params3] at hA xa
 obtain ⟨v0,vs0,d0,ds0,p0,q0,JT,rfl,rfl,h0,r0⟩:=trodAll_cons hA
 obtain ⟨rfl,rfl,rfl⟩:=trodAll_nil r0
 obtain rfl:args=#[v0]:=by cases args;simp_all
 obtain ⟨rfl,rfl⟩:=trodVars_none hV
 obtain ⟨a0,OZ,O0,rfl⟩:=okWide_slice Tryz.underlying22 (xa 0 22 v0 rfl rfl)
 have k0:=h0
 have lt0:∀ x∈p0,x.block < W.heap.size:=by obtain ⟨m,hm⟩:=k0;exact DataW.trod_lt m _ _ _ hm
 obtain ⟨z0,w0⟩:∃ zs,Sp .i64 W a0 OZ O0 zs:=by
  obtain ⟨fuel,hf⟩:=h0
  rcases open_ints Tryz.underlying22 Tryz.underlying3 (by kernel_rfl) hf with ⟨EX,_⟩ | ⟨x,l,c,zs,EX,_,hl,hm,hz,_,tE,hwz⟩
  ·simp [Value.cells] at EX
   obtain ⟨rfl,rfl,rfl⟩:=EX
   exact ⟨[],.inl ⟨rfl,rfl,rfl,rfl⟩⟩
  ·simp [Value.cells] at EX
   obtain ⟨rfl,rfl,rfl⟩:=EX
   exact ⟨zs,.inr ⟨_,rfl,hl,hm,by simpa using hz,tE,hwz⟩⟩
 clear hA0 Sq
 refine (walk a0 OZ O0 z0 W w0 (UD hL.1 hL.2)).mono fun e W' ⟨he,bel⟩=>?_
 subst he
 exact ⟨_,rfl,_,_,_,[],_,[],hW',trodAll_mk1 (shut_bool Tryz.underlying4 _),(trodAll_cons_mk (Below.trod laidOut (by kernel_rfl) (of_decide_eq_true (by kernel_rfl)) k0 bel lt0) trodAll_mk0),rfl,bel.frame _,fun h=>by cases h⟩
end Go.Proofs.YtipbfaojbmendaaGreatDoor.topCampaignsReach
