/- The frame of the law: what its walk is told, what its row lays. -/
import Derived.Test.YthamhifbccpcpaaGreatDoorRows
import Derived.WalkKit
import Derived.ProofKit
import Derived.OpenShut
import Derived.ShutString
import Derived.ChangeOld
import Derived.Below
import Derived.LaidMore
import Derived.Lay
import Derived.Stop.Joined
import Derived.Lib.LaidIn
import Derived.Lib.LaidU8T
import Derived.SevenTiedAt
import Derived.Test.YthamhifbccpcpaaGreatDoorEngC
import Derived.Test.YthamhifbccpcpaaGreatDoorEngE
import Derived.Test.YthamhifbccpcpaaGreatDoorLib
import Derived.Test.YthamhifbccpcpaaGreatDoorCards
import Derived.Test.YthamhifbccpcpaaGreatDoorTie
import Derived.Test.YthamhifbccpcpaaGreatDoorAsuW3
import Derived.Test.YthamhifbccpcpaaGreatDoorPlLB
namespace Go.Proofs.YthamhifbccpcpaaGreatDoor.alarmsSummed
open Go.ChangeShapes Go.WideShapes Go.ChangeAt Go.RowKit
open Go.ChangeMaps (open_string shut_string)
set_option linter.unusedVariables false
theorem own:ownKnob Tryz.prog.godebug=none:=by kernel_rfl
theorem laidOut:laidOutB Tryz.prog=true:=by kernel_rfl
def PN (k:IntKind) (w:World) (a:Option Addr) (len cap:Nat) (zs:List Int):Prop:=
 (a=none∧len=0∧cap=0∧zs=[])∨
 ∃ x,a=some x∧len≤cap∧cap≤maxLen∧zs.length=cap∧(∀ i,i < zs.length→w.cell? (x.add i)=some (.int k (zs.getD i 0)))∧∀ n∈zs,(Lit.int k n).wf=true
theorem walk (a0:Option Addr) (Mx My:Nat) (z0:List Int) (w:World) (w0:PN .i64 w a0 Mx My z0) (hT:∀ e∈Go.Beacon.uG,e.1 < w.heap.size∧e.2 (w.heap[e.1]?)):
 Calls Tryz.prog 3 #[.slice a0 Mx My] w fun e w'=>e=.returned (.bool true)∧Below w.heap.size w w':=by
 exact Go.Eng.KF w0 (Go.Beacon.Jj hT) (fun l=>yn (Go.Beacon.wS l))
noncomputable def CU (os:Os):World:=
 let w0:=World.holding Tryz.prog os ⟨#[],#[],[]⟩
 let heap:=Rows.alarmsSummedRow.laid.foldl (fun h x=>match Tryz.prog.globalNamed x.1 with
  | none=>h
  | some g=>match (Tryz.prog.globals[g]?).map (·.type) with
    | none=>h
    | some t=>match DataW.lay Tryz.prog t h.size x.2 with
      | none=>h
      | some y=>(h.modify g fun | .cells _ t f=>.cells y.1.toArray t f | o=>o)++y.2.toArray) w0.heap
 {w0 with heap:=heap}
theorem met (os:Os) (args:Array Value):laidMetH Tryz.prog Rows.alarmsSummedRow.laid ((CU os).forCall (fun _ _=>0) ⟨#[],args,[]⟩).memory:=
 laidMetH_of_parts3 (fuel:=8) (laidMet_of_run' 8 (by kernel_rfl) (by kernel_rfl)) (by kernel_rfl) (by kernel_rfl)
theorem UN:(Rows.laid_internal_strconv_uint64pow10:DataW Unit)=Lib.tabData .u64 Lib.pow10Tab:=by kernel_rfl
theorem Ry {W:World} (h:laidMetH Tryz.prog Rows.alarmsSummedRow.laid W) (hs:W.ShapedOpen Tryz.prog):∀ e∈Go.Beacon.uG,e.1 < W.heap.size∧e.2 (W.heap[e.1]?):=by
 rw [MakeChecks.laidMetH_plain _ _ _ (by kernel_rfl)] at h
 have r1:=Go.Eng.NT (g:=1) (t:=339) (by kernel_rfl) (by kernel_rfl) Tryz.underlying339 Tryz.underlying257 (by kernel_rfl) (by kernel_rfl) (UN▸(Lib.laidMet.reads h (d:=Rows.laid_internal_strconv_uint64pow10) (.tail _ (.tail _ (.head _)))))
 obtain ⟨m,hm⟩:=Tryz.Lh.s1_3 W hs
 have r0:=Go.Eng.NS hm
 have r2:=Go.Eng.H3 (g:=2) (t:=134) (by kernel_rfl) (by kernel_rfl) Tryz.underlying134 (Lib.laidMet.reads h (d:=Rows.laid_strconv_ErrSyntax) (.tail _ (.tail _ (.tail _ (.tail _ (.tail _ (.head _)))))))
 have r3:=Go.Eng.H3 (g:=3) (t:=134) (by kernel_rfl) (by kernel_rfl) Tryz.underlying134 (Lib.laidMet.reads h (d:=Rows.laid_strconv_ErrRange) (.tail _ (.tail _ (.tail _ (.tail _ (.head _))))))
 intro e he
 simp only [Go.Beacon.uG,List.nil_append,List.cons_append,List.mem_cons,List.not_mem_nil,or_false] at he
 rcases he with rfl | rfl | rfl | rfl
 ·exact r1
 ·exact r0
 ·exact r2
 ·exact r3
set_option maxRecDepth 100000 in
theorem lifted (os:Os) (started:os.Started) (H:Type) (enc:TypeId×Value→H):
 ReturnsInHanded {} Tryz.checked os 3 .any (fun w args=>(Rows.alarmsSummedSpec.pre enc Tryz.prog Tryz.f3 [] false w args∧laidMetH Tryz.prog Rows.alarmsSummedRow.laid w)∧sizedMet enc Tryz.prog Tryz.f3 (OpenSpec.ofChange Rows.alarmsSummedSpec) false w args) (Rows.alarmsSummedSpec.post enc Tryz.prog Tryz.f3 false true false false):=by
 refine Go.Eng.E4 (C:=Tryz.checked) (X:=fun w _=>laidMetH Tryz.prog Rows.alarmsSummedRow.laid w) (fun _ _ _ hh h=>h.of_heap hh) own started (by kernel_rfl) Tryz.func3
  (ChangeSpec.witness_shaped (enc:=enc) (C:=Tryz.checked) (os:=os) (X:=fun w _=>laidMetH Tryz.prog Rows.alarmsSummedRow.laid w) false (CU os) #[.slice none 0 0] 8 rfl (World.shaped_of_RefB (by kernel_rfl) (by kernel_rfl)) (by kernel_rfl) (by kernel_rfl) (by kernel_rfl) (met os _)) ?_
 intro W base args ds gs before PQ hW _ _ hL _
 have UO:∀ (j:Nat) t v,Tryz.f3.params[j]? =some t→args[j]? =some v→Value.okWide Tryz.prog W .any base t v:=PQ
 have hW':=hW
 obtain ⟨p,q,hA0,hV,rfl,U4,vf⟩:=hW
 have hA:DataW.TrodAll enc Tryz.prog W 0 (fun _=>true) true Tryz.f3.params.toList args.toList ds p:=hA0
 rw [Tryz.params3] at hA UO
 obtain ⟨v0,vs0,d0,ds0,p0,q0,HT,rfl,rfl,h0,r0⟩:=trodAll_cons hA
 obtain ⟨rfl,rfl,rfl⟩:=trodAll_nil r0
 obtain rfl:args=#[v0]:=by cases args;simp_all
 obtain ⟨rfl,rfl⟩:=trodVars_none hV
 obtain ⟨a0,Mx,My,rfl⟩:=okWide_slice Tryz.underlying22 (UO 0 22 v0 rfl rfl)
 have k0:=h0
 have lt0:∀ x∈p0,x.block < W.heap.size:=by obtain ⟨m,hm⟩:=k0;exact DataW.trod_lt m _ _ _ hm
 obtain ⟨z0,w0⟩:∃ zs,PN .i64 W a0 Mx My zs:=by
  obtain ⟨fuel,hf⟩:=h0
  rcases open_ints Tryz.underlying22 Tryz.underlying3 (by kernel_rfl) hf with ⟨HI,_⟩ | ⟨x,l,c,zs,HI,_,hl,hm,hz,_,uz,hwz⟩
  ·simp [Value.cells] at HI
   obtain ⟨rfl,rfl,rfl⟩:=HI
   exact ⟨[],.inl ⟨rfl,rfl,rfl,rfl⟩⟩
  ·simp [Value.cells] at HI
   obtain ⟨rfl,rfl,rfl⟩:=HI
   exact ⟨zs,.inr ⟨_,rfl,hl,hm,by simpa using hz,uz,hwz⟩⟩
 clear hA0 PQ
 refine (walk a0 Mx My z0 W w0 (Ry hL.1 hL.2)).mono fun e W' ⟨he,bel⟩=>?_
 subst he
 exact ⟨_,rfl,_,_,_,[],_,[],hW',trodAll_mk1 (shut_bool Tryz.underlying4 _),(trodAll_cons_mk (Below.trod laidOut (by kernel_rfl) (of_decide_eq_true (by kernel_rfl)) k0 bel lt0) trodAll_mk0),rfl,bel.frame _,fun h=>by cases h⟩
end Go.Proofs.YthamhifbccpcpaaGreatDoor.alarmsSummed
