/- The frame of the law: what its walk is told, what its row lays. -/
import Derived.Test.YtjgdilohhcheoaaGreatDoorRows
import Derived.WalkKit
import Derived.ProofKit
import Derived.OpenShut
import Derived.ShutString
import Derived.ChangeOld
import Derived.Below
import Derived.LaidMore
import Derived.Lay
import Derived.Stop.Joined
import Derived.Lib.LaidIn
import Derived.Lib.LaidU8T
import Derived.SevenTiedAt
import Derived.Test.YtjgdilohhcheoaaGreatDoorEngC
import Derived.Test.YtjgdilohhcheoaaGreatDoorEngE
import Derived.Test.YtjgdilohhcheoaaGreatDoorLib
import Derived.Test.YtjgdilohhcheoaaGreatDoorCards
import Derived.Test.YtjgdilohhcheoaaGreatDoorTie
import Derived.Test.YtjgdilohhcheoaaGreatDoorLivW3
import Derived.Test.YtjgdilohhcheoaaGreatDoorPlLA
namespace Go.Proofs.YtjgdilohhcheoaaGreatDoor.livesFollowed
open Go.ChangeShapes Go.WideShapes Go.ChangeAt Go.RowKit
open Go.ChangeMaps (open_string shut_string)
set_option linter.unusedVariables false
theorem own:ownKnob Tryz.prog.godebug=none:=by kernel_rfl
theorem laidOut:laidOutB Tryz.prog=true:=by kernel_rfl
def N7 (k:IntKind) (w:World) (a:Option Addr) (len cap:Nat) (zs:List Int):Prop:=
 (a=none∧len=0∧cap=0∧zs=[])∨
 ∃ x,a=some x∧len≤cap∧cap≤maxLen∧zs.length=cap∧(∀ i,i < zs.length→w.cell? (x.add i)=some (.int k (zs.getD i 0)))∧∀ n∈zs,(Lit.int k n).wf=true
theorem walk (a0:Option Addr) (K4 K5:Nat) (z0:List Int) (w:World) (w0:N7 .i64 w a0 K4 K5 z0) (hT:∀ e∈Go.Beacon.uz,e.1 < w.heap.size∧e.2 (w.heap[e.1]?)):
 Calls Tryz.prog 4 #[.slice a0 K4 K5] w fun e w'=>e=.returned (.bool true)∧Below w.heap.size w w':=by
 exact Go.Eng.Jl w0 (Go.Beacon.H6 hT) (fun l=>xD (Go.Beacon.vF l))
theorem Pv:Go.Pinned.utf8First=Lib.firstData:=by kernel_rfl
theorem Ww:(Rows.laid_unicode_utf8_acceptRanges:DataW Unit)=Lib.acceptData:=by kernel_rfl
noncomputable def Cy (os:Os):World:=World.laidAll Tryz.prog os Rows.livesFollowedRow.laid
theorem met (os:Os) (args:Array Value):laidMetH Tryz.prog Rows.livesFollowedRow.laid ((Cy os).forCall (fun _ _=>0) ⟨#[],args,[]⟩).memory:=by
 rw [MakeChecks.laidMetH_plain _ _ _ (by kernel_rfl)]
 exact laidMet_laidAll _ (by kernel_rfl) (by kernel_rfl)
theorem Sy:(Rows.laid_internal_strconv_uint64pow10:DataW Unit)=Lib.tabData .u64 Lib.pow10Tab:=by kernel_rfl
theorem Pw {W:World} (h:laidMetH Tryz.prog Rows.livesFollowedRow.laid W) (hs:W.ShapedOpen Tryz.prog):∀ e∈Go.Beacon.uz,e.1 < W.heap.size∧e.2 (W.heap[e.1]?):=by
 rw [MakeChecks.laidMetH_plain _ _ _ (by kernel_rfl)] at h
 have hu:=Go.Beacon.H7 (utf8Tabs_of_readsT (U8Types.of196 Tryz.G7) ⟨by kernel_rfl,by kernel_rfl,by kernel_rfl,by kernel_rfl,by kernel_rfl,by kernel_rfl,by kernel_rfl⟩ (Pv▸Lib.laidMet.reads h (d:=Go.Pinned.utf8First) (.tail _ (.tail _ (.tail _ (.tail _ (.tail _ (.head _))))))) (Ww▸Lib.laidMet.reads h (d:=Rows.laid_unicode_utf8_acceptRanges) (.tail _ (.tail _ (.tail _ (.head _))))))
 have r2:=hu.1
 have r3:=hu.2
 have r4:=Go.Eng.Md (g:=4) (t:=270) (by kernel_rfl) (by kernel_rfl) Tryz.underlying270 Tryz.underlying215 (by kernel_rfl) (by kernel_rfl) (Sy▸(Lib.laidMet.reads h (d:=Rows.laid_internal_strconv_uint64pow10) (.tail _ (.tail _ (.head _)))))
 obtain ⟨m,hm⟩:=Tryz.Kh.s1_3 W hs
 have r0:=Go.Eng.Mc hm
 intro e he
 simp only [Go.Beacon.uz,List.nil_append,List.cons_append,List.mem_cons,List.not_mem_nil,or_false] at he
 rcases he with rfl | rfl | rfl | rfl
 ·exact r2
 ·exact r3
 ·exact r4
 ·exact r0
set_option maxRecDepth 100000 in
theorem lifted (os:Os) (started:os.Started) (H:Type) (enc:TypeId×Value→H):
 ReturnsInHanded {} Tryz.checked os 4 .any (fun w args=>(Rows.livesFollowedSpec.pre enc Tryz.prog Tryz.f4 [] false w args∧laidMetH Tryz.prog Rows.livesFollowedRow.laid w)∧sizedMet enc Tryz.prog Tryz.f4 (OpenSpec.ofChange Rows.livesFollowedSpec) false w args) (Rows.livesFollowedSpec.post enc Tryz.prog Tryz.f4 false true false false):=by
 refine Go.Eng.Ek (C:=Tryz.checked) (X:=fun w _=>laidMetH Tryz.prog Rows.livesFollowedRow.laid w) (fun _ _ _ hh h=>h.of_heap hh) own started (by kernel_rfl) Tryz.func4
  (ChangeSpec.witness_shaped (enc:=enc) (C:=Tryz.checked) (os:=os) (X:=fun w _=>laidMetH Tryz.prog Rows.livesFollowedRow.laid w) false (Cy os) #[.slice none 0 0] 8 (World.laidAll_os _ _ _) (World.shaped_of_ZipB (by kernel_rfl) (by kernel_rfl)) (by kernel_rfl) (by kernel_rfl) (by kernel_rfl) (met os _)) ?_
 intro W base args ds gs before N8 hW _ _ hL _
 have Sz:∀ (j:Nat) t v,Tryz.f4.params[j]? =some t→args[j]? =some v→Value.okWide Tryz.prog W .any base t v:=N8
 have hW':=hW
 obtain ⟨p,q,ZS,hV,rfl,hfz,Bo⟩:=hW
 have hA:DataW.TrodAll enc Tryz.prog W 0 (fun _=>true) true Tryz.f4.params.toList args.toList ds p:=ZS
 rw [Tryz.params4] at hA Sz
 obtain ⟨v0,vs0,d0,ds0,p0,q0,NC,rfl,rfl,h0,r0⟩:=trodAll_cons hA
 obtain ⟨rfl,rfl,rfl⟩:=trodAll_nil r0
 obtain rfl:args=#[v0]:=by cases args;simp_all
 obtain ⟨rfl,rfl⟩:=trodVars_none hV
 obtain ⟨a0,K4,K5,rfl⟩:=okWide_slice Tryz.underlying22 (Sz 0 22 v0 rfl rfl)
 have k0:=h0
 have lt0:∀ x∈p0,x.block < W.heap.size:=by obtain ⟨m,hm⟩:=k0;exact DataW.trod_lt m _ _ _ hm
 obtain ⟨z0,w0⟩:∃ zs,N7 .i64 W a0 K4 K5 zs:=by
  obtain ⟨fuel,hf⟩:=h0
  rcases open_ints Tryz.underlying22 Tryz.underlying3 (by kernel_rfl) hf with ⟨IJ,_⟩ | ⟨x,l,c,zs,IJ,_,hl,hm,hz,_,uk,hwz⟩
  ·simp [Value.cells] at IJ
   obtain ⟨rfl,rfl,rfl⟩:=IJ
   exact ⟨[],.inl ⟨rfl,rfl,rfl,rfl⟩⟩
  ·simp [Value.cells] at IJ
   obtain ⟨rfl,rfl,rfl⟩:=IJ
   exact ⟨zs,.inr ⟨_,rfl,hl,hm,by simpa using hz,uk,hwz⟩⟩
 clear ZS N8
 refine (walk a0 K4 K5 z0 W w0 (Pw hL.1 hL.2)).mono fun e W' ⟨he,ZT⟩=>?_
 subst he
 exact ⟨_,rfl,_,_,_,[],_,[],hW',trodAll_mk1 (shut_bool Tryz.underlying4 _),(trodAll_cons_mk (Below.trod laidOut (by kernel_rfl) (of_decide_eq_true (by kernel_rfl)) k0 ZT lt0) trodAll_mk0),rfl,ZT.frame _,fun h=>by cases h⟩
end Go.Proofs.YtjgdilohhcheoaaGreatDoor.livesFollowed
