/- Plain facts on what the functions compute. No program in sight. -/
import Derived.Test.YtipbfaojbmendaaGreatDoorTcrP
import Derived.Test.YtipbfaojbmendaaGreatDoorPlBA
import Derived.Lib.AtoiTie
import Derived.Lib.AtoiBound
import Derived.Lib.ItoaLen
import Derived.Laws.Bits64
open BitVec renaming ofInt→dl
open Bool renaming and_eq_true→af,eq_iff_iff→aw,not_true→bm,false_eq_true→bo,or_eq_true→cf,true_eq_false→ci,false_ne_true→dd,not_eq_true'→d9,not_eq_false→ea
open Classical renaming not_not→c8
open Int renaming toNat_natCast→al,tmod_lt_of_pos→d1
open List renaming drop_of_length_le→ag,replicate→ap,foldl_cons→aS,mem_cons→be,map_cons→bi,drop_zero→bk,all_cons→bp,isPrefixOf→bv,getElem?_eq_some_iff→bG,foldl_append→bP,mem_map→bW,mem_of_getElem?→bX,sum_cons→cl,getElem?_map→cn,pairwise_cons→cp,length_pos_iff→cs,cons_append→cz,take_of_length_le→cU,length_cons→dg,map_append→dk,filter_cons→ds,length_append→dy,length_singleton→dE,all_append→d4,take_add_one→d5,mem_cons_of_mem→d6,take_succ_eq_append_getElem→d7,map_nil→d8,foldl_nil→eg,getLast?_concat→ej,mem_cons_self→el,getD_eq_getElem?_getD→em,getElem?_eq_getElem→eq,filter_append→es,getElem?_of_mem→eF,length_map→eH,Perm.refl→eL,Pairwise.drop→eX,Pairwise.nil→eY
open Nat renaming zero_add→ce,le_refl→cv,strongRecOn→cy,add_comm→d2
open Option renaming bind_some→ac,map→ad,some.injEq→cc,some.inj→cH,getD_some→d0
open Prod renaming fst→bU
open UInt8 renaming ofNat→ca,toNat_ofNat'→cb,toNat_inj→d3
set_option linter.unusedVariables false
namespace Go.Beacon
open Go Go.Eng
structure aK where
 oA:List Version
 bK:Int
deriving DecidableEq,Inhabited
noncomputable def QN (c1:Bool):Bool:=
 c1
noncomputable def Wu (aa ai aL:Int):Bool:=
 QN ((decide (ai≤aa))&&(decide (aa≤aL)))
noncomputable def sy (c2:Bool):Option Bool:=
 some c2
noncomputable def uR (aa:Range) (ai:Version):Option Bool:=
 (fP aa.xM ai).bind fun v3=>
 if v3≤(0:Int) then
  (fP ai aa.oq).bind fun v4=>
  sy (decide (v4≤(0:Int)))
 else
  sy false
noncomputable def Ae (aa:ar) (ai:Version):Option Bool:=
 (dB aa.cr (fun y0=>uR y0 ai)).bind fun v3=>
 some v3
noncomputable def dK (aa:List Int) (ai n2:Int):Option (Int⊕Int):=
 if n2 < (aa.length:Int) then
  (idx aa n2).bind fun v3=>
  if ai=v3 then
   ad .inr (some n2)
  else
   some (.inl (bA (n2+(1:Int))))
 else
  ad .inr (some (-1:Int))
noncomputable def lR (aa:List Int) (ai n2:Int):Option Int:=
 iter (fun x:Int=>dK aa ai x) n2
noncomputable def nq (aa:List Int) (ai:Int):Option Int:=
 lR aa ai (0:Int)
noncomputable def eM (aa:List Int) (ai:Int):Option Bool:=
 (nq aa ai).bind fun v1=>
 some (decide ((0:Int)≤v1))
noncomputable def qT (n7:Int) (l10:List MarkS):Option (((List MarkS)×Int)⊕(List MarkS)):=
 some (.inl (l10,bA (n7+(1:Int))))
noncomputable def ug (n7:Int) (l34:List MarkS):Option (((List MarkS)×Int)⊕(List MarkS)):=
 qT n7 l34
noncomputable def xS (l6:List MarkS) (n7:Int) (v11:MarkS) (c31:Bool):Option (((List MarkS)×Int)⊕(List MarkS)):=
 if c31=true then
  (app l6 [v11]).bind fun qh=>
  ug n7 qh
 else
  ug n7 l6
noncomputable def qU (l6:List MarkS) (n7:Int) (v11:MarkS) (n15:Int) (q16:bq) (n17 n18 n19 n20:Int):Option (((List MarkS)×Int)⊕(List MarkS)):=
 (nU (dX (dX (dX (dX (dX ([]:List (Int×(List Int))) (1:Int) [(0:Int),(3:Int),(4:Int)]) (2:Int) [(1:Int)]) (5:Int) [(1:Int)]) (3:Int) [(2:Int)]) (4:Int) [(2:Int)]) v11.Kind []).bind fun yZ=>
 (eM yZ n17).bind fun v32=>
 xS l6 n7 v11 (v32&&((decide (v11.Kind=(1:Int)))||(decide (v11.Version=(⟨n18,n19,n20⟩:Version)))))
noncomputable def oB (l6:List MarkS) (n7:Int) (v11:MarkS) (Ts:Bool):Option (((List MarkS)×Int)⊕(List MarkS)):=
 if Ts=true then
  qT n7 l6
 else
  if (0:Int)≤(bA ((l6.length:Int) - (1:Int))) then
   (idx l6 (bA ((l6.length:Int) - (1:Int)))).bind fun v21=>
   qU l6 n7 v11 v21.At v21.Device v21.Kind v21.Version.ax v21.Version.aA v21.Version.aC
  else
   qU l6 n7 v11 (0:Int) [] (0:Int) (0:Int) (0:Int) (0:Int)
noncomputable def uh (aa:Campaign) (ai:bq) (aL:List MarkS) (bu:Int) (l6:List MarkS) (n7:Int):Option (((List MarkS)×Int)⊕(List MarkS)):=
 if n7 < (aL.length:Int) then
  (idx aL n7).bind fun v11=>
  oB l6 n7 v11 ((decide (v11.Device≠ai))||((decide (v11.At < aa.At))||(decide (bu < v11.At))))
 else
  ad .inr (some l6)
noncomputable def qV (aa:Campaign) (ai:bq) (aL:List MarkS) (bu:Int) (l6:List MarkS) (n7:Int):Option (List MarkS):=
 iter (fun x:(List MarkS)×Int=>uh aa ai aL bu x.1 x.2) (l6,n7)
noncomputable def vj (aa:Campaign) (ai:bq) (aL:List MarkS) (bu:Int):Option (List MarkS):=
 qV aa ai aL bu [] (0:Int)
noncomputable def CO (q3:bq) (n6 n7:Int):Option ((Int×Int)⊕Int):=
 if n7 < ((zU q3).length:Int) then
  (idx (zU q3) n7).bind fun v8=>
  some (.inl (IntKind.u64.wrap ((yb .u64 n6 (IntKind.u64.wrap (v8))) * (1099511628211:Int)),bA (n7+(1:Int))))
 else
  ad .inr (some (bA ((yb .u64 n6 (B9 .u64 n6 (32:Int))).tmod (1000:Int))))
noncomputable def zj (q3:bq) (n6 n7:Int):Option Int:=
 iter (fun x:Int×Int=>CO q3 x.1 x.2) (n6,n7)
noncomputable def Hk (aa:Campaign) (ai:bq):Option Int:=
 (Qb aa.Key ([0]:bq)).bind fun q2=>
 (Qb q2 ai).bind fun q3=>
 zj q3 (14695981039346656037:Int) (0:Int)
noncomputable def AO (aa:Campaign) (n5 n6:Int):Option ((Int×Int)⊕Int):=
 if n6 < (aa.aG.length:Int) then
  (idx aa.aG n6).bind fun v7=>
  if (bA (n5 - v7.Part)) < (0:Int) then
   ad .inr (some n6)
  else
   some (.inl (bA (n5 - v7.Part),bA (n6+(1:Int))))
 else
  ad .inr (some (0:Int))
noncomputable def wM (aa:Campaign) (n5 n6:Int):Option Int:=
 iter (fun x:Int×Int=>AO aa x.1 x.2) (n5,n6)
noncomputable def uS (aa:Campaign) (ai:bq):Option Int:=
 (Hk aa ai).bind fun v2=>
 wM aa v2 (0:Int)
noncomputable def wN (c2:Bool):Bool:=
 c2
noncomputable def nt (aa:MarkS):Bool:=
 wN ((decide (aa.Kind≠(3:Int)))&&(decide (aa.Kind≠(4:Int))))
noncomputable def rH (aa:List MarkS) (jb:MarkS→Option Bool) (n2:Int):Option (Int⊕Int):=
 if n2 < (aa.length:Int) then
  (idx aa n2).bind fun v3=>
  (jb v3).bind fun v4=>
  if v4=true then
   ad .inr (some n2)
  else
   some (.inl (bA (n2+(1:Int))))
 else
  ad .inr (some (-1:Int))
noncomputable def rI (aa:List MarkS) (jb:MarkS→Option Bool) (n2:Int):Option Int:=
 iter (fun x:Int=>rH aa jb x) n2
noncomputable def td (aa:List MarkS) (jb:MarkS→Option Bool):Option Int:=
 rI aa jb (0:Int)
noncomputable def lS (n7:Int) (jM:List MarkS) (n12:Int):Option (((List MarkS)×Int×Int)⊕(List MarkS)):=
 some (.inl (jM,n12,bA (n7+(1:Int))))
noncomputable def qu (l5:List MarkS) (n6:Int):Option (List MarkS):=
 (Gz l5 n6 (l5.length:Int)).bind fun yk=>
 (Gz (S6 l5 n6 yk.length (⟨(0:Int),[],(0:Int),(⟨(0:Int),(0:Int),(0:Int)⟩:Version)⟩:MarkS)) (0:Int) n6).bind fun BE=>
 some BE
noncomputable def qx (jb:MarkS→Option Bool) (l5:List MarkS) (n6 n7:Int):Option (((List MarkS)×Int×Int)⊕(List MarkS)):=
 if n7 < (l5.length:Int) then
  (idx l5 n7).bind fun v8=>
  (jb v8).bind fun v10=>
  if (!v10)=true then
   (idx l5 n6).bind fun oZ=>
   lS n7 (l5.set n6.toNat v8) (bA (n6+(1:Int)))
  else
   lS n7 l5 n6
 else
  ad .inr (qu l5 n6)
noncomputable def qy (jb:MarkS→Option Bool) (l5:List MarkS) (n6 n7:Int):Option (List MarkS):=
 iter (fun x:(List MarkS)×Int×Int=>qx jb x.1 x.2.1 x.2.2) (l5,n6,n7)
noncomputable def jC (aa:List MarkS) (jb:MarkS→Option Bool):Option (List MarkS):=
 (td aa jb).bind fun v1=>
 if v1=(-1:Int) then
  some aa
 else
  qy jb aa v1 (bA (v1+(1:Int)))
noncomputable def Jd (aa:Int):Int:=
 if aa < (0:Int) then
  (-1:Int)
 else
  if (0:Int) < aa then
   (1:Int)
  else
   (0:Int)
noncomputable def nu (aa ai:MarkS):Int:=
 if aa.At≠ai.At then
  (Jd (bA (aa.At - ai.At)))
 else
  (Lib.compareBytes aa.Device ai.Device)
noncomputable def wP (n7:Int) (sb:List MarkS):Option (((List MarkS)×Int)⊕Int):=
 some (.inl (sb,bA (n7+(1:Int))))
noncomputable def AP (n24:Int) (v25:MarkS) (n27:Int) (Tx:Bool):Option ((Int×Int)⊕Int):=
 if Tx=true then
  ad .inr (some v25.At)
 else
  some (.inl (n27,bA (n24+(1:Int))))
noncomputable def rJ (aa:Campaign) (ai n24:Int) (v25:MarkS) (n27:Int):Option ((Int×Int)⊕Int):=
 (idx aa.aG ai).bind fun v28=>
 AP n24 v25 n27 ((decide (v28.pk≤(bA (n24+(1:Int)))))&&(decide ((bA (v28.ct * (bA (n24+(1:Int))))) < (bA (n27 * (1000:Int))))))
noncomputable def tN (aa:Campaign) (ai:Int) (v20:(List MarkS)) (n23 n24:Int):Option ((Int×Int)⊕Int):=
 if n24 < (v20.length:Int) then
  (idx v20 n24).bind fun v25=>
  if v25.Kind=(4:Int) then
   rJ aa ai n24 v25 (bA (n23+(1:Int)))
  else
   rJ aa ai n24 v25 n23
 else
  ad .inr (some (-1:Int))
noncomputable def tO (aa:Campaign) (ai:Int) (v20:(List MarkS)) (n23 n24:Int):Option Int:=
 iter (fun x:Int×Int=>tN aa ai v20 x.1 x.2) (n23,n24)
noncomputable def wQ (aa:Campaign) (ai:Int) (l6:List MarkS):Option Int:=
 (jC l6 (fun y0=>some (nt y0))).bind fun Lk=>
 (ph Lk.length (fun r:(List MarkS)=>r.length) (dU Lk (fun y0 y1=>some (nu y0 y1)))).bind fun v20=>
 tO aa ai v20 (0:Int) (0:Int)
noncomputable def wR (aa:Campaign) (ai:Int) (aL:List DeviceS) (bu:List MarkS) (cA:Int) (l6:List MarkS) (n7:Int):Option (((List MarkS)×Int)⊕Int):=
 if n7 < (aL.length:Int) then
  (idx aL n7).bind fun v9=>
  (uS aa v9.Key).bind fun v11=>
  if v11=ai then
   (vj aa v9.Key bu cA).bind fun rq=>
   (app l6 rq).bind fun BF=>
   wP n7 BF
  else
   wP n7 l6
 else
  ad .inr (wQ aa ai l6)
noncomputable def tP (aa:Campaign) (ai:Int) (aL:List DeviceS) (bu:List MarkS) (cA:Int) (l6:List MarkS) (n7:Int):Option Int:=
 iter (fun x:(List MarkS)×Int=>wR aa ai aL bu cA x.1 x.2) (l6,n7)
noncomputable def Hl (aa:Campaign) (ai:Int) (aL:List DeviceS) (bu:List MarkS) (cA:Int):Option Int:=
 tP aa ai aL bu cA [] (0:Int)
noncomputable def tf (n5 n8:Int):Option ((Int×Int)⊕Int):=
 some (.inl (n8,bA (n5+(1:Int))))
noncomputable def wS (n4 n5 v6:Int) (c7:Bool):Option ((Int×Int)⊕Int):=
 if c7=true then
  tf n5 v6
 else
  tf n5 n4
noncomputable def tg (aa:Campaign) (ai:List DeviceS) (aL:List MarkS) (bu n4 n5:Int):Option ((Int×Int)⊕Int):=
 if n5 < (aa.aG.length:Int) then
  (Hl aa n5 ai aL bu).bind fun v6=>
  wS n4 n5 v6 ((decide ((0:Int)≤v6))&&((decide (n4 < (0:Int)))||(decide (v6 < n4))))
 else
  ad .inr (some n4)
noncomputable def pP (aa:Campaign) (ai:List DeviceS) (aL:List MarkS) (bu n4 n5:Int):Option Int:=
 iter (fun x:Int×Int=>tg aa ai aL bu x.1 x.2) (n4,n5)
noncomputable def nv (aa:Campaign) (ai:List DeviceS) (aL:List MarkS) (bu:Int):Option Int:=
 pP aa ai aL bu (-1:Int) (0:Int)
noncomputable def zk (c2:Bool):Bool:=
 c2
noncomputable def zl (c3:Bool):Bool:=
 c3
noncomputable def xo (aa:Campaign) (ai aL:Int):Bool:=
 if aa.bb.cr < aa.bb.To then
  zk ((decide (aa.bb.cr≤((bA ((bA (aL+ai))+(86400000:Int))).tmod (86400000:Int))))&&(decide (((bA ((bA (aL+ai))+(86400000:Int))).tmod (86400000:Int)) < aa.bb.To)))
 else
  if aa.bb.To < aa.bb.cr then
   zl ((decide (aa.bb.cr≤((bA ((bA (aL+ai))+(86400000:Int))).tmod (86400000:Int))))||(decide (((bA ((bA (aL+ai))+(86400000:Int))).tmod (86400000:Int)) < aa.bb.To)))
  else
   true
noncomputable def oc (aa:List Int):Option (List Int):=
 RW S7 aa
noncomputable def ui (n20:Int) (v21:MarkS) (n23 n24 n25 n26:Int):Option ((Int×Int×Int×Int×Int×Int×Int)⊕ah):=
 some (.inl (v21.Kind,v21.At,n23,n24,n25,n26,bA (n20+(1:Int))))
noncomputable def uj (n16 n17 n18 n20:Int) (v21:MarkS) (n27:Int):Option ((Int×Int×Int×Int×Int×Int×Int)⊕ah):=
 ui n20 v21 n16 n17 n18 n27
noncomputable def uk (v5:(List MarkS)) (n14 n15 n16 n17 n18 n19 n20:Int):Option ((Int×Int×Int×Int×Int×Int×Int)⊕ah):=
 if n20 < (v5.length:Int) then
  (idx v5 n20).bind fun v21=>
  if v21.Kind=(3:Int) then
   ui n20 v21 v21.Version.ax v21.Version.aA v21.Version.aC n19
  else
   if v21.Kind=(4:Int) then
    uj n16 n17 n18 n20 v21 (bA (n19+(1:Int)))
   else
    uj n16 n17 n18 n20 v21 n19
 else
  ad .inr (some (⟨n14,n15,(⟨n16,n17,n18⟩:Version),n19⟩:ah))
noncomputable def qW (v5:(List MarkS)) (n14 n15 n16 n17 n18 n19 n20:Int):Option ah:=
 iter (fun x:Int×Int×Int×Int×Int×Int×Int=>uk v5 x.1 x.2.1 x.2.2.1 x.2.2.2.1 x.2.2.2.2.1 x.2.2.2.2.2.1 x.2.2.2.2.2.2) (n14,n15,n16,n17,n18,n19,n20)
noncomputable def yp (aa:Campaign) (ai:DeviceS) (aL:List MarkS) (bu:Int):Option ah:=
 (vj aa ai.Key aL bu).bind fun v5=>
 qW v5 (0:Int) (0:Int) ai.bB.ax ai.bB.aA ai.bB.aC (0:Int) (0:Int)
noncomputable def Et (c5:Bool):Option Bool:=
 some c5
noncomputable def Je (aa:Campaign) (ai:DeviceS) (aL:List MarkS) (bu:Int):Option Bool:=
 (yp aa ai aL bu).bind fun v3=>
 Et ((decide (v3.Version=aa.Target))||((decide ((3:Int)≤v3.ct))||(decide (v3.Kind=(5:Int)))))
noncomputable def od (c2:Bool):Option Bool:=
 some c2
noncomputable def nN (aa:DeviceS) (ai:Campaign) (aL:Int) (bu:List MarkS) (cA:Int):Option Bool:=
 (uS ai aa.Key).bind fun v3=>
 if v3=(bA (aL - (1:Int))) then
  (Je ai aa bu cA).bind fun v4=>
  od (!v4)
 else
  od false
noncomputable def o7 (aa:List DeviceS) (jb:DeviceS→Option Bool) (n2:Int):Option (Int⊕Int):=
 if n2 < (aa.length:Int) then
  (idx aa n2).bind fun v3=>
  (jb v3).bind fun v4=>
  if v4=true then
   ad .inr (some n2)
  else
   some (.inl (bA (n2+(1:Int))))
 else
  ad .inr (some (-1:Int))
noncomputable def o8 (aa:List DeviceS) (jb:DeviceS→Option Bool) (n2:Int):Option Int:=
 iter (fun x:Int=>o7 aa jb x) n2
noncomputable def qz (aa:List DeviceS) (jb:DeviceS→Option Bool):Option Int:=
 o8 aa jb (0:Int)
noncomputable def kE (aa:List DeviceS) (jb:DeviceS→Option Bool):Option Bool:=
 (qz aa jb).bind fun v1=>
 some (decide ((0:Int)≤v1))
noncomputable def qX (aa:Int) (ai:List DeviceS) (aL:Campaign) (bu:Int) (cA:List MarkS):Option Bool:=
 (kE ai (fun y0=>nN y0 aL bu cA aa)).bind fun v2=>
 some (!v2)
noncomputable def sA (aa:List Int) (jb:Int→Option Bool) (n2:Int):Option (Int⊕Int):=
 if n2 < (aa.length:Int) then
  (idx aa n2).bind fun v3=>
  (jb v3).bind fun v4=>
  if v4=true then
   ad .inr (some n2)
  else
   some (.inl (bA (n2+(1:Int))))
 else
  ad .inr (some (-1:Int))
noncomputable def sB (aa:List Int) (jb:Int→Option Bool) (n2:Int):Option Int:=
 iter (fun x:Int=>sA aa jb x) n2
noncomputable def oC (aa:List Int) (jb:Int→Option Bool):Option Int:=
 sB aa jb (0:Int)
noncomputable def um (n26:Int) (R3:List Int):Option (((List Int)×Int)⊕(((List Int)×Int×Int)⊕(List Int))):=
 some (.inl (R3,bA (n26+(1:Int))))
noncomputable def xT (sb:List Int) (n15 n18:Int) (c37:Bool):Option (((List Int)×Int×Int)⊕(List Int)):=
 if c37=true then
  ad .inr (some sb)
 else
  (app sb [n18]).bind fun l38=>
  some (.inl (l38,n18,bA (n15+(1:Int))))
noncomputable def qY (bu v4:Int) (sb:List Int) (n15 n18:Int):Option (((List Int)×Int×Int)⊕(List Int)):=
 xT sb n15 n18 ((decide (bu < n18))||((decide ((0:Int)≤v4))&&(decide (v4≤n18))))
noncomputable def uo (aa:Campaign) (ai:List DeviceS) (aL:List MarkS) (bu v4:Int) (sb:List Int) (n15:Int) (sJ:List Int):Option (((List Int)×Int×Int)⊕(List Int)):=
 (ph sJ.length (fun r:(List Int)=>r.length) (oc sJ)).bind fun v33=>
 (oC v33 (fun y0=>qX y0 ai aa n15 aL)).bind fun J9=>
 if J9 < (0:Int) then
  ad .inr (some sb)
 else
  (idx v33 J9).bind fun v35=>
  (idx aa.aG n15).bind fun Qx=>
  qY bu v4 sb n15 (bA (v35+Qx.oo))
noncomputable def uq (aa:Campaign) (ai:List DeviceS) (aL:List MarkS) (bu v4:Int) (sb:List Int) (n15 kG:Int) (sJ:List Int) (n26:Int):Option (((List Int)×Int)⊕(((List Int)×Int×Int)⊕(List Int))):=
 if n26 < (aL.length:Int) then
  (idx aL n26).bind fun jV=>
  if (Wu jV.At kG bu)=true then
   (app sJ [jV.At]).bind fun Tt=>
   um n26 Tt
  else
   um n26 sJ
 else
  ad .inr (uo aa ai aL bu v4 sb n15 sJ)
noncomputable def qZ (aa:Campaign) (ai:List DeviceS) (aL:List MarkS) (bu v4:Int) (sb:List Int) (n15 kG:Int) (sJ:List Int) (n26:Int):Option (((List Int)×Int×Int)⊕(List Int)):=
 iter (fun x:(List Int)×Int=>uq aa ai aL bu v4 sb n15 kG x.1 x.2) (sJ,n26)
noncomputable def ur (aa:Campaign) (ai:List DeviceS) (aL:List MarkS) (bu v4:Int) (sb:List Int) (n14 n15:Int):Option (((List Int)×Int×Int)⊕(List Int)):=
 if n15 < (aa.aG.length:Int) then
  if (0:Int) < n15 then
   (idx sb (bA (n15 - (1:Int)))).bind fun kG=>
   qZ aa ai aL bu v4 sb n15 kG [kG] (0:Int)
  else
   qY bu v4 sb n15 n14
 else
  ad .inr (some sb)
noncomputable def jF (aa:Campaign) (ai:List DeviceS) (aL:List MarkS) (bu v4:Int) (sb:List Int) (n14 n15:Int):Option (List Int):=
 iter (fun x:(List Int)×Int×Int=>ur aa ai aL bu v4 x.1 x.2.1 x.2.2) (sb,n14,n15)
noncomputable def yq (aa:Campaign) (ai:List DeviceS) (aL:List MarkS) (bu:Int):Option (List Int):=
 (nv aa ai aL bu).bind fun v4=>
 jF aa ai aL bu v4 [] aa.At (0:Int)
noncomputable def ra (aa ai:DeviceS) (aL:Campaign):Option Int:=
 (uS aL aa.Key).bind fun v3=>
 (Hk aL aa.Key).bind fun v4=>
 (uS aL ai.Key).bind fun v5=>
 (Hk aL ai.Key).bind fun v6=>
 (ed [v3,v4] [v5,v6]).bind fun v7=>
 some v7
noncomputable def iX (n4:Int) (l7:List DeviceS) (n8:Int) (c9:Bool):Option (((List DeviceS)×Int)⊕(((List DeviceS)×Int)⊕(List DeviceS))):=
 if c9=true then
  (idx l7 (bA (n8 - (1:Int)))).bind fun oZ=>
  (idx l7 n8).bind fun rq=>
  (idx l7 n8).bind fun zH=>
  (idx (l7.set n8.toNat oZ) (bA (n8 - (1:Int)))).bind fun Cw=>
  some (.inl ((l7.set n8.toNat oZ).set (bA (n8 - (1:Int))).toNat rq,bA (n8 - (1:Int))))
 else
  ad .inr (some (.inl (l7,bA (n4+(1:Int)))))
noncomputable def nO (ai:Int) (sF:DeviceS→DeviceS→Option Int) (n4:Int) (l7:List DeviceS) (n8:Int):Option (((List DeviceS)×Int)⊕(((List DeviceS)×Int)⊕(List DeviceS))):=
 if ai < n8 then
  (idx l7 n8).bind fun v10=>
  (idx l7 (bA (n8 - (1:Int)))).bind fun v11=>
  (sF v10 v11).bind fun v12=>
  iX n4 l7 n8 (decide (v12 < (0:Int)))
 else
  iX n4 l7 n8 false
noncomputable def nP (ai:Int) (sF:DeviceS→DeviceS→Option Int) (n4:Int) (l7:List DeviceS) (n8:Int):Option (((List DeviceS)×Int)⊕(List DeviceS)):=
 iter (fun x:(List DeviceS)×Int=>nO ai sF n4 x.1 x.2) (l7,n8)
noncomputable def nQ (ai aL:Int) (sF:DeviceS→DeviceS→Option Int) (l3:List DeviceS) (n4:Int):Option (((List DeviceS)×Int)⊕(List DeviceS)):=
 if n4 < aL then
  nP ai sF n4 l3 n4
 else
  ad .inr (some l3)
noncomputable def nR (ai aL:Int) (sF:DeviceS→DeviceS→Option Int) (l3:List DeviceS) (n4:Int):Option (List DeviceS):=
 iter (fun x:(List DeviceS)×Int=>nQ ai aL sF x.1 x.2) (l3,n4)
noncomputable def fZ (aa:List DeviceS) (ai aL:Int) (sF:DeviceS→DeviceS→Option Int):Option (List DeviceS):=
 nR ai aL sF aa (bA (ai+(1:Int)))
noncomputable def qA (ai n10:Int):Option (Int⊕(List DeviceS)):=
 if (bA ((0:Int)+n10)) < ai then
  none
 else
  some (.inl (bA (n10 * (2:Int))))
noncomputable def qB (ai n10:Int):Option (Unit⊕(Int⊕(List DeviceS))):=
 if (bA ((2:Int) * n10))≤ai then
  none
 else
  ad .inr (qA ai n10)
noncomputable def qC (ai n10:Int):Option (Int⊕(List DeviceS)):=
 iter (fun x:Unit=>qB ai n10) ()
noncomputable def lT (ai:Int) (v8:(List DeviceS)) (n10:Int):Option (Int⊕(List DeviceS)):=
 if n10 < ai then
  qC ai n10
 else
  ad .inr (some v8)
noncomputable def lU (ai:Int) (v8:(List DeviceS)) (n10:Int):Option (List DeviceS):=
 iter (fun x:Int=>lT ai v8 x) n10
noncomputable def lV (ai:Int) (Kg:DeviceS→DeviceS→Option Int) (l4:List DeviceS) (n5:Int):Option (List DeviceS):=
 (ph l4.length (fun r:(List DeviceS)=>r.length) (fZ l4 n5 ai Kg)).bind fun v8=>
 lU ai v8 (20:Int)
noncomputable def lW (ai:Int) (Kg:DeviceS→DeviceS→Option Int) (l4:List DeviceS) (n5 n6:Int):Option (((List DeviceS)×Int×Int)⊕(List DeviceS)):=
 if n6≤ai then
  (ph l4.length (fun r:(List DeviceS)=>r.length) (fZ l4 n5 n6 Kg)).bind fun v7=>
  some (.inl (v7,n6,bA (n6+(20:Int))))
 else
  ad .inr (lV ai Kg l4 n5)
noncomputable def lX (ai:Int) (Kg:DeviceS→DeviceS→Option Int) (l4:List DeviceS) (n5 n6:Int):Option (List DeviceS):=
 iter (fun x:(List DeviceS)×Int×Int=>lW ai Kg x.1 x.2.1 x.2.2) (l4,n5,n6)
noncomputable def jD (aa:List DeviceS) (ai:Int) (Kg:DeviceS→DeviceS→Option Int):Option (List DeviceS):=
 lX ai Kg aa (0:Int) (20:Int)
noncomputable def fU (aa:List DeviceS) (jb:DeviceS→DeviceS→Option Int):Option (List DeviceS):=
 (ph aa.length (fun r:(List DeviceS)=>r.length) (jD aa (aa.length:Int) jb)).bind fun v1=>
 some v1
noncomputable def ln (aa:List ar):Option (List ar):=
 app [] aa
noncomputable def oO (c2:Bool):Option Bool:=
 some c2
noncomputable def vH (aa:ar) (ai:bq) (aL:Version):Option Bool:=
 (bL aa.jU ai).bind fun v3=>
 if (!v3)=true then
  oO true
 else
  (Ae aa aL).bind fun v4=>
  oO (!v4)
noncomputable def kX (n7:Int) (jM:List ar) (n12:Int):Option (((List ar)×Int×Int)⊕(List ar)):=
 some (.inl (jM,n12,bA (n7+(1:Int))))
noncomputable def pR (l5:List ar) (n6:Int):Option (List ar):=
 (Gz l5 n6 (l5.length:Int)).bind fun yk=>
 (Gz (S6 l5 n6 yk.length (⟨(⟨(0:Int),(0:Int),(0:Int)⟩:Version),[],[],(0:Int)⟩:ar)) (0:Int) n6).bind fun BE=>
 some BE
noncomputable def pS (jb:ar→Option Bool) (l5:List ar) (n6 n7:Int):Option (((List ar)×Int×Int)⊕(List ar)):=
 if n7 < (l5.length:Int) then
  (idx l5 n7).bind fun v8=>
  (jb v8).bind fun v10=>
  if (!v10)=true then
   (idx l5 n6).bind fun oZ=>
   kX n7 (l5.set n6.toNat v8) (bA (n6+(1:Int)))
  else
   kX n7 l5 n6
 else
  ad .inr (pR l5 n6)
noncomputable def pT (jb:ar→Option Bool) (l5:List ar) (n6 n7:Int):Option (List ar):=
 iter (fun x:(List ar)×Int×Int=>pS jb x.1 x.2.1 x.2.2) (l5,n6,n7)
noncomputable def mc (aa:List ar) (jb:ar→Option Bool):Option (List ar):=
 (cT aa jb).bind fun v1=>
 if v1=(-1:Int) then
  some aa
 else
  pT jb aa v1 (bA (v1+(1:Int)))
noncomputable def vk (aa:List ar) (ai:bq) (aL:Version):Option (List ar):=
 (ln aa).bind fun v3=>
 (mc v3 (fun y0=>vH y0 ai aL)).bind fun v5=>
 some v5
noncomputable def jh (aa:List Version):Option (List Version):=
 app [] aa
noncomputable def ep (aa ai:List Version):Option Int:=
 if (aa.length:Int) < (ai.length:Int) then
  some (-1:Int)
 else
  some (0:Int)
noncomputable def cV (aa ai:List Version) (Kg:Version→Version→Option Int) (n2:Int):Option (Int⊕Int):=
 if n2 < (aa.length:Int) then
  (idx aa n2).bind fun v3=>
  if (ai.length:Int)≤n2 then
   ad .inr (some (1:Int))
  else
   (idx ai n2).bind fun v5=>
   (Kg v3 v5).bind fun v7=>
   if v7≠(0:Int) then
    ad .inr (some v7)
   else
    some (.inl (bA (n2+(1:Int))))
 else
  ad .inr (ep aa ai)
noncomputable def cd (aa ai:List Version) (Kg:Version→Version→Option Int) (n2:Int):Option Int:=
 iter (fun x:Int=>cV aa ai Kg x) n2
noncomputable def cZ (aa ai:List Version) (Kg:Version→Version→Option Int):Option Int:=
 cd aa ai Kg (0:Int)
noncomputable def vl (n23:Int) (l36:List (Version×aK)):Option (((List (Version×aK))×Int)⊕((List (Version×aK))⊕(((List (Version×aK))×Int)⊕((List Version)×Bool)))):=
 some (.inl (l36,bA (n23+(1:Int))))
noncomputable def nw (Kh:Version×aK) (Du:List (Version×aK)) (n23:Int) (v24:ar) (TT:List Version) (c34:Bool):Option (((List (Version×aK))×Int)⊕((List (Version×aK))⊕(((List (Version×aK))×Int)⊕((List Version)×Bool)))):=
 if c34=true then
  vl n23 (dX Du v24.Version (⟨TT,bA (Kh.2.bK+v24.ec)⟩:aK))
 else
  vl n23 Du
noncomputable def qE (Kh:Version×aK) (Lk:(List ar)) (Du:List (Version×aK)) (n23:Int):Option (((List (Version×aK))×Int)⊕((List (Version×aK))⊕(((List (Version×aK))×Int)⊕((List Version)×Bool)))):=
 if n23 < (Lk.length:Int) then
  (idx Lk n23).bind fun v24=>
  (jh Kh.2.oA).bind fun v26=>
  (app v26 [v24.Version]).bind fun TT=>
  (sU Du v24.Version (⟨[],(0:Int)⟩:aK)).bind fun v32=>
  if (!v32.2)=true then
   nw Kh Du n23 v24 TT true
  else
   if (bA (Kh.2.bK+v24.ec)) < v32.1.bK then
    nw Kh Du n23 v24 TT true
   else
    if (bA (Kh.2.bK+v24.ec))=v32.1.bK then
     (cZ TT v32.1.oA (fun y0 y1=>fP y0 y1)).bind fun v35=>
     nw Kh Du n23 v24 TT (decide (v35 < (0:Int)))
    else
     nw Kh Du n23 v24 TT false
 else
  ad .inr (some (.inl Du))
noncomputable def CP (Kh:Version×aK) (Lk:(List ar)) (Du:List (Version×aK)) (n23:Int):Option ((List (Version×aK))⊕(((List (Version×aK))×Int)⊕((List Version)×Bool))):=
 iter (fun x:(List (Version×aK))×Int=>qE Kh Lk x.1 x.2) (Du,n23)
noncomputable def yr (aa:List ar) (ai:bq) (Kh:Version×aK) (BE:List (Version×aK)):Option ((List (Version×aK))⊕(((List (Version×aK))×Int)⊕((List Version)×Bool))):=
 (vk aa ai Kh.1).bind fun Lk=>
 CP Kh Lk BE (0:Int)
noncomputable def CQ (n9:Int) (BE:List (Version×aK)):Option (((List (Version×aK))×Int)⊕((List Version)×Bool)):=
 some (.inl (BE,bA (n9+(1:Int))))
noncomputable def yu (aa:List ar) (ai:bq) (l8:List (Version×aK)) (n9:Int) (BE:List (Version×aK)):Option (((List (Version×aK))×Int)⊕((List Version)×Bool)):=
 JU l8 (fun p=>GP (fun e (x:(List (Version×aK)))=>yr aa ai e x) (fun x:(List (Version×aK))=>CQ n9 x) p BE)
noncomputable def oP (aa:List ar) (ai:bq) (bu:Version) (l8:List (Version×aK)) (n9:Int):Option (((List (Version×aK))×Int)⊕((List Version)×Bool)):=
 if n9 < (bA ((aa.length:Int)+(1:Int))) then
  (sU l8 bu (⟨[],(0:Int)⟩:aK)).bind fun v10=>
  if v10.2=true then
   ad .inr (some (v10.1.oA,true))
  else
   yu aa ai l8 n9 []
 else
  ad .inr (some ([],false))
noncomputable def qF (aa:List ar) (ai:bq) (bu:Version) (l8:List (Version×aK)) (n9:Int):Option ((List Version)×Bool):=
 iter (fun x:(List (Version×aK))×Int=>oP aa ai bu x.1 x.2) (l8,n9)
noncomputable def kY (aa:List ar) (ai:bq) (aL bu:Version):Option ((List Version)×Bool):=
 qF aa ai bu (dX ([]:List (Version×aK)) aL (⟨[],(0:Int)⟩:aK)) (0:Int)
noncomputable def th (c3:Bool):Option Bool:=
 some c3
noncomputable def wT:Option Bool:=
 (dG ([49,46,50,46,51]:bq)).bind fun v1=>
 th ((decide (v1.2=(0:Int)))&&(decide (v1.1=(⟨(1:Int),(2:Int),(3:Int)⟩:Version))))
end Go.Beacon
set_option linter.unusedSimpArgs false
namespace Go.Beacon
open Go Go.Eng
abbrev BN:=an
def yC (s:BN) (k:Int):Prop:=0≤s.at_∧s.at_+k≤4611686018427387904
theorem yC.less {s:BN} {k k':Int} (h:yC s k) (hk:k'≤k):yC s k':=⟨h.1,by have:=h.2;omega⟩
def wU {α:Type} (m:Option (α×BN)) (k:Int) (P:α→Prop):Prop:=∃ v s',m=some (v,s')∧P v∧yC s' k
theorem wU.bind {α β:Type} {m:Option (α×BN)} {k k':Int} {P:α→Prop} {Q:β→Prop} {f:α×BN→Option (β×BN)} (h:wU m k P) (hf:∀ v s',P v→yC s' k→wU (f (v,s')) k' Q):wU (m.bind f) k' Q:=by
 obtain ⟨v,s',rfl,h1,h2⟩:=h
 exact hf v s' h1 h2
theorem wU.ret {α:Type} {v:α} {s:BN} {k:Int} {P:α→Prop} (h1:P v) (h2:yC s k):wU (some (v,s)) k P:=⟨v,s,rfl,h1,h2⟩
theorem CR (x:Int) {n:Int} (h1:1≤n) (h2:n≤4611686018427387904):∃ v,Below x n=some v∧0≤v∧v < n:=by
 unfold Below wy
 rw [if_neg (by omega),TO (by omega)]
 have a1:=Int.lt_tmod_of_pos x (show 0 < n by omega)
 have a2:=d1 x (show 0 < n by omega)
 simp only [ac]
 split
 ·exact ⟨_,rfl,by rw [bc]<;>omega,by rw [bc]<;>omega⟩
 ·exact ⟨_,rfl,by omega,by omega⟩
theorem zm {s:BN} {n k:Int} (hs:yC s (k+1)) (h1:1≤n) (h2:n≤4611686018427387904) (hk:0≤k):wU (iI s n) k (fun v=>0≤v∧v < n):=by
 obtain ⟨a1,a2⟩:=hs
 have e1:bA (s.at_+1)=s.at_+1:=by rw [bc]<;>omega
 have e2:bA (s.at_+1 - 1)=s.at_:=by rw [bc]<;>omega
 unfold iI
 split
 ·obtain ⟨v,hv,h3,h4⟩:=CR (bA (bA (s.at_+1) * 7919)) h1 h2
  rw [hv]
  exact wU.ret ⟨h3,h4⟩ ⟨by show 0≤bA (s.at_+1);omega,by show bA (s.at_+1)+k≤_;omega⟩
 ·rename_i hl
  have JK:(0:Int) < s.L.length:=by omega
  rw [e1,e2,QL JK a1,TP (by omega)]
  simp only [ac]
  obtain ⟨x,hx,_,_⟩:=fe s.L (i:=s.at_ % s.L.length) (Int.emod_nonneg _ (by omega)) (Int.emod_lt_of_pos _ JK)
  rw [hx]
  simp only [ac]
  obtain ⟨u,hu,_,_⟩:=CR x (n:=1073741824) (by omega) (by omega)
  rw [hu]
  simp only [ac]
  obtain ⟨v,hv,h3,h4⟩:=CR (bA (u+bA (bA (s.at_.tdiv s.L.length) * bA (7919+s.at_ % s.L.length)))) h1 h2
  rw [hv]
  exact wU.ret ⟨h3,h4⟩ ⟨by simp only;omega,by simp only;omega⟩
theorem QO {s:BN} {l:List Int} {k:Int} (hs:yC s (k+1)) (h1:l≠[]) (h2:l.length≤1000) (hk:0≤k):wU (dS s l) k (fun v=>v∈l):=by
 unfold dS
 have hl:0 < l.length:=cs.2 h1
 refine wU.bind (zm hs (by omega) (by omega) hk) (fun v s' hv Pm=>?_)
 obtain ⟨x,hx,hm,_⟩:=fe l hv.1 hv.2
 simp only [hx,ac]
 exact wU.ret hm Pm
theorem NI {s:BN} {a b k:Int} (hs:yC s (k+1)) (DZ:a≤b) (ha:-1152921504606846976≤a) (hb:b≤1152921504606846976) (hk:0≤k):wU (nG s a b) k (fun v=>a≤v∧v≤b):=by
 unfold nG
 have e1:bA (b - a)=b - a:=by rw [bc]<;>omega
 have e2:bA (b - a+1)=b - a+1:=by rw [bc]<;>omega
 rw [if_neg (by omega),e1,e2]
 refine wU.bind (zm hs (by omega) (by omega) hk) (fun v s' hv Pm=>?_)
 refine wU.ret ?_ Pm
 simp only
 rw [bc]<;>omega
theorem QP {s:BN} {n k:Int} (hs:yC s (k+1)) (h1:1≤n) (h2:n≤4611686018427387904) (hk:0≤k):wU (kN s n) k (fun _=>True):=by
 unfold kN
 exact wU.bind (zm hs h1 h2 hk) (fun v s' hv Pm=>wU.ret trivial Pm)
theorem QQ {s:BN} {l:List bq} {k:Int} (hs:yC s (k+1)) (h1:l≠[]) (h2:l.length≤1000) (hk:0≤k):wU (ng s l) k (fun v=>v∈l):=by
 unfold ng
 have hl:0 < l.length:=cs.2 h1
 refine wU.bind (zm hs (by omega) (by omega) hk) (fun v s' hv Pm=>?_)
 obtain ⟨x,hx,hm,_⟩:=fe l hv.1 hv.2
 simp only [hx,ac]
 exact wU.ret hm Pm
theorem NJ {s:BN} {n K:Int} (hs:yC s K) (hK:1≤K) (h1:1≤n) (h2:n≤4611686018427387904):wU (iI s n) (K - 1) (fun v=>0≤v∧v < n):=
 zm (hs.less (by omega)) h1 h2 (by omega)
theorem Fw {s:BN} {n K:Int} (hs:yC s K) (hK:1≤K) (h1:1≤n) (h2:n≤4611686018427387904):wU (kN s n) (K - 1) (fun _=>True):=
 QP (hs.less (by omega)) h1 h2 (by omega)
theorem rW {s:BN} {l:List Int} {K:Int} (hs:yC s K) (hK:1≤K) (h1:l≠[]) (h2:l.length≤1000):wU (dS s l) (K - 1) (fun v=>v∈l):=
 QO (hs.less (by omega)) h1 h2 (by omega)
theorem QR {s:BN} {a b K:Int} (hs:yC s K) (hK:1≤K) (DZ:a≤b) (ha:-1152921504606846976≤a) (hb:b≤1152921504606846976):wU (nG s a b) (K - 1) (fun v=>a≤v∧v≤b):=
 NI (hs.less (by omega)) DZ ha hb (by omega)
theorem NK {s:BN} {l:List bq} {K:Int} (hs:yC s K) (hK:1≤K) (h1:l≠[]) (h2:l.length≤1000):wU (ng s l) (K - 1) (fun v=>v∈l):=
 QQ (hs.less (by omega)) h1 h2 (by omega)
theorem rZ (n lo hi:Int):du n lo hi=(decide (n < lo)||decide (hi < n)):=rfl
theorem TU (n lo hi:Int):Wu n lo hi=(decide (lo≤n)&&decide (n≤hi)):=rfl
def TW (n:Nat):Bool:=(decide (97≤n)&&decide (n≤122))||(decide (48≤n)&&decide (n≤57))||decide (n=45)||decide (n=95)
def mw:bq→Bool
 | []=>false
 | c :: r=>decide ((c :: r).length≤40)&&(decide (97≤c.toNat)&&decide (c.toNat≤122))&&(c :: r).all (fun c=>TW c.toNat)
theorem Af (c:UInt8) (r:bq):mw (c :: r)=(decide ((c :: r).length≤40)&&(decide (97≤c.toNat)&&decide (c.toNat≤122))&&(c :: r).all (fun c=>TW c.toNat)):=rfl
theorem NL (s:bq) (hl:s.length≤40):wz s 0=some (s.all (fun c=>TW c.toNat)):=by
 unfold wz
 rw [En s (fun x:Int=>nh s x) (fun c=>if TW c.toNat=true then none else some false) true (by omega),CK]
 ·intro i c h0 h1 hc
  have hB:(if (97:Int)≤(c.toNat:Int) then if (c.toNat:Int)≤(122:Int) then !true else if (48:Int)≤(c.toNat:Int) then if (c.toNat:Int)≤(57:Int) then !true else if (c.toNat:Int)=(45:Int) then !true else decide (¬ ((c.toNat:Int)=(95:Int))) else if (c.toNat:Int)=(45:Int) then !true else decide (¬ ((c.toNat:Int)=(95:Int))) else if (48:Int)≤(c.toNat:Int) then if (c.toNat:Int)≤(57:Int) then !true else if (c.toNat:Int)=(45:Int) then !true else decide (¬ ((c.toNat:Int)=(95:Int))) else if (c.toNat:Int)=(45:Int) then !true else decide (¬ ((c.toNat:Int)=(95:Int))))=!TW c.toNat:=by
   unfold TW
   rw [aw]
   repeat' split
   all_goals simp
   all_goals omega
  rw [nh,if_pos h1,hc]
  simp only [ac]
  rw [hB]
  unfold tF
  rw [bc (by omega) (by omega)]
  cases TW c.toNat<;>rfl
 ·rw [nh,if_neg (by omega)];rfl
theorem qG (s:bq):jX s=some (mw s):=by
 unfold jX ni
 cases s with
 | nil=>simp [mw]
 | cons c r=>
   rw [if_neg (by simp)]
   have hc:idx (c :: r) 0=some c:=rfl
   rw [hc]
   simp only [ac]
   by_cases hl:(c :: r).length≤40
   ·rw [if_neg (by omega),NL _ hl,Af]
    by_cases h1:(c.toNat:Int) < 97
    ·rw [if_pos h1]
     have:decide (97≤c.toNat)=false:=by simp;omega
     rw [this];simp
    ·rw [if_neg h1]
     have e1:decide (97≤c.toNat)=true:=by simp;omega
     by_cases h2:(122:Int) < c.toNat
     ·rw [if_pos (by simpa using h2)]
      have:decide (c.toNat≤122)=false:=by simp;omega
      rw [this];simp
     ·rw [if_neg (by simpa using h2)]
      have:decide (c.toNat≤122)=true:=by simp;omega
      rw [e1,this,decide_eq_true hl];simp
   ·rw [if_pos (by omega),Af,decide_eq_false hl];simp
theorem CT (a b:Int):dD a b=- dD b a:=by
 unfold dD
 repeat' split
 all_goals omega
theorem iO (a b:Int):cmp_Compare_int a b=dD a b:=by
 unfold cmp_Compare_int cmp_isNaN_int dD;simp
theorem uT (n:Int):jE n=(decide (0≤n)&&decide (n≤345686399999)):=by
 unfold jE
 rw [rZ,aw]
 simp
theorem NM {S A:Type} (f:S→Option (S⊕A)) (m:S→Nat) (Inv:S→Prop) (R:A→Prop)
 (h:∀ s,Inv s→(∃ s',f s=some (.inl s')∧Inv s'∧m s' < m s)∨(∃ a,f s=some (.inr a)∧R a)):∀ s,Inv s→∃ a,iter f s=some a∧R a:=by
 have key:∀ (n:Nat) s,m s≤n→Inv s→∃ a,iter f s=some a∧R a:=by
  intro n
  induction n with
  | zero=>
    intro s hm hi
    rcases h s hi with ⟨s',_,_,h3⟩ | ⟨a,h1,h2⟩
    ·omega
    ·exact ⟨a,by rw [iter_eq,h1];rfl,h2⟩
  | succ n ih=>
    intro s hm hi
    rcases h s hi with ⟨s',h1,h2,h3⟩ | ⟨a,h1,h2⟩
    ·obtain ⟨a,h4,h5⟩:=ih s' (by omega) h2
     exact ⟨a,by rw [iter_eq,h1];simpa using h4,h5⟩
    ·exact ⟨a,by rw [iter_eq,h1];rfl,h2⟩
 exact fun s hi=>key (m s) s (cv _) hi
theorem QS {S A:Type} (f:S→Option (S⊕A)) (m:S→Nat) (Inv:S→Prop) (r:Option A)
 (h:∀ s,Inv s→(∃ s',f s=some (.inl s')∧Inv s'∧m s' < m s)∨f s=r.map .inr):∀ s,Inv s→iter f s=r:=by
 have key:∀ (n:Nat) s,m s≤n→Inv s→iter f s=r:=by
  intro n
  induction n with
  | zero=>
    intro s hm hi
    rcases h s hi with ⟨s',_,_,h3⟩ | h1
    ·omega
    ·rw [iter_eq,h1,aW]
  | succ n ih=>
    intro s hm hi
    rcases h s hi with ⟨s',h1,h2,h3⟩ | h1
    ·rw [iter_eq,h1];simpa using ih s' (by omega) h2
    ·rw [iter_eq,h1,aW]
 exact fun s hi=>key (m s) s (cv _) hi
theorem NN (xs:List Int) (h:(xs.length:Int)≤4611686018427387904):qo xs=some (sx xs):=zY xs h
theorem Wv (x y z:Int):sx [x,y,z]=if sx [x,y]≠0 then sx [x,y] else z:=by
 by_cases h1:x=0<;>by_cases h2:y=0<;>by_cases h3:z=0<;>simp [sx,h1,h2,h3]
theorem TX (x y:Int):sx [x,y]=if x≠0 then x else y:=by
 by_cases h1:x=0<;>by_cases h2:y=0<;>simp [sx,h1,h2]
def Ok {α:Type} (m:Option α) (Q:α→Prop):Prop:=∃ r,m=some r∧Q r
theorem Ok.ret {α:Type} {v:α} {Q:α→Prop} (h:Q v):Ok (some v) Q:=⟨v,rfl,h⟩
theorem Ok.mono {α:Type} {m:Option α} {P Q:α→Prop} (h:Ok m P) (hp:∀ v,P v→Q v):Ok m Q:=by
 obtain ⟨r,h1,h2⟩:=h;exact ⟨r,h1,hp r h2⟩
theorem Ok.bind {α β:Type} {m:Option α} {f:α→Option β} {P:α→Prop} {Q:β→Prop} (h:Ok m P) (hf:∀ v,P v→Ok (f v) Q):Ok (m.bind f) Q:=by
 obtain ⟨r,rfl,h2⟩:=h;exact hf r h2
theorem Ok.inr {α β:Type} {m:Option β} {Q:α⊕β→Prop} (h:Ok m (fun r=>Q (.inr r))):Ok (ad .inr m) Q:=by
 obtain ⟨r,rfl,h2⟩:=h;exact ⟨_,rfl,h2⟩
theorem Ok.gen {α β:Type} {m:Option (α×BN)} {k:Int} {P:α→Prop} {f:α×BN→Option β} {Q:β→Prop} (h:wU m k P) (hf:∀ v s',P v→yC s' k→Ok (f (v,s')) Q):Ok (m.bind f) Q:=by
 obtain ⟨v,s',rfl,h1,h2⟩:=h;exact hf v s' h1 h2
theorem wU.of {α:Type} {m:Option (α×BN)} {k:Int} {P:α→Prop} (h:Ok m (fun r=>P r.1∧yC r.2 k)):wU m k P:=by
 obtain ⟨⟨v,s⟩,h1,h2,h3⟩:=h;exact ⟨v,s,h1,h2,h3⟩
theorem Ok.idx {α β:Type} {xs:List α} {i:Int} {f:α→Option β} {Q:β→Prop} (h0:0≤i) (h1:i < xs.length) (hf:∀ x,idx xs i=some x→x∈xs→Ok (f x) Q):Ok ((idx xs i).bind f) Q:=by
 obtain ⟨x,hx,hm,_⟩:=fe xs h0 h1
 rw [hx];exact hf x hx hm
theorem Ok.app {α β:Type} {xs ys:List α} {f:List α→Option β} {Q:β→Prop} (h:xs.length+ys.length≤1000000000) (hf:Ok (f (xs++ys)) Q):Ok ((app xs ys).bind f) Q:=by
 rw [mQ h];exact hf
theorem NO {a b:bq} (h:a.length+b.length≤9223372036854775807):Qb a b=some (a++b):=by unfold Qb;rw [if_pos h]
abbrev Lt {S A:Type} (m:S→Nat) (Inv:S→Prop) (R:A→Prop) (s:S):S⊕A→Prop
 | .inl s'=>Inv s'∧m s' < m s
 | .inr a=>R a
theorem Ok.iter {S A:Type} {f:S→Option (S⊕A)} {R:A→Prop} (m:S→Nat) (Inv:S→Prop)
 (h:∀ s,Inv s→Ok (f s) (Lt m Inv R s)) (s:S) (hs:Inv s):Ok (iter f s) R:=by
 refine NM f m Inv R (fun s hi=>?_) s hs
 obtain ⟨r,h1,h2⟩:=h s hi
 cases r with
 | inl s'=>exact .inl ⟨s',h1,h2.1,h2.2⟩
 | inr a=>exact .inr ⟨a,h1,h2⟩
abbrev XY {A:Type} (N:Nat) (R:A→Prop) (i:Int):Int⊕A→Prop
 | .inl j=>j=i+1∧i < N
 | .inr a=>R a
theorem Ok.range {A:Type} {f:Int→Option (Int⊕A)} {R:A→Prop} (N:Nat) (h:∀ i:Int,0≤i→i≤N→Ok (f i) (XY N R i)):Ok (Eng.iter f 0) R:=by
 refine Ok.iter (fun i:Int=>N+1 - i.toNat) (fun i:Int=>0≤i∧i≤N) (fun i hi=>?_) 0 ⟨by omega,by omega⟩
 refine (h i hi.1 hi.2).mono (fun r hr=>?_)
 cases r with
 | inl j=>simp only [XY,Lt] at hr ⊢;omega
 | inr a=>exact hr
theorem QT {α β:Type} (f:α→β) (xs:List α) (i:Int):idx (xs.map f) i=(idx xs i).map f:=by
 unfold idx;split
 ·simp
 ·rfl
def ti (c:UInt8):bq→List bq
 | []=>[[]]
 | b :: r=>if b=c then [] :: ti c r else match ti c r with
   | []=>[[b]]
   | h :: t=>(b :: h) :: t
theorem xU (c:UInt8):∀ s,(ti c s).length≤s.length+1
 | []=>by simp [ti]
 | b :: r=>by
   have ih:=xU c r
   unfold ti
   split
   ·simp;omega
   ·split
    ·simp
    ·rename_i h t e;rw [e] at ih;simp at ih ⊢;omega
theorem Ki (c:UInt8):∀ s,Lib.split s [c]=ti c s
 | []=>rfl
 | b :: r=>by
   have ih:=Ki c r
   unfold Lib.split at ih ⊢
   unfold ti
   by_cases hb:b=c
   ·subst hb
    have GM:Lib.index (b :: r) [b]=0:=by rw [Lib.index];simp [bv]
    rw [if_pos rfl,Lib.count_cons_eq,d2,Lib.splitK,GM,← ih]
    simp
   ·rw [if_neg hb,Lib.count_cons_ne b c r hb,← ih]
    have hp:([c]:List UInt8).isPrefixOf (b :: r)=false:=by simp [bv,Ne.symm hb]
    have GM:Lib.index (b :: r) [c]=if Lib.index r [c]==-1 then -1 else Lib.index r [c]+1:=by rw [Lib.index,hp];simp
    by_cases hm:Lib.index r [c]=-1
    ·rw [Lib.count_miss hm];rfl
    ·have SD:=Lib.index_ge r [c]
     obtain ⟨j,hj⟩:∃ j:Nat,Lib.index r [c]=j:=⟨(Lib.index r [c]).toNat,by omega⟩
     have Z0:Lib.index (b :: r) [c]=((j+1:Nat):Int):=by rw [GM,if_neg (fun e=>hm (beq_iff_eq.1 e)),hj];omega
     rw [Lib.count_hit (by simp) hj,d2]
     have n1:¬ ((((j+1:Nat):Int)==-1)=true):=fun h=>by have:=beq_iff_eq.1 h;omega
     have n2:¬ ((((j:Nat):Int)==-1)=true):=fun h=>by have:=beq_iff_eq.1 h;omega
     simp only [Lib.splitK,Z0,hj,if_neg n1,if_neg n2]
     simp [List.take_succ_cons]
theorem Lu {s:bq} {c:UInt8} (h:s.length≤1000000000):Cs s [c]=some (ti c s):=by
 unfold Cs
 rw [if_pos ⟨by omega,by simp⟩]
 congr 1
 have h1:=Lib.splitB_data ⟨#[c]⟩ 0 (Lib.countB ⟨s.toArray⟩ ⟨#[c]⟩) ⟨s.toArray⟩
 rw [← Ki]
 exact h1
def mW (c:UInt8):Bool:=decide (48≤c.toNat)&&decide (c.toNat≤57)
theorem Lv {c:UInt8} (h:mW c=true):Lib.digitVal c=some (c.toNat - 48):=by
 unfold mW at h;simp at h
 unfold Lib.digitVal;rw [if_pos h]
theorem BO {c:UInt8} {d:Nat} (h:Lib.digitVal c=some d):mW c=true∧d=c.toNat - 48∧ca (48+d)=c:=by
 obtain ⟨h1,h2,h3⟩:=Lib.digitVal_eq h
 refine ⟨by unfold mW;simp;omega,h3,?_⟩
 apply d3.1
 rw [cb]
 omega
theorem tQ:∀ (l:bq) (acc:Nat),l.all mW=true→∃ m,Lib.decFrom acc l=some m
 | [],acc,_=>⟨acc,rfl⟩
 | b :: r,acc,h=>by
   simp only [bp,af] at h
   obtain ⟨m,hm⟩:=tQ r (acc * 10+(b.toNat - 48)) h.2
   exact ⟨m,by rw [Lib.decFrom,Lv h.1];exact hm⟩
theorem Hm:∀ (l:bq) (acc m:Nat),0 < acc→Lib.decFrom acc l=some m→Lib.decDigits m=Lib.decDigits acc++l
 | [],acc,m,_,h=>by simp only [Lib.decFrom,cc] at h;simp [h]
 | b :: r,acc,m,ha,h=>by
   rw [Lib.decFrom] at h
   cases hd:Lib.digitVal b with
   | none=>rw [hd] at h;simp at h
   | some d=>
     rw [hd] at h
     obtain ⟨h1,h2,h3⟩:=Lib.digitVal_eq hd
     have ih:=Hm r (acc * 10+d) m (by omega) h
     rw [ih,Lib.decDigits,dif_neg (by omega)]
     rw [show (acc * 10+d) / 10=acc by omega,show (acc * 10+d) % 10=d by omega,(BO hd).2.2]
     simp
theorem Hn {m:Nat} (h:0 < m):∃ b r,Lib.decDigits m=b :: r∧b≠48:=by
 induction m using cy with
 | _ m ih=>
   rw [Lib.decDigits]
   split
   ·refine ⟨_,_,rfl,?_⟩
    intro e
    have:=congrArg UInt8.toNat e
    rw [cb] at this
    simp at this;omega
   ·obtain ⟨b,r,h1,h2⟩:=ih (m / 10) (by omega) (by omega)
    exact ⟨b,r++_,by rw [h1];rfl,h2⟩
theorem CU:Lib.decDigits 0=[48]:=by rw [Lib.decDigits,dif_pos (by omega)];rfl
theorem AR {l:bq} {m:Nat} (h:Lib.decFrom 0 l=some m) (hl:l≠[]):Lib.decDigits m=l↔(l.head? ≠some 48∨l.length=1):=by
 cases l with
 | nil=>exact absurd rfl hl
 | cons b r=>
   rw [Lib.decFrom] at h
   cases hd:Lib.digitVal b with
   | none=>rw [hd] at h;simp at h
   | some d=>
     rw [hd] at h
     simp only [Nat.zero_mul,ce] at h
     obtain ⟨h1,h2,h3⟩:=Lib.digitVal_eq hd
     by_cases hz:d=0
     ·subst hz
      have hb:b=48:=by rw [← (BO hd).2.2];rfl
      subst hb
      constructor
      ·intro e
       right
       by_cases hm:m=0
       ·subst hm;rw [CU] at e
        have:=congrArg List.length e;simpa using this.symm
       ·obtain ⟨b,r',h4,h5⟩:=Hn (m:=m) (by omega)
        rw [h4] at e;simp at e;exact absurd e.1 h5
      ·rintro (e | e)
       ·simp at e
       ·have:r=[]:=by cases r with
         | nil=>rfl
         | cons _ _=>simp at e
        subst this
        simp only [Lib.decFrom,cc] at h
        subst h;exact CU
     ·have hg:=Hm r d m (by omega) h
      have hd1:Lib.decDigits d=[ca (48+d)]:=by rw [Lib.decDigits,dif_pos (by omega)]
      rw [hd1,(BO hd).2.2] at hg
      constructor
      ·intro _;left
       intro e;simp at e
       have e2:=(BO hd).2.1
       rw [e] at e2;simp at e2;omega
      ·intro _;exact hg
theorem zn (m:Nat):(Lib.decDigits m).all mW=true:=by
 induction m using cy with
 | _ m ih=>
   rw [Lib.decDigits]
   have key:∀ d,d < 10→mW (ca (48+d))=true:=by
    intro d hd
    unfold mW;rw [cb];simp;omega
   split
   ·rename_i h;rw [bp,key m h];rfl
   ·rw [d4,ih (m / 10) (by omega),bp,key (m % 10) (by omega)];rfl
theorem wV:∀ (l r:bq) (acc:Nat),Lib.decFrom acc (l++r)=(Lib.decFrom acc l).bind fun a=>Lib.decFrom a r
 | [],r,acc=>rfl
 | b :: l,r,acc=>by
   rw [cz,Lib.decFrom,Lib.decFrom]
   cases Lib.digitVal b with
   | none=>rfl
   | some d=>exact wV l r _
theorem Fx (m:Nat):Lib.decFrom 0 (Lib.decDigits m)=some m:=by
 induction m using cy with
 | _ m ih=>
   have key:∀ d,d < 10→Lib.digitVal (ca (48+d))=some d:=by
    intro d hd
    unfold Lib.digitVal;rw [cb]
    rw [if_pos (by omega)];congr 1;omega
   rw [Lib.decDigits]
   split
   ·rename_i h;rw [Lib.decFrom,key m h];simp [Lib.decFrom]
   ·rw [wV,ih (m / 10) (by omega)]
    simp only [ac]
    rw [Lib.decFrom,key (m % 10) (by omega)]
    simp only [Lib.decFrom]
    congr 1;omega
theorem Jf (m:Nat):Lib.decDigits m≠[]:=by
 rw [Lib.decDigits];split
 ·simp
 ·simp
theorem Lw (n:Int):Lib.atoi (Lib.itoa n)=some n:=by
 unfold Lib.itoa
 have hN:∀ m,Lib.decNat (Lib.decDigits m)=some m:=by
  intro m;unfold Lib.decNat
  rw [if_neg (by simpa using Jf m),Fx]
 split
 ·rw [Lib.atoi];simp [hN];omega
 ·obtain ⟨b,r,e⟩:=List.exists_cons_of_ne_nil (Jf n.toNat)
  have hd:=zn n.toNat
  rw [e] at hd ⊢
  simp only [bp,af] at hd
  have hb:=hd.1
  unfold mW at hb;simp at hb
  have n45:b≠45:=fun h=>by subst h;simp at hb
  have n43:b≠43:=fun h=>by subst h;simp at hb
  rw [Lib.atoi]
  simp only [beq_iff_eq,n45,n43,if_false]
  rw [← e,hN];simp;omega
def zo (s:bq) (k:Int):Option Int:=
 if (Lib.trimPrefix s [45]=[]∨k < (Lib.trimPrefix s [45]).length)∨(Lib.trimPrefix s [45]).all mW=false then none
 else match Lib.atoi s with
  | some n=>if Lib.itoa n=s then some n else none
  | none=>none
theorem tT (s:bq):(∃ d,s=45 :: d∧Lib.trimPrefix s [45]=d)∨(Lib.trimPrefix s [45]=s∧s.head? ≠some 45):=by
 cases s with
 | nil=>right;exact ⟨rfl,by simp⟩
 | cons b r=>
   unfold Lib.trimPrefix
   by_cases h:b=45
   ·subst h;left;exact ⟨r,rfl,by simp [Lib.hasPrefix,bv]⟩
   ·right
    have hp:Lib.hasPrefix (b :: r) [45]=false:=by simp [Lib.hasPrefix,bv,Ne.symm h]
    rw [hp];exact ⟨by simp,by simpa using h⟩
theorem zp (s:bq):(Lib.trimPrefix s [45]).length≤s.length∧s.length≤(Lib.trimPrefix s [45]).length+1:=by
 rcases tT s with ⟨d,h1,h2⟩ | ⟨h1,_⟩
 ·rw [h2,h1];simp
 ·rw [h1];omega
theorem Jg {s:bq} {n:Int} (hl:s.length≤18) (h:Lib.atoi s=some n):Lib.atoiAll s=.ok n:=by
 rw [Lib.atoiAll_short s hl,h];rfl
theorem Lx {s:bq} (h1:Lib.trimPrefix s [45]≠[]) (h2:(Lib.trimPrefix s [45]).all mW=true):∃ n,Lib.atoi s=some n∧(Lib.itoa n=s↔¬((Lib.trimPrefix s [45]).head? =some 48∧(1 < (Lib.trimPrefix s [45]).length∨(Lib.trimPrefix s [45]).length < s.length))):=by
 rcases tT s with ⟨d,e1,e2⟩ | ⟨e1,e2⟩
 ·rw [e2] at h1 h2 ⊢
  subst e1
  obtain ⟨m,hm⟩:=tQ d 0 h2
  have hN:Lib.decNat d=some m:=by unfold Lib.decNat;rw [if_neg (by simpa using h1),hm]
  refine ⟨-(m:Int),by rw [Lib.atoi];simp [hN],?_⟩
  have hs:=AR hm h1
  have hlen:d.length < (45 :: d).length:=by simp
  constructor
  ·rintro e ⟨hh,_⟩
   unfold Lib.itoa at e
   split at e
   ·have e':Lib.decDigits m=d:=by simpa using e
    rename_i ajK
    obtain ⟨b,r,h4,h5⟩:=Hn (m:=m) (by omega)
    rw [e'] at h4;rw [h4] at hh;simp at hh;exact h5 hh
   ·have:=zn (-(m:Int)).toNat
    rw [e] at this;simp [mW] at this
  ·intro hn
   have hh:d.head? ≠some 48:=fun hh=>hn ⟨hh,.inr hlen⟩
   have e':=hs.2 (.inl hh)
   have P8:m≠0:=by
    intro h0;subst h0;rw [CU] at e';subst e';simp at hh
   unfold Lib.itoa
   rw [if_pos (by omega)]
   simp [e']
 ·rw [e1] at h1 h2 ⊢
  obtain ⟨m,hm⟩:=tQ s 0 h2
  have hN:Lib.decNat s=some m:=by unfold Lib.decNat;rw [if_neg (by simpa using h1),hm]
  have hs:=AR hm h1
  cases s with
  | nil=>exact absurd rfl h1
  | cons b r=>
    have n45:b≠45:=by simpa using e2
    have hb:mW b=true:=by simp only [bp,af] at h2;exact h2.1
    have n43:b≠43:=fun h=>by subst h;simp [mW] at hb
    refine ⟨m,by rw [Lib.atoi];simp only [beq_iff_eq,n45,n43,if_false];rw [hN];rfl,?_⟩
    have hi:Lib.itoa (m:Int)=Lib.decDigits m:=by unfold Lib.itoa;rw [if_neg (by omega)];simp
    rw [hi,hs]
    constructor
    ·rintro (h | h) ⟨h3,h4⟩
     ·exact h h3
     ·omega
    ·intro h
     by_cases hh:(b :: r).head? =some 48
     ·right
      have:¬ (1 < (b :: r).length):=fun h5=>h ⟨hh,.inl h5⟩
      simp at this ⊢;omega
     ·exact .inl hh
theorem Jh {s:bq} {k:Nat} {n:Int} (h:zo s k=some n):-(10 ^ k:Nat) < n∧n < (10 ^ k:Nat):=by
 unfold zo at h
 split at h
 ·cases h
 ·rename_i hc
  cases ha:Lib.atoi s with
  | none=>rw [ha] at h;cases h
  | some n'=>
    rw [ha] at h
    simp only at h
    split at h
    ·obtain rfl:=cH h
     simp only [not_or] at hc
     have lf:(Lib.trimPrefix s [45]).all mW=true:=by simpa using hc.2
     have hlen:(Lib.trimPrefix s [45]).length≤k:=by have:=hc.1.2;omega
     obtain ⟨m,hm⟩:=tQ _ 0 lf
     have hb:=Lib.decFrom_lt _ 0 m hm
     have hp:(10:Nat) ^ (Lib.trimPrefix s [45]).length≤10 ^ k:=Nat.pow_le_pow_right (by omega) hlen
     have gS:m < 10 ^ k:=by omega
     have hnm:n'=m∨n'=-(m:Int):=by
      have hN:Lib.decNat (Lib.trimPrefix s [45])=some m:=by unfold Lib.decNat;rw [if_neg (by simpa using hc.1.1),hm]
      rcases tT s with ⟨d,e1,e2⟩ | ⟨e1,e2⟩
      ·rw [e2] at hN;rw [e1,Lib.atoi] at ha;simp [hN] at ha;right;omega
      ·rw [e1] at hN lf
       cases s with
       | nil=>simp [Lib.atoi] at ha
       | cons b r=>
         have n45:b≠45:=by simpa using e2
         have hb:mW b=true:=by simp only [bp,af] at lf;exact lf.1
         have n43:b≠43:=fun h=>by subst h;simp [mW] at hb
         rw [Lib.atoi] at ha
         simp only [beq_iff_eq,n45,n43,if_false] at ha
         rw [hN] at ha;simp at ha;left;omega
     omega
    ·cases h
theorem Ag {n k:Int} (h:((Lib.decDigits n.natAbs).length:Int)≤k):zo (Lib.itoa n) k=some n:=by
 have ht:Lib.trimPrefix (Lib.itoa n) [45]=Lib.decDigits n.natAbs:=by
  unfold Lib.itoa
  split
  ·unfold Lib.trimPrefix;simp [Lib.hasPrefix,bv]
  ·rename_i h0
   rw [show n.toNat=n.natAbs by omega]
   rcases tT (Lib.decDigits n.natAbs) with ⟨d,e1,e2⟩ | ⟨e1,e2⟩
   ·have:=zn n.natAbs;rw [e1] at this;simp [mW] at this
   ·exact e1
 unfold zo
 rw [ht,if_neg (by
  rintro ((h1 | h1) | h1)
  ·exact Jf _ h1
  ·omega
  ·rw [zn] at h1;cases h1),Lw]
 simp
theorem Ho (s:bq) (hl:s.length≤18):sX s 0=if (Lib.trimPrefix s [45]).all mW=true then pF s else some (0,false):=by
 unfold sX
 have hd:((Lib.trimPrefix s [45]).length:Int)≤4611686018427387904:=by have:=zp s;omega
 refine QS (fun x:Int=>eZ s x) (fun i=>(Lib.trimPrefix s [45]).length+1 - i.toNat) (fun i=>0≤i∧i≤(Lib.trimPrefix s [45]).length∧((Lib.trimPrefix s [45]).take i.toNat).all mW=true) _ ?_ 0 ⟨by omega,by omega,by simp⟩
 rintro i ⟨h0,h1,h2⟩
 by_cases hi:i < (Lib.trimPrefix s [45]).length
 ·obtain ⟨c,hc,_,Sa⟩:=fe (Lib.trimPrefix s [45]) h0 hi
  have hg:=(eR hc).2.2
  have og:c∈Lib.trimPrefix s [45]:=vf hc
  have hB:eZ s i=if mW c=true then some (.inl (bA (i+1))) else ad .inr (some ((0:Int),false)):=by
   unfold eZ
   rw [if_pos hi,hc]
   simp only [ac]
   unfold nj mW
   by_cases a1:(c.toNat:Int) < 48
   ·rw [if_pos a1,if_pos rfl,if_neg (by simp;omega)]
   ·rw [if_neg a1]
    by_cases a2:(57:Int) < c.toNat
    ·rw [if_pos (by simpa using a2),if_neg (by simp;omega)]
    ·rw [if_neg (by simpa using a2),if_pos (by simp;omega)]
  by_cases Sb:mW c=true
  ·left
   refine ⟨i+1,?_,⟨by omega,by omega,?_⟩,by omega⟩
   ·show eZ s i=_
    rw [hB,if_pos Sb,bc (by omega) (by omega)]
   ·rw [show (i+1).toNat=i.toNat+1 by omega,d5,d4,h2,hg];simp [Sb]
  ·right
   show eZ s i=_
   rw [hB,if_neg Sb,if_neg (fun h=>Sb (List.all_eq_true.1 h c og))]
 ·right
  show eZ s i=_
  unfold eZ
  rw [if_neg hi]
  rw [cU (by omega)] at h2
  rw [if_pos h2]
theorem NP {s:bq} {n:Int} (hl:s.length≤18) (h:Lib.atoi s=some n):G2 s=some (n,true):=by
 unfold G2;rw [if_pos (by omega),Jg hl h]
theorem Ly (s:bq) (k:Nat) (hk:k≤17):rB s k=some (match zo s k with | some n=>(n,true) | none=>(0,false)):=by
 have hln:=zp s
 unfold rB lP
 by_cases h1:Lib.trimPrefix s [45]=[]
 ·rw [if_pos h1,if_pos rfl];unfold zo;rw [if_pos (.inl (.inl h1))]
 ·rw [if_neg h1]
  by_cases h2:(k:Int) < (Lib.trimPrefix s [45]).length
  ·rw [if_pos h2,if_pos rfl];unfold zo;rw [if_pos (.inl (.inr h2))]
  ·rw [if_neg h2]
   have Ba:0 < (Lib.trimPrefix s [45]).length:=cs.2 h1
   obtain ⟨c,hc,_,_⟩:=fe (Lib.trimPrefix s [45]) (i:=0) (by omega) (by omega)
   have hh:(Lib.trimPrefix s [45]).head? =some c:=by
    have:=(eR hc).2.2
    rw [List.head?_eq_getElem?];simpa using this
   rw [hc]
   simp only [ac]
   rw [Ho s (by omega)]
   by_cases lf:(Lib.trimPrefix s [45]).all mW=true
   ·obtain ⟨n,hn,Z1⟩:=Lx h1 lf
    have XZ:zo s k=if Lib.itoa n=s then some n else none:=by
     unfold zo
     rw [if_neg (fun h=>h.elim (fun h=>h.elim h1 h2) (fun h=>by rw [lf] at h;cases h)),hn]
    have Sc:(decide ((c.toNat:Int)=48)&&(decide ((1:Int) < (Lib.trimPrefix s [45]).length)||decide (((Lib.trimPrefix s [45]).length:Int) < s.length)))=true↔¬ Lib.itoa n=s:=by
     rw [Z1,hh]
     simp only [af,decide_eq_true_eq,cf,cc,c8]
     constructor
     ·rintro ⟨a,b⟩;exact ⟨d3.1 (by simpa using (by omega:c.toNat=48)),by omega⟩
     ·rintro ⟨a,b⟩;exact ⟨by rw [a];rfl,by omega⟩
    by_cases hi:Lib.itoa n=s
    ·rw [if_neg (fun h=>Sc.1 h hi),if_pos lf,XZ,if_pos hi]
     unfold pF
     rw [NP (by omega) hn];rfl
    ·rw [if_pos (Sc.2 hi),XZ,if_neg hi]
   ·have XZ:zo s k=none:=by unfold zo;rw [if_pos (.inr (by simpa using lf))]
    rw [XZ,if_neg lf];simp
def dL (a b:Version):Int:=sx [dD a.ax b.ax,dD a.aA b.aA,dD a.aC b.aC]
theorem ny (a b:Version):fi a b=some (dL a b):=by
 unfold fi
 have h:jY [cmp_Compare_int a.ax b.ax,cmp_Compare_int a.aA b.aA,cmp_Compare_int a.aC b.aC]=some (sx [cmp_Compare_int a.ax b.ax,cmp_Compare_int a.aA b.aA,cmp_Compare_int a.aC b.aC]):=zY _ (by simp)
 rw [h,iO,iO,iO];rfl
theorem NQ {a b:Int}:dD a b=0↔a=b:=by
 unfold dD;repeat' split
 all_goals omega
theorem xp (a b:Version):fP a b=some (dL a b):=by
 unfold fP
 have step:∀ (i:Nat) (x y:Int),[a.ax,a.aA,a.aC][i]? =some x→[b.ax,b.aA,b.aC][i]? =some y→br [a.ax,a.aA,a.aC] [b.ax,b.aA,b.aC] (i:Int)=if dD x y≠0 then some (.inr (dD x y)) else some (.inl ((i:Int)+1)):=by
  intro i x y h1 h2
  have hi:i < 3:=by simpa using (bG.1 h1).1
  unfold br
  rw [if_pos (by simp;omega)]
  have e1:idx [a.ax,a.aA,a.aC] (i:Int)=some x:=by unfold idx;rw [if_pos (by omega)];simpa using h1
  have e2:idx [b.ax,b.aA,b.aC] (i:Int)=some y:=by unfold idx;rw [if_pos (by omega)];simpa using h2
  rw [e1]
  simp only [ac]
  rw [if_neg (by simp;omega),e2]
  simp only [ac,iO]
  rw [bc (by omega) (by omega)]
  rfl
 have s0:br [a.ax,a.aA,a.aC] [b.ax,b.aA,b.aC] 0=if dD a.ax b.ax≠0 then some (.inr (dD a.ax b.ax)) else some (.inl 1):=step 0 a.ax b.ax rfl rfl
 have s1:br [a.ax,a.aA,a.aC] [b.ax,b.aA,b.aC] 1=if dD a.aA b.aA≠0 then some (.inr (dD a.aA b.aA)) else some (.inl 2):=step 1 a.aA b.aA rfl rfl
 have s2:br [a.ax,a.aA,a.aC] [b.ax,b.aA,b.aC] 2=if dD a.aC b.aC≠0 then some (.inr (dD a.aC b.aC)) else some (.inl 3):=step 2 a.aC b.aC rfl rfl
 have s3:br [a.ax,a.aA,a.aC] [b.ax,b.aA,b.aC] 3=some (.inr 0):=by
  unfold br gW
  rw [if_neg (by simp),if_neg (by simp)];rfl
 unfold ed fy
 unfold dL sx sx sx sx
 rw [iter_eq,s0]
 by_cases c0:dD a.ax b.ax=0
 ·rw [if_neg (by simpa using c0),if_neg (by simpa using c0)]
  simp only [ac,bh]
  rw [iter_eq,s1]
  by_cases c1:dD a.aA b.aA=0
  ·rw [if_neg (by simpa using c1),if_neg (by simpa using c1)]
   simp only [ac,bh]
   rw [iter_eq,s2]
   by_cases c2:dD a.aC b.aC=0
   ·rw [if_neg (by simpa using c2),if_neg (by simpa using c2)]
    simp only [ac,bh]
    rw [iter_eq,s3];rfl
   ·rw [if_pos c2,if_pos c2];rfl
  ·rw [if_pos c1,if_pos c1];rfl
 ·rw [if_pos c0,if_pos c0];rfl
theorem uU (a b:Version):dL b a=- dL a b:=by
 unfold dL
 rw [CT b.ax a.ax,CT b.aA a.aA,CT b.aC a.aC]
 simp only [sx]
 repeat' split
 all_goals omega
def kq (v:Version):Bool:=(decide (0≤v.ax)&&decide (v.ax≤9999))&&(decide (0≤v.aA)&&decide (v.aA≤9999))&&(decide (0≤v.aC)&&decide (v.aC≤9999))
theorem gp (v:Version):fh v=kq v:=by
 unfold fh oF kq
 rw [rZ,rZ,rZ,aw]
 simp;omega
theorem Kj (x:ar) (v:Version):jd x v=Ae x v:=by
 unfold jd Ae
 have h:(fun y0=>jZ y0 v)=(fun y0=>uR y0 v):=by
  funext y
  unfold jZ uR ik sy
  simp only [ny,xp]
 rw [h]
def wW (v:Version) (r:Range):Bool:=decide (dL r.xM v≤0)&&decide (dL v r.oq≤0)
theorem Hp (x:ar) (v:Version) (h:x.cr.length≤1000000):Ae x v=some (x.cr.any (wW v)):=by
 unfold Ae
 have e:dB x.cr (fun y0=>uR y0 v)=some (x.cr.any (wW v)):=uO x.cr _ (wW v) (fun r _=>by
  unfold uR sy wW
  simp only [xp,ac]
  by_cases c:dL r.xM v≤0
  ·rw [if_pos c];simp [c]
  ·rw [if_neg c];simp [c]) (by omega)
 rw [e];rfl
def Hq (x:ar):Prop:=x.jU.length≤10∧x.cr.length≤10
def me (xs:List ar):Prop:=xs.length≤8∧∀ x∈xs,Hq x
def uV (k:Int):List bq→Option (List Int)
 | []=>some []
 | w :: r=>match zo w k,uV k r with
   | some n,some l=>some (n :: l)
   | _,_=>none
theorem zq (ws:List bq) (k:Nat) (hk:k≤17) (hl:ws.length≤100000000):∀ (m:Nat) (l:List Int) (i:Int),0≤i→i+m=ws.length→(l.length:Int)=i→
 oI ws k l i=some (match uV k (ws.drop i.toNat) with | some r=>(l++r,true) | none=>([],false))
 | 0,l,i,h0,hm,he=>by
   unfold oI
   rw [iter_eq,kJ,if_neg (by simp only;omega),aW,ag (by omega)]
   simp [uV]
 | m+1,l,i,h0,hm,he=>by
   have ih:=zq ws k hk hl m
   unfold oI at ih ⊢
   obtain ⟨w,hw,_,hd⟩:=fe ws h0 (by omega)
   rw [iter_eq,kJ,if_pos (by simp only;omega)]
   simp only [hw,ac]
   rw [Ly w k hk,hd,uV]
   simp only [ac]
   cases hn:zo w k with
   | none=>simp [after]
   | some n=>
     simp only [bm,bo,if_false]
     rw [mQ (by simp;omega)]
     simp only [ac,bh]
     rw [bc (by omega) (by omega),ih (l++[n]) (i+1) (by omega) (by omega) (by simp;omega)]
     cases uV k (ws.drop (i+1).toNat) with
     | none=>rfl
     | some r=>simp
theorem Ji (ws:List bq) (k:Nat) (hk:k≤17) (hl:ws.length≤100000000):pG ws k=some (match uV k ws with | some r=>(r,true) | none=>([],false)):=by
 unfold pG
 rw [zq ws k hk hl ws.length [] 0 (by omega) (by omega) (by simp)]
 simp
def Kk (s:bq):Option Version:=match uV 4 (ti 46 s) with
 | some [x,y,z]=>if 0≤x∧0≤y∧0≤z then some ⟨x,y,z⟩ else none
 | _=>none
theorem Z2 {α:Type}:∀ {l:List α},l.length=3→∃ a b c,l=[a,b,c]
 | [a,b,c],_=>⟨a,b,c,rfl⟩
theorem AS {k:Nat}:∀ {ws:List bq} {l:List Int},uV k ws=some l→∀ x∈l,-(10 ^ k:Nat) < x∧x < (10 ^ k:Nat)
 | [],l,h=>by simp [uV] at h;subst h;simp
 | w :: r,l,h=>by
   rw [uV] at h
   cases h1:zo w k with
   | none=>rw [h1] at h;simp at h
   | some n=>
     cases h2:uV k r with
     | none=>rw [h1,h2] at h;simp at h
     | some t=>
       rw [h1,h2] at h
       simp only [cc] at h;subst h
       intro x hx
       rcases be.1 hx with rfl | hx
       ·exact Jh h1
       ·exact AS h2 x hx
theorem NR (s:bq) (hs:s.length≤1000000):dG s=some (match Kk s with | some v=>(v,0) | none=>(⟨0,0,0⟩,9)):=by
 unfold dG
 have hl:=xU 46 s
 rw [Lu (by omega)]
 simp only [ac]
 rw [show (4:Int)=((4:Nat):Int) from rfl,Ji _ 4 (by omega) (by omega)]
 simp only [ac]
 unfold iF Kk
 rw [show (4:Int)=((4:Nat):Int) from rfl]
 generalize hN:uV ((4:Nat):Int) (ti 46 s)=o
 cases o with
 | none=>rfl
 | some l=>
   by_cases h3:l.length=3
   ·obtain ⟨x,y,z,rfl⟩:=Z2 h3
    have bd:=AS hN
    have bx:=bd x (by simp)
    have by_:=bd y (by simp)
    have bz:=bd z (by simp)
    simp only [bm,Bool.false_or]
    rw [if_neg (by simp)]
    have e0:idx [x,y,z] 0=some x:=rfl
    have e1:idx [x,y,z] 1=some y:=rfl
    have e2:idx [x,y,z] 2=some z:=rfl
    rw [e0,e1,e2]
    simp only [ac,gp]
    by_cases hp:0≤x∧0≤y∧0≤z
    ·rw [if_pos hp,if_neg]
     unfold kq;simp;omega
    ·rw [if_neg hp,if_pos]
     unfold kq;simp;omega
   ·simp only
    rw [if_pos (by simp;omega)]
    split
    ·rename_i v e
     split at e
     ·rename_i e2;obtain rfl:=cH e2;simp at h3
     ·cases e
    ·rfl
theorem Fy:wT=some true:=by
 unfold wT
 rw [NR _ (by simp)]
 have h:Kk [49,46,50,46,51]=some ⟨1,2,3⟩:=by
  have e:ti 46 [49,46,50,46,51]=[[49],[50],[51]]:=by decide
  have i1:Lib.itoa 1=[49]:=by unfold Lib.itoa;rw [if_neg (by omega),Lib.decDigits,dif_pos (by decide)];rfl
  have i2:Lib.itoa 2=[50]:=by unfold Lib.itoa;rw [if_neg (by omega),Lib.decDigits,dif_pos (by decide)];rfl
  have i3:Lib.itoa 3=[51]:=by unfold Lib.itoa;rw [if_neg (by omega),Lib.decDigits,dif_pos (by decide)];rfl
  have n1:=Ag (n:=1) (k:=4) (by rw [Lib.decDigits,dif_pos (by decide)];simp)
  have n2:=Ag (n:=2) (k:=4) (by rw [Lib.decDigits,dif_pos (by decide)];simp)
  have n3:=Ag (n:=3) (k:=4) (by rw [Lib.decDigits,dif_pos (by decide)];simp)
  rw [i1] at n1;rw [i2] at n2;rw [i3] at n3
  unfold Kk
  rw [e]
  simp [uV,n1,n2,n3]
 rw [h]
 simp [th]
def mO (a b:MarkS):Int:=if dD a.At b.At≠0 then dD a.At b.At else Lib.compareBytes a.Device b.Device
theorem Fz:rD mO:=(wK.on MarkS.At).lex (Aa.on MarkS.Device)
theorem AU (a b:MarkS):fJ a b=some (mO a b):=by
 unfold fJ
 rw [iO]
 have h:jY [dD a.At b.At,Lib.compareBytes a.Device b.Device]=some (sx [dD a.At b.At,Lib.compareBytes a.Device b.Device]):=zY _ (by simp)
 rw [h,TX];rfl
def MB (x:MarkS):Prop:=-4000000000000000000≤x.At∧x.At≤4000000000000000000
theorem zr {a b:MarkS} (ha:MB a) (hb:MB b):nu a b=mO a b:=by
 unfold MB at ha hb
 unfold nu mO
 rw [bc (by omega) (by omega)]
 have e:Jd (a.At - b.At)=dD a.At b.At:=by
  unfold Jd dD
  repeat' split
  all_goals omega
 rw [e]
 by_cases h1:a.At=b.At
 ·have:dD a.At b.At=0:=by unfold dD;rw [if_neg (by omega),if_neg (by omega)]
  rw [if_neg (fun z:a.At≠b.At=>z h1),if_neg (fun z=>z this)]
 ·rw [if_pos h1,if_pos (fun h=>h1 (xn h))]
theorem FA:rD dL:=by
 have h:rD (fun a b:Version=>if (if dD a.ax b.ax≠0 then dD a.ax b.ax else dD a.aA b.aA)≠0 then (if dD a.ax b.ax≠0 then dD a.ax b.ax else dD a.aA b.aA) else dD a.aC b.aC):=
  ((wK.on Version.ax).lex (wK.on Version.aA)).lex (wK.on Version.aC)
 have e:dL=fun a b:Version=>if (if dD a.ax b.ax≠0 then dD a.ax b.ax else dD a.aA b.aA)≠0 then (if dD a.ax b.ax≠0 then dD a.ax b.ax else dD a.aA b.aA) else dD a.aC b.aC:=by
  funext a b
  unfold dL
  rw [Wv,TX]
 rw [e];exact h
def zt (n:Int):Bool:=decide (0≤n)&&decide (n≤345686399999)
def xq (s:MarkS):Int:=if zt s.At=false then 1 else if mw s.Device=false then 5 else if s.Kind < 1∨5 < s.Kind then 4 else if kq s.Version=false then 1 else 0
def rK (prev:Option MarkS) (s:MarkS):Int:=if xq s≠0 then xq s else match prev with
 | none=>0
 | some p=>if mO s p≤0 then 7 else 0
def Ah (xs:List MarkS):Int:=if (3000:Int) < xs.length then 2 else tM rK none xs
theorem DG (xs:List MarkS):jk xs=some (Ah xs):=by
 unfold jk Ah
 split
 ·rfl
 ·rename_i hl
  unfold pz
  refine Hj rK xs _ (fun {i s} h0 h1 hs=>?_) (by show dz xs _=_;rw [dz,if_neg (by omega)];rfl)
  show dz xs i=_
  rw [dz,if_pos h1,hs]
  simp only [ac,qG]
  rw [uT,show (decide (0≤s.At)&&decide (s.At≤345686399999))=zt s.At from rfl,gp,rZ]
  unfold rK xq
  cases hm:zt s.At
  ·simp
  ·simp only [bm,bo,if_false,ci]
   cases hk:mw s.Device
   ·simp
   ·simp only [bm,bo,if_false,ci]
    rw [show (decide (s.Kind < 1)||decide (5 < s.Kind))=decide (s.Kind < 1∨5 < s.Kind) by rw [aw];simp]
    by_cases h3:s.Kind < 1∨5 < s.Kind
    ·rw [decide_eq_true h3,if_pos rfl,if_pos h3];simp
    ·rw [decide_eq_false h3,if_neg dd,if_neg h3]
     cases hv:kq s.Version
     ·simp
     ·simp only [bm,bo,if_false,ci,ne_eq,not_true_eq_false]
      unfold gA
      rw [bc (x:=i+1) (by omega) (by omega)]
      by_cases hi:0 < i
      ·obtain ⟨p,hp,_,_⟩:=fe xs (i:=i - 1) (by omega) (by omega)
       have PA:np xs i=some p:=by unfold np;rw [if_neg (by omega),hp]
       rw [PA,if_pos hi,bc (by omega) (by omega),hp]
       simp only [ac,AU]
       by_cases hb:mO s p≤0
       ·simp [hb]
       ·simp [hb]
      ·have PA:np xs i=none:=by unfold np;rw [if_pos (by omega)]
       rw [PA,if_neg hi];simp
def ZM:MarkS:=⟨0,[],0,⟨0,0,0⟩⟩
def FB (x:DeviceS):Prop:=mw x.Key=false∨mw x.Model=false∨mw x.yj=false
instance (x:DeviceS):Decidable (FB x):=by unfold FB;infer_instance
def yv (p:Option DeviceS) (x:DeviceS):Bool:=match p with
 | none=>false
 | some q=>Op.bytesLess x.Key q.Key||x.Key==q.Key
def tU (p:Option DeviceS) (x:DeviceS):Int:=if FB x then 5 else if yv p x=true then 7 else if kq x.bB=false then 1 else if (20:Int) < x.I4.length then 2 else 0
def zu (xs:List DeviceS):Int:=if (500:Int) < xs.length then 2 else tM tU none xs
theorem Jj {α:Type} (x:DeviceS) (f:Bool→α):(if (!mw x.Key)=true then f true else if (!mw x.Model)=true then f true else f (!mw x.yj))=f (decide (FB x)):=by
 have h:∀ a b c:Bool,(if (!a)=true then f true else if (!b)=true then f true else f (!c))=f (decide (a=false∨b=false∨c=false)):=by
  intro a b c
  cases a<;>cases b<;>cases c<;>rfl
 rw [show decide (FB x)=decide (mw x.Key=false∨mw x.Model=false∨mw x.yj=false) from decide_eq_decide.2 Iff.rfl]
 exact h _ _ _
theorem xV (xs:List DeviceS):gH xs=some (zu xs):=by
 unfold gH zu
 split
 ·rfl
 ·rename_i hl
  unfold po
  refine Hj tU xs _ (fun {i s} h0 h1 hs=>?_) (by show dw xs _=_;rw [dw,if_neg (by omega)];rfl)
  show dw xs i=_
  rw [dw,if_pos h1,hs]
  simp only [ac,qG]
  rw [Jj s (ee xs i s)]
  unfold ee tU
  by_cases hb:FB s
  ·rw [decide_eq_true hb,if_pos rfl,if_pos hb];simp
  ·rw [decide_eq_false hb,if_neg dd,if_neg hb]
   have hj:(if 0 < i then (idx xs (bA (i - 1))).bind fun v10=>dv i s (Op.bytesLess s.Key v10.Key||s.Key==v10.Key) else dv i s false)=dv i s (yv (np xs i) s):=by
    by_cases hi:0 < i
    ·obtain ⟨p,hp,_,_⟩:=fe xs (i:=i - 1) (by omega) (by omega)
     have PA:np xs i=some p:=by unfold np;rw [if_neg (by omega),hp]
     rw [PA,if_pos hi,bc (by omega) (by omega),hp];rfl
    ·have PA:np xs i=none:=by unfold np;rw [if_pos (by omega)]
     rw [PA,if_neg hi];rfl
   rw [hj]
   unfold dv
   rw [gp,bc (x:=i+1) (by omega) (by omega)]
   cases yv (np xs i) s
   ·simp only [bo,if_false]
    cases kq s.bB
    ·simp
    ·simp only [bm,bo,if_false,ci]
     by_cases ht:(20:Int) < s.I4.length
     ·rw [if_pos ht,if_pos ht];simp
     ·rw [if_neg ht,if_neg ht];simp
   ·simp
def pU (l:List iz):Int:=(l.map iz.Part).sum
theorem Jk:∀ l:List iz,(∀ w∈l,1≤w.Part∧w.Part≤1000)→0≤pU l∧pU l≤1000 * l.length
 | [],_=>by simp [pU]
 | w :: l,h=>by
   have h1:=Jk l (fun x hx=>h x (d6 _ hx))
   have h2:=h w (by simp)
   unfold pU at h1 ⊢
   rw [bi,cl,dg]
   omega
theorem Eu {l:List iz} {n:Nat} (h:n < l.length):pU (l.take (n+1))=pU (l.take n)+l[n].Part:=by
 rw [d7 h];unfold pU;rw [dk,List.sum_append,bi,d8,cl,List.sum_nil,Int.add_zero]
structure ga (c:Campaign):Prop where
 key:mw c.Key=true
 len:c.aG.length≤20
 part:∀ w∈c.aG,1≤w.Part∧w.Part≤1000
 sum:pU c.aG=1000
 Ig:0≤c.At∧c.At≤345686399999
 wait:∀ w∈c.aG,0≤w.oo∧w.oo≤2592000000
 room:1≤c.Room∧c.Room≤500
 adO:(0≤c.bb.cr∧c.bb.cr≤86400000)∧0≤c.bb.To∧c.bb.To≤86400000
 Z3:kq c.Target=true
theorem DH (c:Campaign):Ok (bH c) (fun r=>r=0→ga c):=by
 unfold bH
 rw [qG]
 simp only [ac]
 cases hk:mw c.Key
 ·exact Ok.ret (fun h=>absurd h (by omega))
 ·rw [if_neg (by simp)]
  unfold fC
  split
  ·exact Ok.ret (fun h=>absurd h (by omega))
  ·rename_i UZ
   have Z4:0≤c.At∧c.At≤345686399999:=by
    rw [uT] at UZ
    simp only [cf,not_or,d9,ea,af,decide_eq_true_eq] at UZ
    exact UZ.2
   have QU:kq c.Target=true:=by
    rw [uT] at UZ
    simp only [cf,not_or,d9,ea] at UZ
    rw [← gp];exact UZ.1
   split
   ·exact Ok.ret (fun h=>absurd h (by omega))
   ·split
    ·exact Ok.ret (fun h=>absurd h (by omega))
    ·rename_i hlen
     unfold kF
     refine Ok.iter (fun x:Int×Int=>(c.aG.length - x.2).toNat) (fun x:Int×Int=>0≤x.2∧x.2≤c.aG.length∧x.1=pU (c.aG.take x.2.toNat)∧∀ w∈c.aG.take x.2.toNat,(1≤w.Part∧w.Part≤1000)∧(0≤w.oo∧w.oo≤2592000000)) ?_ _ ⟨by simp,by simp,by simp [pU],by simp⟩
     rintro ⟨S,n⟩ ⟨g0,g1,g2,g3⟩
     simp only at g0 g1 g2 g3 ⊢
     have hS:=Jk _ (fun w hw=>(g3 w hw).1)
     rw [← g2] at hS
     have PQ:(c.aG.take n.toNat).length≤20:=by simp;omega
     unfold dT
     by_cases hn:n < c.aG.length
     ·rw [if_pos hn]
      obtain ⟨w,hw,hm,_⟩:=fe c.aG g0 hn
      obtain ⟨F3,IQ⟩:=bG.1 (eR hw).2.2
      rw [hw]
      simp only [ac]
      unfold fA
      split
      ·exact Ok.inr (Ok.ret (fun h=>absurd h (by omega)))
      ·rename_i ho
       have hp:(1≤w.Part∧w.Part≤1000)∧(0≤w.oo∧w.oo≤2592000000):=by
        simp only [rZ] at ho
        simp at ho
        omega
       refine Ok.ret ?_
       rw [bc (x:=S+w.Part) (by omega) (by omega),bc (x:=n+1) (by omega) (by omega)]
       refine ⟨⟨by simp only;omega,by simp only;omega,?_,?_⟩,by simp only;omega⟩
       ·simp only
        rw [show (n+1).toNat=n.toNat+1 by omega,Eu F3,IQ,g2]
       ·simp only
        intro y hy
        rw [show (n+1).toNat=n.toNat+1 by omega,d7 F3,IQ] at hy
        rcases List.mem_append.1 hy with e | e
        ·exact g3 y e
        ·rw [List.mem_singleton] at e;subst e;exact hp
     ·rw [if_neg hn]
      have QW:c.aG.take n.toNat=c.aG:=cU (by omega)
      rw [QW] at g2 g3
      refine Ok.inr ?_
      unfold gX
      split
      ·exact Ok.ret (fun h=>absurd h (by omega))
      ·rename_i adP
       unfold fB
       split
       ·exact Ok.ret (fun h=>absurd h (by omega))
       ·rename_i Kl
        simp only [rZ] at Kl
        simp at Kl
        exact Ok.ret (fun _=>⟨hk,by omega,fun w hw=>(g3 w hw).1,by omega,Z4,fun w hw=>(g3 w hw).2,by omega,by omega,QU⟩)
def sQ (h:Int) (c:UInt8):Int:=IntKind.u64.wrap (yb .u64 h (IntKind.u64.wrap (c.toNat:Int)) * 1099511628211)
def lY (h:Int) (s:bq):Int:=s.foldl sQ h
def h0:Int:=14695981039346656037
theorem Hr (n:Int):0≤IntKind.u64.wrap n∧IntKind.u64.wrap n < 18446744073709551616:=by
 rw [IntKind.wrap_u64];omega
theorem Ev:∀ (s:bq) (h:Int),0≤h∧h < 18446744073709551616→0≤lY h s∧lY h s < 18446744073709551616
 | [],h,hh=>hh
 | c :: s,h,hh=>Ev s (sQ h c) (Hr _)
theorem xor_zero {h:Int} (hh:0≤h∧h < 18446744073709551616):yb .u64 h 0=h:=by
 unfold yb
 have e:dl IntKind.u64.bits 0=0#(IntKind.u64.bits):=by decide
 rw [e,BitVec.xor_zero,IntKind.wrap_u64,BitVec.toNat_ofInt]
 show ((h % ((2 ^ 64:Nat):Int)).toNat:Int) % 18446744073709551616=h
 omega
theorem Jl {h:Int} (hh:0≤h∧h < 18446744073709551616):sQ h 0=IntKind.u64.wrap (h * 1099511628211):=by
 unfold sQ
 rw [show IntKind.u64.wrap (((0:UInt8).toNat:Nat):Int)=0 by decide,xor_zero hh]
theorem Km (n4:Int) (s:bq) (hs:s.length≤1000):∀ (m i:Nat) (h:Int),i+m=s.length→sq n4 s h i=some (.inl (lY h (s.drop i),bA (n4+1))):=by
 intro m
 induction m with
 | zero=>
   intro i h hi
   unfold sq
   rw [iter_eq,nH,if_neg (by simp only;omega),aW,ag (by omega)]
   rfl
 | succ m ih=>
   intro i h hi
   obtain ⟨c,hc,_,hd⟩:=fe s (i:=(i:Int)) (by omega) (by omega)
   rw [show ((i:Int)).toNat=i by omega,show ((i:Int)+1).toNat=i+1 by omega] at hd
   have w1:bA ((i:Int)+1)=((i+1:Nat):Int):=by rw [bc]<;>omega
   have Ww:=ih (i+1) (sQ h c) (by omega)
   unfold sq at Ww ⊢
   rw [iter_eq,nH,if_pos (by simp only;omega)]
   simp only [hc,ac,w1,bh,hd]
   exact Ww
theorem NS (a b:bq) (ha:a.length≤1000) (hb:b.length≤1000):uF [a,b]=some (lY (IntKind.u64.wrap (lY h0 a * 1099511628211)) b):=by
 unfold uF y5
 have e0:=Km 0 a ha a.length 0 14695981039346656037 (by omega)
 have e1:=Km 1 b hb b.length 0 (IntKind.u64.wrap (lY h0 a * 1099511628211)) (by omega)
 rw [iter_eq,mj,if_pos (by simp),show idx [a,b] 0=some a from rfl]
 simp only [ac]
 rw [if_neg (by omega)]
 unfold nI
 rw [show ((0:Nat):Int)=0 from rfl,bk] at e0
 rw [e0]
 simp only [ac,bh]
 rw [show bA (0+1)=1 by decide,iter_eq,mj,if_pos (by simp),show idx [a,b] 1=some b from rfl]
 simp only [ac]
 rw [if_pos (by omega)]
 unfold nI
 rw [show ((0:Nat):Int)=0 from rfl,bk] at e1
 rw [show lY 14695981039346656037 a=lY h0 a from rfl,e1]
 simp only [ac,bh]
 rw [show bA (1+1)=2 by decide,iter_eq,mj,if_neg (by simp),aW]
def vm (c:Campaign) (d:bq):Int:=bA ((yb .u64 (lY (IntKind.u64.wrap (lY h0 c.Key * 1099511628211)) d) (B9 .u64 (lY (IntKind.u64.wrap (lY h0 c.Key * 1099511628211)) d) 32)).tmod 1000)
theorem FC (c:Campaign) (d:bq) (h1:c.Key.length≤1000) (h2:d.length≤1000):ml c d=some (vm c d):=by
 unfold ml
 rw [NS _ _ h1 h2];rfl
theorem QX (s:bq) (hs:s.length≤3000):∀ (m i:Nat) (h:Int),i+m=s.length→zj s h i=some (bA ((yb .u64 (lY h (s.drop i)) (B9 .u64 (lY h (s.drop i)) 32)).tmod 1000)):=by
 have Wx:(zU s).length=s.length:=by unfold zU;simp
 intro m
 induction m with
 | zero=>
   intro i h hi
   unfold zj
   rw [iter_eq,CO,if_neg (by simp only;omega),aW,ag (by omega)]
   rfl
 | succ m ih=>
   intro i h hi
   obtain ⟨c,hc,_,hd⟩:=fe s (i:=(i:Int)) (by omega) (by omega)
   have hcb:idx (zU s) (i:Int)=some (c.toNat:Int):=by
    unfold idx at hc ⊢
    rw [if_pos (by omega)] at hc ⊢
    unfold zU
    rw [cn,hc];rfl
   rw [show ((i:Int)).toNat=i by omega,show ((i:Int)+1).toNat=i+1 by omega] at hd
   have w1:bA ((i:Int)+1)=((i+1:Nat):Int):=by rw [bc]<;>omega
   have Ww:=ih (i+1) (sQ h c) (by omega)
   unfold zj at Ww ⊢
   rw [iter_eq,CO,if_pos (by simp only;omega)]
   simp only [hcb,ac,w1,bh,hd]
   exact Ww
theorem FD (c:Campaign) (d:bq) (h1:c.Key.length≤1000) (h2:d.length≤1000):Hk c d=some (vm c d):=by
 unfold Hk
 rw [NO (by simp;omega)]
 simp only [ac]
 rw [NO (by simp;omega)]
 simp only [ac]
 have e:=QX (c.Key++[0]++d) (by simp;omega) (c.Key++[0]++d).length 0 h0 (by omega)
 have hh:lY h0 (c.Key++[0]++d)=lY (IntKind.u64.wrap (lY h0 c.Key * 1099511628211)) d:=by
  unfold lY
  rw [bP,bP,aS,eg]
  have:=Ev c.Key h0 (by unfold h0;omega)
  unfold lY at this
  rw [Jl this]
 rw [show ((0:Nat):Int)=0 from rfl,bk,hh] at e
 exact e
theorem Kn (c:Campaign) (d:bq):0≤vm c d∧vm c d < 1000:=by
 unfold vm
 have hx:=Hr ((dl IntKind.u64.bits (lY (IntKind.u64.wrap (lY h0 c.Key * 1099511628211)) d) ^^^ dl IntKind.u64.bits (B9 .u64 (lY (IntKind.u64.wrap (lY h0 c.Key * 1099511628211)) d) 32)).toNat:Int)
 change 0≤yb .u64 _ _∧yb .u64 _ _ < _ at hx
 have a1:=Int.tmod_nonneg 1000 hx.1
 have a2:=d1 (yb .u64 (lY (IntKind.u64.wrap (lY h0 c.Key * 1099511628211)) d) (B9 .u64 (lY (IntKind.u64.wrap (lY h0 c.Key * 1099511628211)) d) 32)) (show (0:Int) < 1000 by omega)
 rw [bc (by omega) (by omega)]
 exact ⟨a1,a2⟩
theorem QY (c:Campaign) (hc:ga c) (v:Int) (hv:v < 1000):∀ (m k:Nat) (S:Int),k+m=c.aG.length→0≤S→S≤v→S+pU (c.aG.drop k)=1000→∃ j,j0 c v S k=some j∧wM c (v - S) k=some j:=by
 have hlen:=hc.len
 intro m
 induction m with
 | zero=>
   intro k S hk h1 h2 h3
   rw [ag (by omega)] at h3
   simp [pU] at h3
   omega
 | succ m ih=>
   intro k S hk h1 h2 h3
   obtain ⟨w,hw,hm,hd⟩:=fe c.aG (i:=(k:Int)) (by omega) (by omega)
   rw [show ((k:Int)).toNat=k by omega,show ((k:Int)+1).toNat=k+1 by omega] at hd
   have hp:=hc.part w hm
   have w1:bA ((k:Int)+1)=((k+1:Nat):Int):=by rw [bc]<;>omega
   have h4:S+w.Part+pU (c.aG.drop (k+1))=1000:=by
    rw [hd] at h3
    unfold pU at h3 ⊢
    rw [bi,cl] at h3
    omega
   unfold j0 wM
   rw [iter_eq,iter_eq,iu,AO,if_pos (by simp only;omega),if_pos (by simp only;omega),hw]
   simp only [ac]
   rw [bc (x:=S+w.Part) (by omega) (by omega),bc (x:=v - S - w.Part) (by omega) (by omega),w1]
   by_cases hq:v < S+w.Part
   ·rw [if_pos hq,if_pos (by omega)]
    exact ⟨k,rfl,rfl⟩
   ·rw [if_neg hq,if_neg (by omega)]
    simp only [ac,bh]
    have:=ih (k+1) (S+w.Part) (by omega) (by omega) (by omega) h4
    rw [show v - S - w.Part=v - (S+w.Part) by omega]
    exact this
theorem uW {s:bq} (h:mw s=true):s.length≤40:=by
 cases s with
 | nil=>simp
 | cons c r=>rw [Af] at h;simp at h;simp;omega
def Ko (k:Int) (off:Version) (m:MarkS):Bool:=
 if m.Kind=1 then decide (k=0∨k=3∨k=4) else if m.Kind=2∨m.Kind=5 then decide (k=1∧m.Version=off) else decide (k=2∧m.Version=off)
def wX (x:aj) (m:MarkS):aj:=
 ⟨⟨m.Kind,m.At,if m.Kind=3 then m.Version else x.ah.Version,if m.Kind=4 then bA (x.ah.ct+1) else x.ah.ct⟩,m.Version⟩
def CV (x:aj) (m:MarkS):Bool:=Ko x.ah.Kind x.aN m
def tw (x:aj) (m:MarkS):aj:=if CV x m=true then wX x m else x
def x0 (d:DeviceS):aj:=⟨⟨0,0,d.bB,0⟩,⟨0,0,0⟩⟩
theorem Lz (x:aj) (m:MarkS) (b:Bool):dV x m b=if b=true then (true,wX x m) else (false,x):=by
 unfold dV fE fD wX
 cases b
 ·rfl
 ·simp only [bm,bo,if_false,if_true]
  by_cases h3:m.Kind=3
  ·rw [if_pos h3,if_pos h3,if_neg (by omega)]
  ·rw [if_neg h3,if_neg h3]
   by_cases h4:m.Kind=4
   ·rw [if_pos h4,if_pos h4]
   ·rw [if_neg h4,if_neg h4]
theorem follow_eq (x:aj) (m:MarkS):au x m=if CV x m=true then (true,wX x m) else (false,x):=by
 unfold au gY fG gZ ia fF
 simp only [Lz]
 unfold CV Ko
 by_cases h1:m.Kind=1
 ·rw [if_pos h1,if_pos h1]
  rw [show (decide (x.ah.Kind=0)||(decide (x.ah.Kind=3)||decide (x.ah.Kind=4)))=decide (x.ah.Kind=0∨x.ah.Kind=3∨x.ah.Kind=4) by rw [aw];simp]
 ·rw [if_neg h1,if_neg h1]
  by_cases h2:m.Kind=2
  ·rw [if_pos h2,if_pos (Or.inl h2),if_pos (by simp [h2])]
   rw [show (decide (x.ah.Kind=1)&&decide (m.Version=x.aN))=decide (x.ah.Kind=1∧m.Version=x.aN) by rw [aw];simp]
  ·rw [if_neg h2]
   by_cases h5:m.Kind=5
   ·rw [if_pos (Or.inr h5),if_pos (by simp [h5])]
    rw [show (decide (x.ah.Kind=1)&&decide (m.Version=x.aN))=decide (x.ah.Kind=1∧m.Version=x.aN) by rw [aw];simp]
   ·rw [if_neg (show ¬ decide (m.Kind=5)=true by simp [h5]),if_neg (show ¬ (m.Kind=2∨m.Kind=5) by omega)]
    rw [show (decide (x.ah.Kind=2)&&decide (m.Version=x.aN))=decide (x.ah.Kind=2∧m.Version=x.aN) by rw [aw];simp]
theorem NT (x:aj) (m:MarkS):(au x m).1=CV x m:=by
 rw [follow_eq];split
 ·rename_i h;rw [h]
 ·rename_i h;simp only [Bool.not_eq_true] at h;rw [h]
theorem zv (x:aj) (m:MarkS):(au x m).2=tw x m:=by
 rw [follow_eq];unfold tw;split<;>rfl
def oQ (c:Campaign) (k:bq) (m:MarkS):Bool:=decide (m.Device=k)&&decide (c.At≤m.At)
def tj (c:Campaign) (k:bq) (at_:Int) (m:MarkS):Bool:=decide (m.Device=k)&&(decide (c.At≤m.At)&&decide (m.At≤at_))
def vn (c:Campaign) (d:DeviceS) (l:List MarkS) (at_:Int):aj:=(l.filter (tj c d.Key at_)).foldl tw (x0 d)
theorem AW (c:Campaign) (d:DeviceS) (l:List MarkS) (at_:Int) (hl:(l.length:Int)≤1000000):∀ (m n:Nat) (x:aj),n+m=l.length→
 mq c d l at_ x.ah.Kind x.ah.Since x.ah.Version.ax x.ah.Version.aA x.ah.Version.aC x.ah.ct x.aN.ax x.aN.aA x.aN.aC (n:Int)=some ((((l.drop n).filter (tj c d.Key at_)).foldl tw x).ah,0)
 | 0,n,x,h=>by
   unfold mq
   rw [iter_eq,iw,if_neg (by simp only;omega),ag (by omega),aW]
   rfl
 | m+1,n,x,h=>by
   obtain ⟨q,hq,Pn,hd⟩:=fe l (i:=(n:Int)) (by omega) (by omega)
   rw [show ((n:Int)).toNat=n by omega,show ((n:Int)+1).toNat=n+1 by omega] at hd
   have w1:bA ((n:Int)+1)=((n+1:Nat):Int):=by rw [bc]<;>omega
   have ih:=fun x=>AW c d l at_ hl m (n+1) x (by omega)
   unfold mq at ih ⊢
   rw [iter_eq,iw,if_pos (by simp only;omega),hd,ds]
   simp only
   rw [hq]
   simp only [ac]
   unfold mo j9
   rw [show (decide (q.Device=d.Key)&&(decide (c.At≤q.At)&&decide (q.At≤at_)))=tj c d.Key at_ q from rfl,w1]
   by_cases hr:tj c d.Key at_ q=true
   ·rw [if_pos hr,if_pos hr,aS]
    simp only [ac,bh]
    rw [show (au (⟨⟨x.ah.Kind,x.ah.Since,⟨x.ah.Version.ax,x.ah.Version.aA,x.ah.Version.aC⟩,x.ah.ct⟩,⟨x.aN.ax,x.aN.aA,x.aN.aC⟩⟩:aj) q).2=tw x q from zv x q]
    exact ih (tw x q)
   ·rw [if_neg hr,if_neg hr]
    simp only [ac,bh]
    exact ih x
def nz (l:List MarkS):Int×Version:=match l.getLast? with
 | some m=>(m.Kind,m.Version)
 | none=>(0,⟨0,0,0⟩)
def vX (l:List MarkS) (m:MarkS):List MarkS:=if Ko (nz l).1 (nz l).2 m=true then l++[m] else l
theorem FE:∀ (ms A:List MarkS) (d:DeviceS) (x:aj),x=A.foldl wX (x0 d)→(x.ah.Kind,x.aN)=nz A→ms.foldl tw x=(ms.foldl vX A).foldl wX (x0 d)
 | [],A,d,x,h,_=>h
 | m :: r,A,d,x,h,hk=>by
   rw [aS,aS]
   have e:CV x m=Ko (nz A).1 (nz A).2 m:=by unfold CV;rw [← hk]
   by_cases ho:Ko (nz A).1 (nz A).2 m=true
   ·rw [show vX A m=A++[m] by unfold vX;rw [if_pos ho],show tw x m=wX x m by unfold tw;rw [e,if_pos ho]]
    refine FE r (A++[m]) d _ ?_ ?_
    ·rw [bP,← h];rfl
    ·unfold nz;rw [ej];rfl
   ·rw [show vX A m=A by unfold vX;rw [if_neg ho],show tw x m=x by unfold tw;rw [e,if_neg ho]]
    exact FE r A d x h hk
theorem NU (x:Int):(eM [0,3,4] x=some (decide (x=0∨x=3∨x=4)))∧(∀ a,eM [a] x=some (decide (x=a))):=by
 constructor
 ·unfold eM nq lR
  rw [iter_eq,dK,if_pos (by decide),show idx [(0:Int),3,4] 0=some 0 from rfl]
  simp only [ac]
  by_cases h0:x=0
  ·rw [if_pos h0,aW];simp [h0]
  ·rw [if_neg h0,ac,bh,iter_eq,dK,show bA (0+1)=1 from rfl,if_pos (by decide),show idx [(0:Int),3,4] 1=some 3 from rfl]
   simp only [ac]
   by_cases h3:x=3
   ·rw [if_pos h3,aW];simp [h3]
   ·rw [if_neg h3,ac,bh,iter_eq,dK,show bA (1+1)=2 from rfl,if_pos (by decide),show idx [(0:Int),3,4] 2=some 4 from rfl]
    simp only [ac]
    by_cases h4:x=4
    ·rw [if_pos h4,aW];simp [h4]
    ·rw [if_neg h4,ac,bh,iter_eq,dK,show bA (2+1)=3 from rfl,if_neg (by decide),aW];simp [h0,h3,h4]
 ·intro a
  unfold eM nq lR
  rw [iter_eq,dK,if_pos (by simp),show idx [a] 0=some a from rfl]
  simp only [ac]
  by_cases h0:x=a
  ·rw [if_pos h0,aW];simp [h0]
  ·rw [if_neg h0,ac,bh,iter_eq,dK,show bA (0+1)=1 from rfl,if_neg (by simp),aW];simp [h0]
theorem QZ (k:Int) (hk:1≤k∧k≤5):nU (dX (dX (dX (dX (dX ([]:List (Int×(List Int))) (1:Int) [(0:Int),(3:Int),(4:Int)]) (2:Int) [(1:Int)]) (5:Int) [(1:Int)]) (3:Int) [(2:Int)]) (4:Int) [(2:Int)]) k []=some (if k=1 then [0,3,4] else if k=2∨k=5 then [1] else [2]):=by
 have:k=1∨k=2∨k=3∨k=4∨k=5:=by omega
 unfold nU
 simp only [gM,wL]
 rcases this with h | h | h | h | h<;>subst h<;>simp
theorem AX (l6:List MarkS) (n7:Int) (q:MarkS) (a:Int) (b:bq) (k x y z:Int) (hq:1≤q.Kind∧q.Kind≤5) (hl:(l6.length:Int)≤1000000):qU l6 n7 q a b k x y z=some (.inl (if Ko k ⟨x,y,z⟩ q=true then l6++[q] else l6,bA (n7+1))):=by
 unfold qU
 rw [QZ q.Kind hq]
 simp only [ac]
 have hc:eM (if q.Kind=1 then [0,3,4] else if q.Kind=2∨q.Kind=5 then [1] else [2]) k=some (if q.Kind=1 then decide (k=0∨k=3∨k=4) else if q.Kind=2∨q.Kind=5 then decide (k=1) else decide (k=2)):=by
  split
  ·exact (NU k).1
  ·split
   ·exact (NU k).2 1
   ·exact (NU k).2 2
 rw [hc]
 simp only [ac]
 have e:((if q.Kind=1 then decide (k=0∨k=3∨k=4) else if q.Kind=2∨q.Kind=5 then decide (k=1) else decide (k=2))&&(decide (q.Kind=1)||decide (q.Version=⟨x,y,z⟩)))=Ko k ⟨x,y,z⟩ q:=by
  unfold Ko
  split
  ·rename_i h;simp [h]
  ·rename_i h
   split
   ·simp [h]
   ·simp [h]
 rw [e]
 unfold xS ug qT
 split
 ·rw [mQ (by simp;omega)];rfl
 ·rfl
theorem xW (c:Campaign) (k:bq) (l:List MarkS) (at_:Int) (hl:(l.length:Int)≤100000) (hK:∀ q∈l,1≤q.Kind∧q.Kind≤5):∀ (m n:Nat) (A:List MarkS),n+m=l.length→A.length≤n→
 qV c k l at_ A (n:Int)=some (((l.drop n).filter (tj c k at_)).foldl vX A)
 | 0,n,A,h,ha=>by
   unfold qV
   rw [iter_eq,uh,if_neg (by simp only;omega),ag (by omega),aW]
   rfl
 | m+1,n,A,h,ha=>by
   obtain ⟨q,hq,Pn,hd⟩:=fe l (i:=(n:Int)) (by omega) (by omega)
   rw [show ((n:Int)).toNat=n by omega,show ((n:Int)+1).toNat=n+1 by omega] at hd
   have w1:bA ((n:Int)+1)=((n+1:Nat):Int):=by rw [bc]<;>omega
   have ih:=fun A ha=>xW c k l at_ hl hK m (n+1) A (by omega) ha
   unfold qV at ih ⊢
   rw [iter_eq,uh,if_pos (by simp only;omega),hd,ds]
   simp only
   rw [hq]
   simp only [ac]
   rw [show (decide (q.Device≠k)||(decide (q.At < c.At)||decide (at_ < q.At)))=!(tj c k at_ q) by unfold tj;rw [aw];simp [Int.not_le]]
   unfold oB
   by_cases hr:tj c k at_ q=true
   ·rw [if_neg (by simp [hr]),if_pos hr,aS]
    have last:oB A (n:Int) q false=some (.inl (vX A q,bA ((n:Int)+1))):=by
     unfold oB
     rw [if_neg (by simp)]
     rcases List.eq_nil_or_concat A with rfl | ⟨B,p,rfl⟩
     ·rw [if_neg (by decide),AX _ _ _ _ _ _ _ _ _ (hK q Pn) (by simp)];rfl
     ·rw [List.concat_eq_append] at ha ⊢
      rw [dy,dE] at ha
      have wl:bA (((B++[p]).length:Int) - 1)=(B.length:Int):=by rw [dy,dE,bc]<;>omega
      rw [wl,if_pos (by omega),Fq B p [] rfl]
      simp only [ac]
      rw [AX _ _ _ _ _ _ _ _ _ (hK q Pn) (by simp;omega)]
      unfold vX nz
      rw [ej]
    unfold oB at last
    rw [if_neg (by simp)] at last
    rw [last]
    simp only [ac,bh]
    rw [w1]
    refine ih _ ?_
    unfold vX;split
    ·simp;omega
    ·omega
   ·rw [if_pos (by simp [hr]),if_neg hr]
    unfold qT
    simp only [ac,bh]
    rw [w1]
    exact ih A (by omega)
theorem AY (c:Campaign) (k:bq) (l:List MarkS) (at_:Int) (hl:(l.length:Int)≤100000) (hK:∀ q∈l,1≤q.Kind∧q.Kind≤5):vj c k l at_=some ((l.filter (tj c k at_)).foldl vX []):=by
 have:=xW c k l at_ hl hK l.length 0 [] (by simp) (by simp)
 rw [bk] at this
 exact this
theorem CW:∀ (ms A:List MarkS),(ms.foldl vX A).length≤A.length+ms.length
 | [],A=>by simp
 | m :: r,A=>by
   rw [aS]
   have:=CW r (vX A m)
   have:(vX A m).length≤A.length+1:=by unfold vX;split<;>simp
   rw [dg];omega
theorem xX (v:List MarkS) (hl:(v.length:Int)≤100000):∀ (m n:Nat) (x:aj),n+m=v.length→
 qW v x.ah.Kind x.ah.Since x.ah.Version.ax x.ah.Version.aA x.ah.Version.aC x.ah.ct (n:Int)=some ((v.drop n).foldl wX x).ah
 | 0,n,x,h=>by
   unfold qW
   rw [iter_eq,uk,if_neg (by simp only;omega),ag (by omega),aW]
   rfl
 | m+1,n,x,h=>by
   obtain ⟨q,hq,Pn,hd⟩:=fe v (i:=(n:Int)) (by omega) (by omega)
   rw [show ((n:Int)).toNat=n by omega,show ((n:Int)+1).toNat=n+1 by omega] at hd
   have w1:bA ((n:Int)+1)=((n+1:Nat):Int):=by rw [bc]<;>omega
   have ih:=xX v hl m (n+1) (wX x q) (by omega)
   unfold qW at ih ⊢
   rw [iter_eq,uk,if_pos (by simp only;omega),hd,aS]
   simp only
   rw [hq]
   simp only [ac]
   unfold uj ui
   rw [w1]
   by_cases h3:q.Kind=3
   ·rw [show wX x q=⟨⟨q.Kind,q.At,q.Version,x.ah.ct⟩,q.Version⟩ by unfold wX;rw [if_pos h3,if_neg (by omega)]] at ih ⊢
    rw [if_pos h3]
    simp only [ac,bh]
    exact ih
   ·rw [if_neg h3]
    by_cases h4:q.Kind=4
    ·rw [show wX x q=⟨⟨q.Kind,q.At,x.ah.Version,bA (x.ah.ct+1)⟩,q.Version⟩ by unfold wX;rw [if_neg h3,if_pos h4]] at ih ⊢
     rw [if_pos h4]
     simp only [ac,bh]
     exact ih
    ·rw [show wX x q=⟨⟨q.Kind,q.At,x.ah.Version,x.ah.ct⟩,q.Version⟩ by unfold wX;rw [if_neg h3,if_neg h4]] at ih ⊢
     rw [if_neg h4]
     simp only [ac,bh]
     exact ih
theorem Hs (c:Campaign) (d:DeviceS) (l:List MarkS) (at_:Int) (hl:(l.length:Int)≤10000) (hK:∀ q∈l,1≤q.Kind∧q.Kind≤5):yp c d l at_=some (vn c d l at_).ah:=by
 unfold yp
 rw [AY c d.Key l at_ (by omega) hK]
 simp only [ac]
 have hx:=CW (l.filter (tj c d.Key at_)) []
 have hf:=List.length_filter_le (tj c d.Key at_) l
 have:=xX ((l.filter (tj c d.Key at_)).foldl vX []) (by simp at hx;omega) _ 0 (x0 d) (ce _)
 rw [bk] at this
 unfold vn
 rw [FE _ [] d (x0 d) rfl rfl]
 exact this
abbrev CS:=ao
theorem mX {α:Type} {xs:List α} {i:Nat} {x:α} (h:xs[i]? =some x):idx xs (i:Int)=some x:=by
 unfold idx;rw [if_pos (by omega)];simpa using h
theorem LA (c:Campaign) (hc:ga c) (v:Int) (hv:v < 1000):∀ (m k:Nat) (S:Int),k+m=c.aG.length→0≤S→S≤v→S+pU (c.aG.drop k)=1000→∃ j:Int,j0 c v S k=some j∧0≤j∧j < c.aG.length:=by
 have hlen:=hc.len
 intro m
 induction m with
 | zero=>
   intro k S hk h1 h2 h3
   rw [ag (by omega)] at h3
   simp [pU] at h3
   omega
 | succ m ih=>
   intro k S hk h1 h2 h3
   obtain ⟨w,hw,hm,hd⟩:=fe c.aG (i:=(k:Int)) (by omega) (by omega)
   rw [show ((k:Int)).toNat=k by omega,show ((k:Int)+1).toNat=k+1 by omega] at hd
   have hp:=hc.part w hm
   have w1:bA ((k:Int)+1)=((k+1:Nat):Int):=by rw [bc]<;>omega
   have h4:S+w.Part+pU (c.aG.drop (k+1))=1000:=by
    rw [hd] at h3
    unfold pU at h3 ⊢
    rw [bi,cl] at h3
    omega
   unfold j0
   rw [iter_eq,iu,if_pos (by simp only;omega),hw]
   simp only [ac]
   rw [bc (x:=S+w.Part) (by omega) (by omega),w1]
   by_cases hq:v < S+w.Part
   ·rw [if_pos hq]
    exact ⟨k,rfl,by omega,by omega⟩
   ·rw [if_neg hq]
    simp only [ac,bh]
    exact ih (k+1) (S+w.Part) (by omega) (by omega) (by omega) h4
noncomputable def mE (c:Campaign) (k:bq):Nat:=((ff c k).getD 0).toNat
theorem xu (c:Campaign) (hc:ga c) (k:bq) (hk:mw k=true):ff c k=some (mE c k:Int)∧mE c k < c.aG.length:=by
 have h1:=uW hc.key
 have h2:=uW hk
 have Wy:=Kn c k
 obtain ⟨j,j1,j2,j3⟩:=LA c hc (vm c k) Wy.2 c.aG.length 0 0 (by omega) (by omega) Wy.1 (by rw [bk,hc.sum];rfl)
 have e:ff c k=some j:=by
  unfold ff
  rw [FC c k (by omega) (by omega)]
  exact j1
 unfold mE
 rw [e,d0]
 exact ⟨by rw [show ((j.toNat:Nat):Int)=j by omega],by omega⟩
structure iP (l:List DeviceS):Prop where
 key:∀ d∈l,mw d.Key=true
 NV:(l.map DeviceS.Key).Nodup
def dC:List DeviceS→Nat→List (bq×Int)
 | [],_=>[]
 | d :: r,k=>(d.Key,(k:Int)) :: dC r (k+1)
theorem Ew (d:DeviceS):∀ (l:List DeviceS) (k:Nat),dC (l++[d]) k=dC l k++[(d.Key,((k+l.length:Nat):Int))]
 | [],k=>by simp [dC]
 | x :: r,k=>by
   rw [cz,dC,Ew d r (k+1),dC,cz,dg,show k+1+r.length=k+(r.length+1) by omega]
theorem Ht:∀ (l:List DeviceS) (k:Nat),(dC l k).map bU=l.map DeviceS.Key
 | [],_=>rfl
 | d :: r,k=>by rw [dC,bi,Ht r (k+1),bi]
theorem zw:∀ (l:List DeviceS) (k:Nat) (e:bq×Int),e∈dC l k→∃ i d,l[i]? =some d∧e=(d.Key,((k+i:Nat):Int))
 | [],_,e,h=>by cases h
 | d :: r,k,e,h=>by
   rw [dC] at h
   rcases be.1 h with h | h
   ·exact ⟨0,d,rfl,h⟩
   ·obtain ⟨i,x,h1,h2⟩:=zw r (k+1) e h
    exact ⟨i+1,x,by simpa using h1,by rw [h2,show k+1+i=k+(i+1) by omega]⟩
theorem Kp:∀ (l:List DeviceS) (k i:Nat) (d:DeviceS),l[i]? =some d→(d.Key,((k+i:Nat):Int))∈dC l k
 | [],_,i,d,h=>by simp at h
 | x :: r,k,0,d,h=>by simp at h;subst h;rw [dC];exact el
 | x :: r,k,i+1,d,h=>by
   rw [dC]
   refine d6 _ ?_
   have:=Kp r (k+1) i d (by simpa using h)
   rw [show k+(i+1)=k+1+i by omega];exact this
noncomputable def Hu (c:Campaign) (l:List DeviceS):List (bq×Int):=l.map fun d=>(d.Key,(mE c d.Key:Int))
noncomputable def eP (c:Campaign) (dn:List MarkS) (d:DeviceS):aj:=(dn.filter (oQ c d.Key)).foldl tw (x0 d)
structure SI (c:Campaign) (fl:List DeviceS) (s:CS) (dn:List MarkS):Prop where
 c_:s.c_=c
 kM:s.kM.Perm (dC fl 0)
 cj:s.cj.Perm (Hu c fl)
 iA:s.iA=fl.map (eP c dn)
 open_:s.open_.length=c.aG.length
 ba:s.ba.length=c.aG.length
 aO:s.aO.length=c.aG.length
 bg:s.aE.length≤c.aG.length
 nx:0≤s.bM→s.aE.length < c.aG.length
theorem wY (st:CS) (T:Int) (l5:List Int) (n6 n10:Int) (hw:st.open_.length=st.c_.aG.length) (hW:st.c_.aG.length≤20) (h1:l5.length≤st.c_.aG.length) (h2:0≤n10→l5.length < st.c_.aG.length):
 Ok (bJ st T l5 n10) (Lt (fun x:List Int×Int=>st.c_.aG.length - x.1.length) (fun x:List Int×Int=>x.1.length≤st.c_.aG.length∧(0≤x.2→x.1.length < st.c_.aG.length)) (fun r:CS=>∃ bs nx,r={st with aE:=bs,bM:=nx}∧bs.length≤st.c_.aG.length∧(0≤nx→bs.length < st.c_.aG.length)) (l5,n6)):=by
 unfold bJ eJ
 split
 ·exact Ok.inr (Ok.ret ⟨l5,n10,rfl,h1,h2⟩)
 ·rename_i hc
  simp only [cf,decide_eq_true_eq,not_or] at hc
  have ew:=h2 (by omega)
  refine Ok.app (by simp;omega) ?_
  have w1:bA ((l5.length:Int)+1)=((l5.length+1:Nat):Int):=by rw [bc]<;>omega
  rw [w1]
  have j5:∀ n17:Int,(0≤n17→l5.length+1 < st.c_.aG.length)→Ok (cF (l5++[n10]) n17) (Lt (fun x:List Int×Int=>st.c_.aG.length - x.1.length) (fun x:List Int×Int=>x.1.length≤st.c_.aG.length∧(0≤x.2→x.1.length < st.c_.aG.length)) (fun r:CS=>∃ bs nx,r={st with aE:=bs,bM:=nx}∧bs.length≤st.c_.aG.length∧(0≤nx→bs.length < st.c_.aG.length)) (l5,n6)):=by
   intro n17 h
   unfold cF
   exact Ok.ret ⟨⟨by simp;omega,fun h'=>by simp only [dy,dE];exact h h'⟩,by simp;omega⟩
  split
  ·rename_i hk
   refine Ok.idx (by omega) (by omega) (fun v _ _=>?_)
   unfold cG
   rw [w1]
   split
   ·refine Ok.idx (by omega) hk (fun v _ _=>?_)
    exact j5 _ (fun _=>by omega)
   ·exact j5 _ (fun h=>absurd h (by omega))
  ·unfold cG
   rw [if_neg (by simp)]
   exact j5 _ (fun h=>absurd h (by omega))
theorem NW (st:CS) (T:Int) (hw:st.open_.length=st.c_.aG.length) (hW:st.c_.aG.length≤20) (h1:st.aE.length≤st.c_.aG.length) (h2:0≤st.bM→st.aE.length < st.c_.aG.length):
 Ok (bD st T) (fun r:CS=>∃ bs nx,r={st with aE:=bs,bM:=nx}∧bs.length≤st.c_.aG.length∧(0≤nx→bs.length < st.c_.aG.length)):=by
 unfold bD iS
 refine Ok.iter (fun x:List Int×Int=>st.c_.aG.length - x.1.length) (fun x:List Int×Int=>x.1.length≤st.c_.aG.length∧(0≤x.2→x.1.length < st.c_.aG.length)) ?_ _ ⟨h1,h2⟩
 rintro ⟨l5,n6⟩ ⟨g1,g2⟩
 simp only at g1 g2 ⊢
 have Kq:Ok (bE st T l5 n6 false) (Lt (fun x:List Int×Int=>st.c_.aG.length - x.1.length) (fun x:List Int×Int=>x.1.length≤st.c_.aG.length∧(0≤x.2→x.1.length < st.c_.aG.length)) (fun r:CS=>∃ bs nx,r={st with aE:=bs,bM:=nx}∧bs.length≤st.c_.aG.length∧(0≤nx→bs.length < st.c_.aG.length)) (l5,n6)):=by
  unfold bE
  rw [if_neg (by simp)]
  exact wY st T l5 n6 n6 hw hW g1 g2
 unfold bF
 split
 ·split
  ·rename_i hp
   have w1:bA ((l5.length:Int) - 1)=(l5.length:Int) - 1:=by rw [bc]<;>omega
   split
   ·rename_i hq
    rw [w1]
    refine Ok.idx (by omega) (by omega) (fun v _ _=>?_)
    split
    ·refine Ok.idx (by omega) (by omega) (fun v _ _=>?_)
     unfold bE
     split
     ·refine Ok.idx (by omega) hq (fun w _ _=>?_)
      exact wY st T l5 n6 _ hw hW g1 (fun _=>by omega)
     ·exact wY st T l5 n6 n6 hw hW g1 g2
    ·exact Kq
   ·exact Kq
  ·exact Kq
 ·exact Kq
def uu (c:Campaign) (x:aj):Bool:=decide (x.ah.Version=c.Target)||(!(decide (x.ah.Version=c.Target))&&(decide ((3:Int)≤x.ah.ct)||decide (x.ah.Kind=(5:Int))))
theorem Sd (st:CS) (x:aj):(bZ st x||cQ st x)=uu st.c_ x:=by
 unfold cQ ki bZ uu;rfl
def kh (l:List Int) (k:Nat) (d:Int):List Int:=l.set k (bA (l.getD k 0+d))
theorem sL (l:List Int) (k:Nat) (d:Int):(kh l k d).length=l.length:=by unfold kh;simp
theorem mg {l:List Int} {k:Nat} (h:k < l.length):idx l (k:Int)=some (l.getD k 0):=by
 refine mX ?_
 rw [em,eq h];rfl
def pV (c:Campaign) (k:Nat):iz:=c.aG.getD k ⟨0,0,0,0⟩
def FF (c:Campaign) (op:List Int) (k:Nat) (x x':aj):List Int:=if (uu c x' !=uu c x)=true then (if uu c x'=true then kh op k (-1) else kh op k 1) else op
def LB (c:Campaign) (k:Nat) (en fa:List Int) (sp:Int) (m:MarkS):Int:=if sp < 0∧(pV c k).pk≤en.getD k 0∧bA ((pV c k).ct * en.getD k 0) < bA (1000 * fa.getD k 0) then m.At else sp
def pW (st:CS) (i k:Nat) (x:aj) (m:MarkS):CS:=
 if CV x m=true then
  if m.Kind≠3∧m.Kind≠4 then {st with open_:=FF st.c_ st.open_ k x (wX x m),iA:=st.iA.set i (tw x m)}
  else {st with open_:=FF st.c_ st.open_ k x (wX x m),ba:=kh st.ba k 1,aO:=if m.Kind=4 then kh st.aO k 1 else st.aO,aQ:=LB st.c_ k (kh st.ba k 1) (if m.Kind=4 then kh st.aO k 1 else st.aO) st.aQ m,iA:=st.iA.set i (tw x m)}
 else {st with iA:=st.iA.set i (tw x m)}
theorem Q0 (st:CS) (m:MarkS) (i k:Nat) (x:aj) (hi:bj st.kM m.Device=some (i:Int)) (hk:bj st.cj m.Device=some (k:Int)) (ha:¬ m.At < st.c_.At) (hx:st.iA[i]? =some x)
 (hW:k < st.c_.aG.length) (ho:k < st.open_.length) (he:k < st.ba.length) (hf:k < st.aO.length):cx st m=some (pW st i k x m):=by
 have hxi:=mX hx
 unfold cx
 rw [hi,rm]
 unfold gz
 rw [if_neg (by simp;omega)]
 unfold nU
 rw [hk,hxi]
 simp only [ac,d0]
 unfold jx
 rw [hxi]
 simp only [ac,NT,zv,Sd,al]
 unfold pW
 by_cases dW:CV x m=true
 ·rw [if_neg (by simp [dW]),if_pos dW]
  have Jm:tw x m=wX x m:=by unfold tw;rw [if_pos dW]
  rw [Jm]
  have j5:∀ op:List Int,fu st m (i:Int) (k:Int) x op=some (if m.Kind≠3∧m.Kind≠4 then {st with open_:=op,iA:=st.iA.set i (wX x m)}
   else {st with open_:=op,ba:=kh st.ba k 1,aO:=if m.Kind=4 then kh st.aO k 1 else st.aO,aQ:=LB st.c_ k (kh st.ba k 1) (if m.Kind=4 then kh st.aO k 1 else st.aO) st.aQ m,iA:=st.iA.set i (wX x m)}):=by
   intro op
   unfold fu jv
   simp only [zv,Jm,al]
   by_cases U0:m.Kind≠3∧m.Kind≠4
   ·rw [if_pos (by simp [U0]),if_pos U0]
   ·rw [if_neg (by simpa using U0),if_neg U0,mg he]
    simp only [ac]
    have j8:∀ fa:List Int,k < fa.length→ft st m (i:Int) (k:Int) x op (st.ba.getD k 0) fa=some {st with open_:=op,ba:=kh st.ba k 1,aO:=fa,aQ:=LB st.c_ k (kh st.ba k 1) fa st.aQ m,iA:=st.iA.set i (wX x m)}:=by
     intro fa Wz
     unfold ft
     have WA:idx st.c_.aG (k:Int)=some (pV st.c_ k):=by
      refine mX ?_
      unfold pV
      rw [em,eq hW];rfl
     rw [WA]
     simp only [ac,al]
     have tY:st.ba.set k (bA (st.ba.getD k 0+1))=kh st.ba k 1:=rfl
     rw [tY,mg (l:=kh st.ba k 1) (by rw [sL];exact he),mg Wz]
     simp only [ac]
     have j10:∀ b:Bool,ef st m (i:Int) (k:Int) x op (st.ba.getD k 0) fa b=some {st with open_:=op,ba:=kh st.ba k 1,aO:=fa,aQ:=if b=true then m.At else st.aQ,iA:=st.iA.set i (wX x m)}:=by
      intro b
      unfold ef gl
      simp only [zv,Jm,al]
      cases b<;>rfl
     simp only [j10]
     unfold LB
     by_cases a1:st.aQ < 0
     ·rw [if_pos a1]
      by_cases a2:(pV st.c_ k).pk≤(kh st.ba k 1).getD k 0
      ·rw [if_pos a2]
       by_cases a3:bA ((pV st.c_ k).ct * (kh st.ba k 1).getD k 0) < bA (1000 * fa.getD k 0)
       ·rw [if_pos (decide_eq_true a3),if_pos ⟨a1,a2,a3⟩]
       ·rw [if_neg (by rw [decide_eq_false a3];exact dd),if_neg (fun h=>a3 h.2.2)]
      ·rw [if_neg a2,if_neg (by simp),if_neg (fun h=>a2 h.2.1)]
     ·rw [if_neg a1,if_neg (by simp),if_neg (fun h=>a1 h.1)]
    by_cases h4:m.Kind=4
    ·rw [if_pos h4,if_pos h4,mg hf]
     simp only [ac]
     exact j8 (kh st.aO k 1) (by rw [sL];exact hf)
    ·rw [if_neg h4,if_neg h4]
     exact j8 st.aO hf
  unfold jw gy
  simp only [j5,mg ho,ac,al]
  unfold FF
  by_cases b1:(uu st.c_ (wX x m)!=uu st.c_ x)=true
  ·rw [if_pos b1,if_pos b1]
   by_cases b2:uu st.c_ (wX x m)=true
   ·rw [if_pos b2,if_pos b2]
    rfl
   ·rw [if_neg b2,if_neg b2]
    rfl
  ·rw [if_neg b1,if_neg b1]
 ·rw [if_pos (by simpa using dW),if_neg dW]
theorem Ex (st:CS) (m:MarkS) (h:bj st.kM m.Device=none∨m.At < st.c_.At):cx st m=some st:=by
 unfold cx
 cases e:bj st.kM m.Device with
 | none=>rw [AH];unfold ju;rw [if_pos (by simp)]
 | some n=>
   rw [rm];unfold gz
   rcases h with h | h
   ·rw [e] at h;cases h
   ·rw [if_pos (by simp [h])]
theorem CX (st:CS) (i k:Nat) (x:aj) (m:MarkS):(pW st i k x m).c_=st.c_∧(pW st i k x m).kM=st.kM∧(pW st i k x m).cj=st.cj∧(pW st i k x m).iA=st.iA.set i (tw x m)∧(pW st i k x m).aE=st.aE∧(pW st i k x m).bM=st.bM∧
 (pW st i k x m).open_.length=st.open_.length∧(pW st i k x m).ba.length=st.ba.length∧(pW st i k x m).aO.length=st.aO.length:=by
 have ho:∀ c op x',(FF c op k x x').length=op.length:=by
  intro c op x';unfold FF;split
  ·split<;>exact sL _ _ _
  ·rfl
 unfold pW
 split
 ·split
  ·exact ⟨rfl,rfl,rfl,rfl,rfl,rfl,ho _ _ _,rfl,rfl⟩
  ·refine ⟨rfl,rfl,rfl,rfl,rfl,rfl,ho _ _ _,sL _ _ _,?_⟩
   show (if m.Kind=4 then kh st.aO k 1 else st.aO).length=_
   split
   ·exact sL _ _ _
   ·rfl
 ·exact ⟨rfl,rfl,rfl,rfl,rfl,rfl,rfl,rfl,rfl⟩
theorem vo:∀ {l:List DeviceS},(l.map DeviceS.Key).Nodup→∀ (i j:Nat) (a b:DeviceS),l[i]? =some a→l[j]? =some b→a.Key=b.Key→i=j
 | [],_,i,j,a,b,h,_,_=>by simp at h
 | x :: r,hn,i,j,a,b,h1,h2,h3=>by
   rw [bi,List.nodup_cons] at hn
   match i,j with
   | 0,0=>rfl
   | 0,j+1=>
     exfalso;simp at h1 h2;subst h1
     exact hn.1 (bW.2 ⟨b,bX h2,h3.symm⟩)
   | i+1,0=>
     exfalso;simp at h1 h2;subst h2
     exact hn.1 (bW.2 ⟨a,bX h1,h3⟩)
   | i+1,j+1=>
     have:=vo hn.2 i j a b (by simpa using h1) (by simpa using h2) h3
     omega
theorem Hv {α β:Type} {f h:α→β} {l:List α} {i:Nat} {d:α} (hd:l[i]? =some d) (hr:∀ j d',j≠i→l[j]? =some d'→f d'=h d'):(l.map f).set i (h d)=l.map h:=by
 refine List.ext_getElem? (fun j=>?_)
 rw [List.getElem?_set,cn,cn]
 have hi:i < l.length:=(bG.1 hd).1
 by_cases e:i=j
 ·subst e
  rw [if_pos rfl,if_pos (by simpa using hi),hd];rfl
 ·rw [if_neg e]
  cases hj:l[j]? with
  | none=>rfl
  | some d'=>simp [hr j d' (fun h=>e h.symm) hj]
theorem wZ (c:Campaign) (dn:List MarkS) (m:MarkS) (d:DeviceS):eP c (dn++[m]) d=if oQ c d.Key m=true then tw (eP c dn d) m else eP c dn d:=by
 unfold eP
 rw [es,bP,ds]
 split<;>rfl
theorem NX {fl:List DeviceS} (hf:iP fl) {of:List (bq×Int)} (hp:of.Perm (dC fl 0)):(of.map bU).Nodup:=by
 refine (hp.map bU).nodup_iff.2 ?_
 rw [Ht];exact hf.NV
theorem NY {c:Campaign} {fl:List DeviceS} (hf:iP fl) {wv:List (bq×Int)} (hp:wv.Perm (Hu c fl)):(wv.map bU).Nodup:=by
 refine (hp.map bU).nodup_iff.2 ?_
 unfold Hu
 rw [List.map_map];exact hf.NV
theorem FG {fl:List DeviceS} (hf:iP fl) {of:List (bq×Int)} (hp:of.Perm (dC fl 0)) {i:Nat} {d:DeviceS} (hd:fl[i]? =some d):bj of d.Key=some (i:Int):=by
 refine rl (NX hf hp) (hp.mem_iff.2 ?_)
 have:=Kp fl 0 i d hd
 rw [ce] at this;exact this
theorem FH {c:Campaign} {fl:List DeviceS} (hf:iP fl) {wv:List (bq×Int)} (hp:wv.Perm (Hu c fl)) {d:DeviceS} (hd:d∈fl):bj wv d.Key=some (mE c d.Key:Int):=
 rl (NY hf hp) (hp.mem_iff.2 (bW.2 ⟨d,hd,rfl⟩))
theorem Q1 {fl:List DeviceS} {of:List (bq×Int)} (hp:of.Perm (dC fl 0)) {k:bq} (h:∀ d∈fl,d.Key≠k):bj of k=none:=by
 refine nE.2 (fun e he hk=>?_)
 obtain ⟨i,d,h1,h2⟩:=zw fl 0 e (hp.mem_iff.1 he)
 rw [h2] at hk
 exact h d (bX h1) hk
theorem Kr {c:Campaign} {fl:List DeviceS} {s:CS} {dn:List MarkS} (hc:ga c) (hf:iP fl) (h:SI c fl s dn) (m:MarkS):
 (cx s m=some s∧∀ d∈fl,oQ c d.Key m=false)∨(∃ i d,fl[i]? =some d∧oQ c d.Key m=true∧cx s m=some (pW s i (mE c d.Key) (eP c dn d) m)):=by
 by_cases NZ:∃ d,d∈fl∧d.Key=m.Device
 ·obtain ⟨d,hm,hk⟩:=NZ
  obtain ⟨i,hi⟩:=eF hm
  by_cases ha:m.At < c.At
  ·left
   exact ⟨Ex s m (.inr (by rw [h.c_];exact ha)),fun d _=>by unfold oQ;simp;intro _;omega⟩
  ·right
   have hw:=(xu c hc d.Key (hf.key d hm)).2
   refine ⟨i,d,hi,by unfold oQ;simp [hk];omega,?_⟩
   refine Q0 s m i (mE c d.Key) (eP c dn d) ?_ ?_ (by rw [h.c_];exact ha) ?_ (by rw [h.c_];exact hw) (by rw [h.open_];exact hw) (by rw [h.ba];exact hw) (by rw [h.aO];exact hw)
   ·rw [← hk];exact FG hf h.kM hi
   ·rw [← hk];exact FH hf h.cj hm
   ·rw [h.iA,cn,hi];rfl
 ·left
  refine ⟨Ex s m (.inl (Q1 h.kM (fun d hd hk=>NZ ⟨d,hd,hk⟩))),fun d hd=>?_⟩
  unfold oQ
  rw [Bool.and_eq_false_iff]
  exact .inl (decide_eq_false (fun hk=>NZ ⟨d,hd,hk.symm⟩))
theorem Q2 {c:Campaign} {fl:List DeviceS} {s:CS} {dn:List MarkS} (hc:ga c) (hf:iP fl) (h:SI c fl s dn) (m:MarkS):Ok (cx s m) (fun r=>SI c fl r (dn++[m])):=by
 rcases Kr hc hf h m with ⟨e,hr⟩ | ⟨i,d,hi,hr,e⟩
 ·refine ⟨s,e,⟨h.c_,h.kM,h.cj,?_,h.open_,h.ba,h.aO,h.bg,h.nx⟩⟩
  rw [h.iA]
  refine List.map_congr_left (fun d hd=>?_)
  rw [wZ,hr d hd];rfl
 ·obtain ⟨k1,k2,k3,k4,k5,k6,k7,k8,k9⟩:=CX s i (mE c d.Key) (eP c dn d) m
  refine ⟨_,e,⟨by rw [k1];exact h.c_,by rw [k2];exact h.kM,by rw [k3];exact h.cj,?_,by rw [k7];exact h.open_,by rw [k8];exact h.ba,by rw [k9];exact h.aO,by rw [k5];exact h.bg,by rw [k5,k6];exact h.nx⟩⟩
  rw [k4,h.iA,show tw (eP c dn d) m=eP c (dn++[m]) d by rw [wZ,if_pos hr]]
  refine Hv hi (fun j d' hj ub=>?_)
  rw [wZ,if_neg]
  intro PW
  unfold oQ at hr PW
  simp only [af,decide_eq_true_eq] at hr PW
  exact hj (vo hf.NV j i d' d ub hi (by rw [← PW.1,hr.1]))
def w4 (r s:CS):Prop:=r.c_=s.c_∧r.kM=s.kM∧r.cj=s.cj∧r.iA=s.iA
noncomputable def w5 (c:Campaign) (op:List Int) (d:DeviceS):List Int:=if decide (d.bB=c.Target)=true then op else kh op (mE c d.Key) 1
theorem zx (c:Campaign):∀ (l:List DeviceS) (op:List Int),(l.foldl (w5 c) op).length=op.length
 | [],_=>rfl
 | d :: r,op=>by
   rw [aS,zx c r]
   unfold w5;split
   ·rfl
   ·exact sL _ _ _
theorem Hw {m:List (bq×Int)} {k:bq} {v:Int} (h:∀ e∈m,e.1≠k):(dX m k v).Perm (m++[(k,v)]):=by
 refine (uE m k v).trans ?_
 have:rQ m k=m:=by unfold rQ;exact List.filter_eq_self.2 (fun e he=>by simp [h e he])
 rw [this]
 exact (List.perm_append_singleton (k,v) m).symm
theorem xY (c:Campaign) (fl:List DeviceS) (hc:ga c) (hf:iP fl) (hl:(fl.length:Int)≤100000) (R8 Z5 R0:List Int) (hR:R0.length=c.aG.length):∀ (m n:Nat) (of wv:List (bq×Int)),n+m=fl.length→of.Perm (dC (fl.take n) 0)→wv.Perm (Hu c (fl.take n))→
 ∃ TY TZ,kP c fl R8 Z5 ((fl.take n).map x0) of wv ((fl.take n).foldl (w5 c) R0) (n:Int)=some ⟨c,TY,TZ,fl.foldl (w5 c) R0,R8,Z5,[],-1,c.At,fl.map x0⟩∧TY.Perm (dC fl 0)∧TZ.Perm (Hu c fl)
 | 0,n,of,wv,h,h1,h2=>by
   rw [cU (by omega)] at h1 h2 ⊢
   refine ⟨of,wv,?_,h1,h2⟩
   unfold kP
   rw [iter_eq,gj,if_neg (by simp only;omega),aW]
 | m+1,n,of,wv,h,h1,h2=>by
   obtain ⟨d,hd,T2,Sa⟩:=fe fl (i:=(n:Int)) (by omega) (by omega)
   have hg:fl[n]? =some d:=by have:=(eR hd).2.2;rwa [al] at this
   have ht:fl.take (n+1)=fl.take n++[d]:=by rw [d5,hg];rfl
   have O2:(fl.take n).length=n:=by rw [List.length_take];omega
   have xE:∀ x∈fl.take n,x.Key≠d.Key:=by
    intro x hx hk
    obtain ⟨j,hj⟩:=eF hx
    have zK:j < n:=by have:=(bG.1 hj).1;omega
    rw [List.getElem?_take_of_lt zK] at hj
    have:=vo hf.NV j n x d hj hg hk
    omega
   have hof:∀ e∈of,e.1≠d.Key:=by
    intro e he hk
    obtain ⟨j,x,a1,a2⟩:=zw _ 0 e (h1.mem_iff.1 he)
    rw [a2] at hk
    exact xE x (bX a1) hk
   have WA:∀ e∈wv,e.1≠d.Key:=by
    intro e he hk
    obtain ⟨x,a1,a2⟩:=bW.1 (h2.mem_iff.1 he)
    rw [← a2] at hk
    exact xE x a1 hk
   have Io:Tl ((fl.take n).map x0).length (of.map Prod.snd)=some ():=by
    unfold Tl
    rw [if_pos]
    intro y hy
    obtain ⟨e,he,rfl⟩:=bW.1 hy
    obtain ⟨j,x,a1,a2⟩:=zw _ 0 e (h1.mem_iff.1 he)
    have:=(bG.1 a1).1
    rw [a2,eH,O2]
    simp only
    omega
   obtain ⟨w1,w2⟩:=xu c hc d.Key (hf.key d T2)
   have wn:bA ((n:Int)+1)=((n+1:Nat):Int):=by rw [bc]<;>omega
   have hol:((fl.take n).foldl (w5 c) R0).length=c.aG.length:=by rw [zx];exact hR
   obtain ⟨TY,TZ,r1,r2,r3⟩:=xY c fl hc hf hl R8 Z5 R0 hR m (n+1) (dX of d.Key (n:Int)) (dX wv d.Key (mE c d.Key:Int)) (by omega)
    (by rw [ht,Ew,O2,ce];exact (Hw hof).trans (h1.append_right _))
    (by rw [ht];unfold Hu;rw [dk];exact (Hw WA).trans (h2.append_right _))
   refine ⟨TY,TZ,?_,r2,r3⟩
   rw [← r1,ht,dk,bP]
   unfold kP
   conv=>lhs;rw [iter_eq]
   rw [gj,if_pos (by simp only;omega)]
   simp only
   rw [hd]
   simp only [ac]
   rw [Io,w1]
   simp only [ac]
   unfold nU iM
   rw [gM,if_pos rfl,eH,O2,wn]
   simp only [ac,d0,al]
   rw [mg (l:=(fl.take n).foldl (w5 c) R0) (by rw [hol];exact w2)]
   simp only [ac,aS,eg,bi,d8]
   have Z6:∀ s:CS,s.c_=c→bZ s ⟨⟨0,0,d.bB,0⟩,⟨0,0,0⟩⟩=decide (d.bB=c.Target):=by
    intro s hs;unfold bZ;rw [hs]
   rw [Z6 _ rfl]
   unfold w5
   by_cases hq:d.bB=c.Target
   ·rw [if_neg (by simp [hq]),if_pos (by simp [hq])]
    rfl
   ·rw [if_pos (by simp [hq]),if_neg (by simp [hq])]
    rfl
theorem Hx (c:Campaign) (fl:List DeviceS) (hc:ga c) (hf:iP fl) (hl:(fl.length:Int)≤100000):∃ TY TZ,dM c fl=some ⟨c,TY,TZ,fl.foldl (w5 c) (ap c.aG.length 0),ap c.aG.length 0,ap c.aG.length 0,[],-1,c.At,fl.map x0⟩∧TY.Perm (dC fl 0)∧TZ.Perm (Hu c fl):=by
 have hlen:=hc.len
 have gS:L1 (0:Int) (c.aG.length:Int) (c.aG.length:Int)=some (ap c.aG.length 0):=by
  unfold L1;rw [if_pos (by omega),al]
 obtain ⟨a,b,r1,r2,r3⟩:=xY c fl hc hf hl (ap c.aG.length 0) (ap c.aG.length 0) (ap c.aG.length 0) (by simp) fl.length 0 [] [] (by simp) (eL _) (eL _)
 refine ⟨a,b,?_,r2,r3⟩
 unfold dM
 rw [gS]
 exact r1
theorem Hy (c:Campaign) (fl:List DeviceS) (hc:ga c) (hf:iP fl) (hl:(fl.length:Int)≤100000):Ok (dM c fl) (fun s=>SI c fl s []∧s.open_=fl.foldl (w5 c) (ap c.aG.length 0)∧s.ba=ap c.aG.length 0∧s.aO=ap c.aG.length 0∧s.aE=[]∧s.aQ=-1∧s.bM=c.At):=by
 obtain ⟨a,b,r1,r2,r3⟩:=Hx c fl hc hf hl
 refine ⟨_,r1,⟨rfl,r2,r3,rfl,by rw [zx];simp,by simp,by simp,by simp,fun _=>?_⟩,rfl,rfl,rfl,rfl,rfl,rfl⟩
 have:=hc.sum
 cases hw:c.aG with
 | nil=>rw [hw] at this;simp [pU] at this
 | cons x y=>simp
abbrev F8:=(List (bq×Int))×(List aj)×(List (bq×Int))×(List Int)×(List Int)×(List Int)×(List Int)×Int×Int×Int
def FI (c:Campaign) (t:F8):CS:=⟨c,t.1,t.2.2.1,t.2.2.2.1,t.2.2.2.2.1,t.2.2.2.2.2.1,t.2.2.2.2.2.2.1,t.2.2.2.2.2.2.2.1,t.2.2.2.2.2.2.2.2.1,t.2.1⟩
def nT (t:F8):Int:=t.2.2.2.2.2.2.2.2.2
theorem FJ {r s:CS} (h:w4 r s):(⟨s.c_,s.kM,s.cj,r.open_,r.ba,r.aO,r.aE,r.aQ,r.bM,s.iA⟩:CS)=r:=by
 obtain ⟨h1,h2,h3,h4⟩:=h
 rw [← h1,← h2,← h3,← h4]
theorem LC (c:Campaign) (T3:CS) (l:List MarkS) (at_:Int) (hl:(l.length:Int)≤10000) (hm:∀ x∈l,0≤x.At∧x.At≤345686399999) (hs:l.Pairwise (fun a b=>a.At≤b.At)) (P M:CS→Nat→Int→Prop) (R:CS→Nat→Prop)
 (hc:T3.c_=c)
 (h1:∀ s n T x,s.c_=c→P s n T→l[n]? =some x→T < x.At→x.At≤at_→Ok (bD s (x.At - 1)) (fun r=>w4 r s∧M r n x.At))
 (h2:∀ s n x now,s.c_=c→M s n now→l[n]? =some x→x.At=now→now≤at_→Ok (cx s x) (fun r=>r.c_=c∧M r (n+1) now))
 (h3:∀ s n now,s.c_=c→M s n now→(∀ x∈l.drop n,now < x.At)→now≤at_→Ok (bD s now) (fun r=>w4 r s∧P r n now))
 (h4:∀ s n T,s.c_=c→P s n T→(∀ x∈l.drop n,at_ < x.At)→T≤at_→Ok (bD s at_) (fun r=>w4 r s∧R r n))
 (T0:Int) (h0:P T3 0 T0) (VE:T0≤at_∧∀ x∈l,T0 < x.At):Ok (eW T3 l at_) (fun r=>∃ n,n≤l.length∧R r n):=by
 unfold eW oW
 have key:∀ t:F8,nT t=0→FI c t=T3→Ok (iter (fun x:F8=>eK T3 l at_ x.1 x.2.1 x.2.2.1 x.2.2.2.1 x.2.2.2.2.1 x.2.2.2.2.2.1 x.2.2.2.2.2.2.1 x.2.2.2.2.2.2.2.1 x.2.2.2.2.2.2.2.2.1 x.2.2.2.2.2.2.2.2.2) t) (fun r=>∃ n,n≤l.length∧R r n):=by
  intro t e1 e2
  refine Ok.iter (fun t:F8=>l.length - (nT t).toNat) (fun t:F8=>∃ n:Nat,nT t=(n:Int)∧n≤l.length∧∃ T,P (FI c t) n T∧T≤at_∧∀ x∈l.drop n,T < x.At) ?_ t ⟨0,by rw [e1];rfl,by omega,T0,by rw [e2];exact h0,VE.1,by rw [bk];exact VE.2⟩
  rintro ⟨a1,a2,a3,a4,a5,a6,a7,a8,a9,a10⟩ ⟨n,g1,g2,T,g3,g4,g5⟩
  unfold nT at g1
  simp only at g1
  subst g1
  have WB:(∀ x∈l.drop n,at_ < x.At)→Ok (dJ T3 l at_ a1 a2 a3 a4 a5 a6 a7 a8 a9 (n:Int) false) (Lt (fun t:F8=>l.length - (nT t).toNat) (fun t:F8=>∃ n:Nat,nT t=(n:Int)∧n≤l.length∧∃ T,P (FI c t) n T∧T≤at_∧∀ x∈l.drop n,T < x.At) (fun r=>∃ n,n≤l.length∧R r n) (a1,a2,a3,a4,a5,a6,a7,a8,a9,(n:Int))):=by
   intro hx
   unfold dJ
   rw [if_neg (by simp)]
   refine Ok.inr ?_
   unfold lL
   rw [hc]
   refine Ok.bind (h4 (FI c (a1,a2,a3,a4,a5,a6,a7,a8,a9,(n:Int))) n T rfl g3 hx g4) (fun v hv=>?_)
   refine Ok.ret ⟨n,g2,?_⟩
   have:=FJ hv.1
   unfold FI at this
   simp only at this
   rw [this]
   exact hv.2
  simp only
  unfold eK
  by_cases hn:(n:Int) < l.length
  ·rw [if_pos hn]
   obtain ⟨x,hx,xL,hd⟩:=fe l (i:=(n:Int)) (by omega) hn
   rw [show ((n:Int)).toNat=n by omega,show ((n:Int)+1).toNat=n+1 by omega] at hd
   have hxg:l[n]? =some x:=by have:=(eR hx).2.2;rwa [al] at this
   rw [hx]
   simp only [ac]
   have L2:∀ y∈l.drop (n+1),x.At≤y.At:=by
    have:=eX (i:=n) hs
    rw [hd,cp] at this
    exact this.1
   by_cases ha:x.At≤at_
   ·unfold dJ
    rw [if_pos (by simpa using ha),hx,hc]
    simp only [ac]
    have hb:=hm x xL
    rw [bc (x:=x.At - 1) (by omega) (by omega)]
    refine Ok.bind (h1 (FI c (a1,a2,a3,a4,a5,a6,a7,a8,a9,(n:Int))) n T x rfl g3 hxg (g5 x (by rw [hd];exact el)) ha) (fun v hv=>?_)
    have Z7:=FJ hv.1
    unfold FI at Z7
    simp only at Z7
    unfold oV
    refine (Ok.iter (R:=fun r:F8⊕CS=>Lt (fun t:F8=>l.length - (nT t).toNat) (fun t:F8=>∃ n:Nat,nT t=(n:Int)∧n≤l.length∧∃ T,P (FI c t) n T∧T≤at_∧∀ x∈l.drop n,T < x.At) (fun r=>∃ n,n≤l.length∧R r n) (a1,a2,a3,a4,a5,a6,a7,a8,a9,(n:Int)) r) (fun t:F8=>l.length - (nT t).toNat) (fun t:F8=>∃ k:Nat,nT t=(k:Int)∧n≤k∧k≤l.length∧M (FI c t) k x.At) ?_ (a1,a2,a3,v.open_,v.ba,v.aO,v.aE,v.aQ,v.bM,(n:Int)) ⟨n,rfl,cv _,g2,by unfold FI;simp only;rw [Z7];exact hv.2⟩)
    rintro ⟨b1,b2,b3,b4,b5,b6,b7,b8,b9,tv⟩ ⟨k,q1,q2,q3,q4⟩
    unfold nT at q1
    simp only at q1
    subst q1
    have fin:(∀ y∈l.drop k,x.At < y.At)→n < k→Ok (dI T3 l x b1 b2 b3 b4 b5 b6 b7 b8 b9 (k:Int) false) (Lt (fun t:F8=>l.length - (nT t).toNat) (fun t:F8=>∃ k:Nat,nT t=(k:Int)∧n≤k∧k≤l.length∧M (FI c t) k x.At) (fun r:F8⊕CS=>Lt (fun t:F8=>l.length - (nT t).toNat) (fun t:F8=>∃ n:Nat,nT t=(n:Int)∧n≤l.length∧∃ T,P (FI c t) n T∧T≤at_∧∀ x∈l.drop n,T < x.At) (fun r=>∃ n,n≤l.length∧R r n) (a1,a2,a3,a4,a5,a6,a7,a8,a9,(n:Int)) r) (b1,b2,b3,b4,b5,b6,b7,b8,b9,(k:Int))):=by
     intro hy hnk
     unfold dI
     rw [if_neg (by simp)]
     refine Ok.inr ?_
     unfold lK
     rw [hc]
     refine Ok.bind (h3 (FI c (b1,b2,b3,b4,b5,b6,b7,b8,b9,(k:Int))) k x.At rfl q4 hy ha) (fun r hr=>?_)
     have Z8:=FJ hr.1
     unfold FI at Z8
     simp only at Z8
     refine Ok.ret ⟨⟨k,rfl,q3,x.At,?_,ha,hy⟩,?_⟩
     ·unfold FI;simp only;rw [Z8];exact hr.2
     ·unfold nT;simp only;omega
    simp only
    unfold gm
    by_cases hk:(k:Int) < l.length
    ·rw [if_pos hk]
     obtain ⟨y,hy,VN,Z9⟩:=fe l (i:=(k:Int)) (by omega) hk
     rw [show ((k:Int)).toNat=k by omega,show ((k:Int)+1).toNat=k+1 by omega] at Z9
     have X0:l[k]? =some y:=by have:=(eR hy).2.2;rwa [al] at this
     rw [hy]
     simp only [ac]
     by_cases he:y.At=x.At
     ·unfold dI
      rw [if_pos (by simpa using he),hy,hc]
      simp only [ac]
      refine Ok.bind (h2 (FI c (b1,b2,b3,b4,b5,b6,b7,b8,b9,(k:Int))) k y x.At rfl q4 X0 he ha) (fun r hr=>?_)
      have wk:bA ((k:Int)+1)=((k+1:Nat):Int):=by rw [bc]<;>omega
      rw [wk]
      refine Ok.ret ⟨⟨k+1,rfl,by omega,by omega,?_⟩,?_⟩
      ·have:FI c (r.kM,r.iA,r.cj,r.open_,r.ba,r.aO,r.aE,r.aQ,r.bM,((k+1:Nat):Int))=r:=by
        unfold FI;simp only;rw [← hr.1]
       rw [this];exact hr.2
      ·unfold nT;simp only;omega
     ·rw [decide_eq_false he]
      have hkn:n < k:=by
       rcases Nat.lt_or_ge n k with h | h
       ·exact h
       ·obtain rfl:k=n:=by omega
        rw [hxg] at X0
        exact absurd (by rw [cH X0]) he
      have Ip:x.At≤y.At:=by
       refine L2 y ?_
       obtain ⟨z,rfl⟩:∃ z,k=n+1+z:=⟨k - (n+1),by omega⟩
       refine bX (i:=z) ?_
       rw [List.getElem?_drop];exact X0
      refine fin (fun z hz=>?_) hkn
      rw [Z9] at hz
      have hsk:=eX (i:=k) hs
      rw [Z9,cp] at hsk
      rcases be.1 hz with rfl | hz
      ·omega
      ·have:=hsk.1 z hz;omega
    ·rw [if_neg hk]
     have JP:k=l.length:=by omega
     refine fin (fun z hz=>?_) (by omega)
     rw [ag (by omega)] at hz
     cases hz
   ·rw [decide_eq_false ha]
    refine WB (fun y hy=>?_)
    rw [hd] at hy
    rcases be.1 hy with rfl | hy
    ·omega
    ·have:=L2 y hy;omega
  ·rw [if_neg hn]
   refine WB (fun y hy=>?_)
   rw [ag (by omega)] at hy
   cases hy
 refine key _ rfl ?_
 unfold FI
 rw [← hc]
theorem CY (c:Campaign) (d:DeviceS) (l:List MarkS) (n:Nat) (at_:Int) (h1:∀ x∈l.take n,x.At≤at_) (h2:∀ x∈l.drop n,at_ < x.At):eP c (l.take n) d=vn c d l at_:=by
 unfold eP vn
 have e:l.filter (tj c d.Key at_)=(l.take n).filter (oQ c d.Key):=by
  conv=>lhs;rw [← List.take_append_drop n l,es]
  have z:(l.drop n).filter (tj c d.Key at_)=[]:=by
   rw [List.filter_eq_nil_iff]
   intro x hx
   have:=h2 x hx
   unfold tj
   simp only [af,decide_eq_true_eq]
   omega
  rw [z,List.append_nil]
  refine List.filter_congr (fun x hx=>?_)
  have:=h1 x hx
  unfold tj oQ
  rw [decide_eq_true this,Bool.and_true]
 rw [e]
theorem Ks:∀ {l:List DeviceS} {p:Option DeviceS},tM tU p l=0→(∀ d∈l,mw d.Key=true)∧l.Pairwise (fun a b=>Lib.compareBytes a.Key b.Key < 0)∧∀ q,p=some q→∀ d∈l,Lib.compareBytes q.Key d.Key < 0
 | [],p,_=>⟨by simp,eY,by simp⟩
 | d :: r,p,h=>by
   simp only [tM] at h
   split at h
   ·rename_i h0
    obtain ⟨i1,i2,i3⟩:=Ks h
    have hd:¬ FB d∧yv p d=false:=by
     unfold tU at h0
     split at h0
     ·cases h0
     ·rename_i hk
      split at h0
      ·cases h0
      ·rename_i hb;exact ⟨hk,by simpa using hb⟩
    have hk:mw d.Key=true:=by
     cases e:mw d.Key
     ·exact absurd (Or.inl e) hd.1
     ·rfl
    refine ⟨fun x hx=>?_,cp.2 ⟨fun x hx=>i3 d rfl x hx,i2⟩,fun q hq x hx=>?_⟩
    ·rcases be.1 hx with rfl | hx
     ·exact hk
     ·exact i1 x hx
    ·subst hq
     have hb:=hd.2
     unfold yv at hb
     simp only at hb
     have ew:Lib.compareBytes q.Key d.Key < 0:=by
      rw [tc,Kc,Bool.or_eq_false_iff] at hb
      have b1:=of_decide_eq_false hb.1
      have b2:=of_decide_eq_false hb.2
      have:=ze q.Key d.Key
      omega
     rcases be.1 hx with rfl | hx
     ·exact ew
     ·exact Aa.tr ew (i3 d rfl x hx)
   ·exact absurd h ‹_›
theorem N0 {fl:List DeviceS} (h:zu fl=0):iP fl∧(fl.length:Int)≤500:=by
 unfold zu at h
 split at h
 ·cases h
 ·obtain ⟨h1,h2,_⟩:=Ks h
  refine ⟨⟨h1,?_⟩,by omega⟩
  unfold List.Nodup
  rw [List.pairwise_map]
  refine h2.imp (fun {a b} DZ he=>?_)
  rw [he,uP] at DZ
  omega
structure FK (x:MarkS):Prop where
 Ig:0≤x.At∧x.At≤345686399999
 kind:1≤x.Kind∧x.Kind≤5
theorem Kt:∀ {l:List MarkS} {p:Option MarkS},tM rK p l=0→(∀ x∈l,FK x)∧l.Pairwise (fun a b=>mO a b < 0)∧∀ q,p=some q→∀ x∈l,mO q x < 0
 | [],p,_=>⟨by simp,eY,by simp⟩
 | d :: r,p,h=>by
   simp only [tM] at h
   split at h
   ·rename_i h0
    obtain ⟨i1,i2,i3⟩:=Kt h
    unfold rK at h0
    split at h0
    ·rename_i hb;exact absurd h0 hb
    ·rename_i hb
     have hb:=c8.1 hb
     have hd:FK d:=by
      unfold xq at hb
      split at hb
      ·cases hb
      ·rename_i a1
       split at hb
       ·cases hb
       ·split at hb
        ·cases hb
        ·rename_i a3
         have a1:zt d.At=true:=by simpa using a1
         unfold zt at a1
         simp only [af,decide_eq_true_eq] at a1
         exact ⟨a1,by omega⟩
     refine ⟨fun x hx=>?_,cp.2 ⟨fun x hx=>i3 d rfl x hx,i2⟩,fun q hq x hx=>?_⟩
     ·rcases be.1 hx with rfl | hx
      ·exact hd
      ·exact i1 x hx
     ·subst hq
      simp only at h0
      have ew:mO q d < 0:=by
       split at h0
       ·cases h0
       ·have:=Fz.neg q d;omega
      rcases be.1 hx with rfl | hx
      ·exact ew
      ·exact Fz.tr ew (i3 d rfl x hx)
   ·exact absurd h ‹_›
theorem CZ {a b:MarkS} (h:mO a b < 0):a.At≤b.At:=by
 unfold mO at h
 by_cases h0:dD a.At b.At≠0
 ·rw [if_pos h0] at h
  unfold dD at h
  split at h
  ·omega
  ·split at h<;>omega
 ·have:=NQ.1 (c8.1 h0);omega
theorem T6 {l:List MarkS} (h:Ah l=0):(∀ x∈l,FK x)∧l.Pairwise (fun a b=>mO a b < 0)∧(l.length:Int)≤3000:=by
 unfold Ah at h
 split at h
 ·cases h
 ·obtain ⟨h1,h2,_⟩:=Kt h
  exact ⟨h1,h2,by omega⟩
def N1 (at_:Int):Int:=if zt at_=true then 0 else 1
noncomputable def zy (r:Int) (fl:List DeviceS) (l:List MarkS) (at_:Int):Int:=sx [r,zu fl,Ah l,N1 at_]
theorem Hz {c:Campaign} {r:Int} (hr:bH c=some r) (fl:List DeviceS) (l:List MarkS) (at_:Int):j7 c fl l at_=some (zy r fl l at_):=by
 unfold j7
 rw [hr,xV,DG]
 simp only [ac]
 rw [show qo [r,zu fl,Ah l]=some (sx [r,zu fl,Ah l]) from zY _ (by simp)]
 simp only [ac]
 unfold mV kV zy N1
 rw [uT,show (decide (0≤at_)&&decide (at_≤345686399999))=zt at_ from rfl]
 by_cases h1:r=0
 ·by_cases h2:zu fl=0
  ·by_cases h3:Ah l=0
   ·simp only [sx,h1,h2,h3]
    cases zt at_<;>simp
   ·simp [sx,h1,h2,h3]
  ·simp [sx,h1,h2]
 ·simp [sx,h1]
theorem WC {r:Int} {fl:List DeviceS} {l:List MarkS} {at_:Int} (h:zy r fl l at_=0):r=0∧zu fl=0∧Ah l=0∧0≤at_:=by
 unfold zy at h
 simp only [sx] at h
 by_cases h1:r=0
 ·by_cases h2:zu fl=0
  ·by_cases h3:Ah l=0
   ·refine ⟨h1,h2,h3,?_⟩
    simp only [h1,h2,h3] at h
    unfold N1 at h
    cases hm:zt at_
    ·simp [hm] at h
    ·unfold zt at hm
     simp only [af,decide_eq_true_eq] at hm
     exact hm.1
   ·simp [h1,h2,h3] at h
  ·simp [h1,h2] at h
 ·simp [h1] at h
theorem LD {c:Campaign} {r:Int} (hr:bH c=some r) (d:DeviceS) (l:List MarkS) (hl:(l.length:Int)≤10000) (at_:Int):kH c d l at_=some (if zy r [d] l at_≠0 then (⟨0,0,⟨0,0,0⟩,0⟩,zy r [d] l at_) else ((vn c d l at_).ah,0)):=by
 unfold kH
 rw [Hz hr]
 simp only [ac]
 split
 ·rfl
 ·have:=AW c d l at_ (by omega) l.length 0 (x0 d) (by simp)
  rw [bk] at this
  exact this
end Go.Beacon
