/- The texts ShelfS I99 N1 N2 N3 N4 N5, one behind the other. -/
import Derived.Test.YtlkcjmaiahnodaaGreatDoorEAF
import Derived.Ground.SlsfProg
import Derived.Shelf.SlSortCmp.InsertionK
import Derived.Shelf.SlSortCmp.SiftDownK
import Derived.Shelf.SlSortCmp.HeapSortK
import Derived.Shelf.SlSortCmp.MedianK
import Derived.Shelf.SlSortCmp.PivotK
import Derived.Shelf.SlSortCmp.ReverseRangeK
import Derived.Shelf.SlSortCmp.PartialInsertionK
import Derived.Shelf.SlSortCmp.PartitionEqualK
import Derived.Shelf.SlSortCmp.PartitionK
import Derived.Shelf.SlSortCmp.PdqK
import Derived.Shelf.SlSortCmp.WholeK
import Derived.Shelf.SlSortCmp.NoneTotal
import Derived.Test.YtlkcjmaiahnodaaGreatDoorEAG
import Derived.Test.YtlkcjmaiahnodaaGreatDoorEAH
import Derived.Test.YtlkcjmaiahnodaaGreatDoorEAC
import Derived.Maps.RangeRun
import Derived.Test.YtlkcjmaiahnodaaGreatDoorEAB
import Derived.Test.YtlkcjmaiahnodaaGreatDoorEAD
import Derived.Deep.DeepCutAuto
import Derived.BigQuiet
set_option maxRecDepth 100000
set_option maxHeartbeats 8000000
set_option linter.unusedVariables false
set_option linter.unusedSimpArgs false
namespace Go.Proofs
section
open Go.Shelf
def Tryz.laysSlF06_f97_ren:Go.Shelf.Ren:=⟨fun|6=>97|15=>160|14=>159|28=>207|29=>208|20=>199|21=>200|22=>201|23=>202|24=>203|25=>204|26=>205|27=>206|46=>231|47=>232|48=>233|49=>234|50=>235|57=>244|n=>n,fun|22=>27|24=>93|25=>141|3=>3|39=>195|0=>0|53=>236|55=>238|4=>4|46=>230|45=>229|50=>136|5=>5|9=>9|66=>251|70=>96|76=>263|77=>191|n=>n,fun|n=>n⟩
theorem Tryz.laysSlF06_f97:Go.Proofs.SlLaysF0.n6 Tryz.prog Tryz.laysSlF06_f97_ren:={
 mixed:=by kernel_rfl
 f6:=⟨Tryz.f97.name,by decide,Tryz.func97.trans (congrArg some (by kernel_rfl))⟩
 f14:=⟨Tryz.f159.name,by decide,Tryz.func159.trans (congrArg some (by kernel_rfl))⟩
 f15:=Tryz.func160.trans (congrArg some (by kernel_rfl))
 f20:=⟨Tryz.f199.name,by decide,Tryz.func199.trans (congrArg some (by kernel_rfl))⟩
 f21:=⟨Tryz.f200.name,by decide,Tryz.func200.trans (congrArg some (by kernel_rfl))⟩
 f22:=⟨Tryz.f201.name,by decide,Tryz.func201.trans (congrArg some (by kernel_rfl))⟩
 f23:=⟨Tryz.f202.name,by decide,Tryz.func202.trans (congrArg some (by kernel_rfl))⟩
 f24:=⟨Tryz.f203.name,by decide,Tryz.func203.trans (congrArg some (by kernel_rfl))⟩
 f25:=⟨Tryz.f204.name,by decide,Tryz.func204.trans (congrArg some (by kernel_rfl))⟩
 f26:=⟨Tryz.f205.name,by decide,Tryz.func205.trans (congrArg some (by kernel_rfl))⟩
 f27:=⟨Tryz.f206.name,by decide,Tryz.func206.trans (congrArg some (by kernel_rfl))⟩
 f28:=Tryz.func207.trans (congrArg some (by kernel_rfl))
 f29:=Tryz.func208.trans (congrArg some (by kernel_rfl))
 f46:=⟨Tryz.f231.name,by decide,Tryz.func231.trans (congrArg some (by kernel_rfl))⟩
 f47:=Tryz.func232.trans (congrArg some (by kernel_rfl))
 f48:=Tryz.func233.trans (congrArg some (by kernel_rfl))
 f49:=⟨Tryz.f234.name,by decide,Tryz.func234.trans (congrArg some (by kernel_rfl))⟩
 f50:=⟨Tryz.f235.name,by decide,Tryz.func235.trans (congrArg some (by kernel_rfl))⟩
 f57:=⟨Tryz.f244.name,by decide,Tryz.func244.trans (congrArg some (by kernel_rfl))⟩
 t0:=Tryz.underlying0
 a0:=Tryz.isAgg0
 z0:=Tryz.sizeOf0
 v0:=Tryz.zeroValue0
 t3:=Tryz.underlying3
 a3:=Tryz.isAgg3
 z3:=Tryz.sizeOf3
 v3:=Tryz.zeroValue3
 t4:=Tryz.underlying4
 a4:=Tryz.isAgg4
 z4:=Tryz.sizeOf4
 v4:=Tryz.zeroValue4
 t5:=Tryz.underlying5
 a5:=Tryz.isAgg5
 z5:=Tryz.sizeOf5
 v5:=Tryz.zeroValue5
 t9:=Tryz.underlying9
 a9:=Tryz.isAgg9
 z9:=Tryz.sizeOf9
 v9:=Tryz.zeroValue9
 t22:=Tryz.underlying27
 a22:=Tryz.isAgg27
 z22:=Tryz.sizeOf27
 v22:=Tryz.zeroValue27
 t25:=Tryz.underlying141
 a25:=Tryz.isAgg141
 z25:=Tryz.sizeOf141
 v25:=Tryz.zeroValue141
 t39:=Tryz.underlying195
 a39:=Tryz.isAgg195
 z39:=Tryz.sizeOf195
 v39:=Tryz.zeroValue195
 t45:=Tryz.underlying229
 a45:=Tryz.isAgg229
 z45:=Tryz.sizeOf229
 v45:=Tryz.zeroValue229
 t46:=Tryz.underlying230
 a46:=Tryz.isAgg230
 z46:=Tryz.sizeOf230
 v46:=Tryz.zeroValue230
 t50:=Tryz.underlying136
 a50:=Tryz.isAgg136
 z50:=Tryz.sizeOf136
 v50:=Tryz.zeroValue136
 t53:=Tryz.underlying236
 a53:=Tryz.isAgg236
 z53:=Tryz.sizeOf236
 v53:=Tryz.zeroValue236
 t55:=Tryz.underlying238
 a55:=Tryz.isAgg238
 z55:=Tryz.sizeOf238
 v55:=Tryz.zeroValue238
 t66:=Tryz.underlying251
 a66:=Tryz.isAgg251
 z66:=Tryz.sizeOf251
 v66:=Tryz.zeroValue251
 t70:=Tryz.underlying96
 a70:=Tryz.isAgg96
 z70:=Tryz.sizeOf96
 v70:=Tryz.zeroValue96
 t76:=Tryz.underlying263
 a76:=Tryz.isAgg263
 z76:=Tryz.sizeOf263
 v76:=Tryz.zeroValue263
 t77:=Tryz.underlying191
 a77:=Tryz.isAgg191
 z77:=Tryz.sizeOf191
 v77:=Tryz.zeroValue191}
def Tryz.laysSlF06_f140_ren:Go.Shelf.Ren:=⟨fun|6=>140|15=>160|14=>191|28=>207|29=>208|20=>220|21=>221|22=>222|23=>223|24=>224|25=>225|26=>226|27=>227|46=>238|47=>232|48=>233|49=>239|50=>240|57=>245|n=>n,fun|22=>111|24=>116|25=>182|3=>3|39=>195|0=>0|53=>236|55=>238|4=>4|46=>230|45=>229|50=>136|5=>5|9=>9|66=>251|70=>96|76=>263|77=>191|n=>n,fun|n=>n⟩
theorem Tryz.laysSlF06_f140:Go.Proofs.SlLaysF0.n6 Tryz.prog Tryz.laysSlF06_f140_ren:={
 mixed:=by kernel_rfl
 f6:=⟨Tryz.f140.name,by decide,Tryz.func140.trans (congrArg some (by kernel_rfl))⟩
 f14:=⟨Tryz.f191.name,by decide,Tryz.func191.trans (congrArg some (by kernel_rfl))⟩
 f15:=Tryz.func160.trans (congrArg some (by kernel_rfl))
 f20:=⟨Tryz.f220.name,by decide,Tryz.func220.trans (congrArg some (by kernel_rfl))⟩
 f21:=⟨Tryz.f221.name,by decide,Tryz.func221.trans (congrArg some (by kernel_rfl))⟩
 f22:=⟨Tryz.f222.name,by decide,Tryz.func222.trans (congrArg some (by kernel_rfl))⟩
 f23:=⟨Tryz.f223.name,by decide,Tryz.func223.trans (congrArg some (by kernel_rfl))⟩
 f24:=⟨Tryz.f224.name,by decide,Tryz.func224.trans (congrArg some (by kernel_rfl))⟩
 f25:=⟨Tryz.f225.name,by decide,Tryz.func225.trans (congrArg some (by kernel_rfl))⟩
 f26:=⟨Tryz.f226.name,by decide,Tryz.func226.trans (congrArg some (by kernel_rfl))⟩
 f27:=⟨Tryz.f227.name,by decide,Tryz.func227.trans (congrArg some (by kernel_rfl))⟩
 f28:=Tryz.func207.trans (congrArg some (by kernel_rfl))
 f29:=Tryz.func208.trans (congrArg some (by kernel_rfl))
 f46:=⟨Tryz.f238.name,by decide,Tryz.func238.trans (congrArg some (by kernel_rfl))⟩
 f47:=Tryz.func232.trans (congrArg some (by kernel_rfl))
 f48:=Tryz.func233.trans (congrArg some (by kernel_rfl))
 f49:=⟨Tryz.f239.name,by decide,Tryz.func239.trans (congrArg some (by kernel_rfl))⟩
 f50:=⟨Tryz.f240.name,by decide,Tryz.func240.trans (congrArg some (by kernel_rfl))⟩
 f57:=⟨Tryz.f245.name,by decide,Tryz.func245.trans (congrArg some (by kernel_rfl))⟩
 t0:=Tryz.underlying0
 a0:=Tryz.isAgg0
 z0:=Tryz.sizeOf0
 v0:=Tryz.zeroValue0
 t3:=Tryz.underlying3
 a3:=Tryz.isAgg3
 z3:=Tryz.sizeOf3
 v3:=Tryz.zeroValue3
 t4:=Tryz.underlying4
 a4:=Tryz.isAgg4
 z4:=Tryz.sizeOf4
 v4:=Tryz.zeroValue4
 t5:=Tryz.underlying5
 a5:=Tryz.isAgg5
 z5:=Tryz.sizeOf5
 v5:=Tryz.zeroValue5
 t9:=Tryz.underlying9
 a9:=Tryz.isAgg9
 z9:=Tryz.sizeOf9
 v9:=Tryz.zeroValue9
 t22:=Tryz.underlying111
 a22:=Tryz.isAgg111
 z22:=Tryz.sizeOf111
 v22:=Tryz.zeroValue111
 t25:=Tryz.underlying182
 a25:=Tryz.isAgg182
 z25:=Tryz.sizeOf182
 v25:=Tryz.zeroValue182
 t39:=Tryz.underlying195
 a39:=Tryz.isAgg195
 z39:=Tryz.sizeOf195
 v39:=Tryz.zeroValue195
 t45:=Tryz.underlying229
 a45:=Tryz.isAgg229
 z45:=Tryz.sizeOf229
 v45:=Tryz.zeroValue229
 t46:=Tryz.underlying230
 a46:=Tryz.isAgg230
 z46:=Tryz.sizeOf230
 v46:=Tryz.zeroValue230
 t50:=Tryz.underlying136
 a50:=Tryz.isAgg136
 z50:=Tryz.sizeOf136
 v50:=Tryz.zeroValue136
 t53:=Tryz.underlying236
 a53:=Tryz.isAgg236
 z53:=Tryz.sizeOf236
 v53:=Tryz.zeroValue236
 t55:=Tryz.underlying238
 a55:=Tryz.isAgg238
 z55:=Tryz.sizeOf238
 v55:=Tryz.zeroValue238
 t66:=Tryz.underlying251
 a66:=Tryz.isAgg251
 z66:=Tryz.sizeOf251
 v66:=Tryz.zeroValue251
 t70:=Tryz.underlying96
 a70:=Tryz.isAgg96
 z70:=Tryz.sizeOf96
 v70:=Tryz.zeroValue96
 t76:=Tryz.underlying263
 a76:=Tryz.isAgg263
 z76:=Tryz.sizeOf263
 v76:=Tryz.zeroValue263
 t77:=Tryz.underlying191
 a77:=Tryz.isAgg191
 z77:=Tryz.sizeOf191
 v77:=Tryz.zeroValue191}
open Go.RowKit Go.Lib Go.Sort in
theorem Tryz.slices_SortFunc_f97 {α:Type} [Inhabited α] (k:Nat) (aE: ∀w,(isAgg (Tryz.laysSlF06_f97_ren.t 24)).run Tryz.prog w= .ok true w) (zE: ∀w,(Go.sizeOf (Tryz.laysSlF06_f97_ren.t 24)).run Tryz.prog w= .ok k w) (enc:α->List Value) (hk: ∀x,(enc x).length=k) (h1: ∀x,∀v∈enc x,v.oneCell'=true) (cf:α->α->Int) (hO:SWO (ltOf cf)) (g:Nat) (cb:Array Value) (blk off cap:Nat) (d:Array α) (w:World) (eg: ∀args w,(callFunc g args).run Tryz.prog w= .ok (.enter g args) w) (hcmp:CmpLays Tryz.prog g cb enc k cf blk off d.size w) (hH:HoldsK enc k w blk off d) (hblk:blk<w.heap.size) (hsz:d.size<4611686018427387904):
  Calls Tryz.prog 97 #[.slice (some ⟨blk,off,none⟩) d.size cap,.func (.func g) #[] cb] w fun e w'=>
   e= .returned (.tuple #[])/\∃d' n os,PermIn 0 d.size d d'/\SortedIn (ltOf cf) 0 d.size d'/\w'=sortWorldK enc k w blk off n d' os:=AnyQ.slices_SortFunc Tryz.laysSlF06_f97 k aE zE enc hk h1 cf hO g cb blk off cap d w eg hcmp hH hblk hsz
open Go.RowKit Go.Lib Go.Sort in
theorem Tryz.slices_SortFunc_f140 {α:Type} [Inhabited α] (k:Nat) (aE: ∀w,(isAgg (Tryz.laysSlF06_f140_ren.t 24)).run Tryz.prog w= .ok true w) (zE: ∀w,(Go.sizeOf (Tryz.laysSlF06_f140_ren.t 24)).run Tryz.prog w= .ok k w) (enc:α->List Value) (hk: ∀x,(enc x).length=k) (h1: ∀x,∀v∈enc x,v.oneCell'=true) (cf:α->α->Int) (hO:SWO (ltOf cf)) (g:Nat) (cb:Array Value) (blk off cap:Nat) (d:Array α) (w:World) (eg: ∀args w,(callFunc g args).run Tryz.prog w= .ok (.enter g args) w) (hcmp:CmpLays Tryz.prog g cb enc k cf blk off d.size w) (hH:HoldsK enc k w blk off d) (hblk:blk<w.heap.size) (hsz:d.size<4611686018427387904):
  Calls Tryz.prog 140 #[.slice (some ⟨blk,off,none⟩) d.size cap,.func (.func g) #[] cb] w fun e w'=>
   e= .returned (.tuple #[])/\∃d' n os,PermIn 0 d.size d d'/\SortedIn (ltOf cf) 0 d.size d'/\w'=sortWorldK enc k w blk off n d' os:=AnyQ.slices_SortFunc Tryz.laysSlF06_f140 k aE zE enc hk h1 cf hO g cb blk off cap d w eg hcmp hH hblk hsz
open Go.RowKit Go.Lib Go.Sort in
theorem Tryz.slices_SortFunc_none_f97 {α:Type} [Inhabited α] (p:Option Addr) (cap:Nat) (fv:Value) (w:World):
  Calls Tryz.prog 97 #[.slice p 0 cap,fv] w fun e w'=>e= .returned (.tuple #[])/\w'=w:=AnyF.slices_SortFunc_none Tryz.laysSlF06_f97 p cap fv w
open Go.RowKit Go.Lib Go.Sort in
theorem Tryz.slices_SortFunc_none_f140 {α:Type} [Inhabited α] (p:Option Addr) (cap:Nat) (fv:Value) (w:World):
  Calls Tryz.prog 140 #[.slice p 0 cap,fv] w fun e w'=>e= .returned (.tuple #[])/\w'=w:=AnyF.slices_SortFunc_none Tryz.laysSlF06_f140 p cap fv w
end
end Go.Proofs
namespace Go.Proofs.YtlkcjmaiahnodaaGreatDoor
open Go.RowKit Go.Hw Go Tm
section
open Go.Sort Go.Proofs Go.ChangeMaps
abbrev yY (f:Vd):List Value:=[.string f.1,.string f.2]
theorem TL (L:List Vd):bu L=L.flatMap yY:=rfl
theorem aew (x y:Vd) (w:World):Calls Tryz.prog 141 #[.agg (yY x).toArray,.agg (yY y).toArray] w fun e w'=>e= .returned (.int .i64 (Dp (Prod.fst:Vd->By) x y))/\∃q os',w'=grow (w.drewN q) os':=by
 have hb0:=ak (ai w (.cells #[.string x.1,.string x.2] 116)) (.cells #[.string y.1,.string y.2] 116);have hb1:=alloc_at (w.alloc (.cells #[.string x.1,.string x.2] 116)) (.cells #[.string y.1,.string y.2] 116) (n:=w.heap.size+1) (by simp);have c0:=af hb0 0 (.string x.1) rfl;have d0:=af hb1 0 (.string y.1) rfl;have hc:=fun W=>Tryz.strings_Compare x.1 y.1 W;change ∀W,Calls _ _ _ W fun e w'=>e= .returned (.int .i64 (Dp (Prod.fst:Vd->By) x y))/\w'=W at hc;have HC:=ae hc;generalize Dp (Prod.fst:Vd->By) x y=r at*;clear hb0 hb1 hc
 go_enter Tryz.func141,Tryz.ntmps141
 go_wp2_with fail
 refine(HC.out _).mono ?_;rintro e w4 ⟨rfl,rfl⟩
 go_wp2_with fail
 go_ret;exact⟨rfl,0,_,by rw[alloc_eq_grow,alloc_eq_grow,grow_grow];rfl⟩
theorem acu (L:List Vd) (base:Nat) (v:Value) (w:World) (hO:w.ownsRow base 116 2 v L.length (bu L)) (hd:L.Pairwise fun x y=>x.1≠y.1) (hl:L.length<=1000000):
  Calls Tryz.prog 140 #[v,.func (.func 141) #[] #[]] w fun e w'=>e= .returned (.tuple #[])/\∃L',AscK (Prod.fst:Vd->By) L'/\L'.Perm L/\bU (fun k=>v.ownBlock=some k) w' v L'/\aj (fun k=>v.ownBlock=some k) w w':=by
 by_cases h0:0<L.length
 .obtain ⟨g,cap,rfl,hb,hgl,hnc,hcell,hfz⟩:=aaP hO h0;have hH:HoldsK yY 2 w g 0 L.toArray:=KJ yY 2 (fun _=>rfl) (fun j hj=>⟨by rw[Nat.zero_add];exact hcell j hj,hfz _⟩);have eg: ∀args w,(callFunc 141 args).run Tryz.prog w= .ok (.enter 141 args) w:=enters_of Tryz.func141 (by kernel_rfl) rfl;have h:=Tryz.slices_SortFunc_f140 2 (fun w=>Tryz.isAgg116 w) (fun w=>Tryz.sizeOf116 w) yY (fun _=>rfl) (fun x u hu=>by simp[yY] at hu;rcases hu with h|h<;>(subst h;rfl)) (Dp (Prod.fst:Vd->By)) (Q3 _) 141 #[] g 0 cap L.toArray w eg (fun m os dk _ x y=>aew x y _) hH hgl (by simp;omega);rw[show L.toArray.size=L.length by simp] at h;refine h.mono ?_;rintro e w' ⟨rfl,d',n,os,hp,hs,rfl⟩;have hsz:d'.size=L.length:=by have:=hp.1;simpa using this
  obtain⟨ha,hperm⟩:=NV (d:=L.toArray) (Prod.fst:Vd->By) (by rw[show L.toArray.size=L.length by simp];exact hp) (by rw[show L.toArray.size=L.length by simp];exact hs) (by simpa using hd);have hl':d'.toList.length=L.length:=by simpa using hsz
  refine⟨rfl,d'.toList,ha,by simpa using hperm,?_,(KN yY 2 w g 0 n d' os).mono (fun k _ e=>by rw[e];rfl)⟩;have hH':=holdsK_sortWorldK_c yY 2 w g 0 L.toArray d' n os hH hgl (by simpa using hsz);unfold bU;rw[hl'];refine az.mk' (by rw[TM,hl']) rfl hnc (fun _=>rfl) (fun j hj=>?_);rw[TL];exact(Dq yY 2 (fun _=>rfl) hH' j (by rw[hsz];exact hj)).1
 .have hl0:L=[]:=List.eq_nil_of_length_eq_zero (by omega);subst hl0;obtain⟨a,cap,rfl⟩:=bJ hO;have h:=Tryz.slices_SortFunc_none_f140 (α:=Vd) a cap (.func (.func 141) #[] #[]) w;refine h.mono ?_;rintro e w' ⟨rfl,rfl⟩;exact⟨rfl,[],List.Pairwise.nil,List.Perm.refl _,az.iV hO,aj.refl _ _⟩
def qy (t:Tm):List Vd×Int:=if wf ax t=true then(aO t,0) else([],1)
theorem Qn {t:Tm} {m:List Vd} (h:jO t=some m):m.Pairwise (fun p q=>p.1≠q.1):=by
 have hnil:Cons []:=fun f hf=>by cases hf
 obtain⟨h1,_⟩:=Az (vl (aV t)) [] hnil;exact(h1 m h).2.2 List.Pairwise.nil
theorem Ie {t:Tm} {m:List Vd} (h:jO t=some m):AscK (Prod.fst:Vd->By) (aO t)/\∀f,f∈aO t<->f∈m:=by
 obtain⟨_,h1⟩:=AA (vl (aV t)) [] [] List.Pairwise.nil (fun _=>rfl) (fun _=>Iff.rfl);obtain⟨a,_,b⟩:=h1 m h;exact⟨a,b⟩
theorem yH: ∀(fs m m':List Vd),iQ m fs=some m'->m'.length<=m.length+fs.length
 |[],m,m',h=>by injection h with h;rw[<-h];simp
 |f::fs,m,m',h=>by
  unfold iQ at h;cases hg:fQ m f.1 with
  |none=>
   rw[hg] at h;have:=yH fs _ _ h;simp only[List.length_append,List.length_cons,List.length_nil] at this⊢;omega
  |some s=>
   rw[hg] at h;simp only at h;split at h
   .have:=yH fs _ _ h;simp only[List.length_cons];omega
   .cases h
theorem VM {es:List MapEntry} {m:List Vd} (h:es.map (fun e=>(e.key,e.val))=(rf m).map (fun p=>(Value.string p.1,p.2))) {e:MapEntry} (he:e∈es): ∃f∈m,e.key= .string f.1/\e.val= .string f.2:=by
 have h1:(e.key,e.val)∈(rf m).map (fun p=>(Value.string p.1,p.2)):=by
  rw[<-h];exact List.mem_map.2 ⟨e,he,rfl⟩
 obtain⟨p,hp,h2⟩:=List.mem_map.1 h1;obtain⟨f,hf,rfl⟩:=List.mem_map.1 hp;injection h2 with h3 h4
 exact⟨f,hf,h3.symm,h4.symm⟩
theorem VN {es:List MapEntry} {m:List Vd} (h:es.map (fun e=>(e.key,e.val))=(rf m).map (fun p=>(Value.string p.1,p.2))) {f:Vd} (hf:f∈m): ∃e∈es,e.key= .string f.1:=by
 have h1:(Value.string f.1,Value.string f.2)∈es.map (fun e=>(e.key,e.val)):=by
  rw[h];exact List.mem_map.2 ⟨(f.1,.string f.2),List.mem_map.2 ⟨f,hf,rfl⟩,rfl⟩
 obtain⟨e,he,h2⟩:=List.mem_map.1 h1;injection h2 with h3 _
 exact⟨e,he,h3⟩
theorem YC {es:List MapEntry} {m:List Vd} (h:es.map (fun e=>(e.key,e.val))=(rf m).map (fun p=>(Value.string p.1,p.2))) (hd:m.Pairwise (fun p q=>p.1≠q.1)) {x y:MapEntry} (hx:x∈es) (hy:y∈es) (hk:x.key=y.key):x=y:=by
 obtain⟨i,hi,rfl⟩:=List.getElem_of_mem hx;obtain⟨j,hj,rfl⟩:=List.getElem_of_mem hy;have hlen:es.length=m.length:=by
  have:=congrArg List.length h;simpa using this
 have hat: ∀i (hi:i<es.length),es[i].key= .string (m[i]'(by omega)).1:=fun i hi=>by
  have h1:(es.map (fun e=>(e.key,e.val)))[i]?=((rf m).map (fun p=>(Value.string p.1,p.2)))[i]?:=by rw[h]
  rw[List.getElem?_map,List.getElem?_map,List.getElem?_map,List.getElem?_eq_getElem hi,List.getElem?_eq_getElem (show i<m.length by omega)] at h1;injection h1 with h1
  injection h1 with h1 _
 rw[hat i hi,hat j hj] at hk;injection hk with hk
 rw[List.pairwise_iff_getElem] at hd;rcases Nat.lt_trichotomy i j with h2|h2|h2
 .exact absurd hk (hd i j (by omega) (by omega) h2)
 .subst h2;rfl
 .exact absurd hk.symm (hd j i (by omega) (by omega) h2)
structure Ig (es:Array MapEntry) (seen:Array Nat) (m L:List Vd):Prop where
 sub: ∀f∈L,f∈m/\∃e∈es.toList,e.key= .string f.1/\seen.contains e.born=true
 JA:L.Pairwise (fun p q=>p.1≠q.1)
 all: ∀e∈es.toList,seen.contains e.born=true->∀f∈m,e.key= .string f.1->f∈L
theorem Ig.start (es:Array MapEntry) (m:List Vd):Ig es #[] m []:=⟨fun f hf=>(by cases hf),List.Pairwise.nil,fun e _ h=>(by simp at h)⟩
theorem Ig.next {es:Array MapEntry} {seen:Array Nat} {m L:List Vd} (hm:es.toList.map (fun e=>(e.key,e.val))=(rf m).map (fun p=>(Value.string p.1,p.2))) (hd:m.Pairwise (fun p q=>p.1≠q.1)) (hn:(es.toList.map (·.born)).Nodup) (h:Ig es seen m L) {e:MapEntry} (he:e∈es.toList) (hs:seen.contains e.born=false) {f:Vd} (hf:f∈m) (hk:e.key= .string f.1):Ig es (seen.push e.born) m (L++[f]):=by
 refine⟨fun g hg=>?_,?_,fun x hx hsx g hg hkx=>?_⟩
 .rcases List.mem_append.1 hg with hg|hg
  .obtain ⟨a,x,hx,b,c⟩:=h.sub g hg;exact⟨a,x,hx,b,by rw[contains_push,c];rfl⟩
  .rw [List.mem_singleton] at hg;subst hg;exact⟨hf,e,he,hk,by rw[contains_push,beq_self_eq_true,Bool.or_true]⟩
 .rw [List.pairwise_append];refine⟨h.JA,List.pairwise_singleton _ _,fun g hg y hy heq=>?_⟩;rw[List.mem_singleton] at hy;subst hy;obtain⟨_,x,hx,b,c⟩:=h.sub g hg;have hxe:x=e:=YC hm hd hx he (by rw[b,hk,heq]);rw[hxe,hs] at c;cases c
 .rw [contains_push,Bool.or_eq_true,beq_iff_eq] at hsx;rcases hsx with hsx|hsx
  .exact List.mem_append_left _ (h.all x hx hsx g hg hkx)
  .have hxe:x=e:=born_inj hn hx he hsx;rw[hxe,hk] at hkx;injection hkx with hkx
   obtain⟨i,hi,e1⟩:=List.getElem_of_mem hf;obtain⟨j,hj,e2⟩:=List.getElem_of_mem hg;have hgf:g=f:=by
    rw[List.pairwise_iff_getElem] at hd;rcases Nat.lt_trichotomy i j with h2|h2|h2
    .exact absurd (by rw[e1,e2];exact hkx) (hd i j hi hj h2)
    .subst h2;rw[<-e1,<-e2]
    .exact absurd (by rw[e1,e2];exact hkx.symm) (hd j i hj hi h2)
   rw[hgf];exact List.mem_append_right _ (List.mem_singleton.2 rfl)
theorem Ig.fin {es:Array MapEntry} {seen:Array Nat} {m L:List Vd} (hm:es.toList.map (fun e=>(e.key,e.val))=(rf m).map (fun p=>(Value.string p.1,p.2))) (h:Ig es seen m L) (h0:(leftOf es seen).size=0): ∀f,f∈L<->f∈m:=fun f=>
 ⟨fun hf=>(h.sub f hf).1,fun hf=>by
  obtain⟨e,he,hk⟩:=VN hm hf;exact h.all e he (all_seen es seen h0 e he) f hf hk⟩
theorem sN (w:World) (r:Nat) (o:Obj):aj (fun j=>j=r) w (Go.ChangeMaps.setBlock w r o):=⟨rfl,rfl,rfl,by simp[Go.ChangeMaps.setBlock],fun i hi hF=>by simp[Go.ChangeMaps.setBlock,Ne.symm (show i≠r from hF)]⟩
theorem qB {w:World} {r:Nat} {o o':Obj} (h:w.heap[r]?=some o):(Go.ChangeMaps.setBlock w r o').heap[r]?=some o':=by
 have:=(Array.getElem?_eq_some_iff.1 h).1;simp[Go.ChangeMaps.setBlock,this]
theorem qY (t:Tm) (v:Value) (w:World) (htab:bT w) (hR:bC (fun k=>k<w.heap.size) w t v) (hsz:(t.size:Int)<=1000000):Calls Tryz.prog 70 #[v] w fun e w'=> ∃r,e= .returned (.tuple #[r,.int .i64 (qy t).2])/\bU (fun k=>w.heap.size<=k/\k<w'.heap.size) w' r (qy t).1/\Ext w w':=by
 have HR:=ae hR;obtain⟨a,cap,rfl,hT⟩:=hR;have cO:=ae hT;dsimp only[tV];have HZ:=ae ((uR w).alloc (tO t a cap));have HB:=ae (ai w (tO t a cap));have dw:=ae hsz;have HF:=ae (fun W (hW:Ext w W)=>MW t _ W (aC htab hW) ((HR.out.ext hW).weaken (fun k hk=>ay hk hW.size)) (by omega));dsimp only[tV] at HF;obtain⟨c0,c1,c2⟩:=ag HB.out;clear hT;obtain⟨VF,hVF⟩: ∃x,qy t=x:=⟨_,rfl⟩
 have Qz:Hid ((if wf ax t=true then(aO t,0) else([],1))=VF):=ae hVF;rw[hVF];clear hVF;cases hfm:formed ax t
 .rw [hfm] at HF;have hwf:=Na hfm;have hv:=Qz.out;rw[hwf,if_neg (by simp)] at hv;subst hv;clear hwf hfm
  go_enter Tryz.func70,Tryz.ntmps70
  go_wp2_with fail
  refine(HF.out _ HZ.out).mono ?_;rintro e w4 ⟨rfl,hw4⟩;have H4:=ae (HZ.out.ext hw4);clear hw4 c0 c1 c2
  go_wp2_with fail
  go_ret2
  exact⟨_,rfl,az.nil _ _ _,H4.out⟩
 rw[hfm] at HF;have yw:Hid (wf ax t=(jO t).isSome):=ae (by unfold wf;rw[hfm,Bool.true_and]);clear hfm
 go_enter Tryz.func70,Tryz.ntmps70
 go_wp2_with fail
 refine(HF.out _ HZ.out).mono ?_;rintro e w4 ⟨rfl,hw4⟩;have H4:=ae (HZ.out.ext hw4);have HB4:=ae (hw4.heap HB.out (fun h=>h));clear hw4 c0 c1 c2;obtain⟨c0,c1,c2⟩:=ag HB4.out;have je:=ae (ai w4 (tO t a cap));have dX:=ae (H4.out.alloc (tO t a cap))
 go_wp2_with fail
 generalize (w4.alloc (tO t a cap))=w5 at*;obtain⟨x0,x1,x2⟩:=ag je.out;have pq:=ae (QE t w4.heap.size 0 1 0 cap a w5 ⟨x0,x1,x2⟩ ((cO.out.ext dX.out).weaken (fun k hk=>ay hk dX.out.size)) (by omega));clear x0 x1 x2 c0 c1 c2;refine pq.out.mono ?_;rintro e w6 ⟨hp,hw6⟩;have H6:=ae (dX.out.ext hw6);have hws:=Nat.le_trans dX.out.size hw6.size;have hbb:w5.heap.size<=w6.heap.size:=hw6.size;unfold CS at hp;clear hw6 pq;cases hso:jO t with
 |none=>
  rw[hso] at hp;simp only at hp;subst hp;have hv:=Qz.out;rw[yw.out,hso,if_neg (by simp)] at hv;subst hv
  go_wp2_with fail
  go_ret2
  exact⟨_,rfl,az.nil _ _ _,H6.out⟩
 |some m=>
  rw[hso] at hp;simp only at hp;obtain⟨b,rfl,hb5,es,clock,hb,hes,hbp,hbc⟩:=hp;have hv:=Qz.out;rw[yw.out,hso,if_pos (by simp)] at hv;subst hv;have HMD:=ae (Qn hso);have BG:=ae (Ie hso);have hml:m.length<=1000000:=by
   have h1:=yH _ _ _ (show iQ [] (vl (aV t))=some m from hso);have h2:(vl (aV t)).length<=t.size:=by
    have h1:(vl (aV t)).length<=(aV t).length:=List.length_filterMap_le _ _;have h2:(aV t).length=t.size:=by rw[aV,List.length_map,kP]
    omega
   simp only[List.length_nil] at h1;omega
  have BH:=ae hml;have KO:=ae hes;have Ih:Hid ((es.toList.map (·.born)).Nodup):=ae (by
   rw[List.Nodup,List.pairwise_map];exact hbp.imp (fun h e=>by omega))
  have kQ:=ae hbc;have hrg:=run_range_map (P:=Tryz.prog) w6 178 9 9 b es clock Tryz.underlying178 hb;have hblt:b<w6.heap.size:=(Array.getElem?_eq_some_iff.1 hb).1;have vC:=ae hblt;have HB0:=ae (ak hb (.mapIter (some b) clock #[] clock));have HR0:=ae (ai w6 (.mapIter (some b) clock #[] clock));have cZ:=ae (H6.out.alloc (.mapIter (some b) clock #[] clock));have HZ0:Hid (w6.heap.size+1<=(w6.alloc (.mapIter (some b) clock #[] clock)).heap.size):=ae (by simp);have VO:=ae hws;clear hso hes hbp hbc hml yw HF je hb hblt hbb hb5 Qz
  go_wp2_with fail
  try go_frame
  generalize w6.alloc (.mapIter (some b) clock #[] clock)=w7 at*;clear hrg;obtain⟨r,hr⟩: ∃r,w6.heap.size=r:=⟨_,rfl⟩
  rw[hr] at HR0 HZ0 vC VO⊢;clear hr
  go_loopg [6] (leftOf es #[]).size (fun gk ov wr=> ∃(oa:Option Addr) (oc:Nat) (L:List Vd) (seen:Array Nat),ov= .slice oa L.length oc/\gk=(leftOf es seen).size/\Hid (wr.ownsRow (r+1) 116 2 (.slice oa L.length oc) L.length (bu L))/\Hid (wr.heap[r]?=some (.mapIter (some b) clock seen clock))/\Hid (wr.heap[b]?=some (.map es clock))/\Hid (Ext w wr)/\Hid (r+1<=wr.heap.size)/\Hid (Ig es seen m L))
  case atStart=>exact⟨none,0,[],#[],rfl,rfl,ae ⟨rfl,.inl ⟨rfl,rfl⟩⟩,HR0,HB0,cZ,HZ0,ae (Ig.start es m)⟩
  case round=>
   clear HR0 HB0 cZ HZ0;obtain⟨oa,oc,L,seen,rfl,rfl,HO,HRR,jq,HE,pq,HV⟩:=hrel;rcases run_next_at (P:=Tryz.prog) wr 0 r b clock clock seen es clock HRR.out jq.out (fun x hx=>kQ.out x hx) (Nat.le_refl _) with⟨h0,hrun⟩|⟨e,he,w1,hw1,hrun⟩
   .have hnx: ∀ty,(Instr.next (.pointer (some ⟨r,0,none⟩)) false ty).run Tryz.prog wr=_:=fun _=>hrun;have hfin:=HV.out.fin KO.out h0;have hll:L.length<=1000000:=by
     have hnd:L.Nodup:=HV.out.JA.imp (fun h e=>h (by rw[e]));have:=hnd.length_le_of_subset (fun f hf=>(hfin f).1 hf);have:=BH.out;omega
    have HST:=ae (fun W (hW:Ext wr W)=>acu L (r+1) (.slice oa L.length oc) W (df HO.out hW (fun _ _ h=>h)) HV.out.JA hll);have HOB:Hid (∀k,(Value.slice oa L.length oc).ownBlock=some k->r+1<=k/\k<wr.heap.size):=ae (fun k hk=>HO.out.lt k hk);have nI:=ae hfin;clear hfin hll h0
    go_wp2_with fail
    refine(HST.out _ (aj.refl _ _)).mono ?_;rintro e w8 ⟨rfl,L',ha,hperm,hF,hu⟩;have hLV:L'=aO t:=Gf Prod.fst ha BG.out.1 (fun f=>by rw[hperm.mem_iff,nI.out f,BG.out.2 f]);have hlen:L.length=(aO t).length:=by rw[<-hLV,hperm.length_eq]
    have HF8:Hid (bU (fun k=>w.heap.size<=k/\k<w8.heap.size) w8 (.slice oa L.length oc) (aO t)):=ae (by rw[<-hLV];exact az.weaken hF (fun k hk=>⟨by have h1:=(HOB.out k hk).1;have h2:=VO.out;omega,ay (HOB.out k hk).2 hu.size⟩));have bV:Hid (Ext w w8):=ae (HE.out.trans' hu (fun j hj e=>by have h1:=(HOB.out j e).1;have h2:=VO.out;omega));clear hnx hrun hLV hlen ha hperm hF hu HST
    go_wp2_with fail
    go_ret2
    exact⟨_,rfl,HF8.out,bV.out⟩
   .have hml:=mem_left he;obtain⟨f,hf,hk,hvv⟩:=VM KO.out hml.1;have hrw:w1.heap[r]?=some (.mapIter (some b) clock seen clock):=by rcases hw1 with h|h<;>(rw[h];exact HRR.out)
    have hrb:w1.heap[b]?=some (.map es clock):=by rcases hw1 with h|h<;>(rw[h];exact jq.out)
    have hu1:aj (fun j=>j=r) wr (Go.ChangeMaps.setBlock w1 r (.mapIter (some b) clock (seen.push e.born) clock)):=by
     have:=sN w1 r (.mapIter (some b) clock (seen.push e.born) clock);rcases hw1 with h|h
     .rw [h] at this⊢;exact this
     .rw [h] at this⊢;exact this.Dt
    have hr2:=qB (o':= .mapIter (some b) clock (seen.push e.born) clock) hrw;rw[hk,hvv] at hrun;generalize Go.ChangeMaps.setBlock w1 r (.mapIter (some b) clock (seen.push e.born) clock)=wN at*;have rD:=ae (hu1.heap jq.out (by have:=vC.out;omega));have jD:=ae hr2;have hen:=run_entry_at (P:=Tryz.prog) wN r b clock seen es clock e hr2 rD.out hml.1 Ih.out;rw[hk,hvv] at hen;have hnx: ∀ty,(Instr.next (.pointer (some ⟨r,0,none⟩)) false ty).run Tryz.prog wr=_:=fun _=>hrun;have zN:Hid (wN.ownsRow (r+1) 116 2 (.slice oa L.length oc) L.length (bu L)):=ae (df HO.out hu1 (fun j hj e=>by have:=(HO.out.lt j hj).1;omega));have KE:Hid (Ext w wN):=ae (HE.out.trans' hu1 (fun j hj e=>by have h2:=VO.out;omega));have jE:=ae (HV.out.next KO.out HMD.out Ih.out hml.1 hml.2 hf hk);have KP:=ae (left_shrinks es seen e he);have hll:L.length<=1000000:=by
     have hnd:L.Nodup:=HV.out.JA.imp (fun h e=>h (by rw[e]));have:=hnd.length_le_of_subset (fun f hf=>(HV.out.sub f hf).1);have:=BH.out;omega
    have gU:Hid (r+1<=wN.heap.size):=ae (Nat.le_trans pq.out hu1.size);clear hml hf hk hvv hrw hrb hu1 hr2 he hw1;obtain⟨iF,hi,hz0,hz1,hz2⟩:=info_parts Ht
    go_wp2_with(at_builtin;refine xP _ rfl (.tmp 27) (.tmp 31) 111 rfl (r+1) 116 iF (.agg #[.string ⟨#[]⟩,.string ⟨#[]⟩]) 2 32 Tryz.underlying111 hi hz0 hz1 hz2 rfl (by decide) _ _ _ rfl (zN.out.alloc _) _ 1 1 [.string f.1,.string f.2] rfl rfl ?c1 ?c2 ?c3 ?c4 ?c5 ?_)
    case c1=>
     intro l u hl
     match l,hl with
     |0,hl=>simp only[List.getElem?_cons_zero,Option.some.injEq] at hl;subst hl;simp only[Addr.add];exact af (ai _ _) 0 _ rfl
     |1,hl=>simp at hl;subst hl;simp only[Addr.add];exact af (ai _ _) 1 _ rfl
    case c2=>intro u hu;simp at hu;rcases hu with h|h<;>(subst h;rfl)
    case c3=>unfold maxLen;omega
    case c4=>omega
    case c5=>have:=gU.out;simp;omega
    intro v6 w8 hG;obtain⟨a6,c6,rfl⟩:=bJ hG.own;have hua:=(uR wN).alloc (.cells #[.string f.1,.string f.2] 116);have HO8:Hid (w8.ownsRow (r+1) 116 2 (.slice a6 (L++[f]).length c6) (L++[f]).length (bu (L++[f]))):=ae (by
     have h:=hG.own;rw[show(L++[f]).length=L.length+1 by simp,qA];exact h)
    have VP:aj (fun j=>(Value.slice oa L.length oc).ownBlock=some j) wN w8:=(hua.mono (fun _ _ h=>h.elim)).trans hG.upd;have yD: ∀j,(Value.slice oa L.length oc).ownBlock=some j->r+1<=j:=fun j hj=>(zN.out.lt j hj).1;have HR8:=ae (VP.heap jD.out (fun e=>by have:=yD _ e;omega));have kE:=ae (VP.heap rD.out (fun e=>by have:=yD _ e;have:=vC.out;omega));have bV:Hid (Ext w w8):=ae (KE.out.trans' VP (fun j hj e=>by have:=yD _ e;have h2:=VO.out;omega));have ji:Hid (r+1<=w8.heap.size):=ae (Nat.le_trans gU.out VP.size);clear hG hua VP yD hi hz0 hz1 hz2 hnx hrun hen
    go_wp2_with fail
    have hlt:=KP.out
    go_roundg (leftOf es (seen.push e.born)).size
    case measure=>exact hlt
    case rel=>exact⟨a6,c6,L++[f],seen.push e.born,by simp,rfl,HO8,HR8,kE,bV,ji,jE⟩
end
theorem Iq {N:Nat} {ad:Nat->Nat×Nat} {bv bn:Nat} {bk:List Nat} {st:St} {w:World} (F c r:Nat) (hm:lZ N ad 121 bv bn bk st w) (hr:jG st.cs F c=some r):Calls Tryz.prog 143 #[fH (blk bk c)] w fun e w'=>e= .returned (fH (blk bk r))/\w'=w:=by
 have HM:=ae hm;have HR:=ae hr;clear hm hr
 go_enter Tryz.func143,Tryz.ntmps143
 go_wp2_with fail
 go_loopg [0] F (fun gk cv wr=> ∃d:Nat,cv=fH (blk bk d)/\Hid (jG st.cs gk d=some r)/\wr=w)
 case atStart=>exact⟨c,rfl,HR,rfl⟩
 case round=>
  obtain⟨d,rfl,HD,rfl⟩:=hrel;have hd:=HD.out;cases hG:gk with
  |zero=>rw[hG] at hd;cases hd
  |succ G=>
  subst hG;unfold jG at hd;cases hx:st.cs[d]? with
  |none=>rw[hx] at hd;cases hd
  |some x=>
  rw[hx] at hd;simp only at hd;have hrow:=HM.out.row d x hx;cases hu:x.up with
  |none=>
   rw[hu] at hd;simp only[Option.some.injEq] at hd;subst hd;have e0:=af hrow 0 (.pointer none) (by unfold dA;rw[hu];rfl);clear hrow
   go_wp2_with fail
   go_ret;exact⟨rfl,rfl⟩
  |some u=>
   rw[hu] at hd;simp only at hd;have HN:=ae hd;have e0:=af hrow 0 (.pointer (some ⟨blk bk u,0,none⟩)) (by unfold dA;rw[hu];rfl);clear hrow hd
   go_wp2_with fail
   go_roundg G
   case measure=>omega
   case rel=>exact⟨u,rfl,HN,rfl⟩
theorem o9 (s:By):(ByteArray.toList s).isEmpty=decide (s=ah):=by
 rw[Bool.eq_iff_iff,decide_eq_true_eq,List.isEmpty_iff,Lib.toList_data];constructor
 .intro h;exact jX h
 .intro h;rw[h];rfl
theorem kX (nm so:By) (a:Option Addr) (n cap:Nat) (w:World):Calls Tryz.prog 91 #[.agg #[.string nm,.string so,.slice a n cap]] w fun e w'=>e= .returned (.bool (!decide (so=ah)))/\Ext w w':=by
 have s3:=o9 so;have hb:=ai w (.cells #[.string nm,.string so,.slice a n cap] 24);have e1:=af hb 1 (.string so) rfl;clear hb
 go_enter Tryz.func91,Tryz.ntmps91
 go_wp2_with fail
 go_ret;exact⟨rfl,(aj.refl _ w).alloc _⟩
theorem yL {N:Nat} {ad:Nat->Nat×Nat} {bv bn:Nat} {bk:List Nat} {st st':St} {w:World} (F r ub pb po:Nat) (nm so:By) (a:Option Addr) (n cap:Nat) (hm:lZ N ad 121 bv bn bk st w) (hu:w.heap[ub]?=some (.cells #[.map (some bv),.map (some bn)] 108 (0,0))) (hub: ¬Fb bv bn bk ub)
  (h0:w.cell? ⟨pb,po,none⟩=some (.string nm)) (h1:w.cell? ⟨pb,po+1,none⟩=some (.string so)) (h2:w.cell? ⟨pb,po+2,none⟩=some (.slice a n cap)) (hpb: ¬Fb bv bn bk pb) (hso:so≠ah) (hc:qP F st nm so=some (st',r)):
  Calls Tryz.prog 73 #[fH ub,.pointer (some ⟨pb,po,none⟩)] w fun e w'=> ∃bk',e= .returned (fH (blk bk' r))/\lZ N ad 121 bv bn bk' st' w'/\aj (Fb bv bn bk) w w'/\bk <+:bk'/\(∀b∈bk',b∈bk\/w.heap.size<=b)/\((qp st.vs nm).isSome=true->bk'=bk/\st'=st/\Ext w w'):=by
 have HM:=ae hm;have Ou:=ae (kX nm so a n cap w);have Ov:decide (so=ah)=false:=dF hso;rw[Ov] at Ou;have wJ:=ae (And.intro hu hub);have HP:=ae (And.intro h0 (And.intro h1 (And.intro h2 hpb)));have HC:=ae hc;clear hm hu hub hc hso Ov hpb
 go_enter Tryz.func73,Tryz.ntmps73
 go_wp2_with fail
 refine Ou.out.mono ?_;rintro e w1 ⟨rfl,hw1⟩;have hu1:=hw1.heap wJ.out.1 (fun h=>h);have HE:=ae hw1;have hm1:=HM.out.ext hw1 (fun _ _ h=>h);have q0:=hw1.cell h0 (fun h=>h);have q1:=hw1.cell h1 (fun h=>h);clear h0 h1 h2 Ou hw1;obtain⟨u0,u1⟩:=aP hu1;have hl:=fun n=>dN.get (P:=Tryz.prog) (t:=105) (oJ Tryz.underlying9) Tryz.underlying105 (z:= .pointer none) (Tryz.zeroValue118 (w1.drewN n)) (hm1.vs.ext ((aj.refl _ w1).drewN' n)) nm true;have hfm:=DV (fun s:By=>s) (fun c=>fH (blk bk c)) st.vs nm (fun e _ h=>h);rw[hfm] at hl;simp only[if_true] at hl;have BO:=ae hm1;have hc:=HC.out;unfold qP at hc;cases hf:qp st.vs nm with
 |some c=>
  rw[hf] at hl hc;simp only[Option.map_some,Option.getD_some,Option.isSome_some] at hl hc;cases hrt:jG st.cs F c with
  |none=>rw[hrt] at hc;cases hc
  |some r'=>
  rw[hrt] at hc;simp only[Option.map_some,Option.some.injEq,Prod.mk.injEq] at hc;obtain⟨rfl,rfl⟩:=hc;have nI:=ae hf;have oH:=ae (fun W (hW:Ext w1 W)=>Iq F c r' (BO.out.ext hW (fun _ _ h=>h)) hrt);clear hf hrt hfm hm1
  go_wp2_with fail
  go_quiet (fail)
  go_wp2_with fail
  refine(oH.out _ ((aj.refl _ w1).drewN' _)).mono ?_;rintro e w2 ⟨rfl,rfl⟩
  go_wp2_with fail
  go_ret;exact⟨bk,rfl,BO.out.ext ((uR w1).drewN' _) (fun _ _ h=>h),(HE.out.drewN' _).mono (fun _ _ x=>x.elim),List.prefix_refl _,fun b hb=> .inl hb,fun _=>⟨rfl,HE.out.drewN' _⟩⟩
 |none=>
  rw[hf] at hl hc;simp only[Option.map_none,Option.getD_none,Option.isSome_none] at hl hc;cases hrt:jG (st.cs++[⟨none,nm,so,false,none,0,0,0⟩]) F st.cs.length with
  |none=>rw[hrt] at hc;cases hc
  |some r'=>
  rw[hrt] at hc;simp only[Option.map_some,Option.some.injEq,Prod.mk.injEq] at hc;obtain⟨rfl,rfl⟩:=hc;have oH:=ae hrt;have nI:=ae hf;have tu:=ae hu1;clear hf hrt hfm hm1
  go_wp2_with fail
  go_quiet (fail)
  go_wp2_with fail
  have dR:Hid (Ext w (w1.drewN nq)):=ae (HE.out.drewN' nq);clear BO tu hl u0 u1 q0 q1;generalize w1.drewN nq=wq at*;have HMQ:=ae (HM.out.ext dR.out (fun _ _ h=>h));have IA:=ae (dR.out.heap wJ.out.1 (fun h=>h));have u0:=af IA.out 0 (.map (some bv)) rfl;have q0:=dR.out.cell HP.out.1 (fun h=>h);have q1:=dR.out.cell HP.out.2.1 (fun h=>h)
  go_still_tail 9,(by kernel_rfl)
  change wpList _ _ _ _ _ wq.drew
  go_wp2_with fail
  have hal:=ai wq (.cells #[.pointer none,.string nm,.string so,.bool false,.pointer none,.int .i64 0,.int .i64 0,.int .i64 0] 121);have kG:Hid (Ext wq (wq.alloc (.cells #[.pointer none,.string nm,.string so,.bool false,.pointer none,.int .i64 0,.int .i64 0,.int .i64 0] 121)).drew):=ae ((uR wq).alloc _).drew;have HRW:Hid ((wq.alloc (.cells #[.pointer none,.string nm,.string so,.bool false,.pointer none,.int .i64 0,.int .i64 0,.int .i64 0] 121)).drew.heap[wq.heap.size]?=some (.cells #[.pointer none,.string nm,.string so,.bool false,.pointer none,.int .i64 0,.int .i64 0,.int .i64 0] 121 (0,0))):=ae hal;have Dj:Hid (w.heap.size<=wq.heap.size/\¬Fb bv bn bk wq.heap.size):=ae ⟨dR.out.size,fun e=>Nat.lt_irrefl _ (HMQ.out.lt _ e)⟩;clear u0 q0 q1 hal;generalize (wq.alloc (.cells #[.pointer none,.string nm,.string so,.bool false,.pointer none,.int .i64 0,.int .i64 0,.int .i64 0] 121)).drew=wA at*;generalize wq.heap.size=nb at*;have xX:=ae (dR.out.trans kG.out);have Wx:=ae (HMQ.out.ext kG.out (fun _ _ h=>h));have Fz:=ae (kG.out.heap IA.out (fun h=>h));have u0:=af Fz.out 0 (.map (some bv)) rfl;have q0:=xX.out.cell HP.out.1 (fun h=>h);obtain⟨W2,hput,uG,hu2⟩:=dN.put (P:=Tryz.prog) (t:=105) (oJ Tryz.underlying9) Tryz.underlying105 (show dN (fun s:ByteArray=>Value.string s) wA.drew bv _ from Wx.out.vs.ext (aj.refl _ wA).drew) nm (fH nb);have dY:Hid (aj (fun j=>j=bv) wA W2):=ae (aj.Dt hu2);have jr:=ae (Wx.out.amx nI.out Dj.out.2 HRW.out uG dY.out);have HR2:=ae (Iq F _ r' jr.out oH.out);have hbl:blk (bk++[nb]) st.cs.length=nb:=by rw[<-HM.out.len];exact AL nb
  rw[hbl] at HR2;clear hu2 uG hbl HMQ IA kG
  go_still_tail 9,(by kernel_rfl)
  change wpList _ _ _ _ _ wA.drew
  go_wp2_with fail
  refine HR2.out.mono ?_;rintro e w3 ⟨rfl,rfl⟩
  go_wp2_with fail
  go_ret;refine⟨bk++[nb],rfl,jr.out,((xX.out.mono (fun _ _ x=>x.elim)).trans (dY.out.mono (fun j _ hj=> .inl hj))),List.prefix_append _ _,fun b hb=>?_,fun h=>by rw[nI.out] at h;cases h⟩;rcases List.mem_append.1 hb with hb|hb
  .exact .inl hb
  .rw [List.mem_singleton] at hb;rw[hb];exact .inr Dj.out.1
theorem afl:(Tryz.prog.info? 24).map (fun i=>i.size)=some 3:=by kernel_rfl
theorem OA {N:Nat} {ad:Nat->Nat×Nat} {bv bn:Nat} {bk:List Nat} {st st':St} {w:World} (F r ub i pb po:Nat) (nm so:By) (a:Option Addr) (n cap:Nat) (hm:lZ N ad 121 bv bn bk st w) (hu:w.heap[ub]?=some (.cells #[.map (some bv),.map (some bn)] 108 (0,0))) (hub: ¬Fb bv bn bk ub)
  (h0:w.cell? ⟨pb,po,none⟩=some (.string nm)) (h1:w.cell? ⟨pb,po+1,none⟩=some (.string so)) (h2:w.cell? ⟨pb,po+2,none⟩=some (.slice a n cap)) (hso:so=ah) (had:ad i=(pb,po)) (hi:i<N) (hinj: ∀j,j<N->ad j=ad i->j=i) (hpl: ∀j,j<N->Plain w (ad j).1) (hc:Rq F st i=some (st',r)):
  Calls Tryz.prog 73 #[fH ub,.pointer (some ⟨pb,po,none⟩)] w fun e w'=> ∃bk',e= .returned (fH (blk bk' r))/\lZ N ad 121 bv bn bk' st' w'/\aj (Fb bv bn bk) w w'/\bk <+:bk'/\(∀b∈bk',b∈bk\/w.heap.size<=b)/\((qp st.ns i).isSome=true->bk'=bk/\st'=st/\Ext w w'):=by
 have HM:=ae hm;have Ou:=ae (kX nm so a n cap w);have Ov:decide (so=ah)=true:=dT hso;rw[Ov] at Ou;have wJ:=ae (And.intro hu hub);have HC:=ae hc;have HI:=ae (And.intro had (And.intro hi (And.intro hinj hpl)));clear hm hu hub hc hso Ov hi hinj hpl had
 go_enter Tryz.func73,Tryz.ntmps73
 go_wp2_with fail
 refine Ou.out.mono ?_;rintro e w1 ⟨rfl,hw1⟩;have hu1:=hw1.heap wJ.out.1 (fun h=>h);have HE:=ae hw1;have hm1:=HM.out.ext hw1 (fun _ _ h=>h);clear h0 h1 h2 Ou hw1;obtain⟨u0,u1⟩:=aP hu1;have hpw: ∀W,Ext w W->(∀j,j<N->Plain W (ad j).1):=fun W hW j hj=>(HI.out.2.2.2 j hj).ext hW;have HPW:=ae hpw;have pG:Hid (∀W,Ext w W->∀p∈(st.ns.map fun e=>(ad e.1,fH (blk bk e.2))),Plain W p.1.1):=ae (fun W hW p hp=>by
  obtain⟨e,he,rfl⟩:=List.mem_map.1 hp;exact HPW.out W hW _ (HM.out.FH e he).2)
 obtain⟨iT,hiT,hsT⟩: ∃i,Tryz.prog.info? 24=some i/\i.size=3:=by
  have:=afl;cases hx:Tryz.prog.info? 24 with
  |none=>rw[hx] at this;cases this
  |some i=>rw[hx] at this;injection this with this;exact⟨i,rfl,this⟩
 have hz3:iT.size≠0:=by omega
 have HIT:=ae (And.intro hiT hz3);have hl:=dN.ame (P:=Tryz.prog) (t:=106) Tryz.underlying110 hiT hz3 Tryz.underlying106 (z:= .pointer none) (Tryz.zeroValue118 w1) hm1.ns (ad i) (HPW.out _ HE.out i HI.out.2.1) (pG.out _ HE.out) true;have hfm:=DV ad (fun c=>fH (blk bk c)) st.ns i (fun e he h=>HI.out.2.2.1 e.1 (HM.out.FH e he).2 h);rw[hfm] at hl;have OB:iW (ad i)= .pointer (some ⟨pb,po,none⟩):=by rw[HI.out.1]
 rw[OB] at hl;simp only[if_true] at hl;have BO:=ae hm1;have hc:=HC.out;unfold Rq at hc;clear hpw hiT hsT hz3 OB;cases hf:qp st.ns i with
 |some c=>
  rw[hf] at hl hc;simp only[Option.map_some,Option.getD_some,Option.isSome_some] at hl hc;cases hrt:jG st.cs F c with
  |none=>rw[hrt] at hc;cases hc
  |some r'=>
  rw[hrt] at hc;simp only[Option.map_some,Option.some.injEq,Prod.mk.injEq] at hc;obtain⟨rfl,rfl⟩:=hc;have oH:=ae (fun W (hW:Ext w1 W)=>Iq F c r' (BO.out.ext hW (fun _ _ h=>h)) hrt);clear hf hrt hfm hm1
  go_wp2_with fail
  refine(oH.out _ (aj.refl _ w1)).mono ?_;rintro e w2 ⟨rfl,rfl⟩
  go_wp2_with fail
  go_ret;exact⟨bk,rfl,BO.out,HE.out.mono (fun _ _ x=>x.elim),List.prefix_refl _,fun b hb=> .inl hb,fun _=>⟨rfl,HE.out⟩⟩
 |none=>
  rw[hf] at hl hc;simp only[Option.map_none,Option.getD_none,Option.isSome_none] at hl hc;cases hrt:jG (st.cs++[⟨none,ah,ah,false,some i,0,0,0⟩]) F st.cs.length with
  |none=>rw[hrt] at hc;cases hc
  |some r'=>
  rw[hrt] at hc;simp only[Option.map_some,Option.some.injEq,Prod.mk.injEq] at hc;obtain⟨rfl,rfl⟩:=hc;have oH:=ae hrt;have nI:=ae hf;have uf:=ae hfm;clear hf hrt hfm hm1;have Dj:Hid (w.heap.size<=w1.heap.size/\¬Fb bv bn bk w1.heap.size):=ae ⟨HE.out.size,fun e=>Nat.lt_irrefl _ (BO.out.lt _ e)⟩;have hal:=ai w1 (.cells #[.pointer none,.string ⟨#[]⟩,.string ⟨#[]⟩,.bool false,.pointer (some ⟨pb,po,none⟩),.int .i64 0,.int .i64 0,.int .i64 0] 121);have kG:Hid (Ext w1 (w1.alloc (.cells #[.pointer none,.string ⟨#[]⟩,.string ⟨#[]⟩,.bool false,.pointer (some ⟨pb,po,none⟩),.int .i64 0,.int .i64 0,.int .i64 0] 121))):=ae ((uR w1).alloc _);have xX:=ae (HE.out.trans kG.out);have Wx:=ae (BO.out.ext kG.out (fun _ _ h=>h));have hwp:=pG.out _ xX.out;have HRW:Hid ((w1.alloc (.cells #[.pointer none,.string ⟨#[]⟩,.string ⟨#[]⟩,.bool false,.pointer (some ⟨pb,po,none⟩),.int .i64 0,.int .i64 0,.int .i64 0] 121)).heap[w1.heap.size]?=some (.cells (dA ad bk ⟨none,ah,ah,false,some i,0,0,0⟩) 121 (0,0))):=ae (by
   have e:dA ad bk ⟨none,ah,ah,false,some i,0,0,0⟩= #[.pointer none,.string ⟨#[]⟩,.string ⟨#[]⟩,.bool false,.pointer (some ⟨pb,po,none⟩),.int .i64 0,.int .i64 0,.int .i64 0]:=by
    unfold dA;simp only[Option.map_some,Option.map_none,HI.out.1];rfl
   rw[e];exact hal)
  obtain⟨W2,hput,uG,hu2⟩:=dN.amf (P:=Tryz.prog) (t:=106) (et:=118) Tryz.underlying110 HIT.out.1 HIT.out.2 Tryz.underlying106 Wx.out.ns (ad i) (fH w1.heap.size) (HPW.out _ xX.out i HI.out.2.1) hwp (by rw[uf.out,nI.out];rfl);have dY:Hid (aj (fun j=>j=bn) (w1.alloc (.cells #[.pointer none,.string ⟨#[]⟩,.string ⟨#[]⟩,.bool false,.pointer (some ⟨pb,po,none⟩),.int .i64 0,.int .i64 0,.int .i64 0] 121)) W2):=ae hu2;have jr:=ae (Wx.out.amz HI.out.2.1 Dj.out.2 HRW.out uG dY.out);have HR2:=ae (Iq F _ r' jr.out oH.out);have hbl:blk (bk++[w1.heap.size]) st.cs.length=w1.heap.size:=by rw[<-HM.out.len];exact AL _
  rw[hbl] at HR2;have OB:iW (ad i)= .pointer (some ⟨pb,po,none⟩):=by rw[HI.out.1]
  rw[OB] at hput;have u2:=af (kG.out.heap hu1 (fun h=>h)) 1 (.map (some bn)) rfl;clear hu2 uG hbl OB hwp hal
  go_wp2_with fail
  refine HR2.out.mono ?_;rintro e w3 ⟨rfl,rfl⟩
  go_wp2_with fail
  go_ret;refine⟨bk++[w1.heap.size],rfl,jr.out,((xX.out.mono (fun _ _ x=>x.elim)).trans (dY.out.mono (fun j _ hj=> .inr (.inl hj)))),List.prefix_append _ _,fun b hb=>?_,fun h=>by rw[nI.out] at h;cases h⟩;rcases List.mem_append.1 hb with hb|hb
  .exact .inl hb
  .rw [List.mem_singleton] at hb;rw[hb];exact .inr Dj.out.1
theorem ML {T:List Nr} {ad:Nat->Nat×Nat} {S:Nat->Prop} {bv bn ub:Nat} {bk:List Nat} {st st':St} {w:World} (F i r:Nat) (hm:Ur T ad S 121 108 bv bn ub bk st w) (hc:jl T F st i=some (st',r)):
  Calls Tryz.prog 73 #[fH ub,iW (ad i)] w fun e w'=> ∃bk',e= .returned (fH (blk bk' r))/\eH T ad S 121 108 bv bn ub bk bk' st' w w':=by
 unfold jl at hc;cases ht:T[i]? with
 |none=>rw[ht] at hc;cases hc
 |some q=>
  rw[ht] at hc;simp only at hc;obtain⟨h0,h1,a,cap,h2,_⟩:=hm.nd.row i q ht;have hi:i<T.length:=(List.getElem?_eq_some_iff.1 ht).1;by_cases hs:q.so=ah
  .rw [if_pos hs] at hc;refine(OA F r ub i (ad i).1 (ad i).2 q.nm q.so a _ cap hm.us hm.u hm.un h0 h1 h2 hs rfl hi (fun j hj e=>hm.nd.inj j i hj hi e) (fun j hj=>(hm.nd.low j hj).1) hc).mono ?_;rintro e w' ⟨bk',h3,h4,h5,h6,h7,h8⟩;exact⟨bk',h3,hm.step h4 h5 h6 h7⟩
  .rw [if_neg hs] at hc;refine(yL F r ub (ad i).1 (ad i).2 q.nm q.so a _ cap hm.us hm.u hm.un h0 h1 h2 (hm.sn _ (hm.nd.low i hi).2).2 hs hc).mono ?_;rintro e w' ⟨bk',h3,h4,h5,h6,h7,h8⟩;exact⟨bk',h3,hm.step h4 h5 h6 h7⟩
theorem ae9 {T:List Nr} {ad:Nat->Nat×Nat} {S:Nat->Prop} {bv bn ub:Nat} {bk:List Nat} {st st':St} {w:World} (F r pb po:Nat) (nm so:By) (a:Option Addr) (n cap:Nat) (hm:Ur T ad S 121 108 bv bn ub bk st w) (h0:w.cell? ⟨pb,po,none⟩=some (.string nm)) (h1:w.cell? ⟨pb,po+1,none⟩=some (.string so)) (h2:w.cell? ⟨pb,po+2,none⟩=some (.slice a n cap)) (hpb: ¬Fb bv bn bk pb) (hso:so≠ah) (hc:qP F st nm so=some (st',r)):
  Calls Tryz.prog 73 #[fH ub,.pointer (some ⟨pb,po,none⟩)] w fun e w'=> ∃bk',e= .returned (fH (blk bk' r))/\eH T ad S 121 108 bv bn ub bk bk' st' w w':=
 (yL F r ub pb po nm so a n cap hm.us hm.u hm.un h0 h1 h2 hpb hso hc).mono fun e w' ⟨bk',h3,h4,h5,h6,h7,h8⟩=>⟨bk',h3,hm.step h4 h5 h6 h7⟩
theorem YY {T:List Nr} {ad:Nat->Nat×Nat} {S:Nat->Prop} {bv bn ub:Nat} {bk:List Nat} {st st':St} {w:World} (F i r:Nat) (hm:Ur T ad S 121 108 bv bn ub bk st w) (hf:JH T st i=true) (hc:jl T F st i=some (st',r)):
  st'=st/\Calls Tryz.prog 73 #[fH ub,iW (ad i)] w fun e w'=>e= .returned (fH (blk bk r))/\Ext w w':=by
 unfold jl at hc;unfold JH at hf;cases ht:T[i]? with
 |none=>rw[ht] at hc;cases hc
 |some q=>
  rw[ht] at hc hf;simp only at hc hf;obtain⟨h0,h1,a,cap,h2,_⟩:=hm.nd.row i q ht;have hi:i<T.length:=(List.getElem?_eq_some_iff.1 ht).1;by_cases hs:q.so=ah
  .rw [if_pos hs] at hc hf;refine⟨YZ hf hc,(OA F r ub i (ad i).1 (ad i).2 q.nm q.so a _ cap hm.us hm.u hm.un h0 h1 h2 hs rfl hi (fun j hj e=>hm.nd.inj j i hj hi e) (fun j hj=>(hm.nd.low j hj).1) hc).mono ?_⟩;rintro e w' ⟨bk',h3,h4,h5,h6,h7,h8⟩;obtain⟨rfl,_,h9⟩:=h8 hf;exact⟨h3,h9⟩
  .rw [if_neg hs] at hc hf;refine⟨DU hf hc,(yL F r ub (ad i).1 (ad i).2 q.nm q.so a _ cap hm.us hm.u hm.un h0 h1 h2 (hm.sn _ (hm.nd.low i hi).2).2 hs hc).mono ?_⟩;rintro e w' ⟨bk',h3,h4,h5,h6,h7,h8⟩;obtain⟨rfl,_,h9⟩:=h8 hf;exact⟨h3,h9⟩
theorem KX {T:List Nr} {ad:Nat->Nat×Nat} {S:Nat->Prop} {bv bn ub:Nat} {bk:List Nat} {st st':St} {w:World} (F r pb po:Nat) (nm so:By) (a:Option Addr) (n cap:Nat) (hm:Ur T ad S 121 108 bv bn ub bk st w) (h0:w.cell? ⟨pb,po,none⟩=some (.string nm)) (h1:w.cell? ⟨pb,po+1,none⟩=some (.string so)) (h2:w.cell? ⟨pb,po+2,none⟩=some (.slice a n cap)) (hpb: ¬Fb bv bn bk pb) (hso:so≠ah) (hf:(qp st.vs nm).isSome=true) (hc:qP F st nm so=some (st',r)):
  st'=st/\Calls Tryz.prog 73 #[fH ub,.pointer (some ⟨pb,po,none⟩)] w fun e w'=>e= .returned (fH (blk bk r))/\Ext w w':=
 ⟨DU hf hc,(yL F r ub pb po nm so a n cap hm.us hm.u hm.un h0 h1 h2 hpb hso hc).mono fun e w' ⟨bk',h3,h4,h5,h6,h7,h8⟩=>by
  obtain⟨rfl,_,h9⟩:=h8 hf;exact⟨h3,h9⟩⟩
theorem nK (a b:By):(a.toList==b.toList)=decide (a=b):=by
 by_cases h:a=b
 .rw [dT h,h];simp
 .rw [dF h];exact beq_eq_false_iff_ne.2 (fun e=>h (jX (by rw[Lib.toList_data,Lib.toList_data] at e;exact e)))
theorem afI:(Tryz.prog.info? 121).map (fun i=>i.size)=some 8:=by kernel_rfl
theorem aa9:Tryz.prog.info? 121=some ((Tryz.prog.info? 121).getD default)/\((Tryz.prog.info? 121).getD default).size≠0:=by
 have h:=afI;cases hx:Tryz.prog.info? 121 with
 |none=>rw[hx] at h;cases h
 |some i=>
  rw[hx] at h;have h8:i.size=8:=by injection h
  exact⟨rfl,fun e=>by have e':i.size=0:=e;rw[h8] at e';cases e'⟩
theorem acC {T:List Nr} {ad:Nat->Nat×Nat} {S:Nat->Prop} {bv bn ub:Nat} (hTB: ∀(i:Nat) (r:Nr),T[i]?=some r->r.ks.length<=1000000) (F:Nat): ∀(bk:List Nat) (st st':St) (w:World) (s t:Nat) (ok:Bool),Ur T ad S 121 108 bv bn ub bk st w->KU T F st s t=some (st',ok)->
  Calls Tryz.prog 69 #[fH ub,iW (ad s),iW (ad t)] w fun e w'=>e= .returned (.bool ok)/\∃bk',eH T ad S 121 108 bv bn ub bk bk' st' w w':=by
 induction F with
 |zero=>intro bk st st' w s t ok _ h;cases h
 |succ F ih=>
 intro bk st st' w s t ok hm hc;have HIH:=ae ih;unfold KU at hc;cases hc1:jl T F st s with
 |none=>rw[hc1] at hc;cases hc
 |some q1=>
 obtain⟨st1,a⟩:=q1;rw[hc1] at hc;simp only at hc;cases hc2:jl T F st1 t with
 |none=>rw[hc2] at hc;cases hc
 |some q2=>
 obtain⟨st2,b⟩:=q2;rw[hc2] at hc;simp only at hc;have H1:=ae (ML F s a hm hc1);have QT:=ae hc1;have HC2:=ae hc2;have HC:=ae hc;clear ih hm hc1 hc2 hc
 go_enter Tryz.func69,Tryz.ntmps69
 go_wp2_with fail
 refine H1.out.mono ?_;rintro e w1 ⟨bk1,rfl,hu1⟩;have tu:=ae hu1;have H2:=ae (ML F t b hu1.ur HC2.out);clear hu1 H1
 go_wp2_with fail
 refine H2.out.mono ?_;rintro e w2 ⟨bk2,rfl,hu2⟩;have hab:blk bk1 a=blk bk2 a:=by
  obtain⟨x,hx,_⟩:=uV QT.out;exact(EF hu2.pre (by rw[tu.out.ur.us.len];exact(List.getElem?_eq_some_iff.1 hx).1)).symm
 rw[hab];have dY:=ae (tu.out.trans hu2);have Ld:=ae tu.out.ur.us.len;have HPR:=ae hu2.pre;clear hu2 hab H2 tu;have ha2:a<bk2.length:=by
  obtain⟨x,hx,_⟩:=uV QT.out;have h1:a<bk1.length:=by rw[Ld.out];exact(List.getElem?_eq_some_iff.1 hx).1
  exact ay h1 HPR.out.length_le
 have hb2:b<bk2.length:=by
  obtain⟨x,hx,_⟩:=uV HC2.out;rw[dY.out.ur.us.len];exact(List.getElem?_eq_some_iff.1 hx).1
 have MM: ∀c,c<bk2.length->Plain w2 (blk bk2 c):=fun c hc=>⟨_,_,dY.out.ur.us.row c _ (List.getElem?_eq_getElem (by rw[<-dY.out.ur.us.len];exact hc))⟩
 have heq:=acA (P:=Tryz.prog) Tryz.underlying118 aa9.1 aa9.2 (blk bk2 a,0) (blk bk2 b,0) w2 (MM a ha2) (MM b hb2);have HAB:=ae (And.intro ha2 hb2);have hc:=HC.out;by_cases e:a=b
 .subst e;rw[if_pos rfl] at hc;simp only[Option.some.injEq,Prod.mk.injEq] at hc;obtain⟨rfl,rfl⟩:=hc;rw[dT rfl] at heq;clear ha2 hb2 MM
  go_wp2_with fail
  go_ret;exact⟨rfl,bk2,dY.out⟩
 .rw [if_neg e] at hc;have hne: ¬(blk bk2 a,0)=(blk bk2 b,0):=fun h=>e (RH (by have:=dY.out.ur.us.nd;rw[List.nodup_cons,List.nodup_cons] at this;exact this.2.2) ha2 hb2 (Prod.mk.inj h).1);rw[dF hne] at heq;cases hA:st2.cs[a]? with
  |none=>rw[hA] at hc;cases hc
  |some A=>
  cases hB:st2.cs[b]? with
  |none=>rw[hA,hB] at hc;cases hc
  |some B=>
  rw[hA,hB] at hc;simp only at hc;have HC':=ae hc;have zU:=ae (fun h:blk bk2 a=blk bk2 b=>hne (by rw[h]));have hra:=dY.out.ur.us.row a A hA;have hrb:=dY.out.ur.us.row b B hB;have Wv:=ae (And.intro hA hB);have a4:=af hra 4 (pV (A.tm.map ad)) rfl;have b4:=af hrb 4 (pV (B.tm.map ad)) rfl;have HRA:=ae hra;have HRB:=ae hrb;clear ha2 hb2 MM hc hne hA hB hra hrb
  go_wp2_with fail
  go_quiet (fail)
  have IA:=ae (dY.out.ext ((aj.refl _ w2).drewN' nq));clear HRA HRB dY heq a4 b4;generalize w2.drewN nq=wq at*;have hrb:=IA.out.ur.us.row b B Wv.out.2;have b0:=af hrb 0 (pV (B.up.map fun c=>(blk bk2 c,0))) rfl;have fb:=fun i=>au hrb i;have HA':Hid (a<st2.cs.length/\b<st2.cs.length):=ae (by have:=HAB.out;rw[IA.out.ur.us.len] at this;exact this);have vk:Hid (eH T ad S 121 108 bv bn ub bk bk2 (dI st2 b {B with up:=some a}) w (wq.setCell ⟨blk bk2 b,0,none⟩ (fH (blk bk2 a)))):=ae (IA.out.put HA'.out.2 {B with up:=some a} ⟨fun d h=>by injection h with h;rw[<-h];exact HA'.out.1,fun i h=>(IA.out.ur.us.uA B (List.mem_of_getElem? Wv.out.2)).2 i h⟩
   ((aj.refl (fun k=>k=blk bk2 b) wq).setCell (p:=⟨blk bk2 b,0,none⟩) (.inl rfl) _) (by
    have:=setBlock hrb 0 (fH (blk bk2 a));exact this))
  clear hrb
  go_wp2_with fail
  generalize wq.setCell ⟨blk bk2 b,0,none⟩ (fH (blk bk2 a))=w3 at*;clear b0 fb IA;have hA3:(dI st2 b {B with up:=some a}).cs[a]?=some A:=by
   show(st2.cs.set b _)[a]?=some A;rw[List.getElem?_set,if_neg (fun h=>e h.symm)];exact Wv.out.1
  have hB3:(dI st2 b {B with up:=some a}).cs[b]?=some {B with up:=some a}:=by
   show(st2.cs.set b _)[b]?=some _;rw[List.getElem?_set,if_pos rfl,if_pos HA'.out.2]
  have hl3:(dI st2 b {B with up:=some a}).cs.length=st2.cs.length:=List.length_set ..;obtain⟨f_,hst3⟩: ∃x,dI st2 b {B with up:=some a}=x:=⟨_,rfl⟩
  rw[hst3] at vk hA3 hB3 hl3;have H3:=ae (And.intro hst3 (And.intro hA3 (And.intro hB3 hl3)));clear hst3 hA3 hB3 hl3
  go_cut [7] (fun x7 ww=>x7=fH (blk bk2 a)/\Hid (eH T ad S 121 108 bv bn ub bk bk2 (dI f_ a {A with mx:=(bF A B).mx}) w ww))
  case first=>
   have hra:=vk.out.ur.us.row a A H3.out.2.1;have hrb:=vk.out.ur.us.row b _ H3.out.2.2.1;have vK: ∀v,(bF A B).mx=v->Hid (eH T ad S 121 108 bv bn ub bk bk2 (dI f_ a {A with mx:=(bF A B).mx}) w (w3.drew.setCell ⟨blk bk2 a,3,none⟩ (.bool v))):=fun v hv=>ae ((vk.out.ext (aj.refl _ w3).drew).put (by rw[H3.out.2.2.2];exact HA'.out.1) {A with mx:=(bF A B).mx} ((vk.out.ur.us.uA A (List.mem_of_getElem? H3.out.2.1)))
    ((aj.refl (fun k=>k=blk bk2 a) w3.drew).setCell (p:=⟨blk bk2 a,3,none⟩) (.inl rfl) _) (by
     have:=setBlock (w:=w3.drew) hra 3 (.bool v);rw[hv];exact this))
   have a2:=af hra 2 (.string A.so) rfl;have a3:=af hra 3 (.bool A.mx) rfl;have b2:=af hrb 2 (.string B.so) rfl;have b3:=af hrb 3 (.bool B.mx) rfl;have fa:=fun i=>au hra i;have s1:=o9 A.so;have s2:=o9 B.so;have s3:=nK A.so B.so;clear hra hrb;cases hA:A.mx with
   |true=>
    rw[hA] at a3;have HP:=vK true (by unfold bF;simp[hA]);clear vK hA
    go_wp2_with fail
    refine gu 38 (by kernel_rfl) (by kernel_rfl) ?_;simp only[List.take_succ_cons,List.take_zero,List.drop_succ_cons,List.drop_zero]
    repeat (go_big_quiet_step (fail))
    refine wpQuiet_nil ?_;change wpList _ _ _ _ _ w3.drew
    go_wp2_with fail
    go_meet
    case rel=>exact⟨rfl,HP⟩
   |false=>
   rw[hA] at a3;cases hB:B.mx with
   |true=>
    rw[hB] at b3;have HP:=vK true (by unfold bF;simp[hA,hB]);clear vK hA hB
    go_wp2_with fail
    refine gu 38 (by kernel_rfl) (by kernel_rfl) ?_;simp only[List.take_succ_cons,List.take_zero,List.drop_succ_cons,List.drop_zero]
    repeat (go_big_quiet_step (fail))
    refine wpQuiet_nil ?_;change wpList _ _ _ _ _ w3.drew
    go_wp2_with fail
    go_meet
    case rel=>exact⟨rfl,HP⟩
   |false=>
   rw[hB] at b3;by_cases h1:A.so=ah
   .rw [dT h1] at s1;have HP:=vK false (by unfold bF;simp[hA,hB,h1]);clear vK hA hB h1
    go_wp2_with fail
    refine gu 38 (by kernel_rfl) (by kernel_rfl) ?_;simp only[List.take_succ_cons,List.take_zero,List.drop_succ_cons,List.drop_zero]
    repeat (go_big_quiet_step (fail))
    refine wpQuiet_nil ?_;change wpList _ _ _ _ _ w3.drew
    go_wp2_with fail
    go_meet
    case rel=>exact⟨rfl,HP⟩
   .rw [dF h1] at s1;by_cases h2:B.so=ah
    .rw [dT h2] at s2;have HP:=vK false (by unfold bF;simp[hA,hB,h1,h2]);clear vK hA hB h1 h2
     go_wp2_with fail
     refine gu 38 (by kernel_rfl) (by kernel_rfl) ?_;simp only[List.take_succ_cons,List.take_zero,List.drop_succ_cons,List.drop_zero]
     repeat (go_big_quiet_step (fail))
     refine wpQuiet_nil ?_;change wpList _ _ _ _ _ w3.drew
     go_wp2_with fail
     go_meet
     case rel=>exact⟨rfl,HP⟩
    .rw [dF h2] at s2;by_cases h3:A.so=B.so
     .rw [dT h3] at s3;have HP:=vK false (by unfold bF;simp[hA,hB,h1,h2,h3]);clear vK hA hB h1 h2 h3
      go_wp2_with fail
      refine gu 38 (by kernel_rfl) (by kernel_rfl) ?_;simp only[List.take_succ_cons,List.take_zero,List.drop_succ_cons,List.drop_zero]
      repeat (go_big_quiet_step (fail))
      refine wpQuiet_nil ?_;change wpList _ _ _ _ _ w3.drew
      go_wp2_with fail
      go_meet
      case rel=>exact⟨rfl,HP⟩
     .rw [dF h3] at s3;have HP:=vK true (by unfold bF;simp[hA,hB,h1,h2,h3]);clear vK hA hB h1 h2 h3
      go_wp2_with fail
      refine gu 38 (by kernel_rfl) (by kernel_rfl) ?_;simp only[List.take_succ_cons,List.take_zero,List.drop_succ_cons,List.drop_zero]
      repeat (go_big_quiet_step (fail))
      refine wpQuiet_nil ?_;change wpList _ _ _ _ _ w3.drew
      go_wp2_with fail
      go_meet
      case rel=>exact⟨rfl,HP⟩
  case rest=>
   obtain⟨rfl,pI⟩:=hcut;have OT:Hid ((dI f_ a {A with mx:=(bF A B).mx}).cs[a]?=some {A with mx:=(bF A B).mx}/\(dI f_ a {A with mx:=(bF A B).mx}).cs[b]?=some {B with up:=some a}/\a< (dI f_ a {A with mx:=(bF A B).mx}).cs.length/\(∀X,dI (dI f_ a {A with mx:=(bF A B).mx}) a X=dI f_ a X)):=ae (by
    refine⟨?_,?_,?_,fun X=>D6 _ _ _ _⟩
    .show (f_.cs.set a _)[a]?=_;rw[List.getElem?_set,if_pos rfl,if_pos (by rw[H3.out.2.2.2];exact HA'.out.1)]
    .show (f_.cs.set a _)[b]?=_;rw[List.getElem?_set,if_neg e];exact H3.out.2.2.1
    .show a< (f_.cs.set a _).length;rw[List.length_set,H3.out.2.2.2];exact HA'.out.1)
   obtain⟨st6,Y3⟩: ∃x,dI f_ a {A with mx:=(bF A B).mx}=x:=⟨_,rfl⟩
   have xx:=ae Y3;rw[Y3] at pI OT;clear Y3 vk
   rename_i K0 hK0
   refine hK0 _ _ ?_;clear hK0;apply wp_seq_k;intro _ _
   go_cut [] (fun ww=>Hid (eH T ad S 121 108 bv bn ub bk bk2 (dI f_ a {bF A B with tm:=A.tm}) w ww))
   case first=>
    have hra:=pI.out.ur.us.row a _ OT.out.1;have hrb:=pI.out.ur.us.row b _ OT.out.2.1;have a1:=af hra 1 (.string A.nm) rfl;have a2:=af hra 2 (.string A.so) rfl;have b1:=af hrb 1 (.string B.nm) rfl;have b2:=af hrb 2 (.string B.so) rfl;have fa:=fun i=>au hra i;have s1:=o9 A.nm;have s2:=o9 B.nm;have s3:=Hm B.nm A.nm;have Ib:Hid ((A.nm=ah\/(B.nm≠ah/\blt B.nm A.nm=true))->∀W,Ext wc W->eH T ad S 121 108 bv bn ub bk bk2 (dI f_ a {bF A B with tm:=A.tm}) w ((W.setCell ⟨blk bk2 a,1,none⟩ (.string B.nm)).setCell ⟨blk bk2 a,2,none⟩ (.string B.so))):=ae (fun hj W hW=>by
     have h1:=(pI.out.ext hW).put OT.out.2.2.1 {bF A B with tm:=A.tm} (show(∀d,A.up=some d->d<st6.cs.length)/\(∀i,A.tm=some i->i<T.length) from pI.out.ur.us.uA {A with mx:=(bF A B).mx} (List.mem_of_getElem? OT.out.1))
      (((aj.refl (fun k=>k=blk bk2 a) W).setCell (p:=⟨blk bk2 a,1,none⟩) (.inl rfl) (.string B.nm)).setCell (p:=⟨blk bk2 a,2,none⟩) (.inl rfl) (.string B.so)) (by
       have:=setBlock (setBlock (hW.heap hra (fun h=>h)) 1 (.string B.nm)) 2 (.string B.so);have e2:dA ad bk2 {bF A B with tm:=A.tm}=((dA ad bk2 {A with mx:=(bF A B).mx}).set! 1 (.string B.nm)).set! 2 (.string B.so):=by
        unfold bF dA;rw[if_pos hj,if_pos hj];rfl
       rw[e2];simpa using this)
     rw[OT.out.2.2.2] at h1;exact h1)
    have RI:Hid (¬(A.nm=ah\/(B.nm≠ah/\blt B.nm A.nm=true))->dI f_ a {bF A B with tm:=A.tm}=st6):=ae (fun hj=>by
     rw[<-xx.out];unfold bF;rw[if_neg hj,if_neg hj])
    clear hra hrb;by_cases h1:A.nm=ah
    .rw [dT h1] at s1;have HQ:=ae (Ib.out (.inl h1));clear Ib RI s2 s3 h1
     go_wp2_with fail
     go_quiet (fail)
     go_wp2_with fail
     go_region
     go_wp2_with fail
     go_meet
     case rel=>exact ae (HQ.out _ ((aj.refl _ wc).drewN' _))
    .rw [dF h1] at s1;by_cases h2:B.nm=ah
     .rw [dT h2] at s2;have HQ:=ae (RI.out (fun h=>h.elim h1 (fun h=>h.1 h2)));clear Ib RI s3 h1 h2
      go_wp2_with fail
      go_quiet (fail)
      go_wp2_with fail
      go_meet
      case rel=>
       rw[HQ.out];exact ae (pI.out.ext ((aj.refl _ wc).drewN' nq))
     .rw [dF h2] at s2;cases h3:blt B.nm A.nm with
      |true=>
       rw[h3] at s3;have HQ:=ae (Ib.out (.inr ⟨h2,h3⟩));clear Ib RI h1 h2 h3
       go_wp2_with fail
       go_quiet (fail)
       go_wp2_with fail
       go_region
       go_wp2_with fail
       go_meet
       case rel=>exact ae (HQ.out _ ((aj.refl _ wc).drewN' _))
      |false=>
       rw[h3] at s3;have HQ:=ae (RI.out (fun h=>h.elim h1 (fun h=>by rw[h3] at h;cases h.2)));clear Ib RI h1 h2 h3
       go_wp2_with fail
       go_quiet (fail)
       go_wp2_with fail
       go_meet
       case rel=>
        rw[HQ.out];exact ae (pI.out.ext ((aj.refl _ wc).drewN' nq))
   case rest=>
    have dG:=hcut;clear hcut pI;have tq:Hid (({st2 with cs:=(st2.cs.set b {B with up:=some a}).set a (bF A B)}:St)=dI f_ a (bF A B)):=ae (by rw[<-H3.out.1];rfl);have hc:=HC'.out;rw[tq.out] at hc;have Ak:Hid ((dI f_ a {bF A B with tm:=A.tm}).cs[a]?=some {bF A B with tm:=A.tm}/\a< (dI f_ a {bF A B with tm:=A.tm}).cs.length/\(dI f_ a {bF A B with tm:=A.tm}).cs[b]?=some {B with up:=some a}/\(∀X,dI (dI f_ a {bF A B with tm:=A.tm}) a X=dI f_ a X)):=ae (by
     have hlen:a<f_.cs.length:=by rw[H3.out.2.2.2];exact HA'.out.1
     refine⟨?_,?_,?_,fun X=>D6 _ _ _ _⟩
     .show (f_.cs.set a _)[a]?=_;rw[List.getElem?_set,if_pos rfl,if_pos hlen]
     .show a< (f_.cs.set a _).length;rw[List.length_set];exact hlen
     .show (f_.cs.set a _)[b]?=_;rw[List.getElem?_set,if_neg e];exact H3.out.2.2.1)
    obtain⟨oa,hoa⟩: ∃o,A.tm=o:=⟨_,rfl⟩
    obtain⟨ob,hob⟩: ∃o,B.tm=o:=⟨_,rfl⟩
    clear HC' OT xx;cases oa with
    |none=>
     cases ob with
     |none=>
      rw[hoa,hob] at hc;simp only[Option.some.injEq,Prod.mk.injEq] at hc;obtain⟨rfl,rfl⟩:=hc;have hra:=dG.out.ur.us.row a _ Ak.out.1;have a4:=af hra 4 (.pointer none) (by show some (pV (Option.map ad A.tm))=_;rw[hoa];rfl);have fa:=fun i=>au hra i;have e9:pV (Option.map ad A.tm)= .pointer none:=by rw[hoa];rfl
      have e10:pV (Option.map ad B.tm)= .pointer none:=by rw[hob];rfl
      have HP:Hid (eH T ad S 121 108 bv bn ub bk bk2 (dI f_ a (bF A B)) w (wc.setCell ⟨blk bk2 a,4,none⟩ (.pointer none))):=ae (by
       have h1:=dG.out.put Ak.out.2.1 (bF A B) ⟨(dG.out.ur.us.uA _ (List.mem_of_getElem? Ak.out.1)).1,fun i hi=>(dG.out.ur.us.uA _ (List.mem_of_getElem? Ak.out.2.2.1)).2 i (by unfold bF at hi;simp only[hoa] at hi;exact hi)⟩
        ((aj.refl (fun k=>k=blk bk2 a) wc).setCell (p:=⟨blk bk2 a,4,none⟩) (.inl rfl) (.pointer none)) (by
         have:=setBlock hra 4 (.pointer none);have e2:dA ad bk2 (bF A B)=(dA ad bk2 {bF A B with tm:=A.tm}).set! 4 (.pointer none):=by
          have e3:(bF A B).tm=B.tm:=by unfold bF;simp only[hoa]
          unfold dA;rw[e3,e10];rfl
         rw[e2];simpa using this)
       rw[Ak.out.2.2.2] at h1;exact h1)
      rw[e9,e10];clear hra e9 e10 hoa hob
      go_wp2_with fail
      go_ret;exact⟨rfl,bk2,HP.out⟩
     |some y=>
      rw[hoa,hob] at hc;simp only[Option.some.injEq,Prod.mk.injEq] at hc;obtain⟨rfl,rfl⟩:=hc;have hra:=dG.out.ur.us.row a _ Ak.out.1;have a4:=af hra 4 (.pointer none) (by show some (pV (Option.map ad A.tm))=_;rw[hoa];rfl);have fa:=fun i=>au hra i;have e9:pV (Option.map ad A.tm)= .pointer none:=by rw[hoa];rfl
      have e10:pV (Option.map ad B.tm)=iW (ad y):=by rw[hob];rfl
      have HP:Hid (eH T ad S 121 108 bv bn ub bk bk2 (dI f_ a (bF A B)) w (wc.setCell ⟨blk bk2 a,4,none⟩ (iW (ad y)))):=ae (by
       have h1:=dG.out.put Ak.out.2.1 (bF A B) ⟨(dG.out.ur.us.uA _ (List.mem_of_getElem? Ak.out.1)).1,fun i hi=>(dG.out.ur.us.uA _ (List.mem_of_getElem? Ak.out.2.2.1)).2 i (by unfold bF at hi;simp only[hoa] at hi;exact hi)⟩
        ((aj.refl (fun k=>k=blk bk2 a) wc).setCell (p:=⟨blk bk2 a,4,none⟩) (.inl rfl) (iW (ad y))) (by
         have:=setBlock hra 4 (iW (ad y));have e2:dA ad bk2 (bF A B)=(dA ad bk2 {bF A B with tm:=A.tm}).set! 4 (iW (ad y)):=by
          have e3:(bF A B).tm=B.tm:=by unfold bF;simp only[hoa]
          unfold dA;rw[e3,e10];rfl
         rw[e2];simpa using this)
       rw[Ak.out.2.2.2] at h1;exact h1)
      rw[e9,e10];clear hra e9 e10 hoa hob
      go_wp2_with fail
      go_ret;exact⟨rfl,bk2,HP.out⟩
    |some x=>
     have hjt:({bF A B with tm:=A.tm}:Cl)=bF A B:=by unfold bF;simp only[hoa]
     rw[hjt] at dG;have e9:pV (Option.map ad A.tm)= .pointer (some ⟨(ad x).1,(ad x).2,none⟩):=by rw[hoa];rfl
     have hxl:x<T.length:=(dG.out.ur.us.uA _ (List.mem_of_getElem? (show(dI f_ a (bF A B)).cs[a]?=some (bF A B) from by rw[<-hjt];exact Ak.out.1))).2 x (by rw[<-hjt];exact hoa);have hyl: ∀y,ob=some y->y<T.length:=fun y hy=>(dG.out.ur.us.uA _ (List.mem_of_getElem? (show(dI f_ a (bF A B)).cs[b]?=some {B with up:=some a} from by rw[<-hjt];exact Ak.out.2.2.1))).2 y (by show B.tm=some y;rw[hob,hy]);clear hjt Ak;cases ob with
     |none=>
      rw[hoa,hob] at hc;simp only[Option.some.injEq,Prod.mk.injEq] at hc;obtain⟨rfl,rfl⟩:=hc;have e10:pV (Option.map ad B.tm)= .pointer none:=by rw[hob];rfl
      rw[e9,e10];clear e9 e10 hoa hob
      go_wp2_with fail
      go_ret;exact⟨rfl,bk2,dG.out⟩
     |some y=>
      rw[hoa,hob] at hc;simp only at hc;have hyl:=hyl y rfl;have e10:pV (Option.map ad B.tm)= .pointer (some ⟨(ad y).1,(ad y).2,none⟩):=by rw[hob];rfl
      rw[e9,e10];clear e9 e10 hoa hob;cases hX:T[x]? with
      |none=>rw[List.getElem?_eq_getElem hxl] at hX;cases hX
      |some X=>
      cases hY:T[y]? with
      |none=>rw[List.getElem?_eq_getElem hyl] at hY;cases hY
      |some Y=>
      rw[hX,hY] at hc;simp only at hc;have OU:=ae (And.intro hX hY);have VD:=hTB x X hX;obtain⟨x0,_,xa,xc,x2,_⟩:=dG.out.ur.nd.row x X hX;obtain⟨y0,_,ya,yc,y2,_⟩:=dG.out.ur.nd.row y Y hY;have s3:=nK X.nm Y.nm;clear hX hY hxl hyl;by_cases h1:X.nm=Y.nm
      .rw [dT h1] at s3;by_cases h2:X.ks.length=Y.ks.length
       .rw [if_neg (by rintro(h|h);exact h h1;exact h h2)] at hc;have z1:decide (X.ks.length=Y.ks.length)=true:=dT h2;have z2:((X.ks.length:Int) !=(Y.ks.length:Int))=false:=by rw[h2];simp
        have Hz:=ae hc;have ND:=ae h2;clear h1 hc h2
        go_wp2_with fail
        go_quiet (fail)
        have NQ:Hid (eH T ad S 121 108 bv bn ub bk bk2 (dI f_ a (bF A B)) w (wc.drewN nq)):=ae (dG.out.ext ((aj.refl _ wc).drewN' nq))
        go_wp2_with fail
        clear s3 z1 z2 x0 x2 y0 y2;generalize wc.drewN nq=w9 at*
        go_loopg [147] X.ks.length (fun gk iv wr=> ∃(k:Nat) (stk:St) (vG:List Nat),iv= .int .i64 (k:Int)/\gk=X.ks.length-k/\k<=X.ks.length/\Hid (eH T ad S 121 108 bv bn ub bk vG stk w wr)/\Hid (RJ (KU T F) stk (X.ks.drop k) (Y.ks.drop k)=some (st',ok)))
        case atStart=>exact⟨0,_,_,rfl,rfl,Nat.zero_le _,NQ,Hz⟩
        case round=>
         clear NQ Hz dG tq H3;obtain⟨k,stk,vG,rfl,rfl,hk,HU,HCk⟩:=hrel;have hc:=HCk.out;by_cases hlt:k<X.ks.length
         .have hlt2:k<Y.ks.length:=by rw[<-ND.out];exact hlt
          obtain⟨_,_,xa',xc',x2,hxk⟩:=HU.out.ur.nd.row x X OU.out.1;obtain⟨_,_,ya',yc',y2,hyk⟩:=HU.out.ur.nd.row y Y OU.out.2;obtain⟨xg,xo,rfl,D7⟩:=hxk (by omega);obtain⟨yg,yo,rfl,afK⟩:=hyk (by omega);have hxa:=(D7 k _ (List.getElem?_eq_getElem hlt)).2;have hya:=(afK k _ (List.getElem?_eq_getElem hlt2)).2;rw[List.drop_eq_getElem_cons hlt,List.drop_eq_getElem_cons hlt2] at hc;unfold RJ at hc;cases hun:KU T F stk X.ks[k] Y.ks[k] with
          |none=>rw[hun] at hc;cases hc
          |some q=>
          obtain⟨st1',ok1⟩:=q;rw[hun] at hc;have HI:=ae (fun W (hW:Ext wr W)=>HIH.out vG stk st1' W X.ks[k] Y.ks[k] ok1 (HU.out.ur.ext hW) hun);rw[hxa,hya] at HI;have z0:(0:Int)<=(k:Int):=by omega
          have z1:(k:Int)< (X.ks.length:Int):=by omega
          have z1':(k:Int)< (Y.ks.length:Int):=by omega
          have z2:decide ((k:Int)< (X.ks.length:Int))=true:=dT z1;have z2':decide (k<X.ks.length)=true:=dT hlt;have HC2:=ae hc;clear hxk hyk D7 afK hxa hya hun hc
          go_wp2_with fail
          refine gu 13 (by kernel_rfl) (by kernel_rfl) ?_;simp only[List.take_succ_cons,List.take_zero,List.drop_succ_cons,List.drop_zero]
          repeat (go_big_quiet_step (fail))
          refine wpQuiet_nil ?_;change wpList _ _ _ _ _ wr.drew
          go_wp2_with fail
          refine(HI.out wr.drew (aj.refl _ wr).drew).mono ?_;rintro e w5 ⟨rfl,bk5,WJ⟩;have gY:=ae ((HU.out.ext (aj.refl _ wr).drew).trans WJ);have hc:=HC2.out;clear WJ HI HC2 x2 y2;cases ok1 with
          |false=>
           simp only[Option.some.injEq,Prod.mk.injEq] at hc;obtain⟨rfl,rfl⟩:=hc
           go_wp2_with fail
           go_ret;exact⟨rfl,bk5,gY.out⟩
          |true=>
           simp only at hc;have HC3:=ae hc;clear hc
           go_wp2_with fail
           go_roundg (X.ks.length- (k+1))
           case measure=>omega
           case rel=>exact⟨k+1,_,_,by go_num,rfl,by omega,gY,HC3⟩
         .obtain rfl:k=X.ks.length:=by omega
          have z2:decide ((X.ks.length:Int)< (X.ks.length:Int))=false:=dF (by omega);rw[List.drop_length] at hc;have hun: ∀ys,RJ (KU T F) stk [] ys=some (stk,true):=fun ys=>by unfold RJ;rfl
          rw[hun] at hc;simp only[Option.some.injEq,Prod.mk.injEq] at hc;obtain⟨rfl,rfl⟩:=hc;clear hun
          go_wp2_with fail
          go_ret;exact⟨rfl,vG,HU.out⟩
       .rw [if_pos (.inr h2)] at hc;have z1:decide (X.ks.length=Y.ks.length)=false:=dF h2;have z2:((X.ks.length:Int) !=(Y.ks.length:Int))=true:=by rw[bne_iff_ne];intro h;exact h2 (by omega)
        clear h1 h2;simp only[Option.some.injEq,Prod.mk.injEq] at hc;obtain⟨rfl,rfl⟩:=hc
        go_wp2_with fail
        go_quiet (fail)
        go_wp2_with fail
        go_ret;exact⟨rfl,bk2,dG.out.ext ((aj.refl _ wc).drewN' nq)⟩
      .rw [dF h1] at s3;rw[if_pos (.inl h1)] at hc;clear h1;simp only[Option.some.injEq,Prod.mk.injEq] at hc;obtain⟨rfl,rfl⟩:=hc
       go_wp2_with fail
       go_quiet (fail)
       go_wp2_with fail
       go_ret;exact⟨rfl,bk2,dG.out.ext ((aj.refl _ wc).drewN' nq)⟩
end Go.Proofs.YtlkcjmaiahnodaaGreatDoor
