/- The texts ShelfS I99 N1 N2 N3 N4 N5, one behind the other. -/
import Derived.Test.YtlkcjmaiahnodaaGreatDoorYAF
import Derived.Ground.SlsfProg
import Derived.Shelf.SlSortCmp.InsertionK
import Derived.Shelf.SlSortCmp.SiftDownK
import Derived.Shelf.SlSortCmp.HeapSortK
import Derived.Shelf.SlSortCmp.MedianK
import Derived.Shelf.SlSortCmp.PivotK
import Derived.Shelf.SlSortCmp.ReverseRangeK
import Derived.Shelf.SlSortCmp.PartialInsertionK
import Derived.Shelf.SlSortCmp.PartitionEqualK
import Derived.Shelf.SlSortCmp.PartitionK
import Derived.Shelf.SlSortCmp.PdqK
import Derived.Shelf.SlSortCmp.WholeK
import Derived.Shelf.SlSortCmp.NoneTotal
import Derived.Test.YtlkcjmaiahnodaaGreatDoorYAG
import Derived.Test.YtlkcjmaiahnodaaGreatDoorYAH
import Derived.Test.YtlkcjmaiahnodaaGreatDoorYAC
import Derived.Maps.RangeRun
import Derived.Test.YtlkcjmaiahnodaaGreatDoorYAB
import Derived.Test.YtlkcjmaiahnodaaGreatDoorYAD
import Derived.Deep.DeepCutAuto
import Derived.BigQuiet
set_option maxRecDepth 100000
set_option maxHeartbeats 8000000
set_option linter.unusedVariables false
set_option linter.unusedSimpArgs false
namespace Go.Proofs
section
open Go.Shelf
def Tryz.laysSlF06_f97_ren:Go.Shelf.Ren:=⟨fun|6=>97|15=>160|14=>159|28=>207|29=>208|20=>199|21=>200|22=>201|23=>202|24=>203|25=>204|26=>205|27=>206|46=>231|47=>232|48=>233|49=>234|50=>235|57=>244|n=>n,fun|22=>27|24=>93|25=>141|3=>3|39=>195|0=>0|53=>236|55=>238|4=>4|46=>230|45=>229|50=>136|5=>5|9=>9|66=>251|70=>96|76=>263|77=>191|n=>n,fun|n=>n⟩
theorem Tryz.laysSlF06_f97:Go.Proofs.SlLaysF0.n6 Tryz.prog Tryz.laysSlF06_f97_ren:={
 mixed:=by kernel_rfl
 f6:=⟨Tryz.f97.name,by decide,Tryz.func97.trans (congrArg some (by kernel_rfl))⟩
 f14:=⟨Tryz.f159.name,by decide,Tryz.func159.trans (congrArg some (by kernel_rfl))⟩
 f15:=Tryz.func160.trans (congrArg some (by kernel_rfl))
 f20:=⟨Tryz.f199.name,by decide,Tryz.func199.trans (congrArg some (by kernel_rfl))⟩
 f21:=⟨Tryz.f200.name,by decide,Tryz.func200.trans (congrArg some (by kernel_rfl))⟩
 f22:=⟨Tryz.f201.name,by decide,Tryz.func201.trans (congrArg some (by kernel_rfl))⟩
 f23:=⟨Tryz.f202.name,by decide,Tryz.func202.trans (congrArg some (by kernel_rfl))⟩
 f24:=⟨Tryz.f203.name,by decide,Tryz.func203.trans (congrArg some (by kernel_rfl))⟩
 f25:=⟨Tryz.f204.name,by decide,Tryz.func204.trans (congrArg some (by kernel_rfl))⟩
 f26:=⟨Tryz.f205.name,by decide,Tryz.func205.trans (congrArg some (by kernel_rfl))⟩
 f27:=⟨Tryz.f206.name,by decide,Tryz.func206.trans (congrArg some (by kernel_rfl))⟩
 f28:=Tryz.func207.trans (congrArg some (by kernel_rfl))
 f29:=Tryz.func208.trans (congrArg some (by kernel_rfl))
 f46:=⟨Tryz.f231.name,by decide,Tryz.func231.trans (congrArg some (by kernel_rfl))⟩
 f47:=Tryz.func232.trans (congrArg some (by kernel_rfl))
 f48:=Tryz.func233.trans (congrArg some (by kernel_rfl))
 f49:=⟨Tryz.f234.name,by decide,Tryz.func234.trans (congrArg some (by kernel_rfl))⟩
 f50:=⟨Tryz.f235.name,by decide,Tryz.func235.trans (congrArg some (by kernel_rfl))⟩
 f57:=⟨Tryz.f244.name,by decide,Tryz.func244.trans (congrArg some (by kernel_rfl))⟩
 t0:=Tryz.underlying0
 a0:=Tryz.isAgg0
 z0:=Tryz.sizeOf0
 v0:=Tryz.zeroValue0
 t3:=Tryz.underlying3
 a3:=Tryz.isAgg3
 z3:=Tryz.sizeOf3
 v3:=Tryz.zeroValue3
 t4:=Tryz.underlying4
 a4:=Tryz.isAgg4
 z4:=Tryz.sizeOf4
 v4:=Tryz.zeroValue4
 t5:=Tryz.underlying5
 a5:=Tryz.isAgg5
 z5:=Tryz.sizeOf5
 v5:=Tryz.zeroValue5
 t9:=Tryz.underlying9
 a9:=Tryz.isAgg9
 z9:=Tryz.sizeOf9
 v9:=Tryz.zeroValue9
 t22:=Tryz.underlying27
 a22:=Tryz.isAgg27
 z22:=Tryz.sizeOf27
 v22:=Tryz.zeroValue27
 t25:=Tryz.underlying141
 a25:=Tryz.isAgg141
 z25:=Tryz.sizeOf141
 v25:=Tryz.zeroValue141
 t39:=Tryz.underlying195
 a39:=Tryz.isAgg195
 z39:=Tryz.sizeOf195
 v39:=Tryz.zeroValue195
 t45:=Tryz.underlying229
 a45:=Tryz.isAgg229
 z45:=Tryz.sizeOf229
 v45:=Tryz.zeroValue229
 t46:=Tryz.underlying230
 a46:=Tryz.isAgg230
 z46:=Tryz.sizeOf230
 v46:=Tryz.zeroValue230
 t50:=Tryz.underlying136
 a50:=Tryz.isAgg136
 z50:=Tryz.sizeOf136
 v50:=Tryz.zeroValue136
 t53:=Tryz.underlying236
 a53:=Tryz.isAgg236
 z53:=Tryz.sizeOf236
 v53:=Tryz.zeroValue236
 t55:=Tryz.underlying238
 a55:=Tryz.isAgg238
 z55:=Tryz.sizeOf238
 v55:=Tryz.zeroValue238
 t66:=Tryz.underlying251
 a66:=Tryz.isAgg251
 z66:=Tryz.sizeOf251
 v66:=Tryz.zeroValue251
 t70:=Tryz.underlying96
 a70:=Tryz.isAgg96
 z70:=Tryz.sizeOf96
 v70:=Tryz.zeroValue96
 t76:=Tryz.underlying263
 a76:=Tryz.isAgg263
 z76:=Tryz.sizeOf263
 v76:=Tryz.zeroValue263
 t77:=Tryz.underlying191
 a77:=Tryz.isAgg191
 z77:=Tryz.sizeOf191
 v77:=Tryz.zeroValue191}
def Tryz.laysSlF06_f140_ren:Go.Shelf.Ren:=⟨fun|6=>140|15=>160|14=>191|28=>207|29=>208|20=>220|21=>221|22=>222|23=>223|24=>224|25=>225|26=>226|27=>227|46=>238|47=>232|48=>233|49=>239|50=>240|57=>245|n=>n,fun|22=>111|24=>116|25=>182|3=>3|39=>195|0=>0|53=>236|55=>238|4=>4|46=>230|45=>229|50=>136|5=>5|9=>9|66=>251|70=>96|76=>263|77=>191|n=>n,fun|n=>n⟩
theorem Tryz.laysSlF06_f140:Go.Proofs.SlLaysF0.n6 Tryz.prog Tryz.laysSlF06_f140_ren:={
 mixed:=by kernel_rfl
 f6:=⟨Tryz.f140.name,by decide,Tryz.func140.trans (congrArg some (by kernel_rfl))⟩
 f14:=⟨Tryz.f191.name,by decide,Tryz.func191.trans (congrArg some (by kernel_rfl))⟩
 f15:=Tryz.func160.trans (congrArg some (by kernel_rfl))
 f20:=⟨Tryz.f220.name,by decide,Tryz.func220.trans (congrArg some (by kernel_rfl))⟩
 f21:=⟨Tryz.f221.name,by decide,Tryz.func221.trans (congrArg some (by kernel_rfl))⟩
 f22:=⟨Tryz.f222.name,by decide,Tryz.func222.trans (congrArg some (by kernel_rfl))⟩
 f23:=⟨Tryz.f223.name,by decide,Tryz.func223.trans (congrArg some (by kernel_rfl))⟩
 f24:=⟨Tryz.f224.name,by decide,Tryz.func224.trans (congrArg some (by kernel_rfl))⟩
 f25:=⟨Tryz.f225.name,by decide,Tryz.func225.trans (congrArg some (by kernel_rfl))⟩
 f26:=⟨Tryz.f226.name,by decide,Tryz.func226.trans (congrArg some (by kernel_rfl))⟩
 f27:=⟨Tryz.f227.name,by decide,Tryz.func227.trans (congrArg some (by kernel_rfl))⟩
 f28:=Tryz.func207.trans (congrArg some (by kernel_rfl))
 f29:=Tryz.func208.trans (congrArg some (by kernel_rfl))
 f46:=⟨Tryz.f238.name,by decide,Tryz.func238.trans (congrArg some (by kernel_rfl))⟩
 f47:=Tryz.func232.trans (congrArg some (by kernel_rfl))
 f48:=Tryz.func233.trans (congrArg some (by kernel_rfl))
 f49:=⟨Tryz.f239.name,by decide,Tryz.func239.trans (congrArg some (by kernel_rfl))⟩
 f50:=⟨Tryz.f240.name,by decide,Tryz.func240.trans (congrArg some (by kernel_rfl))⟩
 f57:=⟨Tryz.f245.name,by decide,Tryz.func245.trans (congrArg some (by kernel_rfl))⟩
 t0:=Tryz.underlying0
 a0:=Tryz.isAgg0
 z0:=Tryz.sizeOf0
 v0:=Tryz.zeroValue0
 t3:=Tryz.underlying3
 a3:=Tryz.isAgg3
 z3:=Tryz.sizeOf3
 v3:=Tryz.zeroValue3
 t4:=Tryz.underlying4
 a4:=Tryz.isAgg4
 z4:=Tryz.sizeOf4
 v4:=Tryz.zeroValue4
 t5:=Tryz.underlying5
 a5:=Tryz.isAgg5
 z5:=Tryz.sizeOf5
 v5:=Tryz.zeroValue5
 t9:=Tryz.underlying9
 a9:=Tryz.isAgg9
 z9:=Tryz.sizeOf9
 v9:=Tryz.zeroValue9
 t22:=Tryz.underlying111
 a22:=Tryz.isAgg111
 z22:=Tryz.sizeOf111
 v22:=Tryz.zeroValue111
 t25:=Tryz.underlying182
 a25:=Tryz.isAgg182
 z25:=Tryz.sizeOf182
 v25:=Tryz.zeroValue182
 t39:=Tryz.underlying195
 a39:=Tryz.isAgg195
 z39:=Tryz.sizeOf195
 v39:=Tryz.zeroValue195
 t45:=Tryz.underlying229
 a45:=Tryz.isAgg229
 z45:=Tryz.sizeOf229
 v45:=Tryz.zeroValue229
 t46:=Tryz.underlying230
 a46:=Tryz.isAgg230
 z46:=Tryz.sizeOf230
 v46:=Tryz.zeroValue230
 t50:=Tryz.underlying136
 a50:=Tryz.isAgg136
 z50:=Tryz.sizeOf136
 v50:=Tryz.zeroValue136
 t53:=Tryz.underlying236
 a53:=Tryz.isAgg236
 z53:=Tryz.sizeOf236
 v53:=Tryz.zeroValue236
 t55:=Tryz.underlying238
 a55:=Tryz.isAgg238
 z55:=Tryz.sizeOf238
 v55:=Tryz.zeroValue238
 t66:=Tryz.underlying251
 a66:=Tryz.isAgg251
 z66:=Tryz.sizeOf251
 v66:=Tryz.zeroValue251
 t70:=Tryz.underlying96
 a70:=Tryz.isAgg96
 z70:=Tryz.sizeOf96
 v70:=Tryz.zeroValue96
 t76:=Tryz.underlying263
 a76:=Tryz.isAgg263
 z76:=Tryz.sizeOf263
 v76:=Tryz.zeroValue263
 t77:=Tryz.underlying191
 a77:=Tryz.isAgg191
 z77:=Tryz.sizeOf191
 v77:=Tryz.zeroValue191}
open Go.RowKit Go.Lib Go.Sort in
theorem Tryz.slices_SortFunc_f97 {α:Type} [Inhabited α] (k:Nat) (aE: ∀w,(isAgg (Tryz.laysSlF06_f97_ren.t 24)).run Tryz.prog w= .ok true w) (zE: ∀w,(Go.sizeOf (Tryz.laysSlF06_f97_ren.t 24)).run Tryz.prog w= .ok k w) (enc:α->List Value) (hk: ∀x,(enc x).length=k) (h1: ∀x,∀v∈enc x,v.oneCell'=true) (cf:α->α->Int) (hO:SWO (ltOf cf)) (g:Nat) (cb:Array Value) (blk off cap:Nat) (d:Array α) (w:World) (eg: ∀args w,(callFunc g args).run Tryz.prog w= .ok (.enter g args) w) (hcmp:CmpLays Tryz.prog g cb enc k cf blk off d.size w) (hH:HoldsK enc k w blk off d) (hblk:blk<w.heap.size) (hsz:d.size<4611686018427387904):
  Calls Tryz.prog 97 #[.slice (some ⟨blk,off,none⟩) d.size cap,.func (.func g) #[] cb] w fun e w'=>
   e= .returned (.tuple #[])/\∃d' n os,PermIn 0 d.size d d'/\SortedIn (ltOf cf) 0 d.size d'/\w'=sortWorldK enc k w blk off n d' os:=AnyQ.slices_SortFunc Tryz.laysSlF06_f97 k aE zE enc hk h1 cf hO g cb blk off cap d w eg hcmp hH hblk hsz
open Go.RowKit Go.Lib Go.Sort in
theorem Tryz.slices_SortFunc_f140 {α:Type} [Inhabited α] (k:Nat) (aE: ∀w,(isAgg (Tryz.laysSlF06_f140_ren.t 24)).run Tryz.prog w= .ok true w) (zE: ∀w,(Go.sizeOf (Tryz.laysSlF06_f140_ren.t 24)).run Tryz.prog w= .ok k w) (enc:α->List Value) (hk: ∀x,(enc x).length=k) (h1: ∀x,∀v∈enc x,v.oneCell'=true) (cf:α->α->Int) (hO:SWO (ltOf cf)) (g:Nat) (cb:Array Value) (blk off cap:Nat) (d:Array α) (w:World) (eg: ∀args w,(callFunc g args).run Tryz.prog w= .ok (.enter g args) w) (hcmp:CmpLays Tryz.prog g cb enc k cf blk off d.size w) (hH:HoldsK enc k w blk off d) (hblk:blk<w.heap.size) (hsz:d.size<4611686018427387904):
  Calls Tryz.prog 140 #[.slice (some ⟨blk,off,none⟩) d.size cap,.func (.func g) #[] cb] w fun e w'=>
   e= .returned (.tuple #[])/\∃d' n os,PermIn 0 d.size d d'/\SortedIn (ltOf cf) 0 d.size d'/\w'=sortWorldK enc k w blk off n d' os:=AnyQ.slices_SortFunc Tryz.laysSlF06_f140 k aE zE enc hk h1 cf hO g cb blk off cap d w eg hcmp hH hblk hsz
open Go.RowKit Go.Lib Go.Sort in
theorem Tryz.slices_SortFunc_none_f97 {α:Type} [Inhabited α] (p:Option Addr) (cap:Nat) (fv:Value) (w:World):
  Calls Tryz.prog 97 #[.slice p 0 cap,fv] w fun e w'=>e= .returned (.tuple #[])/\w'=w:=AnyF.slices_SortFunc_none Tryz.laysSlF06_f97 p cap fv w
open Go.RowKit Go.Lib Go.Sort in
theorem Tryz.slices_SortFunc_none_f140 {α:Type} [Inhabited α] (p:Option Addr) (cap:Nat) (fv:Value) (w:World):
  Calls Tryz.prog 140 #[.slice p 0 cap,fv] w fun e w'=>e= .returned (.tuple #[])/\w'=w:=AnyF.slices_SortFunc_none Tryz.laysSlF06_f140 p cap fv w
end
end Go.Proofs
namespace Go.Proofs.YtlkcjmaiahnodaaGreatDoor
open Go.RowKit Go.Hw Go Tm
section
open Go.Sort Go.Proofs Go.ChangeMaps
abbrev zW (f:Vd):List Value:=[.string f.1,.string f.2]
theorem U5 (L:List Vd):bV L=L.flatMap zW:=rfl
theorem aez (x y:Vd) (w:World):Calls Tryz.prog 141 #[.agg (zW x).toArray,.agg (zW y).toArray] w fun e w'=>e= .returned (.int .i64 (Eu (Prod.fst:Vd->By) x y))/\∃q os',w'=grow (w.drewN q) os':=by
 have hb0:=aB (ay w (.cells #[.string x.1,.string x.2] 116)) (.cells #[.string y.1,.string y.2] 116);have hb1:=alloc_at (w.alloc (.cells #[.string x.1,.string x.2] 116)) (.cells #[.string y.1,.string y.2] 116) (n:=w.heap.size+1) (by simp);have c0:=aj hb0 0 (.string x.1) rfl;have d0:=aj hb1 0 (.string y.1) rfl;have hc:=fun W=>Tryz.strings_Compare x.1 y.1 W;change ∀W,Calls _ _ _ W fun e w'=>e= .returned (.int .i64 (Eu (Prod.fst:Vd->By) x y))/\w'=W at hc;have HC:=ah hc;generalize Eu (Prod.fst:Vd->By) x y=r at*;clear hb0 hb1 hc
 go_enter Tryz.func141,Tryz.ntmps141
 go_wp2_with fail
 refine(HC.out _).mono ?_;rintro e w4 ⟨rfl,rfl⟩
 go_wp2_with fail
 go_ret;exact⟨rfl,0,_,by rw[alloc_eq_grow,alloc_eq_grow,grow_grow];rfl⟩
theorem acS (L:List Vd) (base:Nat) (v:Value) (w:World) (hO:w.ownsRow base 116 2 v L.length (bV L)) (hd:L.Pairwise fun x y=>x.1≠y.1) (hl:L.length<=1000000):
  Calls Tryz.prog 140 #[v,.func (.func 141) #[] #[]] w fun e w'=>e= .returned (.tuple #[])/\∃L',AscK (Prod.fst:Vd->By) L'/\L'.Perm L/\dL (fun k=>v.ownBlock=some k) w' v L'/\aC (fun k=>v.ownBlock=some k) w w':=by
 by_cases h0:0<L.length
 .obtain ⟨g,cap,rfl,hb,hgl,hnc,hcell,hfz⟩:=aa_ hO h0;have hH:HoldsK zW 2 w g 0 L.toArray:=Me zW 2 (fun _=>rfl) (fun j hj=>⟨by rw[Nat.zero_add];exact hcell j hj,hfz _⟩);have eg: ∀args w,(callFunc 141 args).run Tryz.prog w= .ok (.enter 141 args) w:=enters_of Tryz.func141 (by kernel_rfl) rfl;have h:=Tryz.slices_SortFunc_f140 2 (fun w=>Tryz.isAgg116 w) (fun w=>Tryz.sizeOf116 w) zW (fun _=>rfl) (fun x u hu=>by simp[zW] at hu;rcases hu with h|h<;>(subst h;rfl)) (Eu (Prod.fst:Vd->By)) (SX _) 141 #[] g 0 cap L.toArray w eg (fun m os dk _ x y=>aez x y _) hH hgl (by simp;omega);rw[show L.toArray.size=L.length by simp] at h;refine h.mono ?_;rintro e w' ⟨rfl,d',n,os,hp,hs,rfl⟩;have hsz:d'.size=L.length:=by have:=hp.1;simpa using this
  obtain⟨ha,hperm⟩:=OZ (d:=L.toArray) (Prod.fst:Vd->By) (by rw[show L.toArray.size=L.length by simp];exact hp) (by rw[show L.toArray.size=L.length by simp];exact hs) (by simpa using hd);have hl':d'.toList.length=L.length:=by simpa using hsz
  refine⟨rfl,d'.toList,ha,by simpa using hperm,?_,(MB zW 2 w g 0 n d' os).mono (fun k _ e=>by rw[e];rfl)⟩;have hH':=holdsK_sortWorldK_c zW 2 w g 0 L.toArray d' n os hH hgl (by simpa using hsz);unfold dL;rw[hl'];refine aG.mk' (by rw[U6,hl']) rfl hnc (fun _=>rfl) (fun j hj=>?_);rw[U5];exact(Ew zW 2 (fun _=>rfl) hH' j (by rw[hsz];exact hj)).1
 .have hl0:L=[]:=List.eq_nil_of_length_eq_zero (by omega);subst hl0;obtain⟨a,cap,rfl⟩:=bF hO;have h:=Tryz.slices_SortFunc_none_f140 (α:=Vd) a cap (.func (.func 141) #[] #[]) w;refine h.mono ?_;rintro e w' ⟨rfl,rfl⟩;exact⟨rfl,[],List.Pairwise.nil,List.Perm.refl _,aG.fM hO,aC.refl _ _⟩
def rW (t:Tm):List Vd×Int:=if wf aJ t=true then(aV t,0) else([],1)
theorem RS {t:Tm} {m:List Vd} (h:jW t=some m):m.Pairwise (fun p q=>p.1≠q.1):=by
 have hnil:Cons []:=fun f hf=>by cases hf
 obtain⟨h1,_⟩:=BK (vl (bC t)) [] hnil;exact(h1 m h).2.2 List.Pairwise.nil
theorem Jd {t:Tm} {m:List Vd} (h:jW t=some m):AscK (Prod.fst:Vd->By) (aV t)/\∀f,f∈aV t<->f∈m:=by
 obtain⟨_,h1⟩:=BL (vl (bC t)) [] [] List.Pairwise.nil (fun _=>rfl) (fun _=>Iff.rfl);obtain⟨a,_,b⟩:=h1 m h;exact⟨a,b⟩
theorem zB: ∀(fs m m':List Vd),jB m fs=some m'->m'.length<=m.length+fs.length
 |[],m,m',h=>by injection h with h;rw[<-h];simp
 |f::fs,m,m',h=>by
  unfold jB at h;cases hg:iy m f.1 with
  |none=>
   rw[hg] at h;have:=zB fs _ _ h;simp only[List.length_append,List.length_cons,List.length_nil] at this⊢;omega
  |some s=>
   rw[hg] at h;simp only at h;split at h
   .have:=zB fs _ _ h;simp only[List.length_cons];omega
   .cases h
theorem Xa {es:List MapEntry} {m:List Vd} (h:es.map (fun e=>(e.key,e.val))=(sS m).map (fun p=>(Value.string p.1,p.2))) {e:MapEntry} (he:e∈es): ∃f∈m,e.key= .string f.1/\e.val= .string f.2:=by
 have h1:(e.key,e.val)∈(sS m).map (fun p=>(Value.string p.1,p.2)):=by
  rw[<-h];exact List.mem_map.2 ⟨e,he,rfl⟩
 obtain⟨p,hp,h2⟩:=List.mem_map.1 h1;obtain⟨f,hf,rfl⟩:=List.mem_map.1 hp;injection h2 with h3 h4
 exact⟨f,hf,h3.symm,h4.symm⟩
theorem Xb {es:List MapEntry} {m:List Vd} (h:es.map (fun e=>(e.key,e.val))=(sS m).map (fun p=>(Value.string p.1,p.2))) {f:Vd} (hf:f∈m): ∃e∈es,e.key= .string f.1:=by
 have h1:(Value.string f.1,Value.string f.2)∈es.map (fun e=>(e.key,e.val)):=by
  rw[h];exact List.mem_map.2 ⟨(f.1,.string f.2),List.mem_map.2 ⟨f,hf,rfl⟩,rfl⟩
 obtain⟨e,he,h2⟩:=List.mem_map.1 h1;injection h2 with h3 _
 exact⟨e,he,h3⟩
theorem Zj {es:List MapEntry} {m:List Vd} (h:es.map (fun e=>(e.key,e.val))=(sS m).map (fun p=>(Value.string p.1,p.2))) (hd:m.Pairwise (fun p q=>p.1≠q.1)) {x y:MapEntry} (hx:x∈es) (hy:y∈es) (hk:x.key=y.key):x=y:=by
 obtain⟨i,hi,rfl⟩:=List.getElem_of_mem hx;obtain⟨j,hj,rfl⟩:=List.getElem_of_mem hy;have hlen:es.length=m.length:=by
  have:=congrArg List.length h;simpa using this
 have hat: ∀i (hi:i<es.length),es[i].key= .string (m[i]'(by omega)).1:=fun i hi=>by
  have h1:(es.map (fun e=>(e.key,e.val)))[i]?=((sS m).map (fun p=>(Value.string p.1,p.2)))[i]?:=by rw[h]
  rw[List.getElem?_map,List.getElem?_map,List.getElem?_map,List.getElem?_eq_getElem hi,List.getElem?_eq_getElem (show i<m.length by omega)] at h1;injection h1 with h1
  injection h1 with h1 _
 rw[hat i hi,hat j hj] at hk;injection hk with hk
 rw[List.pairwise_iff_getElem] at hd;rcases Nat.lt_trichotomy i j with h2|h2|h2
 .exact absurd hk (hd i j (by omega) (by omega) h2)
 .subst h2;rfl
 .exact absurd hk.symm (hd j i (by omega) (by omega) h2)
structure Je (es:Array MapEntry) (seen:Array Nat) (m L:List Vd):Prop where
 sub: ∀f∈L,f∈m/\∃e∈es.toList,e.key= .string f.1/\seen.contains e.born=true
 dist:L.Pairwise (fun p q=>p.1≠q.1)
 all: ∀e∈es.toList,seen.contains e.born=true->∀f∈m,e.key= .string f.1->f∈L
theorem Je.start (es:Array MapEntry) (m:List Vd):Je es #[] m []:=⟨fun f hf=>(by cases hf),List.Pairwise.nil,fun e _ h=>(by simp at h)⟩
theorem Je.next {es:Array MapEntry} {seen:Array Nat} {m L:List Vd} (hm:es.toList.map (fun e=>(e.key,e.val))=(sS m).map (fun p=>(Value.string p.1,p.2))) (hd:m.Pairwise (fun p q=>p.1≠q.1)) (hn:(es.toList.map (·.born)).Nodup) (h:Je es seen m L) {e:MapEntry} (he:e∈es.toList) (hs:seen.contains e.born=false) {f:Vd} (hf:f∈m) (hk:e.key= .string f.1):Je es (seen.push e.born) m (L++[f]):=by
 refine⟨fun g hg=>?_,?_,fun x hx hsx g hg hkx=>?_⟩
 .rcases List.mem_append.1 hg with hg|hg
  .obtain ⟨a,x,hx,b,c⟩:=h.sub g hg;exact⟨a,x,hx,b,by rw[contains_push,c];rfl⟩
  .rw [List.mem_singleton] at hg;subst hg;exact⟨hf,e,he,hk,by rw[contains_push,beq_self_eq_true,Bool.or_true]⟩
 .rw [List.pairwise_append];refine⟨h.dist,List.pairwise_singleton _ _,fun g hg y hy heq=>?_⟩;rw[List.mem_singleton] at hy;subst hy;obtain⟨_,x,hx,b,c⟩:=h.sub g hg;have hxe:x=e:=Zj hm hd hx he (by rw[b,hk,heq]);rw[hxe,hs] at c;cases c
 .rw [contains_push,Bool.or_eq_true,beq_iff_eq] at hsx;rcases hsx with hsx|hsx
  .exact List.mem_append_left _ (h.all x hx hsx g hg hkx)
  .have hxe:x=e:=born_inj hn hx he hsx;rw[hxe,hk] at hkx;injection hkx with hkx
   obtain⟨i,hi,e1⟩:=List.getElem_of_mem hf;obtain⟨j,hj,e2⟩:=List.getElem_of_mem hg;have hgf:g=f:=by
    rw[List.pairwise_iff_getElem] at hd;rcases Nat.lt_trichotomy i j with h2|h2|h2
    .exact absurd (by rw[e1,e2];exact hkx) (hd i j hi hj h2)
    .subst h2;rw[<-e1,<-e2]
    .exact absurd (by rw[e1,e2];exact hkx.symm) (hd j i hj hi h2)
   rw[hgf];exact List.mem_append_right _ (List.mem_singleton.2 rfl)
theorem Je.fin {es:Array MapEntry} {seen:Array Nat} {m L:List Vd} (hm:es.toList.map (fun e=>(e.key,e.val))=(sS m).map (fun p=>(Value.string p.1,p.2))) (h:Je es seen m L) (h0:(leftOf es seen).size=0): ∀f,f∈L<->f∈m:=fun f=>
 ⟨fun hf=>(h.sub f hf).1,fun hf=>by
  obtain⟨e,he,hk⟩:=Xb hm hf;exact h.all e he (all_seen es seen h0 e he) f hf hk⟩
theorem uJ (w:World) (r:Nat) (o:Obj):aC (fun j=>j=r) w (Go.ChangeMaps.setBlock w r o):=⟨rfl,rfl,rfl,by simp[Go.ChangeMaps.setBlock],fun i hi hF=>by simp[Go.ChangeMaps.setBlock,Ne.symm (show i≠r from hF)]⟩
theorem rZ {w:World} {r:Nat} {o o':Obj} (h:w.heap[r]?=some o):(Go.ChangeMaps.setBlock w r o').heap[r]?=some o':=by
 have:=(Array.getElem?_eq_some_iff.1 h).1;simp[Go.ChangeMaps.setBlock,this]
theorem sO (t:Tm) (v:Value) (w:World) (htab:dN w) (hR:bQ (fun k=>k<w.heap.size) w t v) (hsz:(t.size:Int)<=1000000):Calls Tryz.prog 70 #[v] w fun e w'=> ∃r,e= .returned (.tuple #[r,.int .i64 (rW t).2])/\dL (fun k=>w.heap.size<=k/\k<w'.heap.size) w' r (rW t).1/\Ext w w':=by
 have HR:=ah hR;obtain⟨a,cap,rfl,hT⟩:=hR;have dH:=ah hT;dsimp only[tV];have HZ:=ah ((uR w).alloc (tO t a cap));have HB:=ah (ay w (tO t a cap));have bU:=ah hsz;have HF:=ah (fun W (hW:Ext w W)=>Oq t _ W (aS htab hW) ((HR.out.ext hW).weaken (fun k hk=>aF hk hW.size)) (by omega));dsimp only[tV] at HF;obtain⟨c0,c1,c2⟩:=ak HB.out;clear hT;obtain⟨VF,hVF⟩: ∃x,rW t=x:=⟨_,rfl⟩
 have Si:Hid ((if wf aJ t=true then(aV t,0) else([],1))=VF):=ah hVF;rw[hVF];clear hVF;cases hfm:formed aJ t
 .rw [hfm] at HF;have hwf:=Ox hfm;have hv:=Si.out;rw[hwf,if_neg (by simp)] at hv;subst hv;clear hwf hfm
  go_enter Tryz.func70,Tryz.ntmps70
  go_wp2_with fail
  refine(HF.out _ HZ.out).mono ?_;rintro e w4 ⟨rfl,hw4⟩;have H4:=ah (HZ.out.ext hw4);clear hw4 c0 c1 c2
  go_wp2_with fail
  go_ret2
  exact⟨_,rfl,aG.nil _ _ _,H4.out⟩
 rw[hfm] at HF;have Gy:Hid (wf aJ t=(jW t).isSome):=ah (by unfold wf;rw[hfm,Bool.true_and]);clear hfm
 go_enter Tryz.func70,Tryz.ntmps70
 go_wp2_with fail
 refine(HF.out _ HZ.out).mono ?_;rintro e w4 ⟨rfl,hw4⟩;have H4:=ah (HZ.out.ext hw4);have HB4:=ah (hw4.heap HB.out (fun h=>h));clear hw4 c0 c1 c2;obtain⟨c0,c1,c2⟩:=ak HB4.out;have jS:=ah (ay w4 (tO t a cap));have dA:=ah (H4.out.alloc (tO t a cap))
 go_wp2_with fail
 generalize (w4.alloc (tO t a cap))=w5 at*;obtain⟨x0,x1,x2⟩:=ak jS.out;have yC:=ah (Sr t w4.heap.size 0 1 0 cap a w5 ⟨x0,x1,x2⟩ ((dH.out.ext dA.out).weaken (fun k hk=>aF hk dA.out.size)) (by omega));clear x0 x1 x2 c0 c1 c2;refine yC.out.mono ?_;rintro e w6 ⟨hp,hw6⟩;have H6:=ah (dA.out.ext hw6);have hws:=Nat.le_trans dA.out.size hw6.size;have hbb:w5.heap.size<=w6.heap.size:=hw6.size;unfold Ea at hp;clear hw6 yC;cases hso:jW t with
 |none=>
  rw[hso] at hp;simp only at hp;subst hp;have hv:=Si.out;rw[Gy.out,hso,if_neg (by simp)] at hv;subst hv
  go_wp2_with fail
  go_ret2
  exact⟨_,rfl,aG.nil _ _ _,H6.out⟩
 |some m=>
  rw[hso] at hp;simp only at hp;obtain⟨b,rfl,hb5,es,clock,hb,hes,hbp,hbc⟩:=hp;have hv:=Si.out;rw[Gy.out,hso,if_pos (by simp)] at hv;subst hv;have HMD:=ah (RS hso);have Xc:=ah (Jd hso);have hml:m.length<=1000000:=by
   have h1:=zB _ _ _ (show jB [] (vl (bC t))=some m from hso);have h2:(vl (bC t)).length<=t.size:=by
    have h1:(vl (bC t)).length<=(bC t).length:=List.length_filterMap_le _ _;have h2:(bC t).length=t.size:=by rw[bC,List.length_map,kN]
    omega
   simp only[List.length_nil] at h1;omega
  have Dq:=ah hml;have MC:=ah hes;have Jf:Hid ((es.toList.map (·.born)).Nodup):=ah (by
   rw[List.Nodup,List.pairwise_map];exact hbp.imp (fun h e=>by omega))
  have ku:=ah hbc;have hrg:=run_range_map (P:=Tryz.prog) w6 178 9 9 b es clock Tryz.underlying178 hb;have hblt:b<w6.heap.size:=(Array.getElem?_eq_some_iff.1 hb).1;have lI:=ah hblt;have HB0:=ah (aB hb (.mapIter (some b) clock #[] clock));have HR0:=ah (ay w6 (.mapIter (some b) clock #[] clock));have dP:=ah (H6.out.alloc (.mapIter (some b) clock #[] clock));have HZ0:Hid (w6.heap.size+1<=(w6.alloc (.mapIter (some b) clock #[] clock)).heap.size):=ah (by simp);have Xd:=ah hws;clear hso hes hbp hbc hml Gy HF jS hb hblt hbb hb5 Si
  go_wp2_with fail
  try go_frame
  generalize w6.alloc (.mapIter (some b) clock #[] clock)=w7 at*;clear hrg;obtain⟨r,hr⟩: ∃r,w6.heap.size=r:=⟨_,rfl⟩
  rw[hr] at HR0 HZ0 lI Xd⊢;clear hr
  go_loopg [6] (leftOf es #[]).size (fun gk ov wr=> ∃(oa:Option Addr) (oc:Nat) (L:List Vd) (seen:Array Nat),ov= .slice oa L.length oc/\gk=(leftOf es seen).size/\Hid (wr.ownsRow (r+1) 116 2 (.slice oa L.length oc) L.length (bV L))/\Hid (wr.heap[r]?=some (.mapIter (some b) clock seen clock))/\Hid (wr.heap[b]?=some (.map es clock))/\Hid (Ext w wr)/\Hid (r+1<=wr.heap.size)/\Hid (Je es seen m L))
  case atStart=>exact⟨none,0,[],#[],rfl,rfl,ah ⟨rfl,.inl ⟨rfl,rfl⟩⟩,HR0,HB0,dP,HZ0,ah (Je.start es m)⟩
  case round=>
   clear HR0 HB0 dP HZ0;obtain⟨oa,oc,L,seen,rfl,rfl,HO,HRR,jD,HE,yC,HV⟩:=hrel;rcases run_next_at (P:=Tryz.prog) wr 0 r b clock clock seen es clock HRR.out jD.out (fun x hx=>ku.out x hx) (Nat.le_refl _) with⟨h0,hrun⟩|⟨e,he,w1,hw1,hrun⟩
   .have hnx: ∀ty,(Instr.next (.pointer (some ⟨r,0,none⟩)) false ty).run Tryz.prog wr=_:=fun _=>hrun;have hfin:=HV.out.fin MC.out h0;have hll:L.length<=1000000:=by
     have hnd:L.Nodup:=HV.out.dist.imp (fun h e=>h (by rw[e]));have:=hnd.length_le_of_subset (fun f hf=>(hfin f).1 hf);have:=Dq.out;omega
    have HST:=ah (fun W (hW:Ext wr W)=>acS L (r+1) (.slice oa L.length oc) W (bH HO.out hW (fun _ _ h=>h)) HV.out.dist hll);have HOB:Hid (∀k,(Value.slice oa L.length oc).ownBlock=some k->r+1<=k/\k<wr.heap.size):=ah (fun k hk=>HO.out.lt k hk);have oZ:=ah hfin;clear hfin hll h0
    go_wp2_with fail
    refine(HST.out _ (aC.refl _ _)).mono ?_;rintro e w8 ⟨rfl,L',ha,hperm,hF,hu⟩;have hLV:L'=aV t:=Ih Prod.fst ha Xc.out.1 (fun f=>by rw[hperm.mem_iff,oZ.out f,Xc.out.2 f]);have hlen:L.length=(aV t).length:=by rw[<-hLV,hperm.length_eq]
    have HF8:Hid (dL (fun k=>w.heap.size<=k/\k<w8.heap.size) w8 (.slice oa L.length oc) (aV t)):=ah (by rw[<-hLV];exact aG.weaken hF (fun k hk=>⟨by have h1:=(HOB.out k hk).1;have h2:=Xd.out;omega,aF (HOB.out k hk).2 hu.size⟩));have dG:Hid (Ext w w8):=ah (HE.out.trans' hu (fun j hj e=>by have h1:=(HOB.out j e).1;have h2:=Xd.out;omega));clear hnx hrun hLV hlen ha hperm hF hu HST
    go_wp2_with fail
    go_ret2
    exact⟨_,rfl,HF8.out,dG.out⟩
   .have hml:=mem_left he;obtain⟨f,hf,hk,hvv⟩:=Xa MC.out hml.1;have hrw:w1.heap[r]?=some (.mapIter (some b) clock seen clock):=by rcases hw1 with h|h<;>(rw[h];exact HRR.out)
    have hrb:w1.heap[b]?=some (.map es clock):=by rcases hw1 with h|h<;>(rw[h];exact jD.out)
    have hu1:aC (fun j=>j=r) wr (Go.ChangeMaps.setBlock w1 r (.mapIter (some b) clock (seen.push e.born) clock)):=by
     have:=uJ w1 r (.mapIter (some b) clock (seen.push e.born) clock);rcases hw1 with h|h
     .rw [h] at this⊢;exact this
     .rw [h] at this⊢;exact this.Ey
    have hr2:=rZ (o':= .mapIter (some b) clock (seen.push e.born) clock) hrw;rw[hk,hvv] at hrun;generalize Go.ChangeMaps.setBlock w1 r (.mapIter (some b) clock (seen.push e.born) clock)=wN at*;have o8:=ah (hu1.heap jD.out (by have:=lI.out;omega));have iV:=ah hr2;have hen:=run_entry_at (P:=Tryz.prog) wN r b clock seen es clock e hr2 o8.out hml.1 Jf.out;rw[hk,hvv] at hen;have hnx: ∀ty,(Instr.next (.pointer (some ⟨r,0,none⟩)) false ty).run Tryz.prog wr=_:=fun _=>hrun;have SI:Hid (wN.ownsRow (r+1) 116 2 (.slice oa L.length oc) L.length (bV L)):=ah (bH HO.out hu1 (fun j hj e=>by have:=(HO.out.lt j hj).1;omega));have LZ:Hid (Ext w wN):=ah (HE.out.trans' hu1 (fun j hj e=>by have h2:=Xd.out;omega));have fO:=ah (HV.out.next MC.out HMD.out Jf.out hml.1 hml.2 hf hk);have MF:=ah (left_shrinks es seen e he);have hll:L.length<=1000000:=by
     have hnd:L.Nodup:=HV.out.dist.imp (fun h e=>h (by rw[e]));have:=hnd.length_le_of_subset (fun f hf=>(HV.out.sub f hf).1);have:=Dq.out;omega
    have jA:Hid (r+1<=wN.heap.size):=ah (Nat.le_trans yC.out hu1.size);clear hml hf hk hvv hrw hrb hu1 hr2 he hw1;obtain⟨iF,hi,hz0,hz1,hz2⟩:=info_parts I7
    go_wp2_with(at_builtin;refine oH _ rfl (.tmp 27) (.tmp 31) 111 rfl (r+1) 116 iF (.agg #[.string ⟨#[]⟩,.string ⟨#[]⟩]) 2 32 Tryz.underlying111 hi hz0 hz1 hz2 rfl (by decide) _ _ _ rfl (SI.out.alloc _) _ 1 1 [.string f.1,.string f.2] rfl rfl ?c1 ?c2 ?c3 ?c4 ?c5 ?_)
    case c1=>
     intro l u hl
     match l,hl with
     |0,hl=>simp only[List.getElem?_cons_zero,Option.some.injEq] at hl;subst hl;simp only[Addr.add];exact aj (ay _ _) 0 _ rfl
     |1,hl=>simp at hl;subst hl;simp only[Addr.add];exact aj (ay _ _) 1 _ rfl
    case c2=>intro u hu;simp at hu;rcases hu with h|h<;>(subst h;rfl)
    case c3=>unfold maxLen;omega
    case c4=>omega
    case c5=>have:=jA.out;simp;omega
    intro v6 w8 hG;obtain⟨a6,c6,rfl⟩:=bF hG.own;have hua:=(uR wN).alloc (.cells #[.string f.1,.string f.2] 116);have HO8:Hid (w8.ownsRow (r+1) 116 2 (.slice a6 (L++[f]).length c6) (L++[f]).length (bV (L++[f]))):=ah (by
     have h:=hG.own;rw[show(L++[f]).length=L.length+1 by simp,rY];exact h)
    have Xf:aC (fun j=>(Value.slice oa L.length oc).ownBlock=some j) wN w8:=(hua.mono (fun _ _ h=>h.elim)).trans hG.upd;have GR: ∀j,(Value.slice oa L.length oc).ownBlock=some j->r+1<=j:=fun j hj=>(SI.out.lt j hj).1;have HR8:=ah (Xf.heap iV.out (fun e=>by have:=GR _ e;omega));have kJ:=ah (Xf.heap o8.out (fun e=>by have:=GR _ e;have:=lI.out;omega));have dG:Hid (Ext w w8):=ah (LZ.out.trans' Xf (fun j hj e=>by have:=GR _ e;have h2:=Xd.out;omega));have ig:Hid (r+1<=w8.heap.size):=ah (Nat.le_trans jA.out Xf.size);clear hG hua Xf GR hi hz0 hz1 hz2 hnx hrun hen
    go_wp2_with fail
    have hlt:=MF.out
    go_roundg (leftOf es (seen.push e.born)).size
    case measure=>exact hlt
    case rel=>exact⟨a6,c6,L++[f],seen.push e.born,by simp,rfl,HO8,HR8,kJ,dG,ig,fO⟩
end
theorem Jo {N:Nat} {ad:Nat->Nat×Nat} {bv bn:Nat} {bk:List Nat} {st:St} {w:World} (F c r:Nat) (hm:nU N ad 121 bv bn bk st w) (hr:kD st.cs F c=some r):Calls Tryz.prog 143 #[gX (blk bk c)] w fun e w'=>e= .returned (gX (blk bk r))/\w'=w:=by
 have HM:=ah hm;have HR:=ah hr;clear hm hr
 go_enter Tryz.func143,Tryz.ntmps143
 go_wp2_with fail
 go_loopg [0] F (fun gk cv wr=> ∃d:Nat,cv=gX (blk bk d)/\Hid (kD st.cs gk d=some r)/\wr=w)
 case atStart=>exact⟨c,rfl,HR,rfl⟩
 case round=>
  obtain⟨d,rfl,HD,rfl⟩:=hrel;have hd:=HD.out;cases hG:gk with
  |zero=>rw[hG] at hd;cases hd
  |succ G=>
  subst hG;unfold kD at hd;cases hx:st.cs[d]? with
  |none=>rw[hx] at hd;cases hd
  |some x=>
  rw[hx] at hd;simp only at hd;have hrow:=HM.out.row d x hx;cases hu:x.up with
  |none=>
   rw[hu] at hd;simp only[Option.some.injEq] at hd;subst hd;have e0:=aj hrow 0 (.pointer none) (by unfold dV;rw[hu];rfl);clear hrow
   go_wp2_with fail
   go_ret;exact⟨rfl,rfl⟩
  |some u=>
   rw[hu] at hd;simp only at hd;have HN:=ah hd;have e0:=aj hrow 0 (.pointer (some ⟨blk bk u,0,none⟩)) (by unfold dV;rw[hu];rfl);clear hrow hd
   go_wp2_with fail
   go_roundg G
   case measure=>omega
   case rel=>exact⟨u,rfl,HN,rfl⟩
theorem lg (s:By):(ByteArray.toList s).isEmpty=decide (s=au):=by
 rw[Bool.eq_iff_iff,decide_eq_true_eq,List.isEmpty_iff,Lib.toList_data];constructor
 .intro h;exact kZ h
 .intro h;rw[h];rfl
theorem mW (nm so:By) (a:Option Addr) (n cap:Nat) (w:World):Calls Tryz.prog 91 #[.agg #[.string nm,.string so,.slice a n cap]] w fun e w'=>e= .returned (.bool (!decide (so=au)))/\Ext w w':=by
 have s3:=lg so;have hb:=ay w (.cells #[.string nm,.string so,.slice a n cap] 24);have e1:=aj hb 1 (.string so) rfl;clear hb
 go_enter Tryz.func91,Tryz.ntmps91
 go_wp2_with fail
 go_ret;exact⟨rfl,(aC.refl _ w).alloc _⟩
theorem zG {N:Nat} {ad:Nat->Nat×Nat} {bv bn:Nat} {bk:List Nat} {st st':St} {w:World} (F r ub pb po:Nat) (nm so:By) (a:Option Addr) (n cap:Nat) (hm:nU N ad 121 bv bn bk st w) (hu:w.heap[ub]?=some (.cells #[.map (some bv),.map (some bn)] 108 (0,0))) (hub: ¬Fb bv bn bk ub)
  (h0:w.cell? ⟨pb,po,none⟩=some (.string nm)) (h1:w.cell? ⟨pb,po+1,none⟩=some (.string so)) (h2:w.cell? ⟨pb,po+2,none⟩=some (.slice a n cap)) (hpb: ¬Fb bv bn bk pb) (hso:so≠au) (hc:sH F st nm so=some (st',r)):
  Calls Tryz.prog 73 #[gX ub,.pointer (some ⟨pb,po,none⟩)] w fun e w'=> ∃bk',e= .returned (gX (blk bk' r))/\nU N ad 121 bv bn bk' st' w'/\aC (Fb bv bn bk) w w'/\bk <+:bk'/\(∀b∈bk',b∈bk\/w.heap.size<=b)/\((rQ st.vs nm).isSome=true->bk'=bk/\st'=st/\Ext w w'):=by
 have HM:=ah hm;have PN:=ah (mW nm so a n cap w);have PO:decide (so=au)=false:=dF hso;rw[PO] at PN;have yL:=ah (And.intro hu hub);have HP:=ah (And.intro h0 (And.intro h1 (And.intro h2 hpb)));have HC:=ah hc;clear hm hu hub hc hso PO hpb
 go_enter Tryz.func73,Tryz.ntmps73
 go_wp2_with fail
 refine PN.out.mono ?_;rintro e w1 ⟨rfl,hw1⟩;have hu1:=hw1.heap yL.out.1 (fun h=>h);have HE:=ah hw1;have hm1:=HM.out.ext hw1 (fun _ _ h=>h);have q0:=hw1.cell h0 (fun h=>h);have q1:=hw1.cell h1 (fun h=>h);clear h0 h1 h2 PN hw1;obtain⟨u0,u1⟩:=bT hu1;have hl:=fun n=>eF.get (P:=Tryz.prog) (t:=105) (qp Tryz.underlying9) Tryz.underlying105 (z:= .pointer none) (Tryz.zeroValue118 (w1.drewN n)) (hm1.vs.ext ((aC.refl _ w1).drewN' n)) nm true;have hfm:=EW (fun s:By=>s) (fun c=>gX (blk bk c)) st.vs nm (fun e _ h=>h);rw[hfm] at hl;simp only[if_true] at hl;have Dz:=ah hm1;have hc:=HC.out;unfold sH at hc;cases hf:rQ st.vs nm with
 |some c=>
  rw[hf] at hl hc;simp only[Option.map_some,Option.getD_some,Option.isSome_some] at hl hc;cases hrt:kD st.cs F c with
  |none=>rw[hrt] at hc;cases hc
  |some r'=>
  rw[hrt] at hc;simp only[Option.map_some,Option.some.injEq,Prod.mk.injEq] at hc;obtain⟨rfl,rfl⟩:=hc;have oZ:=ah hf;have nD:=ah (fun W (hW:Ext w1 W)=>Jo F c r' (Dz.out.ext hW (fun _ _ h=>h)) hrt);clear hf hrt hfm hm1
  go_wp2_with fail
  go_quiet (fail)
  go_wp2_with fail
  refine(nD.out _ ((aC.refl _ w1).drewN' _)).mono ?_;rintro e w2 ⟨rfl,rfl⟩
  go_wp2_with fail
  go_ret;exact⟨bk,rfl,Dz.out.ext ((uR w1).drewN' _) (fun _ _ h=>h),(HE.out.drewN' _).mono (fun _ _ x=>x.elim),List.prefix_refl _,fun b hb=> .inl hb,fun _=>⟨rfl,HE.out.drewN' _⟩⟩
 |none=>
  rw[hf] at hl hc;simp only[Option.map_none,Option.getD_none,Option.isSome_none] at hl hc;cases hrt:kD (st.cs++[⟨none,nm,so,false,none,0,0,0⟩]) F st.cs.length with
  |none=>rw[hrt] at hc;cases hc
  |some r'=>
  rw[hrt] at hc;simp only[Option.map_some,Option.some.injEq,Prod.mk.injEq] at hc;obtain⟨rfl,rfl⟩:=hc;have nD:=ah hrt;have oZ:=ah hf;have o9:=ah hu1;clear hf hrt hfm hm1
  go_wp2_with fail
  go_quiet (fail)
  go_wp2_with fail
  have eX:Hid (Ext w (w1.drewN nq)):=ah (HE.out.drewN' nq);clear Dz o9 hl u0 u1 q0 q1;generalize w1.drewN nq=wq at*;have HMQ:=ah (HM.out.ext eX.out (fun _ _ h=>h));have Jw:=ah (eX.out.heap yL.out.1 (fun h=>h));have u0:=aj Jw.out 0 (.map (some bv)) rfl;have q0:=eX.out.cell HP.out.1 (fun h=>h);have q1:=eX.out.cell HP.out.2.1 (fun h=>h)
  go_still_tail 9,(by kernel_rfl)
  change wpList _ _ _ _ _ wq.drew
  go_wp2_with fail
  have hal:=ay wq (.cells #[.pointer none,.string nm,.string so,.bool false,.pointer none,.int .i64 0,.int .i64 0,.int .i64 0] 121);have oh:Hid (Ext wq (wq.alloc (.cells #[.pointer none,.string nm,.string so,.bool false,.pointer none,.int .i64 0,.int .i64 0,.int .i64 0] 121)).drew):=ah ((uR wq).alloc _).drew;have HRW:Hid ((wq.alloc (.cells #[.pointer none,.string nm,.string so,.bool false,.pointer none,.int .i64 0,.int .i64 0,.int .i64 0] 121)).drew.heap[wq.heap.size]?=some (.cells #[.pointer none,.string nm,.string so,.bool false,.pointer none,.int .i64 0,.int .i64 0,.int .i64 0] 121 (0,0))):=ah hal;have Dl:Hid (w.heap.size<=wq.heap.size/\¬Fb bv bn bk wq.heap.size):=ah ⟨eX.out.size,fun e=>Nat.lt_irrefl _ (HMQ.out.lt _ e)⟩;clear u0 q0 q1 hal;generalize (wq.alloc (.cells #[.pointer none,.string nm,.string so,.bool false,.pointer none,.int .i64 0,.int .i64 0,.int .i64 0] 121)).drew=wA at*;generalize wq.heap.size=nb at*;have DC:=ah (eX.out.trans oh.out);have XE:=ah (HMQ.out.ext oh.out (fun _ _ h=>h));have Tz:=ah (oh.out.heap Jw.out (fun h=>h));have u0:=aj Tz.out 0 (.map (some bv)) rfl;have q0:=DC.out.cell HP.out.1 (fun h=>h);obtain⟨W2,hput,vU,hu2⟩:=eF.put (P:=Tryz.prog) (t:=105) (qp Tryz.underlying9) Tryz.underlying105 (show eF (fun s:ByteArray=>Value.string s) wA.drew bv _ from XE.out.vs.ext (aC.refl _ wA).drew) nm (gX nb);have uU:Hid (aC (fun j=>j=bv) wA W2):=ah (aC.Ey hu2);have nI:=ah (XE.out.alf oZ.out Dl.out.2 HRW.out vU uU.out);have HR2:=ah (Jo F _ r' nI.out nD.out);have hbl:blk (bk++[nb]) st.cs.length=nb:=by rw[<-HM.out.len];exact BX nb
  rw[hbl] at HR2;clear hu2 vU hbl HMQ Jw oh
  go_still_tail 9,(by kernel_rfl)
  change wpList _ _ _ _ _ wA.drew
  go_wp2_with fail
  refine HR2.out.mono ?_;rintro e w3 ⟨rfl,rfl⟩
  go_wp2_with fail
  go_ret;refine⟨bk++[nb],rfl,nI.out,((DC.out.mono (fun _ _ x=>x.elim)).trans (uU.out.mono (fun j _ hj=> .inl hj))),List.prefix_append _ _,fun b hb=>?_,fun h=>by rw[oZ.out] at h;cases h⟩;rcases List.mem_append.1 hb with hb|hb
  .exact .inl hb
  .rw [List.mem_singleton] at hb;rw[hb];exact .inr Dl.out.1
theorem afs:(Tryz.prog.info? 24).map (fun i=>i.size)=some 3:=by kernel_rfl
theorem P_ {N:Nat} {ad:Nat->Nat×Nat} {bv bn:Nat} {bk:List Nat} {st st':St} {w:World} (F r ub i pb po:Nat) (nm so:By) (a:Option Addr) (n cap:Nat) (hm:nU N ad 121 bv bn bk st w) (hu:w.heap[ub]?=some (.cells #[.map (some bv),.map (some bn)] 108 (0,0))) (hub: ¬Fb bv bn bk ub)
  (h0:w.cell? ⟨pb,po,none⟩=some (.string nm)) (h1:w.cell? ⟨pb,po+1,none⟩=some (.string so)) (h2:w.cell? ⟨pb,po+2,none⟩=some (.slice a n cap)) (hso:so=au) (had:ad i=(pb,po)) (hi:i<N) (hinj: ∀j,j<N->ad j=ad i->j=i) (hpl: ∀j,j<N->Plain w (ad j).1) (hc:TJ F st i=some (st',r)):
  Calls Tryz.prog 73 #[gX ub,.pointer (some ⟨pb,po,none⟩)] w fun e w'=> ∃bk',e= .returned (gX (blk bk' r))/\nU N ad 121 bv bn bk' st' w'/\aC (Fb bv bn bk) w w'/\bk <+:bk'/\(∀b∈bk',b∈bk\/w.heap.size<=b)/\((rQ st.ns i).isSome=true->bk'=bk/\st'=st/\Ext w w'):=by
 have HM:=ah hm;have PN:=ah (mW nm so a n cap w);have PO:decide (so=au)=true:=dT hso;rw[PO] at PN;have yL:=ah (And.intro hu hub);have HC:=ah hc;have HI:=ah (And.intro had (And.intro hi (And.intro hinj hpl)));clear hm hu hub hc hso PO hi hinj hpl had
 go_enter Tryz.func73,Tryz.ntmps73
 go_wp2_with fail
 refine PN.out.mono ?_;rintro e w1 ⟨rfl,hw1⟩;have hu1:=hw1.heap yL.out.1 (fun h=>h);have HE:=ah hw1;have hm1:=HM.out.ext hw1 (fun _ _ h=>h);clear h0 h1 h2 PN hw1;obtain⟨u0,u1⟩:=bT hu1;have hpw: ∀W,Ext w W->(∀j,j<N->Plain W (ad j).1):=fun W hW j hj=>(HI.out.2.2.2 j hj).ext hW;have HPW:=ah hpw;have nS:Hid (∀W,Ext w W->∀p∈(st.ns.map fun e=>(ad e.1,gX (blk bk e.2))),Plain W p.1.1):=ah (fun W hW p hp=>by
  obtain⟨e,he,rfl⟩:=List.mem_map.1 hp;exact HPW.out W hW _ (HM.out.Hf e he).2)
 obtain⟨iT,hiT,hsT⟩: ∃i,Tryz.prog.info? 24=some i/\i.size=3:=by
  have:=afs;cases hx:Tryz.prog.info? 24 with
  |none=>rw[hx] at this;cases this
  |some i=>rw[hx] at this;injection this with this;exact⟨i,rfl,this⟩
 have hz3:iT.size≠0:=by omega
 have HIT:=ah (And.intro hiT hz3);have hl:=eF.ak1 (P:=Tryz.prog) (t:=106) Tryz.underlying110 hiT hz3 Tryz.underlying106 (z:= .pointer none) (Tryz.zeroValue118 w1) hm1.ns (ad i) (HPW.out _ HE.out i HI.out.2.1) (nS.out _ HE.out) true;have hfm:=EW ad (fun c=>gX (blk bk c)) st.ns i (fun e he h=>HI.out.2.2.1 e.1 (HM.out.Hf e he).2 h);rw[hfm] at hl;have Qa:jG (ad i)= .pointer (some ⟨pb,po,none⟩):=by rw[HI.out.1]
 rw[Qa] at hl;simp only[if_true] at hl;have Dz:=ah hm1;have hc:=HC.out;unfold TJ at hc;clear hpw hiT hsT hz3 Qa;cases hf:rQ st.ns i with
 |some c=>
  rw[hf] at hl hc;simp only[Option.map_some,Option.getD_some,Option.isSome_some] at hl hc;cases hrt:kD st.cs F c with
  |none=>rw[hrt] at hc;cases hc
  |some r'=>
  rw[hrt] at hc;simp only[Option.map_some,Option.some.injEq,Prod.mk.injEq] at hc;obtain⟨rfl,rfl⟩:=hc;have nD:=ah (fun W (hW:Ext w1 W)=>Jo F c r' (Dz.out.ext hW (fun _ _ h=>h)) hrt);clear hf hrt hfm hm1
  go_wp2_with fail
  refine(nD.out _ (aC.refl _ w1)).mono ?_;rintro e w2 ⟨rfl,rfl⟩
  go_wp2_with fail
  go_ret;exact⟨bk,rfl,Dz.out,HE.out.mono (fun _ _ x=>x.elim),List.prefix_refl _,fun b hb=> .inl hb,fun _=>⟨rfl,HE.out⟩⟩
 |none=>
  rw[hf] at hl hc;simp only[Option.map_none,Option.getD_none,Option.isSome_none] at hl hc;cases hrt:kD (st.cs++[⟨none,au,au,false,some i,0,0,0⟩]) F st.cs.length with
  |none=>rw[hrt] at hc;cases hc
  |some r'=>
  rw[hrt] at hc;simp only[Option.map_some,Option.some.injEq,Prod.mk.injEq] at hc;obtain⟨rfl,rfl⟩:=hc;have nD:=ah hrt;have oZ:=ah hf;have zi:=ah hfm;clear hf hrt hfm hm1;have Dl:Hid (w.heap.size<=w1.heap.size/\¬Fb bv bn bk w1.heap.size):=ah ⟨HE.out.size,fun e=>Nat.lt_irrefl _ (Dz.out.lt _ e)⟩;have hal:=ay w1 (.cells #[.pointer none,.string ⟨#[]⟩,.string ⟨#[]⟩,.bool false,.pointer (some ⟨pb,po,none⟩),.int .i64 0,.int .i64 0,.int .i64 0] 121);have oh:Hid (Ext w1 (w1.alloc (.cells #[.pointer none,.string ⟨#[]⟩,.string ⟨#[]⟩,.bool false,.pointer (some ⟨pb,po,none⟩),.int .i64 0,.int .i64 0,.int .i64 0] 121))):=ah ((uR w1).alloc _);have DC:=ah (HE.out.trans oh.out);have XE:=ah (Dz.out.ext oh.out (fun _ _ h=>h));have hwp:=nS.out _ DC.out;have HRW:Hid ((w1.alloc (.cells #[.pointer none,.string ⟨#[]⟩,.string ⟨#[]⟩,.bool false,.pointer (some ⟨pb,po,none⟩),.int .i64 0,.int .i64 0,.int .i64 0] 121)).heap[w1.heap.size]?=some (.cells (dV ad bk ⟨none,au,au,false,some i,0,0,0⟩) 121 (0,0))):=ah (by
   have e:dV ad bk ⟨none,au,au,false,some i,0,0,0⟩= #[.pointer none,.string ⟨#[]⟩,.string ⟨#[]⟩,.bool false,.pointer (some ⟨pb,po,none⟩),.int .i64 0,.int .i64 0,.int .i64 0]:=by
    unfold dV;simp only[Option.map_some,Option.map_none,HI.out.1];rfl
   rw[e];exact hal)
  obtain⟨W2,hput,vU,hu2⟩:=eF.newP (P:=Tryz.prog) (t:=106) (et:=118) Tryz.underlying110 HIT.out.1 HIT.out.2 Tryz.underlying106 XE.out.ns (ad i) (gX w1.heap.size) (HPW.out _ DC.out i HI.out.2.1) hwp (by rw[zi.out,oZ.out];rfl);have uU:Hid (aC (fun j=>j=bn) (w1.alloc (.cells #[.pointer none,.string ⟨#[]⟩,.string ⟨#[]⟩,.bool false,.pointer (some ⟨pb,po,none⟩),.int .i64 0,.int .i64 0,.int .i64 0] 121)) W2):=ah hu2;have nI:=ah (XE.out.alj HI.out.2.1 Dl.out.2 HRW.out vU uU.out);have HR2:=ah (Jo F _ r' nI.out nD.out);have hbl:blk (bk++[w1.heap.size]) st.cs.length=w1.heap.size:=by rw[<-HM.out.len];exact BX _
  rw[hbl] at HR2;have Qa:jG (ad i)= .pointer (some ⟨pb,po,none⟩):=by rw[HI.out.1]
  rw[Qa] at hput;have u2:=aj (oh.out.heap hu1 (fun h=>h)) 1 (.map (some bn)) rfl;clear hu2 vU hbl Qa hwp hal
  go_wp2_with fail
  refine HR2.out.mono ?_;rintro e w3 ⟨rfl,rfl⟩
  go_wp2_with fail
  go_ret;refine⟨bk++[w1.heap.size],rfl,nI.out,((DC.out.mono (fun _ _ x=>x.elim)).trans (uU.out.mono (fun j _ hj=> .inr (.inl hj)))),List.prefix_append _ _,fun b hb=>?_,fun h=>by rw[oZ.out] at h;cases h⟩;rcases List.mem_append.1 hb with hb|hb
  .exact .inl hb
  .rw [List.mem_singleton] at hb;rw[hb];exact .inr Dl.out.1
theorem Oa {T:List Nr} {ad:Nat->Nat×Nat} {S:Nat->Prop} {bv bn ub:Nat} {bk:List Nat} {st st':St} {w:World} (F i r:Nat) (hm:Ur T ad S 121 108 bv bn ub bk st w) (hc:jQ T F st i=some (st',r)):
  Calls Tryz.prog 73 #[gX ub,jG (ad i)] w fun e w'=> ∃bk',e= .returned (gX (blk bk' r))/\fZ T ad S 121 108 bv bn ub bk bk' st' w w':=by
 unfold jQ at hc;cases ht:T[i]? with
 |none=>rw[ht] at hc;cases hc
 |some q=>
  rw[ht] at hc;simp only at hc;obtain⟨h0,h1,a,cap,h2,_⟩:=hm.nd.row i q ht;have hi:i<T.length:=(List.getElem?_eq_some_iff.1 ht).1;by_cases hs:q.so=au
  .rw [if_pos hs] at hc;refine(P_ F r ub i (ad i).1 (ad i).2 q.nm q.so a _ cap hm.us hm.u hm.un h0 h1 h2 hs rfl hi (fun j hj e=>hm.nd.inj j i hj hi e) (fun j hj=>(hm.nd.low j hj).1) hc).mono ?_;rintro e w' ⟨bk',h3,h4,h5,h6,h7,h8⟩;exact⟨bk',h3,hm.step h4 h5 h6 h7⟩
  .rw [if_neg hs] at hc;refine(zG F r ub (ad i).1 (ad i).2 q.nm q.so a _ cap hm.us hm.u hm.un h0 h1 h2 (hm.sn _ (hm.nd.low i hi).2).2 hs hc).mono ?_;rintro e w' ⟨bk',h3,h4,h5,h6,h7,h8⟩;exact⟨bk',h3,hm.step h4 h5 h6 h7⟩
theorem afb {T:List Nr} {ad:Nat->Nat×Nat} {S:Nat->Prop} {bv bn ub:Nat} {bk:List Nat} {st st':St} {w:World} (F r pb po:Nat) (nm so:By) (a:Option Addr) (n cap:Nat) (hm:Ur T ad S 121 108 bv bn ub bk st w) (h0:w.cell? ⟨pb,po,none⟩=some (.string nm)) (h1:w.cell? ⟨pb,po+1,none⟩=some (.string so)) (h2:w.cell? ⟨pb,po+2,none⟩=some (.slice a n cap)) (hpb: ¬Fb bv bn bk pb) (hso:so≠au) (hc:sH F st nm so=some (st',r)):
  Calls Tryz.prog 73 #[gX ub,.pointer (some ⟨pb,po,none⟩)] w fun e w'=> ∃bk',e= .returned (gX (blk bk' r))/\fZ T ad S 121 108 bv bn ub bk bk' st' w w':=
 (zG F r ub pb po nm so a n cap hm.us hm.u hm.un h0 h1 h2 hpb hso hc).mono fun e w' ⟨bk',h3,h4,h5,h6,h7,h8⟩=>⟨bk',h3,hm.step h4 h5 h6 h7⟩
theorem ZE {T:List Nr} {ad:Nat->Nat×Nat} {S:Nat->Prop} {bv bn ub:Nat} {bk:List Nat} {st st':St} {w:World} (F i r:Nat) (hm:Ur T ad S 121 108 bv bn ub bk st w) (hf:KU T st i=true) (hc:jQ T F st i=some (st',r)):
  st'=st/\Calls Tryz.prog 73 #[gX ub,jG (ad i)] w fun e w'=>e= .returned (gX (blk bk r))/\Ext w w':=by
 unfold jQ at hc;unfold KU at hf;cases ht:T[i]? with
 |none=>rw[ht] at hc;cases hc
 |some q=>
  rw[ht] at hc hf;simp only at hc hf;obtain⟨h0,h1,a,cap,h2,_⟩:=hm.nd.row i q ht;have hi:i<T.length:=(List.getElem?_eq_some_iff.1 ht).1;by_cases hs:q.so=au
  .rw [if_pos hs] at hc hf;refine⟨ZF hf hc,(P_ F r ub i (ad i).1 (ad i).2 q.nm q.so a _ cap hm.us hm.u hm.un h0 h1 h2 hs rfl hi (fun j hj e=>hm.nd.inj j i hj hi e) (fun j hj=>(hm.nd.low j hj).1) hc).mono ?_⟩;rintro e w' ⟨bk',h3,h4,h5,h6,h7,h8⟩;obtain⟨rfl,_,h9⟩:=h8 hf;exact⟨h3,h9⟩
  .rw [if_neg hs] at hc hf;refine⟨EU hf hc,(zG F r ub (ad i).1 (ad i).2 q.nm q.so a _ cap hm.us hm.u hm.un h0 h1 h2 (hm.sn _ (hm.nd.low i hi).2).2 hs hc).mono ?_⟩;rintro e w' ⟨bk',h3,h4,h5,h6,h7,h8⟩;obtain⟨rfl,_,h9⟩:=h8 hf;exact⟨h3,h9⟩
theorem MP {T:List Nr} {ad:Nat->Nat×Nat} {S:Nat->Prop} {bv bn ub:Nat} {bk:List Nat} {st st':St} {w:World} (F r pb po:Nat) (nm so:By) (a:Option Addr) (n cap:Nat) (hm:Ur T ad S 121 108 bv bn ub bk st w) (h0:w.cell? ⟨pb,po,none⟩=some (.string nm)) (h1:w.cell? ⟨pb,po+1,none⟩=some (.string so)) (h2:w.cell? ⟨pb,po+2,none⟩=some (.slice a n cap)) (hpb: ¬Fb bv bn bk pb) (hso:so≠au) (hf:(rQ st.vs nm).isSome=true) (hc:sH F st nm so=some (st',r)):
  st'=st/\Calls Tryz.prog 73 #[gX ub,.pointer (some ⟨pb,po,none⟩)] w fun e w'=>e= .returned (gX (blk bk r))/\Ext w w':=
 ⟨EU hf hc,(zG F r ub pb po nm so a n cap hm.us hm.u hm.un h0 h1 h2 hpb hso hc).mono fun e w' ⟨bk',h3,h4,h5,h6,h7,h8⟩=>by
  obtain⟨rfl,_,h9⟩:=h8 hf;exact⟨h3,h9⟩⟩
theorem lJ (a b:By):(a.toList==b.toList)=decide (a=b):=by
 by_cases h:a=b
 .rw [dT h,h];simp
 .rw [dF h];exact beq_eq_false_iff_ne.2 (fun e=>h (kZ (by rw[Lib.toList_data,Lib.toList_data] at e;exact e)))
theorem afS:(Tryz.prog.info? 121).map (fun i=>i.size)=some 8:=by kernel_rfl
theorem abD:Tryz.prog.info? 121=some ((Tryz.prog.info? 121).getD default)/\((Tryz.prog.info? 121).getD default).size≠0:=by
 have h:=afS;cases hx:Tryz.prog.info? 121 with
 |none=>rw[hx] at h;cases h
 |some i=>
  rw[hx] at h;have h8:i.size=8:=by injection h
  exact⟨rfl,fun e=>by have e':i.size=0:=e;rw[h8] at e';cases e'⟩
theorem ac1 {T:List Nr} {ad:Nat->Nat×Nat} {S:Nat->Prop} {bv bn ub:Nat} (hTB: ∀(i:Nat) (r:Nr),T[i]?=some r->r.ks.length<=1000000) (F:Nat): ∀(bk:List Nat) (st st':St) (w:World) (s t:Nat) (ok:Bool),Ur T ad S 121 108 bv bn ub bk st w->MN T F st s t=some (st',ok)->
  Calls Tryz.prog 69 #[gX ub,jG (ad s),jG (ad t)] w fun e w'=>e= .returned (.bool ok)/\∃bk',fZ T ad S 121 108 bv bn ub bk bk' st' w w':=by
 induction F with
 |zero=>intro bk st st' w s t ok _ h;cases h
 |succ F ih=>
 intro bk st st' w s t ok hm hc;have HIH:=ah ih;unfold MN at hc;cases hc1:jQ T F st s with
 |none=>rw[hc1] at hc;cases hc
 |some q1=>
 obtain⟨st1,a⟩:=q1;rw[hc1] at hc;simp only at hc;cases hc2:jQ T F st1 t with
 |none=>rw[hc2] at hc;cases hc
 |some q2=>
 obtain⟨st2,b⟩:=q2;rw[hc2] at hc;simp only at hc;have H1:=ah (Oa F s a hm hc1);have SN:=ah hc1;have HC2:=ah hc2;have HC:=ah hc;clear ih hm hc1 hc2 hc
 go_enter Tryz.func69,Tryz.ntmps69
 go_wp2_with fail
 refine H1.out.mono ?_;rintro e w1 ⟨bk1,rfl,hu1⟩;have o9:=ah hu1;have H2:=ah (Oa F t b hu1.ur HC2.out);clear hu1 H1
 go_wp2_with fail
 refine H2.out.mono ?_;rintro e w2 ⟨bk2,rfl,hu2⟩;have hab:blk bk1 a=blk bk2 a:=by
  obtain⟨x,hx,_⟩:=wP SN.out;exact(Gq hu2.pre (by rw[o9.out.ur.us.len];exact(List.getElem?_eq_some_iff.1 hx).1)).symm
 rw[hab];have uU:=ah (o9.out.trans hu2);have Nb:=ah o9.out.ur.us.len;have HPR:=ah hu2.pre;clear hu2 hab H2 o9;have ha2:a<bk2.length:=by
  obtain⟨x,hx,_⟩:=wP SN.out;have h1:a<bk1.length:=by rw[Nb.out];exact(List.getElem?_eq_some_iff.1 hx).1
  exact aF h1 HPR.out.length_le
 have hb2:b<bk2.length:=by
  obtain⟨x,hx,_⟩:=wP HC2.out;rw[uU.out.ur.us.len];exact(List.getElem?_eq_some_iff.1 hx).1
 have Ob: ∀c,c<bk2.length->Plain w2 (blk bk2 c):=fun c hc=>⟨_,_,uU.out.ur.us.row c _ (List.getElem?_eq_getElem (by rw[<-uU.out.ur.us.len];exact hc))⟩
 have heq:=acZ (P:=Tryz.prog) Tryz.underlying118 abD.1 abD.2 (blk bk2 a,0) (blk bk2 b,0) w2 (Ob a ha2) (Ob b hb2);have HAB:=ah (And.intro ha2 hb2);have hc:=HC.out;by_cases e:a=b
 .subst e;rw[if_pos rfl] at hc;simp only[Option.some.injEq,Prod.mk.injEq] at hc;obtain⟨rfl,rfl⟩:=hc;rw[dT rfl] at heq;clear ha2 hb2 Ob
  go_wp2_with fail
  go_ret;exact⟨rfl,bk2,uU.out⟩
 .rw [if_neg e] at hc;have hne: ¬(blk bk2 a,0)=(blk bk2 b,0):=fun h=>e (TU (by have:=uU.out.ur.us.nd;rw[List.nodup_cons,List.nodup_cons] at this;exact this.2.2) ha2 hb2 (Prod.mk.inj h).1);rw[dF hne] at heq;cases hA:st2.cs[a]? with
  |none=>rw[hA] at hc;cases hc
  |some A=>
  cases hB:st2.cs[b]? with
  |none=>rw[hA,hB] at hc;cases hc
  |some B=>
  rw[hA,hB] at hc;simp only at hc;have HC':=ah hc;have Ej:=ah (fun h:blk bk2 a=blk bk2 b=>hne (by rw[h]));have hra:=uU.out.ur.us.row a A hA;have hrb:=uU.out.ur.us.row b B hB;have XC:=ah (And.intro hA hB);have a4:=aj hra 4 (pV (A.tm.map ad)) rfl;have b4:=aj hrb 4 (pV (B.tm.map ad)) rfl;have HRA:=ah hra;have HRB:=ah hrb;clear ha2 hb2 Ob hc hne hA hB hra hrb
  go_wp2_with fail
  go_quiet (fail)
  have Jw:=ah (uU.out.ext ((aC.refl _ w2).drewN' nq));clear HRA HRB uU heq a4 b4;generalize w2.drewN nq=wq at*;have hrb:=Jw.out.ur.us.row b B XC.out.2;have b0:=aj hrb 0 (pV (B.up.map fun c=>(blk bk2 c,0))) rfl;have fb:=fun i=>aA hrb i;have HA':Hid (a<st2.cs.length/\b<st2.cs.length):=ah (by have:=HAB.out;rw[Jw.out.ur.us.len] at this;exact this);have TV:Hid (fZ T ad S 121 108 bv bn ub bk bk2 (dZ st2 b {B with up:=some a}) w (wq.setCell ⟨blk bk2 b,0,none⟩ (gX (blk bk2 a)))):=ah (Jw.out.put HA'.out.2 {B with up:=some a} ⟨fun d h=>by injection h with h;rw[<-h];exact HA'.out.1,fun i h=>(Jw.out.ur.us.vO B (List.mem_of_getElem? XC.out.2)).2 i h⟩
   ((aC.refl (fun k=>k=blk bk2 b) wq).setCell (p:=⟨blk bk2 b,0,none⟩) (.inl rfl) _) (by
    have:=setBlock hrb 0 (gX (blk bk2 a));exact this))
  clear hrb
  go_wp2_with fail
  generalize wq.setCell ⟨blk bk2 b,0,none⟩ (gX (blk bk2 a))=w3 at*;clear b0 fb Jw;have hA3:(dZ st2 b {B with up:=some a}).cs[a]?=some A:=by
   show(st2.cs.set b _)[a]?=some A;rw[List.getElem?_set,if_neg (fun h=>e h.symm)];exact XC.out.1
  have hB3:(dZ st2 b {B with up:=some a}).cs[b]?=some {B with up:=some a}:=by
   show(st2.cs.set b _)[b]?=some _;rw[List.getElem?_set,if_pos rfl,if_pos HA'.out.2]
  have hl3:(dZ st2 b {B with up:=some a}).cs.length=st2.cs.length:=List.length_set ..;obtain⟨gK,hst3⟩: ∃x,dZ st2 b {B with up:=some a}=x:=⟨_,rfl⟩
  rw[hst3] at TV hA3 hB3 hl3;have H3:=ah (And.intro hst3 (And.intro hA3 (And.intro hB3 hl3)));clear hst3 hA3 hB3 hl3
  go_cut [7] (fun x7 ww=>x7=gX (blk bk2 a)/\Hid (fZ T ad S 121 108 bv bn ub bk bk2 (dZ gK a {A with mx:=(b_ A B).mx}) w ww))
  case first=>
   have hra:=TV.out.ur.us.row a A H3.out.2.1;have hrb:=TV.out.ur.us.row b _ H3.out.2.2.1;have xk: ∀v,(b_ A B).mx=v->Hid (fZ T ad S 121 108 bv bn ub bk bk2 (dZ gK a {A with mx:=(b_ A B).mx}) w (w3.drew.setCell ⟨blk bk2 a,3,none⟩ (.bool v))):=fun v hv=>ah ((TV.out.ext (aC.refl _ w3).drew).put (by rw[H3.out.2.2.2];exact HA'.out.1) {A with mx:=(b_ A B).mx} ((TV.out.ur.us.vO A (List.mem_of_getElem? H3.out.2.1)))
    ((aC.refl (fun k=>k=blk bk2 a) w3.drew).setCell (p:=⟨blk bk2 a,3,none⟩) (.inl rfl) _) (by
     have:=setBlock (w:=w3.drew) hra 3 (.bool v);rw[hv];exact this))
   have a2:=aj hra 2 (.string A.so) rfl;have a3:=aj hra 3 (.bool A.mx) rfl;have b2:=aj hrb 2 (.string B.so) rfl;have b3:=aj hrb 3 (.bool B.mx) rfl;have fa:=fun i=>aA hra i;have s1:=lg A.so;have s2:=lg B.so;have s3:=lJ A.so B.so;clear hra hrb;cases hA:A.mx with
   |true=>
    rw[hA] at a3;have HP:=xk true (by unfold b_;simp[hA]);clear xk hA
    go_wp2_with fail
    refine iL 38 (by kernel_rfl) (by kernel_rfl) ?_;simp only[List.take_succ_cons,List.take_zero,List.drop_succ_cons,List.drop_zero]
    repeat (go_big_quiet_step (fail))
    refine wpQuiet_nil ?_;change wpList _ _ _ _ _ w3.drew
    go_wp2_with fail
    go_meet
    case rel=>exact⟨rfl,HP⟩
   |false=>
   rw[hA] at a3;cases hB:B.mx with
   |true=>
    rw[hB] at b3;have HP:=xk true (by unfold b_;simp[hA,hB]);clear xk hA hB
    go_wp2_with fail
    refine iL 38 (by kernel_rfl) (by kernel_rfl) ?_;simp only[List.take_succ_cons,List.take_zero,List.drop_succ_cons,List.drop_zero]
    repeat (go_big_quiet_step (fail))
    refine wpQuiet_nil ?_;change wpList _ _ _ _ _ w3.drew
    go_wp2_with fail
    go_meet
    case rel=>exact⟨rfl,HP⟩
   |false=>
   rw[hB] at b3;by_cases h1:A.so=au
   .rw [dT h1] at s1;have HP:=xk false (by unfold b_;simp[hA,hB,h1]);clear xk hA hB h1
    go_wp2_with fail
    refine iL 38 (by kernel_rfl) (by kernel_rfl) ?_;simp only[List.take_succ_cons,List.take_zero,List.drop_succ_cons,List.drop_zero]
    repeat (go_big_quiet_step (fail))
    refine wpQuiet_nil ?_;change wpList _ _ _ _ _ w3.drew
    go_wp2_with fail
    go_meet
    case rel=>exact⟨rfl,HP⟩
   .rw [dF h1] at s1;by_cases h2:B.so=au
    .rw [dT h2] at s2;have HP:=xk false (by unfold b_;simp[hA,hB,h1,h2]);clear xk hA hB h1 h2
     go_wp2_with fail
     refine iL 38 (by kernel_rfl) (by kernel_rfl) ?_;simp only[List.take_succ_cons,List.take_zero,List.drop_succ_cons,List.drop_zero]
     repeat (go_big_quiet_step (fail))
     refine wpQuiet_nil ?_;change wpList _ _ _ _ _ w3.drew
     go_wp2_with fail
     go_meet
     case rel=>exact⟨rfl,HP⟩
    .rw [dF h2] at s2;by_cases h3:A.so=B.so
     .rw [dT h3] at s3;have HP:=xk false (by unfold b_;simp[hA,hB,h1,h2,h3]);clear xk hA hB h1 h2 h3
      go_wp2_with fail
      refine iL 38 (by kernel_rfl) (by kernel_rfl) ?_;simp only[List.take_succ_cons,List.take_zero,List.drop_succ_cons,List.drop_zero]
      repeat (go_big_quiet_step (fail))
      refine wpQuiet_nil ?_;change wpList _ _ _ _ _ w3.drew
      go_wp2_with fail
      go_meet
      case rel=>exact⟨rfl,HP⟩
     .rw [dF h3] at s3;have HP:=xk true (by unfold b_;simp[hA,hB,h1,h2,h3]);clear xk hA hB h1 h2 h3
      go_wp2_with fail
      refine iL 38 (by kernel_rfl) (by kernel_rfl) ?_;simp only[List.take_succ_cons,List.take_zero,List.drop_succ_cons,List.drop_zero]
      repeat (go_big_quiet_step (fail))
      refine wpQuiet_nil ?_;change wpList _ _ _ _ _ w3.drew
      go_wp2_with fail
      go_meet
      case rel=>exact⟨rfl,HP⟩
  case rest=>
   obtain⟨rfl,uV⟩:=hcut;have Qr:Hid ((dZ gK a {A with mx:=(b_ A B).mx}).cs[a]?=some {A with mx:=(b_ A B).mx}/\(dZ gK a {A with mx:=(b_ A B).mx}).cs[b]?=some {B with up:=some a}/\a< (dZ gK a {A with mx:=(b_ A B).mx}).cs.length/\(∀X,dZ (dZ gK a {A with mx:=(b_ A B).mx}) a X=dZ gK a X)):=ah (by
    refine⟨?_,?_,?_,fun X=>Fh _ _ _ _⟩
    .show (gK.cs.set a _)[a]?=_;rw[List.getElem?_set,if_pos rfl,if_pos (by rw[H3.out.2.2.2];exact HA'.out.1)]
    .show (gK.cs.set a _)[b]?=_;rw[List.getElem?_set,if_neg e];exact H3.out.2.2.1
    .show a< (gK.cs.set a _).length;rw[List.length_set,H3.out.2.2.2];exact HA'.out.1)
   obtain⟨st6,ZJ⟩: ∃x,dZ gK a {A with mx:=(b_ A B).mx}=x:=⟨_,rfl⟩
   have wQ:=ah ZJ;rw[ZJ] at uV Qr;clear ZJ TV
   rename_i K0 hK0
   refine hK0 _ _ ?_;clear hK0;apply wp_seq_k;intro _ _
   go_cut [] (fun ww=>Hid (fZ T ad S 121 108 bv bn ub bk bk2 (dZ gK a {b_ A B with tm:=A.tm}) w ww))
   case first=>
    have hra:=uV.out.ur.us.row a _ Qr.out.1;have hrb:=uV.out.ur.us.row b _ Qr.out.2.1;have a1:=aj hra 1 (.string A.nm) rfl;have a2:=aj hra 2 (.string A.so) rfl;have b1:=aj hrb 1 (.string B.nm) rfl;have b2:=aj hrb 2 (.string B.so) rfl;have fa:=fun i=>aA hra i;have s1:=lg A.nm;have s2:=lg B.nm;have s3:=I4 B.nm A.nm;have Jb:Hid ((A.nm=au\/(B.nm≠au/\blt B.nm A.nm=true))->∀W,Ext wc W->fZ T ad S 121 108 bv bn ub bk bk2 (dZ gK a {b_ A B with tm:=A.tm}) w ((W.setCell ⟨blk bk2 a,1,none⟩ (.string B.nm)).setCell ⟨blk bk2 a,2,none⟩ (.string B.so))):=ah (fun hj W hW=>by
     have h1:=(uV.out.ext hW).put Qr.out.2.2.1 {b_ A B with tm:=A.tm} (show(∀d,A.up=some d->d<st6.cs.length)/\(∀i,A.tm=some i->i<T.length) from uV.out.ur.us.vO {A with mx:=(b_ A B).mx} (List.mem_of_getElem? Qr.out.1))
      (((aC.refl (fun k=>k=blk bk2 a) W).setCell (p:=⟨blk bk2 a,1,none⟩) (.inl rfl) (.string B.nm)).setCell (p:=⟨blk bk2 a,2,none⟩) (.inl rfl) (.string B.so)) (by
       have:=setBlock (setBlock (hW.heap hra (fun h=>h)) 1 (.string B.nm)) 2 (.string B.so);have e2:dV ad bk2 {b_ A B with tm:=A.tm}=((dV ad bk2 {A with mx:=(b_ A B).mx}).set! 1 (.string B.nm)).set! 2 (.string B.so):=by
        unfold b_ dV;rw[if_pos hj,if_pos hj];rfl
       rw[e2];simpa using this)
     rw[Qr.out.2.2.2] at h1;exact h1)
    have TW:Hid (¬(A.nm=au\/(B.nm≠au/\blt B.nm A.nm=true))->dZ gK a {b_ A B with tm:=A.tm}=st6):=ah (fun hj=>by
     rw[<-wQ.out];unfold b_;rw[if_neg hj,if_neg hj])
    clear hra hrb;by_cases h1:A.nm=au
    .rw [dT h1] at s1;have HQ:=ah (Jb.out (.inl h1));clear Jb TW s2 s3 h1
     go_wp2_with fail
     go_quiet (fail)
     go_wp2_with fail
     go_region
     go_wp2_with fail
     go_meet
     case rel=>exact ah (HQ.out _ ((aC.refl _ wc).drewN' _))
    .rw [dF h1] at s1;by_cases h2:B.nm=au
     .rw [dT h2] at s2;have HQ:=ah (TW.out (fun h=>h.elim h1 (fun h=>h.1 h2)));clear Jb TW s3 h1 h2
      go_wp2_with fail
      go_quiet (fail)
      go_wp2_with fail
      go_meet
      case rel=>
       rw[HQ.out];exact ah (uV.out.ext ((aC.refl _ wc).drewN' nq))
     .rw [dF h2] at s2;cases h3:blt B.nm A.nm with
      |true=>
       rw[h3] at s3;have HQ:=ah (Jb.out (.inr ⟨h2,h3⟩));clear Jb TW h1 h2 h3
       go_wp2_with fail
       go_quiet (fail)
       go_wp2_with fail
       go_region
       go_wp2_with fail
       go_meet
       case rel=>exact ah (HQ.out _ ((aC.refl _ wc).drewN' _))
      |false=>
       rw[h3] at s3;have HQ:=ah (TW.out (fun h=>h.elim h1 (fun h=>by rw[h3] at h;cases h.2)));clear Jb TW h1 h2 h3
       go_wp2_with fail
       go_quiet (fail)
       go_wp2_with fail
       go_meet
       case rel=>
        rw[HQ.out];exact ah (uV.out.ext ((aC.refl _ wc).drewN' nq))
   case rest=>
    have dB:=hcut;clear hcut uV;have lZ:Hid (({st2 with cs:=(st2.cs.set b {B with up:=some a}).set a (b_ A B)}:St)=dZ gK a (b_ A B)):=ah (by rw[<-H3.out.1];rfl);have hc:=HC'.out;rw[lZ.out] at hc;have BA:Hid ((dZ gK a {b_ A B with tm:=A.tm}).cs[a]?=some {b_ A B with tm:=A.tm}/\a< (dZ gK a {b_ A B with tm:=A.tm}).cs.length/\(dZ gK a {b_ A B with tm:=A.tm}).cs[b]?=some {B with up:=some a}/\(∀X,dZ (dZ gK a {b_ A B with tm:=A.tm}) a X=dZ gK a X)):=ah (by
     have hlen:a<gK.cs.length:=by rw[H3.out.2.2.2];exact HA'.out.1
     refine⟨?_,?_,?_,fun X=>Fh _ _ _ _⟩
     .show (gK.cs.set a _)[a]?=_;rw[List.getElem?_set,if_pos rfl,if_pos hlen]
     .show a< (gK.cs.set a _).length;rw[List.length_set];exact hlen
     .show (gK.cs.set a _)[b]?=_;rw[List.getElem?_set,if_neg e];exact H3.out.2.2.1)
    obtain⟨oa,hoa⟩: ∃o,A.tm=o:=⟨_,rfl⟩
    obtain⟨ob,hob⟩: ∃o,B.tm=o:=⟨_,rfl⟩
    clear HC' Qr wQ;cases oa with
    |none=>
     cases ob with
     |none=>
      rw[hoa,hob] at hc;simp only[Option.some.injEq,Prod.mk.injEq] at hc;obtain⟨rfl,rfl⟩:=hc;have hra:=dB.out.ur.us.row a _ BA.out.1;have a4:=aj hra 4 (.pointer none) (by show some (pV (Option.map ad A.tm))=_;rw[hoa];rfl);have fa:=fun i=>aA hra i;have e9:pV (Option.map ad A.tm)= .pointer none:=by rw[hoa];rfl
      have e10:pV (Option.map ad B.tm)= .pointer none:=by rw[hob];rfl
      have HP:Hid (fZ T ad S 121 108 bv bn ub bk bk2 (dZ gK a (b_ A B)) w (wc.setCell ⟨blk bk2 a,4,none⟩ (.pointer none))):=ah (by
       have h1:=dB.out.put BA.out.2.1 (b_ A B) ⟨(dB.out.ur.us.vO _ (List.mem_of_getElem? BA.out.1)).1,fun i hi=>(dB.out.ur.us.vO _ (List.mem_of_getElem? BA.out.2.2.1)).2 i (by unfold b_ at hi;simp only[hoa] at hi;exact hi)⟩
        ((aC.refl (fun k=>k=blk bk2 a) wc).setCell (p:=⟨blk bk2 a,4,none⟩) (.inl rfl) (.pointer none)) (by
         have:=setBlock hra 4 (.pointer none);have e2:dV ad bk2 (b_ A B)=(dV ad bk2 {b_ A B with tm:=A.tm}).set! 4 (.pointer none):=by
          have e3:(b_ A B).tm=B.tm:=by unfold b_;simp only[hoa]
          unfold dV;rw[e3,e10];rfl
         rw[e2];simpa using this)
       rw[BA.out.2.2.2] at h1;exact h1)
      rw[e9,e10];clear hra e9 e10 hoa hob
      go_wp2_with fail
      go_ret;exact⟨rfl,bk2,HP.out⟩
     |some y=>
      rw[hoa,hob] at hc;simp only[Option.some.injEq,Prod.mk.injEq] at hc;obtain⟨rfl,rfl⟩:=hc;have hra:=dB.out.ur.us.row a _ BA.out.1;have a4:=aj hra 4 (.pointer none) (by show some (pV (Option.map ad A.tm))=_;rw[hoa];rfl);have fa:=fun i=>aA hra i;have e9:pV (Option.map ad A.tm)= .pointer none:=by rw[hoa];rfl
      have e10:pV (Option.map ad B.tm)=jG (ad y):=by rw[hob];rfl
      have HP:Hid (fZ T ad S 121 108 bv bn ub bk bk2 (dZ gK a (b_ A B)) w (wc.setCell ⟨blk bk2 a,4,none⟩ (jG (ad y)))):=ah (by
       have h1:=dB.out.put BA.out.2.1 (b_ A B) ⟨(dB.out.ur.us.vO _ (List.mem_of_getElem? BA.out.1)).1,fun i hi=>(dB.out.ur.us.vO _ (List.mem_of_getElem? BA.out.2.2.1)).2 i (by unfold b_ at hi;simp only[hoa] at hi;exact hi)⟩
        ((aC.refl (fun k=>k=blk bk2 a) wc).setCell (p:=⟨blk bk2 a,4,none⟩) (.inl rfl) (jG (ad y))) (by
         have:=setBlock hra 4 (jG (ad y));have e2:dV ad bk2 (b_ A B)=(dV ad bk2 {b_ A B with tm:=A.tm}).set! 4 (jG (ad y)):=by
          have e3:(b_ A B).tm=B.tm:=by unfold b_;simp only[hoa]
          unfold dV;rw[e3,e10];rfl
         rw[e2];simpa using this)
       rw[BA.out.2.2.2] at h1;exact h1)
      rw[e9,e10];clear hra e9 e10 hoa hob
      go_wp2_with fail
      go_ret;exact⟨rfl,bk2,HP.out⟩
    |some x=>
     have hjt:({b_ A B with tm:=A.tm}:Cl)=b_ A B:=by unfold b_;simp only[hoa]
     rw[hjt] at dB;have e9:pV (Option.map ad A.tm)= .pointer (some ⟨(ad x).1,(ad x).2,none⟩):=by rw[hoa];rfl
     have hxl:x<T.length:=(dB.out.ur.us.vO _ (List.mem_of_getElem? (show(dZ gK a (b_ A B)).cs[a]?=some (b_ A B) from by rw[<-hjt];exact BA.out.1))).2 x (by rw[<-hjt];exact hoa);have hyl: ∀y,ob=some y->y<T.length:=fun y hy=>(dB.out.ur.us.vO _ (List.mem_of_getElem? (show(dZ gK a (b_ A B)).cs[b]?=some {B with up:=some a} from by rw[<-hjt];exact BA.out.2.2.1))).2 y (by show B.tm=some y;rw[hob,hy]);clear hjt BA;cases ob with
     |none=>
      rw[hoa,hob] at hc;simp only[Option.some.injEq,Prod.mk.injEq] at hc;obtain⟨rfl,rfl⟩:=hc;have e10:pV (Option.map ad B.tm)= .pointer none:=by rw[hob];rfl
      rw[e9,e10];clear e9 e10 hoa hob
      go_wp2_with fail
      go_ret;exact⟨rfl,bk2,dB.out⟩
     |some y=>
      rw[hoa,hob] at hc;simp only at hc;have hyl:=hyl y rfl;have e10:pV (Option.map ad B.tm)= .pointer (some ⟨(ad y).1,(ad y).2,none⟩):=by rw[hob];rfl
      rw[e9,e10];clear e9 e10 hoa hob;cases hX:T[x]? with
      |none=>rw[List.getElem?_eq_getElem hxl] at hX;cases hX
      |some X=>
      cases hY:T[y]? with
      |none=>rw[List.getElem?_eq_getElem hyl] at hY;cases hY
      |some Y=>
      rw[hX,hY] at hc;simp only at hc;have Qs:=ah (And.intro hX hY);have WV:=hTB x X hX;obtain⟨x0,_,xa,xc,x2,_⟩:=dB.out.ur.nd.row x X hX;obtain⟨y0,_,ya,yc,y2,_⟩:=dB.out.ur.nd.row y Y hY;have s3:=lJ X.nm Y.nm;clear hX hY hxl hyl;by_cases h1:X.nm=Y.nm
      .rw [dT h1] at s3;by_cases h2:X.ks.length=Y.ks.length
       .rw [if_neg (by rintro(h|h);exact h h1;exact h h2)] at hc;have z1:decide (X.ks.length=Y.ks.length)=true:=dT h2;have z2:((X.ks.length:Int) !=(Y.ks.length:Int))=false:=by rw[h2];simp
        have I_:=ah hc;have HLE:=ah h2;clear h1 hc h2
        go_wp2_with fail
        go_quiet (fail)
        have OV:Hid (fZ T ad S 121 108 bv bn ub bk bk2 (dZ gK a (b_ A B)) w (wc.drewN nq)):=ah (dB.out.ext ((aC.refl _ wc).drewN' nq))
        go_wp2_with fail
        clear s3 z1 z2 x0 x2 y0 y2;generalize wc.drewN nq=w9 at*
        go_loopg [147] X.ks.length (fun gk iv wr=> ∃(k:Nat) (stk:St) (wX:List Nat),iv= .int .i64 (k:Int)/\gk=X.ks.length-k/\k<=X.ks.length/\Hid (fZ T ad S 121 108 bv bn ub bk wX stk w wr)/\Hid (TY (MN T F) stk (X.ks.drop k) (Y.ks.drop k)=some (st',ok)))
        case atStart=>exact⟨0,_,_,rfl,rfl,Nat.zero_le _,OV,I_⟩
        case round=>
         clear OV I_ dB lZ H3;obtain⟨k,stk,wX,rfl,rfl,hk,HU,HCk⟩:=hrel;have hc:=HCk.out;by_cases hlt:k<X.ks.length
         .have hlt2:k<Y.ks.length:=by rw[<-HLE.out];exact hlt
          obtain⟨_,_,xa',xc',x2,hxk⟩:=HU.out.ur.nd.row x X Qs.out.1;obtain⟨_,_,ya',yc',y2,hyk⟩:=HU.out.ur.nd.row y Y Qs.out.2;obtain⟨xg,xo,rfl,Fj⟩:=hxk (by omega);obtain⟨yg,yo,rfl,afV⟩:=hyk (by omega);have hxa:=(Fj k _ (List.getElem?_eq_getElem hlt)).2;have hya:=(afV k _ (List.getElem?_eq_getElem hlt2)).2;rw[List.drop_eq_getElem_cons hlt,List.drop_eq_getElem_cons hlt2] at hc;unfold TY at hc;cases hun:MN T F stk X.ks[k] Y.ks[k] with
          |none=>rw[hun] at hc;cases hc
          |some q=>
          obtain⟨st1',ok1⟩:=q;rw[hun] at hc;have HI:=ah (fun W (hW:Ext wr W)=>HIH.out wX stk st1' W X.ks[k] Y.ks[k] ok1 (HU.out.ur.ext hW) hun);rw[hxa,hya] at HI;have z0:(0:Int)<=(k:Int):=by omega
          have z1:(k:Int)< (X.ks.length:Int):=by omega
          have z1':(k:Int)< (Y.ks.length:Int):=by omega
          have z2:decide ((k:Int)< (X.ks.length:Int))=true:=dT z1;have z2':decide (k<X.ks.length)=true:=dT hlt;have HC2:=ah hc;clear hxk hyk Fj afV hxa hya hun hc
          go_wp2_with fail
          refine iL 13 (by kernel_rfl) (by kernel_rfl) ?_;simp only[List.take_succ_cons,List.take_zero,List.drop_succ_cons,List.drop_zero]
          repeat (go_big_quiet_step (fail))
          refine wpQuiet_nil ?_;change wpList _ _ _ _ _ wr.drew
          go_wp2_with fail
          refine(HI.out wr.drew (aC.refl _ wr).drew).mono ?_;rintro e w5 ⟨rfl,bk5,XQ⟩;have kX:=ah ((HU.out.ext (aC.refl _ wr).drew).trans XQ);have hc:=HC2.out;clear XQ HI HC2 x2 y2;cases ok1 with
          |false=>
           simp only[Option.some.injEq,Prod.mk.injEq] at hc;obtain⟨rfl,rfl⟩:=hc
           go_wp2_with fail
           go_ret;exact⟨rfl,bk5,kX.out⟩
          |true=>
           simp only at hc;have HC3:=ah hc;clear hc
           go_wp2_with fail
           go_roundg (X.ks.length- (k+1))
           case measure=>omega
           case rel=>exact⟨k+1,_,_,by go_num,rfl,by omega,kX,HC3⟩
         .obtain rfl:k=X.ks.length:=by omega
          have z2:decide ((X.ks.length:Int)< (X.ks.length:Int))=false:=dF (by omega);rw[List.drop_length] at hc;have hun: ∀ys,TY (MN T F) stk [] ys=some (stk,true):=fun ys=>by unfold TY;rfl
          rw[hun] at hc;simp only[Option.some.injEq,Prod.mk.injEq] at hc;obtain⟨rfl,rfl⟩:=hc;clear hun
          go_wp2_with fail
          go_ret;exact⟨rfl,wX,HU.out⟩
       .rw [if_pos (.inr h2)] at hc;have z1:decide (X.ks.length=Y.ks.length)=false:=dF h2;have z2:((X.ks.length:Int) !=(Y.ks.length:Int))=true:=by rw[bne_iff_ne];intro h;exact h2 (by omega)
        clear h1 h2;simp only[Option.some.injEq,Prod.mk.injEq] at hc;obtain⟨rfl,rfl⟩:=hc
        go_wp2_with fail
        go_quiet (fail)
        go_wp2_with fail
        go_ret;exact⟨rfl,bk2,dB.out.ext ((aC.refl _ wc).drewN' nq)⟩
      .rw [dF h1] at s3;rw[if_pos (.inl h1)] at hc;clear h1;simp only[Option.some.injEq,Prod.mk.injEq] at hc;obtain⟨rfl,rfl⟩:=hc
       go_wp2_with fail
       go_quiet (fail)
       go_wp2_with fail
       go_ret;exact⟨rfl,bk2,dB.out.ext ((aC.refl _ wc).drewN' nq)⟩
end Go.Proofs.YtlkcjmaiahnodaaGreatDoor
