/- The texts ShelfS I99 N1 N2 N3 N4 N5, one behind the other. -/
import Derived.Test.YtlkcjmaiahnodaaGreatDoorSAG
import Derived.Ground.SlsfProg
import Derived.Shelf.SlSortCmp.InsertionK
import Derived.Shelf.SlSortCmp.SiftDownK
import Derived.Shelf.SlSortCmp.HeapSortK
import Derived.Shelf.SlSortCmp.MedianK
import Derived.Shelf.SlSortCmp.PivotK
import Derived.Shelf.SlSortCmp.ReverseRangeK
import Derived.Shelf.SlSortCmp.PartialInsertionK
import Derived.Shelf.SlSortCmp.PartitionEqualK
import Derived.Shelf.SlSortCmp.PartitionK
import Derived.Shelf.SlSortCmp.PdqK
import Derived.Shelf.SlSortCmp.WholeK
import Derived.Shelf.SlSortCmp.NoneTotal
import Derived.Test.YtlkcjmaiahnodaaGreatDoorSAH
import Derived.Test.YtlkcjmaiahnodaaGreatDoorSAI
import Derived.Test.YtlkcjmaiahnodaaGreatDoorSAC
import Derived.Maps.RangeRun
import Derived.Test.YtlkcjmaiahnodaaGreatDoorSAB
import Derived.Test.YtlkcjmaiahnodaaGreatDoorSAD
import Derived.Deep.DeepCutAuto
import Derived.BigQuiet
set_option maxRecDepth 100000
set_option maxHeartbeats 8000000
set_option linter.unusedVariables false
set_option linter.unusedSimpArgs false
namespace Go.Proofs
section
open Go.Shelf
def Tryz.laysSlF06_f97_ren:Go.Shelf.Ren:=⟨fun|6=>97|15=>160|14=>159|28=>207|29=>208|20=>199|21=>200|22=>201|23=>202|24=>203|25=>204|26=>205|27=>206|46=>231|47=>232|48=>233|49=>234|50=>235|57=>244|n=>n,fun|22=>27|24=>93|25=>141|3=>3|39=>195|0=>0|53=>236|55=>238|4=>4|46=>230|45=>229|50=>136|5=>5|9=>9|66=>251|70=>96|76=>263|77=>191|n=>n,fun|n=>n⟩
theorem Tryz.laysSlF06_f97:Go.Proofs.SlLaysF0.n6 Tryz.prog Tryz.laysSlF06_f97_ren:={
 mixed:=by kernel_rfl
 f6:=⟨Tryz.f97.name,by decide,Tryz.func97.trans (congrArg some (by kernel_rfl))⟩
 f14:=⟨Tryz.f159.name,by decide,Tryz.func159.trans (congrArg some (by kernel_rfl))⟩
 f15:=Tryz.func160.trans (congrArg some (by kernel_rfl))
 f20:=⟨Tryz.f199.name,by decide,Tryz.func199.trans (congrArg some (by kernel_rfl))⟩
 f21:=⟨Tryz.f200.name,by decide,Tryz.func200.trans (congrArg some (by kernel_rfl))⟩
 f22:=⟨Tryz.f201.name,by decide,Tryz.func201.trans (congrArg some (by kernel_rfl))⟩
 f23:=⟨Tryz.f202.name,by decide,Tryz.func202.trans (congrArg some (by kernel_rfl))⟩
 f24:=⟨Tryz.f203.name,by decide,Tryz.func203.trans (congrArg some (by kernel_rfl))⟩
 f25:=⟨Tryz.f204.name,by decide,Tryz.func204.trans (congrArg some (by kernel_rfl))⟩
 f26:=⟨Tryz.f205.name,by decide,Tryz.func205.trans (congrArg some (by kernel_rfl))⟩
 f27:=⟨Tryz.f206.name,by decide,Tryz.func206.trans (congrArg some (by kernel_rfl))⟩
 f28:=Tryz.func207.trans (congrArg some (by kernel_rfl))
 f29:=Tryz.func208.trans (congrArg some (by kernel_rfl))
 f46:=⟨Tryz.f231.name,by decide,Tryz.func231.trans (congrArg some (by kernel_rfl))⟩
 f47:=Tryz.func232.trans (congrArg some (by kernel_rfl))
 f48:=Tryz.func233.trans (congrArg some (by kernel_rfl))
 f49:=⟨Tryz.f234.name,by decide,Tryz.func234.trans (congrArg some (by kernel_rfl))⟩
 f50:=⟨Tryz.f235.name,by decide,Tryz.func235.trans (congrArg some (by kernel_rfl))⟩
 f57:=⟨Tryz.f244.name,by decide,Tryz.func244.trans (congrArg some (by kernel_rfl))⟩
 t0:=Tryz.underlying0
 a0:=Tryz.isAgg0
 z0:=Tryz.sizeOf0
 v0:=Tryz.zeroValue0
 t3:=Tryz.underlying3
 a3:=Tryz.isAgg3
 z3:=Tryz.sizeOf3
 v3:=Tryz.zeroValue3
 t4:=Tryz.underlying4
 a4:=Tryz.isAgg4
 z4:=Tryz.sizeOf4
 v4:=Tryz.zeroValue4
 t5:=Tryz.underlying5
 a5:=Tryz.isAgg5
 z5:=Tryz.sizeOf5
 v5:=Tryz.zeroValue5
 t9:=Tryz.underlying9
 a9:=Tryz.isAgg9
 z9:=Tryz.sizeOf9
 v9:=Tryz.zeroValue9
 t22:=Tryz.underlying27
 a22:=Tryz.isAgg27
 z22:=Tryz.sizeOf27
 v22:=Tryz.zeroValue27
 t25:=Tryz.underlying141
 a25:=Tryz.isAgg141
 z25:=Tryz.sizeOf141
 v25:=Tryz.zeroValue141
 t39:=Tryz.underlying195
 a39:=Tryz.isAgg195
 z39:=Tryz.sizeOf195
 v39:=Tryz.zeroValue195
 t45:=Tryz.underlying229
 a45:=Tryz.isAgg229
 z45:=Tryz.sizeOf229
 v45:=Tryz.zeroValue229
 t46:=Tryz.underlying230
 a46:=Tryz.isAgg230
 z46:=Tryz.sizeOf230
 v46:=Tryz.zeroValue230
 t50:=Tryz.underlying136
 a50:=Tryz.isAgg136
 z50:=Tryz.sizeOf136
 v50:=Tryz.zeroValue136
 t53:=Tryz.underlying236
 a53:=Tryz.isAgg236
 z53:=Tryz.sizeOf236
 v53:=Tryz.zeroValue236
 t55:=Tryz.underlying238
 a55:=Tryz.isAgg238
 z55:=Tryz.sizeOf238
 v55:=Tryz.zeroValue238
 t66:=Tryz.underlying251
 a66:=Tryz.isAgg251
 z66:=Tryz.sizeOf251
 v66:=Tryz.zeroValue251
 t70:=Tryz.underlying96
 a70:=Tryz.isAgg96
 z70:=Tryz.sizeOf96
 v70:=Tryz.zeroValue96
 t76:=Tryz.underlying263
 a76:=Tryz.isAgg263
 z76:=Tryz.sizeOf263
 v76:=Tryz.zeroValue263
 t77:=Tryz.underlying191
 a77:=Tryz.isAgg191
 z77:=Tryz.sizeOf191
 v77:=Tryz.zeroValue191}
def Tryz.laysSlF06_f140_ren:Go.Shelf.Ren:=⟨fun|6=>140|15=>160|14=>191|28=>207|29=>208|20=>220|21=>221|22=>222|23=>223|24=>224|25=>225|26=>226|27=>227|46=>238|47=>232|48=>233|49=>239|50=>240|57=>245|n=>n,fun|22=>111|24=>116|25=>182|3=>3|39=>195|0=>0|53=>236|55=>238|4=>4|46=>230|45=>229|50=>136|5=>5|9=>9|66=>251|70=>96|76=>263|77=>191|n=>n,fun|n=>n⟩
theorem Tryz.laysSlF06_f140:Go.Proofs.SlLaysF0.n6 Tryz.prog Tryz.laysSlF06_f140_ren:={
 mixed:=by kernel_rfl
 f6:=⟨Tryz.f140.name,by decide,Tryz.func140.trans (congrArg some (by kernel_rfl))⟩
 f14:=⟨Tryz.f191.name,by decide,Tryz.func191.trans (congrArg some (by kernel_rfl))⟩
 f15:=Tryz.func160.trans (congrArg some (by kernel_rfl))
 f20:=⟨Tryz.f220.name,by decide,Tryz.func220.trans (congrArg some (by kernel_rfl))⟩
 f21:=⟨Tryz.f221.name,by decide,Tryz.func221.trans (congrArg some (by kernel_rfl))⟩
 f22:=⟨Tryz.f222.name,by decide,Tryz.func222.trans (congrArg some (by kernel_rfl))⟩
 f23:=⟨Tryz.f223.name,by decide,Tryz.func223.trans (congrArg some (by kernel_rfl))⟩
 f24:=⟨Tryz.f224.name,by decide,Tryz.func224.trans (congrArg some (by kernel_rfl))⟩
 f25:=⟨Tryz.f225.name,by decide,Tryz.func225.trans (congrArg some (by kernel_rfl))⟩
 f26:=⟨Tryz.f226.name,by decide,Tryz.func226.trans (congrArg some (by kernel_rfl))⟩
 f27:=⟨Tryz.f227.name,by decide,Tryz.func227.trans (congrArg some (by kernel_rfl))⟩
 f28:=Tryz.func207.trans (congrArg some (by kernel_rfl))
 f29:=Tryz.func208.trans (congrArg some (by kernel_rfl))
 f46:=⟨Tryz.f238.name,by decide,Tryz.func238.trans (congrArg some (by kernel_rfl))⟩
 f47:=Tryz.func232.trans (congrArg some (by kernel_rfl))
 f48:=Tryz.func233.trans (congrArg some (by kernel_rfl))
 f49:=⟨Tryz.f239.name,by decide,Tryz.func239.trans (congrArg some (by kernel_rfl))⟩
 f50:=⟨Tryz.f240.name,by decide,Tryz.func240.trans (congrArg some (by kernel_rfl))⟩
 f57:=⟨Tryz.f245.name,by decide,Tryz.func245.trans (congrArg some (by kernel_rfl))⟩
 t0:=Tryz.underlying0
 a0:=Tryz.isAgg0
 z0:=Tryz.sizeOf0
 v0:=Tryz.zeroValue0
 t3:=Tryz.underlying3
 a3:=Tryz.isAgg3
 z3:=Tryz.sizeOf3
 v3:=Tryz.zeroValue3
 t4:=Tryz.underlying4
 a4:=Tryz.isAgg4
 z4:=Tryz.sizeOf4
 v4:=Tryz.zeroValue4
 t5:=Tryz.underlying5
 a5:=Tryz.isAgg5
 z5:=Tryz.sizeOf5
 v5:=Tryz.zeroValue5
 t9:=Tryz.underlying9
 a9:=Tryz.isAgg9
 z9:=Tryz.sizeOf9
 v9:=Tryz.zeroValue9
 t22:=Tryz.underlying111
 a22:=Tryz.isAgg111
 z22:=Tryz.sizeOf111
 v22:=Tryz.zeroValue111
 t25:=Tryz.underlying182
 a25:=Tryz.isAgg182
 z25:=Tryz.sizeOf182
 v25:=Tryz.zeroValue182
 t39:=Tryz.underlying195
 a39:=Tryz.isAgg195
 z39:=Tryz.sizeOf195
 v39:=Tryz.zeroValue195
 t45:=Tryz.underlying229
 a45:=Tryz.isAgg229
 z45:=Tryz.sizeOf229
 v45:=Tryz.zeroValue229
 t46:=Tryz.underlying230
 a46:=Tryz.isAgg230
 z46:=Tryz.sizeOf230
 v46:=Tryz.zeroValue230
 t50:=Tryz.underlying136
 a50:=Tryz.isAgg136
 z50:=Tryz.sizeOf136
 v50:=Tryz.zeroValue136
 t53:=Tryz.underlying236
 a53:=Tryz.isAgg236
 z53:=Tryz.sizeOf236
 v53:=Tryz.zeroValue236
 t55:=Tryz.underlying238
 a55:=Tryz.isAgg238
 z55:=Tryz.sizeOf238
 v55:=Tryz.zeroValue238
 t66:=Tryz.underlying251
 a66:=Tryz.isAgg251
 z66:=Tryz.sizeOf251
 v66:=Tryz.zeroValue251
 t70:=Tryz.underlying96
 a70:=Tryz.isAgg96
 z70:=Tryz.sizeOf96
 v70:=Tryz.zeroValue96
 t76:=Tryz.underlying263
 a76:=Tryz.isAgg263
 z76:=Tryz.sizeOf263
 v76:=Tryz.zeroValue263
 t77:=Tryz.underlying191
 a77:=Tryz.isAgg191
 z77:=Tryz.sizeOf191
 v77:=Tryz.zeroValue191}
open Go.RowKit Go.Lib Go.Sort in
theorem Tryz.slices_SortFunc_f97 {α:Type} [Inhabited α] (k:Nat) (i: ∀w,(isAgg (Tryz.laysSlF06_f97_ren.t 24)).run Tryz.prog w= .ok true w) (j: ∀w,(Go.sizeOf (Tryz.laysSlF06_f97_ren.t 24)).run Tryz.prog w= .ok k w) (enc:α->List Value) (hk: ∀x,(enc x).length=k) (h1: ∀x,∀v∈enc x,v.oneCell'=true) (a:α->α->Int) (hO:SWO (ltOf a)) (g:Nat) (b:Array Value) (blk off cap:Nat) (d:Array α) (w:World) (eg: ∀args w,(callFunc g args).run Tryz.prog w= .ok (.enter g args) w) (c:CmpLays Tryz.prog g b enc k a blk off d.size w) (hH:HoldsK enc k w blk off d) (hblk:blk<w.heap.size) (h:d.size<4611686018427387904):
  Calls Tryz.prog 97 #[.slice (some ⟨blk,off,none⟩) d.size cap,.func (.func g) #[] b] w fun e w'=>
   e= .returned (.tuple #[])/\∃d' n os,PermIn 0 d.size d d'/\SortedIn (ltOf a) 0 d.size d'/\w'=sortWorldK enc k w blk off n d' os:=AnyQ.slices_SortFunc Tryz.laysSlF06_f97 k i j enc hk h1 a hO g b blk off cap d w eg c hH hblk h
open Go.RowKit Go.Lib Go.Sort in
theorem Tryz.slices_SortFunc_f140 {α:Type} [Inhabited α] (k:Nat) (i: ∀w,(isAgg (Tryz.laysSlF06_f140_ren.t 24)).run Tryz.prog w= .ok true w) (j: ∀w,(Go.sizeOf (Tryz.laysSlF06_f140_ren.t 24)).run Tryz.prog w= .ok k w) (enc:α->List Value) (hk: ∀x,(enc x).length=k) (h1: ∀x,∀v∈enc x,v.oneCell'=true) (a:α->α->Int) (hO:SWO (ltOf a)) (g:Nat) (b:Array Value) (blk off cap:Nat) (d:Array α) (w:World) (eg: ∀args w,(callFunc g args).run Tryz.prog w= .ok (.enter g args) w) (c:CmpLays Tryz.prog g b enc k a blk off d.size w) (hH:HoldsK enc k w blk off d) (hblk:blk<w.heap.size) (h:d.size<4611686018427387904):
  Calls Tryz.prog 140 #[.slice (some ⟨blk,off,none⟩) d.size cap,.func (.func g) #[] b] w fun e w'=>
   e= .returned (.tuple #[])/\∃d' n os,PermIn 0 d.size d d'/\SortedIn (ltOf a) 0 d.size d'/\w'=sortWorldK enc k w blk off n d' os:=AnyQ.slices_SortFunc Tryz.laysSlF06_f140 k i j enc hk h1 a hO g b blk off cap d w eg c hH hblk h
open Go.RowKit Go.Lib Go.Sort in
theorem Tryz.slices_SortFunc_none_f97 {α:Type} [Inhabited α] (p:Option Addr) (cap:Nat) (fv:Value) (w:World):
  Calls Tryz.prog 97 #[.slice p 0 cap,fv] w fun e w'=>e= .returned (.tuple #[])/\w'=w:=AnyF.slices_SortFunc_none Tryz.laysSlF06_f97 p cap fv w
open Go.RowKit Go.Lib Go.Sort in
theorem Tryz.slices_SortFunc_none_f140 {α:Type} [Inhabited α] (p:Option Addr) (cap:Nat) (fv:Value) (w:World):
  Calls Tryz.prog 140 #[.slice p 0 cap,fv] w fun e w'=>e= .returned (.tuple #[])/\w'=w:=AnyF.slices_SortFunc_none Tryz.laysSlF06_f140 p cap fv w
end
end Go.Proofs
namespace Go.Proofs.YtlkcjmaiahnodaaGreatDoor
open Go.RowKit Go.Hw Go Tm
section
open Go.Sort Go.Proofs Go.ChangeMaps
abbrev AO (f:Vd):List Value:=[.string f.1,.string f.2]
theorem VP (L:List Vd):bZ L=L.flatMap AO:=rfl
theorem afT (x y:Vd) (w:World):Calls Tryz.prog 141 #[.agg (AO x).toArray,.agg (AO y).toArray] w fun e w'=>e= .returned (.int .i64 (ET (Prod.fst:Vd->By) x y))/\∃q os',w'=grow (w.drewN q) os':=by
 have a:=ak (aj w (dC x.1 x.2)) (dC y.1 y.2);have b:=alloc_at (w.alloc (dC x.1 x.2)) (dC y.1 y.2) (n:=w.heap.size+1) (by simp);have d:=ag a 0 (.string x.1) rfl;have d0:=ag b 0 (.string y.1) rfl;have hc:=fun W=>Tryz.strings_Compare x.1 y.1 W;change ∀W,Calls _ _ _ W fun e w'=>e= .returned (.int .i64 (ET (Prod.fst:Vd->By) x y))/\w'=W at hc;have c:=ae hc;generalize ET (Prod.fst:Vd->By) x y=r at*;clear a b hc
 go_enter Tryz.func141,Tryz.ntmps141;go_wp2_with fail;refine(c.o _).mono ?_;rintro e g ⟨rfl,rfl⟩;go_wp2_with fail;go_ret;exact⟨rfl,0,_,by rw[alloc_eq_grow,alloc_eq_grow,grow_grow];rfl⟩
theorem ad1 (L:List Vd) (base:Nat) (v:Value) (w:World) (hO:w.ownsRow base 116 2 v L.length (bZ L)) (hd:L.Pairwise fun x y=>x.1≠y.1) (hl:L.length<=1000000):
  Calls Tryz.prog 140 #[v,.func (.func 141) #[] #[]] w fun e w'=>e= .returned (.tuple #[])/\∃c,AscK (Prod.fst:Vd->By) c/\c.Perm L/\dM (fun k=>v.ownBlock=some k) w' v c/\au (fun k=>v.ownBlock=some k) w w':=by
 by_cases h0:0<L.length
 .obtain ⟨g,cap,rfl,hb,l,q,hcell,r⟩:=aco hO h0;have hH:HoldsK AO 2 w g 0 L.toArray:=NI AO 2 (fun _=>rfl) (fun j i=>⟨by rw[Nat.zero_add];exact hcell j i,r _⟩);have eg: ∀args w,(callFunc 141 args).run Tryz.prog w= .ok (.enter 141 args) w:=enters_of Tryz.func141 (by kernel_rfl) rfl;have h:=Tryz.slices_SortFunc_f140 2 (fun w=>Tryz.isAgg116 w) (fun w=>Tryz.sizeOf116 w) AO (fun _=>rfl) (fun x u hu=>by simp[AO] at hu;rcases hu with h|h<;>(subst h;rfl)) (ET (Prod.fst:Vd->By)) (Un _) 141 #[] g 0 cap L.toArray w eg (fun m os A _ x y=>afT x y _) hH l (by simp;omega);rw[show L.toArray.size=L.length by simp] at h;refine h.mono ?_;rintro e w' ⟨rfl,d',n,os,hp,hs,rfl⟩;have b:d'.size=L.length:=by have:=hp.1;simpa using this
  obtain⟨ha,p⟩:=Qi (d:=L.toArray) (Prod.fst:Vd->By) (by rw[show L.toArray.size=L.length by simp];exact hp) (by rw[show L.toArray.size=L.length by simp];exact hs) (by simpa using hd);have o:d'.toList.length=L.length:=by simpa using b
  refine⟨rfl,d'.toList,ha,by simpa using p,?_,(NJ AO 2 w g 0 n d' os).mono (fun k _ e=>by rw[e];rfl)⟩;have t:=holdsK_sortWorldK_c AO 2 w g 0 L.toArray d' n os hH l (by simpa using b);unfold dM;rw[o];refine aB.mk' (by rw[VQ,o]) rfl q (fun _=>rfl) (fun j i=>?_);rw[VP];exact(EU AO 2 (fun _=>rfl) t j (by rw[b];exact i)).1
 .have z:L=[]:=List.eq_nil_of_length_eq_zero (by omega);subst z;obtain⟨a,cap,rfl⟩:=bF hO;have h:=Tryz.slices_SortFunc_none_f140 (α:=Vd) a cap (.func (.func 141) #[] #[]) w;refine h.mono ?_;rintro e w' ⟨rfl,rfl⟩;exact⟨rfl,[],List.Pairwise.nil,List.Perm.refl _,aB.gG hO,au.refl _ _⟩
def tK (t:Tm):List Vd×Int:=if wf aC t=true then(aY t,0) else([],1)
theorem TE {t:Tm} {m:List Vd} (h:kM t=some m):m.Pairwise (fun p q=>p.1≠q.1):=by
 have a:Cons []:=fun f hf=>by cases hf
 obtain⟨h1,_⟩:=Cm (vl (bu t)) [] a;exact(h1 m h).2.2 List.Pairwise.nil
theorem JP {t:Tm} {m:List Vd} (h:kM t=some m):AscK (Prod.fst:Vd->By) (aY t)/\∀f,f∈aY t<->f∈m:=by
 obtain⟨_,h1⟩:=CB (vl (bu t)) [] [] List.Pairwise.nil (fun _=>rfl) (fun _=>Iff.rfl);obtain⟨a,_,b⟩:=h1 m h;exact⟨a,b⟩
theorem Ad: ∀(fs m m':List Vd),jR m fs=some m'->m'.length<=m.length+fs.length
 |[],m,m',h=>by injection h with h;rw[<-h];simp
 |f::fs,m,m',h=>by
  unfold jR at h;cases a:iM m f.1 with
  |none=>
   rw[a] at h;have:=Ad fs _ _ h;simp only[List.length_append,List.length_cons,List.length_nil] at this⊢;omega
  |some s=>
   rw[a] at h;simp only at h;split at h
   .have:=Ad fs _ _ h;simp only[List.length_cons];omega
   .cases h
theorem XX {es:List MapEntry} {m:List Vd} (h:es.map (fun e=>(e.key,e.val))=(uC m).map (fun p=>(Value.string p.1,p.2))) {e:MapEntry} (he:e∈es): ∃f∈m,e.key= .string f.1/\e.val= .string f.2:=by
 have h1:(e.key,e.val)∈(uC m).map (fun p=>(Value.string p.1,p.2)):=by
  rw[<-h];exact List.mem_map.2 ⟨e,he,rfl⟩
 obtain⟨p,hp,a⟩:=List.mem_map.1 h1;obtain⟨f,hf,rfl⟩:=List.mem_map.1 hp;injection a with b c
 exact⟨f,hf,b.symm,c.symm⟩
theorem XY {es:List MapEntry} {m:List Vd} (h:es.map (fun e=>(e.key,e.val))=(uC m).map (fun p=>(Value.string p.1,p.2))) {f:Vd} (hf:f∈m): ∃e∈es,e.key= .string f.1:=by
 have h1:(Value.string f.1,Value.string f.2)∈es.map (fun e=>(e.key,e.val)):=by
  rw[h];exact List.mem_map.2 ⟨(f.1,.string f.2),List.mem_map.2 ⟨f,hf,rfl⟩,rfl⟩
 obtain⟨e,he,a⟩:=List.mem_map.1 h1;injection a with b _
 exact⟨e,he,b⟩
theorem aad {es:List MapEntry} {m:List Vd} (h:es.map (fun e=>(e.key,e.val))=(uC m).map (fun p=>(Value.string p.1,p.2))) (hd:m.Pairwise (fun p q=>p.1≠q.1)) {x y:MapEntry} (hx:x∈es) (hy:y∈es) (hk:x.key=y.key):x=y:=by
 obtain⟨i,hi,rfl⟩:=List.getElem_of_mem hx;obtain⟨j,c,rfl⟩:=List.getElem_of_mem hy;have hlen:es.length=m.length:=by
  have:=congrArg List.length h;simpa using this
 have b: ∀i (hi:i<es.length),es[i].key= .string (m[i]'(by omega)).1:=fun i hi=>by
  have h1:(es.map (fun e=>(e.key,e.val)))[i]?=((uC m).map (fun p=>(Value.string p.1,p.2)))[i]?:=by rw[h]
  rw[List.getElem?_map,List.getElem?_map,List.getElem?_map,List.getElem?_eq_getElem hi,List.getElem?_eq_getElem (show i<m.length by omega)] at h1;injection h1 with h1
  injection h1 with h1 _
 rw[b i hi,b j c] at hk;injection hk with hk
 rw[List.pairwise_iff_getElem] at hd;rcases Nat.lt_trichotomy i j with a|a|a
 .exact absurd hk (hd i j (by omega) (by omega) a)
 .subst a;rfl
 .exact absurd hk.symm (hd j i (by omega) (by omega) a)
structure JQ (es:Array MapEntry) (seen:Array Nat) (m L:List Vd):Prop where
 sub: ∀f∈L,f∈m/\∃e∈es.toList,e.key= .string f.1/\seen.contains e.born=true
 I4:L.Pairwise (fun p q=>p.1≠q.1)
 all: ∀e∈es.toList,seen.contains e.born=true->∀f∈m,e.key= .string f.1->f∈L
theorem JQ.start (es:Array MapEntry) (m:List Vd):JQ es #[] m []:=⟨fun f hf=>(by cases hf),List.Pairwise.nil,fun e _ h=>(by simp at h)⟩
theorem JQ.next {es:Array MapEntry} {seen:Array Nat} {m L:List Vd} (hm:es.toList.map (fun e=>(e.key,e.val))=(uC m).map (fun p=>(Value.string p.1,p.2))) (hd:m.Pairwise (fun p q=>p.1≠q.1)) (hn:(es.toList.map (·.born)).Nodup) (h:JQ es seen m L) {e:MapEntry} (he:e∈es.toList) (hs:seen.contains e.born=false) {f:Vd} (hf:f∈m) (hk:e.key= .string f.1):JQ es (seen.push e.born) m (L++[f]):=by
 refine⟨fun g d=>?_,?_,fun x hx k g d l=>?_⟩
 .rcases List.mem_append.1 d with d|d
  .obtain ⟨a,x,hx,b,c⟩:=h.sub g d;exact⟨a,x,hx,b,by rw[contains_push,c];rfl⟩
  .rw [List.mem_singleton] at d;subst d;exact⟨hf,e,he,hk,by rw[contains_push,beq_self_eq_true,Bool.or_true]⟩
 .rw [List.pairwise_append];refine⟨h.I4,List.pairwise_singleton _ _,fun g d y hy heq=>?_⟩;rw[List.mem_singleton] at hy;subst hy;obtain⟨_,x,hx,b,c⟩:=h.sub g d;have o:x=e:=aad hm hd hx he (by rw[b,hk,heq]);rw[o,hs] at c;cases c
 .rw [contains_push,Bool.or_eq_true,beq_iff_eq] at k;rcases k with k|k
  .exact List.mem_append_left _ (h.all x hx k g d l)
  .have o:x=e:=born_inj hn hx he k;rw[o,hk] at l;injection l with l
   obtain⟨i,hi,r⟩:=List.getElem_of_mem hf;obtain⟨j,u,t⟩:=List.getElem_of_mem d;have w:g=f:=by
    rw[List.pairwise_iff_getElem] at hd;rcases Nat.lt_trichotomy i j with n|n|n
    .exact absurd (by rw[r,t];exact l) (hd i j hi u n)
    .subst n;rw[<-r,<-t]
    .exact absurd (by rw[r,t];exact l.symm) (hd j i u hi n)
   rw[w];exact List.mem_append_right _ (List.mem_singleton.2 rfl)
theorem JQ.fin {es:Array MapEntry} {seen:Array Nat} {m L:List Vd} (hm:es.toList.map (fun e=>(e.key,e.val))=(uC m).map (fun p=>(Value.string p.1,p.2))) (h:JQ es seen m L) (h0:(leftOf es seen).size=0): ∀f,f∈L<->f∈m:=fun f=>
 ⟨fun hf=>(h.sub f hf).1,fun hf=>by
  obtain⟨e,he,hk⟩:=XY hm hf;exact h.all e he (all_seen es seen h0 e he) f hf hk⟩
theorem vI (w:World) (r:Nat) (o:Obj):au (fun j=>j=r) w (Go.ChangeMaps.setBlock w r o):=⟨rfl,rfl,rfl,by simp[Go.ChangeMaps.setBlock],fun i hi hF=>by simp[Go.ChangeMaps.setBlock,Ne.symm (show i≠r from hF)]⟩
theorem tX {w:World} {r:Nat} {o o':Obj} (h:w.heap[r]?=some o):(Go.ChangeMaps.setBlock w r o').heap[r]?=some o':=by
 have:=(Array.getElem?_eq_some_iff.1 h).1;simp[Go.ChangeMaps.setBlock,this]
theorem uz (t:Tm) (v:Value) (w:World) (bk:dI w) (hR:bQ (fun k=>k<w.heap.size) w t v) (bl:(t.size:Int)<=1000000):Calls Tryz.prog 70 #[v] w fun e w'=> ∃r,e= .returned (.tuple #[r,.int .i64 (tK t).2])/\dM (fun k=>w.heap.size<=k/\k<w'.heap.size) w' r (tK t).1/\Ext w w':=by
 have bA:=ae hR;obtain⟨a,cap,rfl,aS⟩:=hR;have bB:=ae aS;dsimp only[tV];have K:=ae ((uR w).alloc (tO t a cap));have aU:=ae (aj w (tO t a cap));have bR:=ae bl;have A:=ae (fun W (hW:Ext w W)=>Pm t _ W (aT bk hW) ((bA.o.ext hW).weaken (bW hW)) (by omega));dsimp only[tV] at A;obtain⟨M,c1,c2⟩:=ah aU.o;clear aS;obtain⟨bC,Y⟩:=ay (tK t);have N:Hid ((if wf aC t=true then(aY t,0) else([],1))=bC):=ae Y;rw[Y];clear Y;cases y:formed aC t
 .rw [y] at A;have aE:=Pv y;have hv:=N.o;rw[aE,if_neg (by simp)] at hv;subst hv;clear aE y;go_enter Tryz.func70,Tryz.ntmps70;go_wp2_with fail;refine(A.o _ K.o).mono ?_;rintro e O ⟨rfl,z⟩;have aq:=ae (K.o.ext z);clear z M c1 c2;go_wp2_with fail;go_ret2;exact⟨_,rfl,aB.nil _ _ _,aq.o⟩
 rw[y] at A;have ar:Hid (wf aC t=(kM t).isSome):=ae (by unfold wf;rw[y,Bool.true_and]);clear y;go_enter Tryz.func70,Tryz.ntmps70;go_wp2_with fail;refine(A.o _ K.o).mono ?_;rintro e O ⟨rfl,z⟩;have aq:=ae (K.o.ext z);have bm:=ae (z.heap aU.o id);clear z M c1 c2;obtain⟨M,c1,c2⟩:=ah bm.o;have aV:=ae (aj O (tO t a cap));have Q:=ae (aq.o.alloc (tO t a cap));go_wp2_with fail;generalize (O.alloc (tO t a cap))=aW at*;obtain⟨aX,aZ,a1⟩:=ah aV.o;have R:=ae (TU t O.heap.size 0 1 0 cap a aW ⟨aX,aZ,a1⟩ ((bB.o.ext Q.o).weaken (bW Q.o)) (by omega));clear aX aZ a1 M c1 c2;refine R.o.mono ?_;rintro e n ⟨hp,I⟩;have a6:=ae (Q.o.ext I);have bn:=Nat.le_trans Q.o.size I.size;have bo:aW.heap.size<=n.heap.size:=I.size;unfold ED at hp;clear I R;cases g:kM t with
 |none=>
  rw[g] at hp;simp only at hp;subst hp;have hv:=N.o;rw[ar.o,g,if_neg (by simp)] at hv;subst hv;go_wp2_with fail;go_ret2;exact⟨_,rfl,aB.nil _ _ _,a6.o⟩
 |some m=>
  rw[g] at hp;simp only at hp;obtain⟨b,rfl,bp,es,clock,hb,aF,aG,aH⟩:=hp;have hv:=N.o;rw[ar.o,g,if_pos (by simp)] at hv;subst hv;have bq:=ae (TE g);have a7:=ae (JP g);have i:m.length<=1000000:=by
   have h1:=Ad _ _ _ (show jR [] (vl (bu t))=some m from g);have F:(vl (bu t)).length<=t.size:=by
    have h1:(vl (bu t)).length<=(bu t).length:=List.length_filterMap_le _ _;have F:(bu t).length=t.size:=by rw[bu,List.length_map,lH]
    omega
   simp only[List.length_nil] at h1;omega
  have a8:=ae i;have av:=ae aF;have ba:Hid ((es.toList.map (·.born)).Nodup):=ae (by
   rw[List.Nodup,List.pairwise_map];exact aG.imp (fun h e=>by omega))
  have bD:=ae aH;have br:=run_range_map (P:=Tryz.prog) n 178 9 9 b es clock Tryz.underlying178 hb;have aD:b<n.heap.size:=(Array.getElem?_eq_some_iff.1 hb).1;have aw:=ae aD;have aI:=ae (ak hb (.mapIter (some b) clock #[] clock));have Z:=ae (aj n (.mapIter (some b) clock #[] clock));have bb:=ae (a6.o.alloc (.mapIter (some b) clock #[] clock));have aa:Hid (n.heap.size+1<=(n.alloc (.mapIter (some b) clock #[] clock)).heap.size):=ae (by simp);have G:=ae bn;clear g aF aG aH i ar A aV hb aD bo bp N;go_wp2_with fail;try go_frame
  generalize n.alloc (.mapIter (some b) clock #[] clock)=bS at*;clear br;obtain⟨r,hr⟩:=ay n.heap.size;rw[hr] at Z aa aw G⊢;clear hr;go_loopg [6] (leftOf es #[]).size (fun gk bE wr=> ∃(c:Option Addr) (d:Nat) (L:List Vd) (seen:Array Nat),bE= .slice c L.length d/\gk=(leftOf es seen).size/\Hid (wr.ownsRow (r+1) 116 2 (.slice c L.length d) L.length (bZ L))/\Hid (wr.heap[r]?=some (.mapIter (some b) clock seen clock))/\Hid (wr.heap[b]?=some (.map es clock))/\Hid (Ext w wr)/\Hid (r+1<=wr.heap.size)/\Hid (JQ es seen m L));case atStart=>exact⟨none,0,[],#[],rfl,rfl,ae ⟨rfl,.inl ⟨rfl,rfl⟩⟩,Z,aI,bb,aa,ae (JQ.start es m)⟩
  case round=>
   clear Z aI bb aa;obtain⟨c,d,L,seen,rfl,rfl,S,aJ,ax,bc,R,B⟩:=hrel;rcases run_next_at (P:=Tryz.prog) wr 0 r b clock clock seen es clock aJ.o ax.o (fun x hx=>bD.o x hx) (Nat.le_refl _) with⟨h0,q⟩|⟨e,he,w1,J,q⟩
   .have ab: ∀ty,(Instr.next (.pointer (az r)) false ty).run Tryz.prog wr=_:=fun _=>q;have X:=B.o.fin av.o h0;have ad:L.length<=1000000:=by
     have af:L.Nodup:=B.o.I4.imp (fun h e=>h (by rw[e]));have:=af.length_le_of_subset (fun f hf=>(X f).1 hf);have:=a8.o;omega
    have aK:=ae (fun W (hW:Ext wr W)=>ad1 L (r+1) (.slice c L.length d) W (bM S.o hW (fun _ _ h=>h)) B.o.I4 ad);have ai:Hid (∀k,(Value.slice c L.length d).ownBlock=some k->r+1<=k/\k<wr.heap.size):=ae (fun k hk=>S.o.lt k hk);have bG:=ae X;clear X ad h0;go_wp2_with fail;refine(aK.o _ (au.refl _ _)).mono ?_;rintro e p ⟨rfl,bH,ha,V,hF,hu⟩;have al:bH=aY t:=I5 Prod.fst ha a7.o.1 (fun f=>by rw[V.mem_iff,bG.o f,a7.o.2 f]);have hlen:L.length=(aY t).length:=by rw[<-al,V.length_eq]
    have bs:Hid (dM (fun k=>w.heap.size<=k/\k<p.heap.size) p (.slice c L.length d) (aY t)):=ae (by rw[<-al];exact aB.weaken hF (fun k hk=>⟨by have h1:=(ai.o k hk).1;have F:=G.o;omega,aP (ai.o k hk).2 hu.size⟩));have aA:Hid (Ext w p):=ae (bc.o.trans' hu (fun j C e=>by have h1:=(ai.o j e).1;have F:=G.o;omega));clear ab q al hlen ha V hF hu aK;go_wp2_with fail;go_ret2;exact⟨_,rfl,bs.o,aA.o⟩
   .have i:=mem_left he;obtain⟨f,hf,hk,an⟩:=XX av.o i.1;have aL:w1.heap[r]?=some (.mapIter (some b) clock seen clock):=by rcases J with h|h<;>(rw[h];exact aJ.o)
    have bt:w1.heap[b]?=some (.map es clock):=by rcases J with h|h<;>(rw[h];exact ax.o)
    have E:au (fun j=>j=r) wr (Go.ChangeMaps.setBlock w1 r (.mapIter (some b) clock (seen.push e.born) clock)):=by
     have:=vI w1 r (.mapIter (some b) clock (seen.push e.born) clock);rcases J with h|h
     .rw [h] at this⊢;exact this
     .rw [h] at this⊢;exact this.EW
    have ao:=tX (o':= .mapIter (some b) clock (seen.push e.born) clock) aL;rw[hk,an] at q;generalize Go.ChangeMaps.setBlock w1 r (.mapIter (some b) clock (seen.push e.born) clock)=D at*;have bd:=ae (E.heap ax.o (by have:=aw.o;omega));have bI:=ae ao;have aM:=run_entry_at (P:=Tryz.prog) D r b clock seen es clock e ao bd.o i.1 ba.o;rw[hk,an] at aM;have ab: ∀ty,(Instr.next (.pointer (az r)) false ty).run Tryz.prog wr=_:=fun _=>q;have bf:Hid (D.ownsRow (r+1) 116 2 (.slice c L.length d) L.length (bZ L)):=ae (bM S.o E (fun j C e=>by have:=(S.o.lt j C).1;omega));have bJ:Hid (Ext w D):=ae (bc.o.trans' E (fun j C e=>by have F:=G.o;omega));have bK:=ae (B.o.next av.o bq.o ba.o i.1 i.2 hf hk);have bL:=ae (left_shrinks es seen e he);have ad:L.length<=1000000:=by
     have af:L.Nodup:=B.o.I4.imp (fun h e=>h (by rw[e]));have:=af.length_le_of_subset (fun f hf=>(B.o.sub f hf).1);have:=a8.o;omega
    have bg:Hid (r+1<=D.heap.size):=ae (Nat.le_trans R.o E.size);clear i hf hk an aL bt E ao he J;obtain⟨bN,hi,aN,aO,aQ⟩:=info_parts JJ;go_wp2_with(at_builtin;refine o7 _ rfl (.tmp 27) (.tmp 31) 111 rfl (r+1) 116 bN (.agg #[.string ⟨#[]⟩,.string ⟨#[]⟩]) 2 32 Tryz.underlying111 hi aN aO aQ rfl (by decide) _ _ _ rfl (bf.o.alloc _) _ 1 1 [.string f.1,.string f.2] rfl rfl ?c1 ?c2 ?c3 ?c4 ?c5 ?_)
    case c1=>
     intro l u hl;match l,hl with
     |0,hl=>simp only[List.getElem?_cons_zero,Option.some.injEq] at hl;subst hl;simp only[Addr.add];exact ag (aj _ _) 0 _ rfl
     |1,hl=>simp at hl;subst hl;simp only[Addr.add];exact ag (aj _ _) 1 _ rfl
    case c2=>intro u hu;simp at hu;rcases hu with h|h<;>(subst h;rfl)
    case c3=>unfold maxLen;omega
    case c4=>omega
    case c5=>have:=bg.o;simp;omega
    intro v6 p T;obtain⟨bh,bj,rfl⟩:=bF T.own;have aR:=(uR D).alloc (dC f.1 f.2);have bw:Hid (p.ownsRow (r+1) 116 2 (.slice bh (L++[f]).length bj) (L++[f]).length (bZ (L++[f]))):=ae (by
     have h:=T.own;rw[show(L++[f]).length=L.length+1 by simp,tN];exact h)
    have H:au (fun j=>(Value.slice c L.length d).ownBlock=some j) D p:=(aR.mono (fun _ _ h=>h.elim)).trans T.upd;have U: ∀j,(Value.slice c L.length d).ownBlock=some j->r+1<=j:=fun j C=>(bf.o.lt j C).1;have bx:=ae (H.heap bI.o (fun e=>by have:=U _ e;omega));have bO:=ae (H.heap bd.o (fun e=>by have:=U _ e;have:=aw.o;omega));have aA:Hid (Ext w p):=ae (bJ.o.trans' H (fun j C e=>by have:=U _ e;have F:=G.o;omega));have bP:Hid (r+1<=p.heap.size):=ae (Nat.le_trans bg.o H.size);clear T aR H U hi aN aO aQ ab q aM
    go_wp2_with fail;have bz:=bL.o;go_roundg (leftOf es (seen.push e.born)).size;case measure=>exact bz
    case rel=>exact⟨bh,bj,L++[f],seen.push e.born,by simp,rfl,bw,bx,bO,aA,bP,bK⟩
end
theorem JY {N:Nat} {ad:Nat->Nat×Nat} {bv bn:Nat} {bk:List Nat} {st:St} {w:World} (F c r:Nat) (hm:oD N ad 121 bv bn bk st w) (hr:kZ st.cs F c=some r):Calls Tryz.prog 143 #[iy (blk bk c)] w fun e w'=>e= .returned (iy (blk bk r))/\w'=w:=by
 have b:=ae hm;have g:=ae hr;clear hm hr;go_enter Tryz.func143,Tryz.ntmps143;go_wp2_with fail;go_loopg [0] F (fun gk h wr=> ∃d:Nat,h=iy (blk bk d)/\Hid (kZ st.cs gk d=some r)/\wr=w);case atStart=>exact⟨c,rfl,g,rfl⟩
 case round=>
  obtain⟨d,rfl,i,rfl⟩:=hrel;have hd:=i.o;cases a:gk with
  |zero=>rw[a] at hd;cases hd
  |succ G=>
  subst a;unfold kZ at hd;cases hx:st.cs[d]? with
  |none=>rw[hx] at hd;cases hd
  |some x=>
  rw[hx] at hd;simp only at hd;have hrow:=b.o.row d x hx;cases hu:x.up with
  |none=>
   rw[hu] at hd;simp only[Option.some.injEq] at hd;subst hd;have j:=ag hrow 0 (.pointer none) (by unfold dX;rw[hu];rfl);clear hrow;go_wp2_with fail;go_ret;exact⟨rfl,rfl⟩
  |some u=>
   rw[hu] at hd;simp only at hd;have k:=ae hd;have j:=ag hrow 0 (.pointer (some ⟨blk bk u,0,none⟩)) (by unfold dX;rw[hu];rfl);clear hrow hd;go_wp2_with fail;go_roundg G;case measure=>omega
   case rel=>exact⟨u,rfl,k,rfl⟩
theorem lV (s:By):(ByteArray.toList s).isEmpty=decide (s=ai):=by
 rw[Bool.eq_iff_iff,decide_eq_true_eq,List.isEmpty_iff,Lib.toList_data];constructor
 .intro h;exact lU h
 .intro h;rw[h];rfl
theorem nG (nm so:By) (a:Option Addr) (n cap:Nat) (w:World):Calls Tryz.prog 91 #[.agg #[.string nm,.string so,.slice a n cap]] w fun e w'=>e= .returned (.bool (!decide (so=ai)))/\Ext w w':=by
 have b:=lV so;have hb:=aj w (af nm so a n cap);have c:=ag hb 1 (.string so) rfl;clear hb;go_enter Tryz.func91,Tryz.ntmps91;go_wp2_with fail;go_ret;exact⟨rfl,(au.refl _ w).alloc _⟩
theorem Ai {N:Nat} {ad:Nat->Nat×Nat} {bv bn:Nat} {bk:List Nat} {st st':St} {w:World} (F r ub pb q:Nat) (nm so:By) (a:Option Addr) (n cap:Nat) (hm:oD N ad 121 bv bn bk st w) (hu:w.heap[ub]?=some (.cells #[.map (some bv),.map (some bn)] 108 (0,0))) (O: ¬Fb bv bn bk ub)
  (h0:w.cell? ⟨pb,q,none⟩=some (.string nm)) (h1:w.cell? ⟨pb,q+1,none⟩=some (.string so)) (Y:w.cell? ⟨pb,q+2,none⟩=some (.slice a n cap)) (Q: ¬Fb bv bn bk pb) (R:so≠ai) (hc:uk F st nm so=some (st',r)):
  Calls Tryz.prog 73 #[iy ub,.pointer (some ⟨pb,q,none⟩)] w fun e w'=> ∃bk',e= .returned (iy (blk bk' r))/\oD N ad 121 bv bn bk' st' w'/\au (Fb bv bn bk) w w'/\bk <+:bk'/\(∀b∈bk',b∈bk\/w.heap.size<=b)/\((tq st.vs nm).isSome=true->bk'=bk/\st'=st/\Ext w w'):=by
 have D:=ae hm;have E:=ae (nG nm so a n cap w);have Z:decide (so=ai)=false:=dF R;rw[Z] at E;have aa:=ae (And.intro hu O);have G:=ae (And.intro h0 (And.intro h1 (And.intro Y Q)));have aq:=ae hc;clear hm hu O hc R Z Q;go_enter Tryz.func73,Tryz.ntmps73;go_wp2_with fail;refine E.o.mono ?_;rintro e w1 ⟨rfl,i⟩;have S:=i.heap aa.o.1 id;have H:=ae i;have p:=D.o.ext i (fun _ _ h=>h);have u:=i.cell h0 id;have I:=i.cell h1 id;clear h0 h1 Y E i;obtain⟨u0,u1⟩:=aV S;have hl:=fun n=>eX.get (P:=Tryz.prog) (t:=105) (qW Tryz.underlying9) Tryz.underlying105 (z:= .pointer none) (Tryz.zeroValue118 (w1.drewN n)) (p.vs.ext ((au.refl _ w1).drewN' n)) nm true;have B:=FD (fun s:By=>s) (fun c=>iy (blk bk c)) st.vs nm (fun e _ h=>h);rw[B] at hl;simp only[if_true] at hl;have J:=ae p;have hc:=aq.o;unfold uk at hc;cases hf:tq st.vs nm with
 |some c=>
  rw[hf] at hl hc;simp only[Option.map_some,Option.getD_some,Option.isSome_some] at hl hc;cases g:kZ st.cs F c with
  |none=>rw[g] at hc;cases hc
  |some r'=>
  rw[g] at hc;simp only[Option.map_some,Option.some.injEq,Prod.mk.injEq] at hc;obtain⟨rfl,rfl⟩:=hc;have K:=ae hf;have L:=ae (fun W (hW:Ext w1 W)=>JY F c r' (J.o.ext hW (fun _ _ h=>h)) g);clear hf g B p;go_wp2_with fail;go_quiet (fail);go_wp2_with fail;refine(L.o _ ((au.refl _ w1).drewN' _)).mono ?_;rintro e w2 ⟨rfl,rfl⟩;go_wp2_with fail;go_ret;exact⟨bk,rfl,J.o.ext ((uR w1).drewN' _) (fun _ _ h=>h),(H.o.drewN' _).mono (fun _ _ x=>x.elim),List.prefix_refl _,fun b hb=> .inl hb,fun _=>⟨rfl,H.o.drewN' _⟩⟩
 |none=>
  rw[hf] at hl hc;simp only[Option.map_none,Option.getD_none,Option.isSome_none] at hl hc;cases g:kZ (st.cs++[⟨none,nm,so,false,none,0,0,0⟩]) F st.cs.length with
  |none=>rw[g] at hc;cases hc
  |some r'=>
  rw[g] at hc;simp only[Option.map_some,Option.some.injEq,Prod.mk.injEq] at hc;obtain⟨rfl,rfl⟩:=hc;have L:=ae g;have K:=ae hf;have ar:=ae S;clear hf g B p;go_wp2_with fail;go_quiet (fail);go_wp2_with fail;have k:Hid (Ext w (w1.drewN nq)):=ae (H.o.drewN' nq);clear J ar hl u0 u1 u I;generalize w1.drewN nq=d at*;have C:=ae (D.o.ext k.o (fun _ _ h=>h));have M:=ae (k.o.heap aa.o.1 id);have u0:=ag M.o 0 (.map (some bv)) rfl;have u:=k.o.cell G.o.1 id;have I:=k.o.cell G.o.2.1 id;go_still_tail 9,(by kernel_rfl)
  change wpList _ _ _ _ _ d.drew;go_wp2_with fail;have T:=aj d (jq (.pointer none) nm so (.bool false) (.pointer none) 0 0 0);have y:Hid (Ext d (d.alloc (jq (.pointer none) nm so (.bool false) (.pointer none) 0 0 0)).drew):=ae ((uR d).alloc _).drew;have ao:Hid ((d.alloc (jq (.pointer none) nm so (.bool false) (.pointer none) 0 0 0)).drew.heap[d.heap.size]?=some (jq (.pointer none) nm so (.bool false) (.pointer none) 0 0 0)):=ae T;have ab:Hid (w.heap.size<=d.heap.size/\¬Fb bv bn bk d.heap.size):=ae ⟨k.o.size,fun e=>Nat.lt_irrefl _ (C.o.lt _ e)⟩;clear u0 u I T;generalize (d.alloc (jq (.pointer none) nm so (.bool false) (.pointer none) 0 0 0)).drew=A at*;generalize d.heap.size=l at*;have af:=ae (k.o.trans y.o);have ah:=ae (C.o.ext y.o (fun _ _ h=>h));have av:=ae (y.o.heap M.o id);have u0:=ag av.o 0 (.map (some bv)) rfl;have u:=af.o.cell G.o.1 id;obtain⟨aw,ay,ak,U⟩:=eX.put (P:=Tryz.prog) (t:=105) (qW Tryz.underlying9) Tryz.underlying105 (show eX (fun s:ByteArray=>Value.string s) A.drew bv _ from ah.o.vs.ext (au.refl _ A).drew) nm (iy l);have al:Hid (au (fun j=>j=bv) A aw):=ae (au.EW U);have an:=ae (ah.o.am_ K.o ab.o.2 ao.o ak al.o);have V:=ae (JY F _ r' an.o L.o);have X:blk (bk++[l]) st.cs.length=l:=by rw[<-D.o.len];exact CQ l
  rw[X] at V;clear U ak X C M y;go_still_tail 9,(by kernel_rfl)
  change wpList _ _ _ _ _ A.drew;go_wp2_with fail;refine V.o.mono ?_;rintro e w3 ⟨rfl,rfl⟩;go_wp2_with fail;go_ret;refine⟨bk++[l],rfl,an.o,((af.o.mono (fun _ _ x=>x.elim)).trans (al.o.mono (fun j _ ax=> .inl ax))),List.prefix_append _ _,fun b hb=>?_,fun h=>by rw[K.o] at h;cases h⟩;rcases List.mem_append.1 hb with hb|hb
  .exact .inl hb
  .rw [List.mem_singleton] at hb;rw[hb];exact .inr ab.o.1
theorem agN:(Tryz.prog.info? 24).map (fun i=>i.size)=some 3:=by kernel_rfl
theorem QU {N:Nat} {ad:Nat->Nat×Nat} {bv bn:Nat} {bk:List Nat} {st st':St} {w:World} (F r ub i pb d:Nat) (nm so:By) (a:Option Addr) (n cap:Nat) (hm:oD N ad 121 bv bn bk st w) (hu:w.heap[ub]?=some (.cells #[.map (some bv),.map (some bn)] 108 (0,0))) (O: ¬Fb bv bn bk ub)
  (h0:w.cell? ⟨pb,d,none⟩=some (.string nm)) (h1:w.cell? ⟨pb,d+1,none⟩=some (.string so)) (ay:w.cell? ⟨pb,d+2,none⟩=some (.slice a n cap)) (Q:so=ai) (R:ad i=(pb,d)) (hi:i<N) (M: ∀j,j<N->ad j=ad i->j=i) (S: ∀j,j<N->Plain w (ad j).1) (hc:UJ F st i=some (st',r)):
  Calls Tryz.prog 73 #[iy ub,.pointer (some ⟨pb,d,none⟩)] w fun e w'=> ∃bk',e= .returned (iy (blk bk' r))/\oD N ad 121 bv bn bk' st' w'/\au (Fb bv bn bk) w w'/\bk <+:bk'/\(∀b∈bk',b∈bk\/w.heap.size<=b)/\((tq st.ns i).isSome=true->bk'=bk/\st'=st/\Ext w w'):=by
 have B:=ae hm;have H:=ae (nG nm so a n cap w);have af:decide (so=ai)=true:=dT Q;rw[af] at H;have az:=ae (And.intro hu O);have aA:=ae hc;have k:=ae (And.intro R (And.intro hi (And.intro M S)));clear hm hu O hc Q af hi M S R;go_enter Tryz.func73,Tryz.ntmps73;go_wp2_with fail;refine H.o.mono ?_;rintro e w1 ⟨rfl,u⟩;have T:=u.heap az.o.1 id;have l:=ae u;have y:=B.o.ext u (fun _ _ h=>h);clear h0 h1 ay H u;obtain⟨u0,u1⟩:=aV T;have U: ∀W,Ext w W->(∀j,j<N->Plain W (ad j).1):=fun W hW j I=>(k.o.2.2.2 j I).ext hW;have D:=ae U;have ah:Hid (∀W,Ext w W->∀p∈(st.ns.map fun e=>(ad e.1,iy (blk bk e.2))),Plain W p.1.1):=ae (fun W hW p hp=>by
  obtain⟨e,he,rfl⟩:=List.mem_map.1 hp;exact D.o W hW _ (B.o.Iw e he).2)
 obtain⟨aB,E,aw⟩: ∃i,Tryz.prog.info? 24=some i/\i.size=3:=by
  have:=agN;cases hx:Tryz.prog.info? 24 with
  |none=>rw[hx] at this;cases this
  |some i=>rw[hx] at this;injection this with this;exact⟨i,rfl,this⟩
 have G:aB.size≠0:=by omega
 have V:=ae (And.intro E G);have hl:=eX.amT (P:=Tryz.prog) (t:=106) Tryz.underlying110 E G Tryz.underlying106 (z:= .pointer none) (Tryz.zeroValue118 w1) y.ns (ad i) (D.o _ l.o i k.o.2.1) (ah.o _ l.o) true;have A:=FD ad (fun c=>iy (blk bk c)) st.ns i (fun e he h=>k.o.2.2.1 e.1 (B.o.Iw e he).2 h);rw[A] at hl;have q:jX (ad i)= .pointer (some ⟨pb,d,none⟩):=by rw[k.o.1]
 rw[q] at hl;simp only[if_true] at hl;have C:=ae y;have hc:=aA.o;unfold UJ at hc;clear U E aw G q;cases hf:tq st.ns i with
 |some c=>
  rw[hf] at hl hc;simp only[Option.map_some,Option.getD_some,Option.isSome_some] at hl hc;cases g:kZ st.cs F c with
  |none=>rw[g] at hc;cases hc
  |some r'=>
  rw[g] at hc;simp only[Option.map_some,Option.some.injEq,Prod.mk.injEq] at hc;obtain⟨rfl,rfl⟩:=hc;have J:=ae (fun W (hW:Ext w1 W)=>JY F c r' (C.o.ext hW (fun _ _ h=>h)) g);clear hf g A y;go_wp2_with fail;refine(J.o _ (au.refl _ w1)).mono ?_;rintro e w2 ⟨rfl,rfl⟩;go_wp2_with fail;go_ret;exact⟨bk,rfl,C.o,l.o.mono (fun _ _ x=>x.elim),List.prefix_refl _,fun b hb=> .inl hb,fun _=>⟨rfl,l.o⟩⟩
 |none=>
  rw[hf] at hl hc;simp only[Option.map_none,Option.getD_none,Option.isSome_none] at hl hc;cases g:kZ (st.cs++[⟨none,ai,ai,false,some i,0,0,0⟩]) F st.cs.length with
  |none=>rw[g] at hc;cases hc
  |some r'=>
  rw[g] at hc;simp only[Option.map_some,Option.some.injEq,Prod.mk.injEq] at hc;obtain⟨rfl,rfl⟩:=hc;have J:=ae g;have ak:=ae hf;have aC:=ae A;clear hf g A y;have al:Hid (w.heap.size<=w1.heap.size/\¬Fb bv bn bk w1.heap.size):=ae ⟨l.o.size,fun e=>Nat.lt_irrefl _ (C.o.lt _ e)⟩;have X:=aj w1 (jq (.pointer none) ⟨#[]⟩ ⟨#[]⟩ (.bool false) (.pointer (some ⟨pb,d,none⟩)) 0 0 0);have K:Hid (Ext w1 (w1.alloc (jq (.pointer none) ⟨#[]⟩ ⟨#[]⟩ (.bool false) (.pointer (some ⟨pb,d,none⟩)) 0 0 0))):=ae ((uR w1).alloc _);have L:=ae (l.o.trans K.o);have an:=ae (C.o.ext K.o (fun _ _ h=>h));have Y:=ah.o _ L.o;have ax:Hid ((w1.alloc (jq (.pointer none) ⟨#[]⟩ ⟨#[]⟩ (.bool false) (.pointer (some ⟨pb,d,none⟩)) 0 0 0)).heap[w1.heap.size]?=some (.cells (dX ad bk ⟨none,ai,ai,false,some i,0,0,0⟩) 121 (0,0))):=ae (by
   have e:dX ad bk ⟨none,ai,ai,false,some i,0,0,0⟩= #[.pointer none,.string ⟨#[]⟩,.string ⟨#[]⟩,.bool false,.pointer (some ⟨pb,d,none⟩),.int .i64 0,.int .i64 0,.int .i64 0]:=by
    unfold dX;simp only[Option.map_some,Option.map_none,k.o.1];rfl
   rw[e];exact X)
  obtain⟨aD,av,ao,Z⟩:=eX.amU (P:=Tryz.prog) (t:=106) (et:=118) Tryz.underlying110 V.o.1 V.o.2 Tryz.underlying106 an.o.ns (ad i) (iy w1.heap.size) (D.o _ L.o i k.o.2.1) Y (by rw[aC.o,ak.o];rfl);have aq:Hid (au (fun j=>j=bn) (w1.alloc (jq (.pointer none) ⟨#[]⟩ ⟨#[]⟩ (.bool false) (.pointer (some ⟨pb,d,none⟩)) 0 0 0)) aD):=ae Z;have ar:=ae (an.o.anc k.o.2.1 al.o.2 ax.o ao aq.o);have aa:=ae (JY F _ r' ar.o J.o);have ab:blk (bk++[w1.heap.size]) st.cs.length=w1.heap.size:=by rw[<-B.o.len];exact CQ _
  rw[ab] at aa;have q:jX (ad i)= .pointer (some ⟨pb,d,none⟩):=by rw[k.o.1]
  rw[q] at av;have u2:=ag (K.o.heap T id) 1 (.map (some bn)) rfl;clear Z ao ab q Y X;go_wp2_with fail;refine aa.o.mono ?_;rintro e w3 ⟨rfl,rfl⟩;go_wp2_with fail;go_ret;refine⟨bk++[w1.heap.size],rfl,ar.o,((L.o.mono (fun _ _ x=>x.elim)).trans (aq.o.mono (fun j _ I=> .inr (.inl I)))),List.prefix_append _ _,fun b hb=>?_,fun h=>by rw[ak.o] at h;cases h⟩;rcases List.mem_append.1 hb with hb|hb
  .exact .inl hb
  .rw [List.mem_singleton] at hb;rw[hb];exact .inr al.o.1
theorem O1 {T:List Nr} {ad:Nat->Nat×Nat} {S:Nat->Prop} {bv bn ub:Nat} {bk:List Nat} {st st':St} {w:World} (F i r:Nat) (hm:Ur T ad S 121 108 bv bn ub bk st w) (hc:kF T F st i=some (st',r)):
  Calls Tryz.prog 73 #[iy ub,jX (ad i)] w fun e w'=> ∃bk',e= .returned (iy (blk bk' r))/\gz T ad S 121 108 bv bn ub bk bk' st' w w':=by
 unfold kF at hc;cases b:T[i]? with
 |none=>rw[b] at hc;cases hc
 |some q=>
  rw[b] at hc;simp only at hc;obtain⟨h0,h1,a,cap,n,_⟩:=hm.nd.row i q b;have hi:i<T.length:=(List.getElem?_eq_some_iff.1 b).1;by_cases hs:q.so=ai
  .rw [if_pos hs] at hc;refine(QU F r ub i (ad i).1 (ad i).2 q.nm q.so a _ cap hm.us hm.u hm.un h0 h1 n hs rfl hi (fun j c e=>hm.nd.inj j i c hi e) (fun j c=>(hm.nd.low j c).1) hc).mono ?_;rintro e w' ⟨bk',d,g,h,k,l,o⟩;exact⟨bk',d,hm.step g h k l⟩
  .rw [if_neg hs] at hc;refine(Ai F r ub (ad i).1 (ad i).2 q.nm q.so a _ cap hm.us hm.u hm.un h0 h1 n (hm.sn _ (hm.nd.low i hi).2).2 hs hc).mono ?_;rintro e w' ⟨bk',d,g,h,k,l,o⟩;exact⟨bk',d,hm.step g h k l⟩
theorem agx {T:List Nr} {ad:Nat->Nat×Nat} {S:Nat->Prop} {bv bn ub:Nat} {bk:List Nat} {st st':St} {w:World} (F r pb b:Nat) (nm so:By) (a:Option Addr) (n cap:Nat) (hm:Ur T ad S 121 108 bv bn ub bk st w) (h0:w.cell? ⟨pb,b,none⟩=some (.string nm)) (h1:w.cell? ⟨pb,b+1,none⟩=some (.string so)) (g:w.cell? ⟨pb,b+2,none⟩=some (.slice a n cap)) (c: ¬Fb bv bn bk pb) (d:so≠ai) (hc:uk F st nm so=some (st',r)):
  Calls Tryz.prog 73 #[iy ub,.pointer (some ⟨pb,b,none⟩)] w fun e w'=> ∃bk',e= .returned (iy (blk bk' r))/\gz T ad S 121 108 bv bn ub bk bk' st' w w':=
 (Ai F r ub pb b nm so a n cap hm.us hm.u hm.un h0 h1 g c d hc).mono fun e w' ⟨bk',h,i,j,k,l,o⟩=>⟨bk',h,hm.step i j k l⟩
theorem aaw {T:List Nr} {ad:Nat->Nat×Nat} {S:Nat->Prop} {bv bn ub:Nat} {bk:List Nat} {st st':St} {w:World} (F i r:Nat) (hm:Ur T ad S 121 108 bv bn ub bk st w) (hf:MB T st i=true) (hc:kF T F st i=some (st',r)):
  st'=st/\Calls Tryz.prog 73 #[iy ub,jX (ad i)] w fun e w'=>e= .returned (iy (blk bk r))/\Ext w w':=by
 unfold kF at hc;unfold MB at hf;cases b:T[i]? with
 |none=>rw[b] at hc;cases hc
 |some q=>
  rw[b] at hc hf;simp only at hc hf;obtain⟨h0,h1,a,cap,k,_⟩:=hm.nd.row i q b;have hi:i<T.length:=(List.getElem?_eq_some_iff.1 b).1;by_cases hs:q.so=ai
  .rw [if_pos hs] at hc hf;refine⟨aax hf hc,(QU F r ub i (ad i).1 (ad i).2 q.nm q.so a _ cap hm.us hm.u hm.un h0 h1 k hs rfl hi (fun j c e=>hm.nd.inj j i c hi e) (fun j c=>(hm.nd.low j c).1) hc).mono ?_⟩;rintro e w' ⟨bk',d,l,n,o,p,g⟩;obtain⟨rfl,_,h⟩:=g hf;exact⟨d,h⟩
  .rw [if_neg hs] at hc hf;refine⟨FC hf hc,(Ai F r ub (ad i).1 (ad i).2 q.nm q.so a _ cap hm.us hm.u hm.un h0 h1 k (hm.sn _ (hm.nd.low i hi).2).2 hs hc).mono ?_⟩;rintro e w' ⟨bk',d,l,n,o,p,g⟩;obtain⟨rfl,_,h⟩:=g hf;exact⟨d,h⟩
theorem NY {T:List Nr} {ad:Nat->Nat×Nat} {S:Nat->Prop} {bv bn ub:Nat} {bk:List Nat} {st st':St} {w:World} (F r pb b:Nat) (nm so:By) (a:Option Addr) (n cap:Nat) (hm:Ur T ad S 121 108 bv bn ub bk st w) (h0:w.cell? ⟨pb,b,none⟩=some (.string nm)) (h1:w.cell? ⟨pb,b+1,none⟩=some (.string so)) (g:w.cell? ⟨pb,b+2,none⟩=some (.slice a n cap)) (c: ¬Fb bv bn bk pb) (d:so≠ai) (hf:(tq st.vs nm).isSome=true) (hc:uk F st nm so=some (st',r)):
  st'=st/\Calls Tryz.prog 73 #[iy ub,.pointer (some ⟨pb,b,none⟩)] w fun e w'=>e= .returned (iy (blk bk r))/\Ext w w':=
 ⟨FC hf hc,(Ai F r ub pb b nm so a n cap hm.us hm.u hm.un h0 h1 g c d hc).mono fun e w' ⟨bk',h,k,l,o,p,i⟩=>by
  obtain⟨rfl,_,j⟩:=i hf;exact⟨h,j⟩⟩
theorem kR (a b:By):(a.toList==b.toList)=decide (a=b):=by
 by_cases h:a=b
 .rw [dT h,h];simp
 .rw [dF h];exact beq_eq_false_iff_ne.2 (fun e=>h (lU (by rw[Lib.toList_data,Lib.toList_data] at e;exact e)))
theorem ahb:(Tryz.prog.info? 121).map (fun i=>i.size)=some 8:=by kernel_rfl
theorem acQ:Tryz.prog.info? 121=some ((Tryz.prog.info? 121).getD default)/\((Tryz.prog.info? 121).getD default).size≠0:=by
 have h:=ahb;cases hx:Tryz.prog.info? 121 with
 |none=>rw[hx] at h;cases h
 |some i=>
  rw[hx] at h;have a:i.size=8:=by injection h
  exact⟨rfl,fun e=>by have e':i.size=0:=e;rw[a] at e';cases e'⟩
theorem ad9 {T:List Nr} {ad:Nat->Nat×Nat} {S:Nat->Prop} {bv bn ub:Nat} (bx: ∀(i:Nat) (r:Nr),T[i]?=some r->r.ks.length<=1000000) (F:Nat): ∀(bk:List Nat) (st st':St) (w:World) (s t:Nat) (ok:Bool),Ur T ad S 121 108 bv bn ub bk st w->NU T F st s t=some (st',ok)->
  Calls Tryz.prog 69 #[iy ub,jX (ad s),jX (ad t)] w fun e w'=>e= .returned (.bool ok)/\∃bk',gz T ad S 121 108 bv bn ub bk bk' st' w w':=by
 induction F with
 |zero=>intro bk st st' w s t ok _ h;cases h
 |succ F bg=>
 intro bk st st' w s t ok hm hc;have bz:=ae bg;unfold NU at hc;cases ak:kF T F st s with
 |none=>rw[ak] at hc;cases hc
 |some bH=>
 obtain⟨st1,a⟩:=bH;rw[ak] at hc;simp only at hc;cases aA:kF T F st1 t with
 |none=>rw[aA] at hc;cases hc
 |some bI=>
 obtain⟨st2,b⟩:=bI;rw[aA] at hc;simp only at hc;have H1:=ae (O1 F s a hm ak);have bh:=ae ak;have al:=ae aA;have bJ:=ae hc;clear bg hm ak aA hc;go_enter Tryz.func69,Tryz.ntmps69;go_wp2_with fail;refine H1.o.mono ?_;rintro e w1 ⟨aX,rfl,aJ⟩;have aE:=ae aJ;have bj:=ae (O1 F t b aJ.ur al.o);clear aJ H1;go_wp2_with fail;refine bj.o.mono ?_;rintro e w2 ⟨g,rfl,aB⟩;have aY:blk aX a=blk g a:=by
  obtain⟨x,hx,_⟩:=xH bh.o;exact(GY aB.pre (by rw[aE.o.ur.us.len];exact(List.getElem?_eq_some_iff.1 hx).1)).symm
 rw[aY];have N:=ae (aE.o.trans aB);have bK:=ae aE.o.ur.us.len;have bA:=ae aB.pre;clear aB aY bj aE;have an:a<g.length:=by
  obtain⟨x,hx,_⟩:=xH bh.o;have h1:a<aX.length:=by rw[bK.o];exact(List.getElem?_eq_some_iff.1 hx).1
  exact aP h1 bA.o.length_le
 have ao:b<g.length:=by
  obtain⟨x,hx,_⟩:=xH al.o;rw[N.o.ur.us.len];exact(List.getElem?_eq_some_iff.1 hx).1
 have aF: ∀c,c<g.length->Plain w2 (blk g c):=fun c hc=>⟨_,_,N.o.ur.us.row c _ (List.getElem?_eq_getElem (by rw[<-N.o.ur.us.len];exact hc))⟩
 have heq:=ad7 (P:=Tryz.prog) Tryz.underlying118 acQ.1 acQ.2 (blk g a,0) (blk g b,0) w2 (aF a an) (aF b ao);have bB:=ae (And.intro an ao);have hc:=bJ.o;by_cases e:a=b
 .subst e;rw[if_pos rfl] at hc;simp only[Option.some.injEq,Prod.mk.injEq] at hc;obtain⟨rfl,rfl⟩:=hc;rw[dT rfl] at heq;clear an ao aF;go_wp2_with fail;go_ret;exact⟨rfl,g,N.o⟩
 .rw [if_neg e] at hc;have hne: ¬(blk g a,0)=(blk g b,0):=fun h=>e (UW (by have:=N.o.ur.us.nd;rw[List.nodup_cons,List.nodup_cons] at this;exact this.2.2) an ao (Prod.mk.inj h).1);rw[dF hne] at heq;cases hA:st2.cs[a]? with
  |none=>rw[hA] at hc;cases hc
  |some A=>
  cases u:st2.cs[b]? with
  |none=>rw[hA,u] at hc;cases hc
  |some B=>
  rw[hA,u] at hc;simp only at hc;have aZ:=ae hc;have bZ:=ae (fun h:blk g a=blk g b=>hne (by rw[h]));have l:=N.o.ur.us.row a A hA;have C:=N.o.ur.us.row b B u;have aO:=ae (And.intro hA u);have a4:=ag l 4 (pV (A.tm.map ad)) rfl;have bL:=ag C 4 (pV (B.tm.map ad)) rfl;have bC:=ae l;have bD:=ae C;clear an ao aF hc hne hA u l C;go_wp2_with fail;go_quiet (fail);have ar:=ae (N.o.ext ((au.refl _ w2).drewN' nq));clear bC bD N heq a4 bL;generalize w2.drewN nq=aQ at*;have C:=ar.o.ur.us.row b B aO.o.2;have b0:=ag C 0 (pV (B.up.map fun c=>(blk g c,0))) rfl;have fb:=fun i=>ax C i;have Q:Hid (a<st2.cs.length/\b<st2.cs.length):=ae (by have:=bB.o;rw[ar.o.ur.us.len] at this;exact this);have ab:Hid (gz T ad S 121 108 bv bn ub bk g (eF st2 b {B with up:=some a}) w (aQ.setCell ⟨blk g b,0,none⟩ (iy (blk g a)))):=ae (ar.o.put Q.o.2 {B with up:=some a} ⟨fun d h=>by injection h with h;rw[<-h];exact Q.o.1,fun i h=>(ar.o.ur.us.wQ B (List.mem_of_getElem? aO.o.2)).2 i h⟩
   ((au.refl (fun k=>k=blk g b) aQ).setCell (p:=⟨blk g b,0,none⟩) (.inl rfl) _) (by
    have:=setBlock C 0 (iy (blk g a));exact this))
  clear C;go_wp2_with fail;generalize aQ.setCell ⟨blk g b,0,none⟩ (iy (blk g a))=w3 at*;clear b0 fb ar;have aK:(eF st2 b {B with up:=some a}).cs[a]?=some A:=by
   show(st2.cs.set b _)[a]?=some A;rw[List.getElem?_set,if_neg (fun h=>e h.symm)];exact aO.o.1
  have aL:(eF st2 b {B with up:=some a}).cs[b]?=some {B with up:=some a}:=by
   show(st2.cs.set b _)[b]?=some _;rw[List.getElem?_set,if_pos rfl,if_pos Q.o.2]
  have aM:(eF st2 b {B with up:=some a}).cs.length=st2.cs.length:=List.length_set ..;obtain⟨h_,aI⟩: ∃x,eF st2 b {B with up:=some a}=x:=⟨_,rfl⟩
  rw[aI] at ab aK aL aM;have K:=ae (And.intro aI (And.intro aK (And.intro aL aM)));clear aI aK aL aM;go_cut [7] (fun bM ww=>bM=iy (blk g a)/\Hid (gz T ad S 121 108 bv bn ub bk g (eF h_ a {A with mx:=(df A B).mx}) w ww))
  case first=>
   have l:=ab.o.ur.us.row a A K.o.2.1;have C:=ab.o.ur.us.row b _ K.o.2.2.1;have J: ∀v,(df A B).mx=v->Hid (gz T ad S 121 108 bv bn ub bk g (eF h_ a {A with mx:=(df A B).mx}) w (w3.drew.setCell ⟨blk g a,3,none⟩ (.bool v))):=fun v hv=>ae ((ab.o.ext (au.refl _ w3).drew).put (by rw[K.o.2.2.2];exact Q.o.1) {A with mx:=(df A B).mx} ((ab.o.ur.us.wQ A (List.mem_of_getElem? K.o.2.1)))
    ((au.refl (fun k=>k=blk g a) w3.drew).setCell (p:=⟨blk g a,3,none⟩) (.inl rfl) _) (by
     have:=setBlock (w:=w3.drew) l 3 (.bool v);rw[hv];exact this))
   have a2:=ag l 2 (.string A.so) rfl;have a3:=ag l 3 (.bool A.mx) rfl;have bN:=ag C 2 (.string B.so) rfl;have bl:=ag C 3 (.bool B.mx) rfl;have fa:=fun i=>ax l i;have s1:=lV A.so;have s2:=lV B.so;have L:=kR A.so B.so;clear l C;cases hA:A.mx with
   |true=>
    rw[hA] at a3;have D:=J true (by unfold df;simp[hA]);clear J hA;go_wp2_with fail;refine ja 38 (by kernel_rfl) (by kernel_rfl) ?_;simp only[List.take_succ_cons,List.take_zero,List.drop_succ_cons,List.drop_zero];repeat (go_big_quiet_step (fail))
    refine wpQuiet_nil ?_;change wpList _ _ _ _ _ w3.drew;go_wp2_with fail;go_meet;case rel=>exact⟨rfl,D⟩
   |false=>
   rw[hA] at a3;cases u:B.mx with
   |true=>
    rw[u] at bl;have D:=J true (by unfold df;simp[hA,u]);clear J hA u;go_wp2_with fail;refine ja 38 (by kernel_rfl) (by kernel_rfl) ?_;simp only[List.take_succ_cons,List.take_zero,List.drop_succ_cons,List.drop_zero];repeat (go_big_quiet_step (fail))
    refine wpQuiet_nil ?_;change wpList _ _ _ _ _ w3.drew;go_wp2_with fail;go_meet;case rel=>exact⟨rfl,D⟩
   |false=>
   rw[u] at bl;by_cases h1:A.so=ai
   .rw [dT h1] at s1;have D:=J false (by unfold df;simp[hA,u,h1]);clear J hA u h1;go_wp2_with fail;refine ja 38 (by kernel_rfl) (by kernel_rfl) ?_;simp only[List.take_succ_cons,List.take_zero,List.drop_succ_cons,List.drop_zero];repeat (go_big_quiet_step (fail))
    refine wpQuiet_nil ?_;change wpList _ _ _ _ _ w3.drew;go_wp2_with fail;go_meet;case rel=>exact⟨rfl,D⟩
   .rw [dF h1] at s1;by_cases j:B.so=ai
    .rw [dT j] at s2;have D:=J false (by unfold df;simp[hA,u,h1,j]);clear J hA u h1 j;go_wp2_with fail;refine ja 38 (by kernel_rfl) (by kernel_rfl) ?_;simp only[List.take_succ_cons,List.take_zero,List.drop_succ_cons,List.drop_zero];repeat (go_big_quiet_step (fail))
     refine wpQuiet_nil ?_;change wpList _ _ _ _ _ w3.drew;go_wp2_with fail;go_meet;case rel=>exact⟨rfl,D⟩
    .rw [dF j] at s2;by_cases H:A.so=B.so
     .rw [dT H] at L;have D:=J false (by unfold df;simp[hA,u,h1,j,H]);clear J hA u h1 j H;go_wp2_with fail;refine ja 38 (by kernel_rfl) (by kernel_rfl) ?_;simp only[List.take_succ_cons,List.take_zero,List.drop_succ_cons,List.drop_zero];repeat (go_big_quiet_step (fail))
      refine wpQuiet_nil ?_;change wpList _ _ _ _ _ w3.drew;go_wp2_with fail;go_meet;case rel=>exact⟨rfl,D⟩
     .rw [dF H] at L;have D:=J true (by unfold df;simp[hA,u,h1,j,H]);clear J hA u h1 j H;go_wp2_with fail;refine ja 38 (by kernel_rfl) (by kernel_rfl) ?_;simp only[List.take_succ_cons,List.take_zero,List.drop_succ_cons,List.drop_zero];repeat (go_big_quiet_step (fail))
      refine wpQuiet_nil ?_;change wpList _ _ _ _ _ w3.drew;go_wp2_with fail;go_meet;case rel=>exact⟨rfl,D⟩
  case rest=>
   obtain⟨rfl,O⟩:=hcut;have V:Hid ((eF h_ a {A with mx:=(df A B).mx}).cs[a]?=some {A with mx:=(df A B).mx}/\(eF h_ a {A with mx:=(df A B).mx}).cs[b]?=some {B with up:=some a}/\a< (eF h_ a {A with mx:=(df A B).mx}).cs.length/\(∀X,eF (eF h_ a {A with mx:=(df A B).mx}) a X=eF h_ a X)):=ae (by
    refine⟨?_,?_,?_,fun X=>FU _ _ _ _⟩
    .show (h_.cs.set a _)[a]?=_;rw[List.getElem?_set,if_pos rfl,if_pos (by rw[K.o.2.2.2];exact Q.o.1)]
    .show (h_.cs.set a _)[b]?=_;rw[List.getElem?_set,if_neg e];exact K.o.2.2.1
    .show a< (h_.cs.set a _).length;rw[List.length_set,K.o.2.2.2];exact Q.o.1)
   obtain⟨a1,aN⟩: ∃x,eF h_ a {A with mx:=(df A B).mx}=x:=⟨_,rfl⟩
   have bm:=ae aN;rw[aN] at O V;clear aN ab
   rename_i b1 a6
   refine a6 _ _ ?_;clear a6;apply wp_seq_k;intro _ _;go_cut [] (fun ww=>Hid (gz T ad S 121 108 bv bn ub bk g (eF h_ a {df A B with tm:=A.tm}) w ww))
   case first=>
    have l:=O.o.ur.us.row a _ V.o.1;have C:=O.o.ur.us.row b _ V.o.2.1;have b2:=ag l 1 (.string A.nm) rfl;have a2:=ag l 2 (.string A.so) rfl;have b3:=ag C 1 (.string B.nm) rfl;have bN:=ag C 2 (.string B.so) rfl;have fa:=fun i=>ax l i;have s1:=lV A.nm;have s2:=lV B.nm;have L:=JH B.nm A.nm;have af:Hid ((A.nm=ai\/(B.nm≠ai/\blt B.nm A.nm=true))->∀W,Ext wc W->gz T ad S 121 108 bv bn ub bk g (eF h_ a {df A B with tm:=A.tm}) w ((W.setCell ⟨blk g a,1,none⟩ (.string B.nm)).setCell ⟨blk g a,2,none⟩ (.string B.so))):=ae (fun av W hW=>by
     have h1:=(O.o.ext hW).put V.o.2.2.1 {df A B with tm:=A.tm} (show(∀d,A.up=some d->d<a1.cs.length)/\(∀i,A.tm=some i->i<T.length) from O.o.ur.us.wQ {A with mx:=(df A B).mx} (List.mem_of_getElem? V.o.1))
      (((au.refl (fun k=>k=blk g a) W).setCell (p:=⟨blk g a,1,none⟩) (.inl rfl) (.string B.nm)).setCell (p:=⟨blk g a,2,none⟩) (.inl rfl) (.string B.so)) (by
       have:=setBlock (setBlock (hW.heap l id) 1 (.string B.nm)) 2 (.string B.so);have aw:dX ad g {df A B with tm:=A.tm}=((dX ad g {A with mx:=(df A B).mx}).set! 1 (.string B.nm)).set! 2 (.string B.so):=by
        unfold df dX;rw[if_pos av,if_pos av];rfl
       rw[aw];simpa using this)
     rw[V.o.2.2.2] at h1;exact h1)
    have ah:Hid (¬(A.nm=ai\/(B.nm≠ai/\blt B.nm A.nm=true))->eF h_ a {df A B with tm:=A.tm}=a1):=ae (fun av=>by
     rw[<-bm.o];unfold df;rw[if_neg av,if_neg av])
    clear l C;by_cases h1:A.nm=ai
    .rw [dT h1] at s1;have Z:=ae (af.o (.inl h1));clear af ah s2 L h1;go_wp2_with fail;go_quiet (fail);go_wp2_with fail;go_region
     go_wp2_with fail;go_meet;case rel=>exact ae (Z.o _ ((au.refl _ wc).drewN' _))
    .rw [dF h1] at s1;by_cases j:B.nm=ai
     .rw [dT j] at s2;have Z:=ae (ah.o (fun h=>h.elim h1 (fun h=>h.1 j)));clear af ah L h1 j;go_wp2_with fail;go_quiet (fail);go_wp2_with fail;go_meet;case rel=>
       rw[Z.o];exact ae (O.o.ext ((au.refl _ wc).drewN' nq))
     .rw [dF j] at s2;cases H:blt B.nm A.nm with
      |true=>
       rw[H] at L;have Z:=ae (af.o (.inr ⟨j,H⟩));clear af ah h1 j H;go_wp2_with fail;go_quiet (fail);go_wp2_with fail;go_region
       go_wp2_with fail;go_meet;case rel=>exact ae (Z.o _ ((au.refl _ wc).drewN' _))
      |false=>
       rw[H] at L;have Z:=ae (ah.o (fun h=>h.elim h1 (fun h=>by rw[H] at h;cases h.2)));clear af ah h1 j H;go_wp2_with fail;go_quiet (fail);go_wp2_with fail;go_meet;case rel=>
        rw[Z.o];exact ae (O.o.ext ((au.refl _ wc).drewN' nq))
   case rest=>
    have z:=hcut;clear hcut O;have bo:Hid (({st2 with cs:=(st2.cs.set b {B with up:=some a}).set a (df A B)}:St)=eF h_ a (df A B)):=ae (by rw[<-K.o.1];rfl);have hc:=aZ.o;rw[bo.o] at hc;have I:Hid ((eF h_ a {df A B with tm:=A.tm}).cs[a]?=some {df A B with tm:=A.tm}/\a< (eF h_ a {df A B with tm:=A.tm}).cs.length/\(eF h_ a {df A B with tm:=A.tm}).cs[b]?=some {B with up:=some a}/\(∀X,eF (eF h_ a {df A B with tm:=A.tm}) a X=eF h_ a X)):=ae (by
     have hlen:a<h_.cs.length:=by rw[K.o.2.2.2];exact Q.o.1
     refine⟨?_,?_,?_,fun X=>FU _ _ _ _⟩
     .show (h_.cs.set a _)[a]?=_;rw[List.getElem?_set,if_pos rfl,if_pos hlen]
     .show a< (h_.cs.set a _).length;rw[List.length_set];exact hlen
     .show (h_.cs.set a _)[b]?=_;rw[List.getElem?_set,if_neg e];exact K.o.2.2.1)
    obtain⟨bO,n⟩:=ay A.tm;obtain⟨aR,E⟩:=ay B.tm;clear aZ V bm;cases bO with
    |none=>
     cases aR with
     |none=>
      rw[n,E] at hc;simp only[Option.some.injEq,Prod.mk.injEq] at hc;obtain⟨rfl,rfl⟩:=hc;have l:=z.o.ur.us.row a _ I.o.1;have a4:=ag l 4 (.pointer none) (by show some (pV (Option.map ad A.tm))=_;rw[n];rfl);have fa:=fun i=>ax l i;have M:pV (Option.map ad A.tm)= .pointer none:=by rw[n];rfl
      have G:pV (Option.map ad B.tm)= .pointer none:=by rw[E];rfl
      have D:Hid (gz T ad S 121 108 bv bn ub bk g (eF h_ a (df A B)) w (wc.setCell ⟨blk g a,4,none⟩ (.pointer none))):=ae (by
       have h1:=z.o.put I.o.2.1 (df A B) ⟨(z.o.ur.us.wQ _ (List.mem_of_getElem? I.o.1)).1,fun i hi=>(z.o.ur.us.wQ _ (List.mem_of_getElem? I.o.2.2.1)).2 i (by unfold df at hi;simp only[n] at hi;exact hi)⟩
        ((au.refl (fun k=>k=blk g a) wc).setCell (p:=⟨blk g a,4,none⟩) (.inl rfl) (.pointer none)) (by
         have:=setBlock l 4 (.pointer none);have aw:dX ad g (df A B)=(dX ad g {df A B with tm:=A.tm}).set! 4 (.pointer none):=by
          have aS:(df A B).tm=B.tm:=by unfold df;simp only[n]
          unfold dX;rw[aS,G];rfl
         rw[aw];simpa using this)
       rw[I.o.2.2.2] at h1;exact h1)
      rw[M,G];clear l M G n E;go_wp2_with fail;go_ret;exact⟨rfl,g,D.o⟩
     |some y=>
      rw[n,E] at hc;simp only[Option.some.injEq,Prod.mk.injEq] at hc;obtain⟨rfl,rfl⟩:=hc;have l:=z.o.ur.us.row a _ I.o.1;have a4:=ag l 4 (.pointer none) (by show some (pV (Option.map ad A.tm))=_;rw[n];rfl);have fa:=fun i=>ax l i;have M:pV (Option.map ad A.tm)= .pointer none:=by rw[n];rfl
      have G:pV (Option.map ad B.tm)=jX (ad y):=by rw[E];rfl
      have D:Hid (gz T ad S 121 108 bv bn ub bk g (eF h_ a (df A B)) w (wc.setCell ⟨blk g a,4,none⟩ (jX (ad y)))):=ae (by
       have h1:=z.o.put I.o.2.1 (df A B) ⟨(z.o.ur.us.wQ _ (List.mem_of_getElem? I.o.1)).1,fun i hi=>(z.o.ur.us.wQ _ (List.mem_of_getElem? I.o.2.2.1)).2 i (by unfold df at hi;simp only[n] at hi;exact hi)⟩
        ((au.refl (fun k=>k=blk g a) wc).setCell (p:=⟨blk g a,4,none⟩) (.inl rfl) (jX (ad y))) (by
         have:=setBlock l 4 (jX (ad y));have aw:dX ad g (df A B)=(dX ad g {df A B with tm:=A.tm}).set! 4 (jX (ad y)):=by
          have aS:(df A B).tm=B.tm:=by unfold df;simp only[n]
          unfold dX;rw[aS,G];rfl
         rw[aw];simpa using this)
       rw[I.o.2.2.2] at h1;exact h1)
      rw[M,G];clear l M G n E;go_wp2_with fail;go_ret;exact⟨rfl,g,D.o⟩
    |some x=>
     have aq:({df A B with tm:=A.tm}:Cl)=df A B:=by unfold df;simp only[n]
     rw[aq] at z;have M:pV (Option.map ad A.tm)= .pointer (some ⟨(ad x).1,(ad x).2,none⟩):=by rw[n];rfl
     have a7:x<T.length:=(z.o.ur.us.wQ _ (List.mem_of_getElem? (show(eF h_ a (df A B)).cs[a]?=some (df A B) from by rw[<-aq];exact I.o.1))).2 x (by rw[<-aq];exact n);have aC: ∀y,aR=some y->y<T.length:=fun y hy=>(z.o.ur.us.wQ _ (List.mem_of_getElem? (show(eF h_ a (df A B)).cs[b]?=some {B with up:=some a} from by rw[<-aq];exact I.o.2.2.1))).2 y (by show B.tm=some y;rw[E,hy]);clear aq I;cases aR with
     |none=>
      rw[n,E] at hc;simp only[Option.some.injEq,Prod.mk.injEq] at hc;obtain⟨rfl,rfl⟩:=hc;have G:pV (Option.map ad B.tm)= .pointer none:=by rw[E];rfl
      rw[M,G];clear M G n E;go_wp2_with fail;go_ret;exact⟨rfl,g,z.o⟩
     |some y=>
      rw[n,E] at hc;simp only at hc;have aC:=aC y rfl;have G:pV (Option.map ad B.tm)= .pointer (some ⟨(ad y).1,(ad y).2,none⟩):=by rw[E];rfl
      rw[M,G];clear M G n E;cases aa:T[x]? with
      |none=>rw[List.getElem?_eq_getElem a7] at aa;cases aa
      |some X=>
      cases aj:T[y]? with
      |none=>rw[List.getElem?_eq_getElem aC] at aj;cases aj
      |some Y=>
      rw[aa,aj] at hc;simp only at hc;have bp:=ae (And.intro aa aj);have b4:=bx x X aa;obtain⟨bP,_,b5,b6,aT,_⟩:=z.o.ur.nd.row x X aa;obtain⟨bQ,_,b7,b8,aU,_⟩:=z.o.ur.nd.row y Y aj;have L:=kR X.nm Y.nm;clear aa aj a7 aC;by_cases h1:X.nm=Y.nm
      .rw [dT h1] at L;by_cases j:X.ks.length=Y.ks.length
       .rw [if_neg (by rintro(h|h);exact h h1;exact h j)] at hc;have aG:decide (X.ks.length=Y.ks.length)=true:=dT j;have z2:((X.ks.length:Int) !=(Y.ks.length:Int))=false:=by rw[j];simp
        have bq:=ae hc;have bR:=ae j;clear h1 hc j;go_wp2_with fail;go_quiet (fail);have br:Hid (gz T ad S 121 108 bv bn ub bk g (eF h_ a (df A B)) w (wc.drewN nq)):=ae (z.o.ext ((au.refl _ wc).drewN' nq));go_wp2_with fail;clear L aG z2 bP aT bQ aU;generalize wc.drewN nq=b9 at*;go_loopg [147] X.ks.length (fun gk bS wr=> ∃(k:Nat) (R:St) (aH:List Nat),bS= .int .i64 (k:Int)/\gk=X.ks.length-k/\k<=X.ks.length/\Hid (gz T ad S 121 108 bv bn ub bk aH R w wr)/\Hid (UX (NU T F) R (X.ks.drop k) (Y.ks.drop k)=some (st',ok)));case atStart=>exact⟨0,_,_,rfl,rfl,Nat.zero_le _,br,bq⟩
        case round=>
         clear br bq z bo K;obtain⟨k,R,aH,rfl,rfl,hk,az,bE⟩:=hrel;have hc:=bE.o;by_cases aD:k<X.ks.length
         .have aW:k<Y.ks.length:=by rw[<-bR.o];exact aD
          obtain⟨_,_,bT,bU,aT,a8⟩:=az.o.ur.nd.row x X bp.o.1;obtain⟨_,_,bV,bW,aU,ba⟩:=az.o.ur.nd.row y Y bp.o.2;obtain⟨xg,ca,rfl,bs⟩:=a8 (by omega);obtain⟨cb,cc,rfl,bb⟩:=ba (by omega);have bc:=(bs k _ (List.getElem?_eq_getElem aD)).2;have bd:=(bb k _ (List.getElem?_eq_getElem aW)).2;rw[List.drop_eq_getElem_cons aD,List.drop_eq_getElem_cons aW] at hc;unfold UX at hc;cases U:NU T F R X.ks[k] Y.ks[k] with
          |none=>rw[U] at hc;cases hc
          |some q=>
          obtain⟨bw,bf⟩:=q;rw[U] at hc;have aV:=ae (fun W (hW:Ext wr W)=>bz.o aH R bw W X.ks[k] Y.ks[k] bf (az.o.ur.ext hW) U);rw[bc,bd] at aV;have z0:(0:Int)<=(k:Int):=by omega
          have aG:(k:Int)< (X.ks.length:Int):=by omega
          have bX:(k:Int)< (Y.ks.length:Int):=by omega
          have z2:decide ((k:Int)< (X.ks.length:Int))=true:=dT aG;have bY:decide (k<X.ks.length)=true:=dT aD;have al:=ae hc;clear a8 ba bs bb bc bd U hc;go_wp2_with fail;refine ja 13 (by kernel_rfl) (by kernel_rfl) ?_;simp only[List.take_succ_cons,List.take_zero,List.drop_succ_cons,List.drop_zero];repeat (go_big_quiet_step (fail))
          refine wpQuiet_nil ?_;change wpList _ _ _ _ _ wr.drew;go_wp2_with fail;refine(aV.o wr.drew (au.refl _ wr).drew).mono ?_;rintro e cd ⟨rfl,bF,bt⟩;have bu:=ae ((az.o.ext (au.refl _ wr).drew).trans bt);have hc:=al.o;clear bt aV al aT aU;cases bf with
          |false=>
           simp only[Option.some.injEq,Prod.mk.injEq] at hc;obtain⟨rfl,rfl⟩:=hc;go_wp2_with fail;go_ret;exact⟨rfl,bF,bu.o⟩
          |true=>
           simp only at hc;have bG:=ae hc;clear hc;go_wp2_with fail;go_roundg (X.ks.length- (k+1));case measure=>omega
           case rel=>exact⟨k+1,_,_,by go_num,rfl,by omega,bu,bG⟩
         .obtain rfl:k=X.ks.length:=by omega
          have z2:decide ((X.ks.length:Int)< (X.ks.length:Int))=false:=dF (by omega);rw[List.drop_length] at hc;have U: ∀ys,UX (NU T F) R [] ys=some (R,true):=fun ys=>by unfold UX;rfl
          rw[U] at hc;simp only[Option.some.injEq,Prod.mk.injEq] at hc;obtain⟨rfl,rfl⟩:=hc;clear U;go_wp2_with fail;go_ret;exact⟨rfl,aH,az.o⟩
       .rw [if_pos (.inr j)] at hc;have aG:decide (X.ks.length=Y.ks.length)=false:=dF j;have z2:((X.ks.length:Int) !=(Y.ks.length:Int))=true:=by rw[bne_iff_ne];intro h;exact j (by omega)
        clear h1 j;simp only[Option.some.injEq,Prod.mk.injEq] at hc;obtain⟨rfl,rfl⟩:=hc;go_wp2_with fail;go_quiet (fail);go_wp2_with fail;go_ret;exact⟨rfl,g,z.o.ext ((au.refl _ wc).drewN' nq)⟩
      .rw [dF h1] at L;rw[if_pos (.inl h1)] at hc;clear h1;simp only[Option.some.injEq,Prod.mk.injEq] at hc;obtain⟨rfl,rfl⟩:=hc;go_wp2_with fail;go_quiet (fail);go_wp2_with fail;go_ret;exact⟨rfl,g,z.o.ext ((au.refl _ wc).drewN' nq)⟩
end Go.Proofs.YtlkcjmaiahnodaaGreatDoor
