/- The texts N17 N18 N70 N20 N21 N22 N23 N71 I44 I45 I46, one behind the other. -/
import Derived.Test.YtlkcjmaiahnodaaGreatDoorSAK
import Derived.Test.YtlkcjmaiahnodaaGreatDoorSAE
import Derived.Deep.DeepCutAuto
import Derived.Test.YtlkcjmaiahnodaaGreatDoorSAD
import Derived.Test.YtlkcjmaiahnodaaGreatDoorSAI
set_option linter.unusedVariables false
set_option linter.unusedSimpArgs false
set_option maxRecDepth 100000
set_option maxHeartbeats 8000000
namespace Go.Proofs.YtlkcjmaiahnodaaGreatDoor
open Go.RowKit Go.Hw Go Tm
section
open Go.Sort Go.Proofs Go.ChangeMaps
theorem agG {W W':World} {v:Value} {L:List Bd} (h:jb (fun k=>k<W.heap.size) (fun k=>k<W.heap.size) W v L) (a:Ext W W'):jb (fun k=>k<W'.heap.size) (fun k=>k<W'.heap.size) W' v L:=(h.ext a).weaken (bW a) (bW a)
abbrev A7:Tm:=(.mk ⟨#[112,108,117,115]⟩ ai [(.mk ⟨#[122,101,114,111]⟩ ai []),(.mk ⟨#[78,95,49]⟩ ⟨#[110,97,116]⟩ [])])
abbrev Dn:Tm:=(.mk ⟨#[112,108,117,115]⟩ ai [(.mk ⟨#[115]⟩ ai [(.mk ⟨#[78,95,50]⟩ ⟨#[110,97,116]⟩ [])]),(.mk ⟨#[77,95,50]⟩ ⟨#[110,97,116]⟩ [])])
def MJ:List Nr:=[⟨⟨#[112,108,117,115]⟩,ai,[2,3]⟩,⟨⟨#[112,108,117,115]⟩,ai,[4,5]⟩,⟨⟨#[122,101,114,111]⟩,ai,[]⟩,⟨⟨#[78,95,49]⟩,⟨#[110,97,116]⟩,[]⟩,⟨⟨#[115]⟩,ai,[6]⟩,⟨⟨#[77,95,50]⟩,⟨#[110,97,116]⟩,[]⟩,⟨⟨#[78,95,50]⟩,⟨#[110,97,116]⟩,[]⟩]
def WA:List Vd:=aY A7++aY Dn
def A8 (a ga b c:Nat):Nat->Nat×Nat
 |0=>(a,0)
 |1=>(a+1,0)
 |2=>(ga,0)
 |3=>(ga,3)
 |4=>(b,0)
 |5=>(b,3)
 |6=>(c,0)
 |_=>(0,0)
theorem akk:WA=[(⟨#[78,95,49]⟩,⟨#[110,97,116]⟩),(⟨#[77,95,50]⟩,⟨#[110,97,116]⟩),(⟨#[78,95,50]⟩,⟨#[110,97,116]⟩)]:=by decide+kernel
theorem ahT:(wf aC A7&&wf aC Dn)=true:=by decide+kernel
theorem aaS:(match pJ MJ 20 WA with|some none=>true|_=>false)=true:=by decide+kernel
theorem akl (W:World) (G:dI W) (p t:Nat->Prop) (va vb:Value) (h1:aU 24 W p A7.kids va) (A:aU 24 W t Dn.kids vb) (hd: ∀k,p k->¬t k) (B: ∀k,p k->k<W.heap.size) (u: ∀k,t k->k<W.heap.size):
  Calls Tryz.prog 17 #[tV A7 va,tV Dn vb] W fun e w'=>e= .returned (.tuple #[.slice none 0 0,.int .i64 12])/\Ext W w':=by
 obtain⟨ga,ca,ua,av,J,pa,w,d,C,aw,_⟩:=aU.vZ h1 (by decide);obtain⟨X,Y,K⟩:=aU.shape (C 0 (by decide));obtain⟨Z,aa,I⟩:=aU.shape (C 1 (by decide));obtain⟨b,D,ub,ax,L,pb,E,g,F,x,_⟩:=aU.vZ A (by decide);obtain⟨ay,ab,M⟩:=aU.shape (F 1 (by decide));obtain⟨c,ae,ah,ai,N,O,bb0,o,P,aj,_⟩:=aU.vZ (F 0 (by decide)) (by decide);obtain⟨ak,al,Q⟩:=aU.shape (P 0 (by decide));subst J L;have aA:ga<W.heap.size:=B _ (w);have aB:b<W.heap.size:=u _ (E);have an:c<W.heap.size:=u _ ((x 0 _ (by decide) bb0).1);have ao:ga≠b:=fun e=>hd _ (w) (e▸(E));have aq:ga≠c:=fun e=>hd _ (w) (e▸((x 0 _ (by decide) bb0).1));have ar:b≠c:=fun e=>(x 0 _ (by decide) bb0).2 e.symm;have y:aY A7++aY Dn=[(⟨#[78,95,49]⟩,⟨#[110,97,116]⟩),(⟨#[77,95,50]⟩,⟨#[110,97,116]⟩),(⟨#[78,95,50]⟩,⟨#[110,97,116]⟩)]:=akk;have hw:=ahT;rw[Bool.and_eq_true] at hw;have U: ∀W',Ext W W'->W'.heap[W.heap.size]?=some (af A7.name A7.sort (az ga) A7.kids.length ca)->W'.heap[W.heap.size+1]?=some (af Dn.name Dn.sort (az b) Dn.kids.length D)->Fj MJ (A8 W.heap.size ga b c) (fun k=>k=W.heap.size\/k=W.heap.size+1\/k=ga\/k=b\/k=c) W':=fun W' hW ha hb=>by
  refine⟨fun i j hi n e=>?_,fun i hi=>?_,fun i r hr=>?_⟩
  .have z:i<7:=hi;have au:j<7:=n;rcases(by omega:i=0\/i=1\/i=2\/i=3\/i=4\/i=5\/i=6) with rfl|rfl|rfl|rfl|rfl|rfl|rfl<;>rcases(by omega:j=0\/j=1\/j=2\/j=3\/j=4\/j=5\/j=6) with rfl|rfl|rfl|rfl|rfl|rfl|rfl<;>first|rfl|(simp only[A8,Prod.mk.injEq] at e;omega)
  .have z:i<7:=hi;rcases(by omega:i=0\/i=1\/i=2\/i=3\/i=4\/i=5\/i=6) with rfl|rfl|rfl|rfl|rfl|rfl|rfl
   .exact ⟨⟨_,_,ha⟩,by simp[A8]⟩
   .exact ⟨⟨_,_,hb⟩,by simp[A8]⟩
   .exact ⟨pa.ext hW,by simp[A8]⟩
   .exact ⟨pa.ext hW,by simp[A8]⟩
   .exact ⟨pb.ext hW,by simp[A8]⟩
   .exact ⟨pb.ext hW,by simp[A8]⟩
   .exact ⟨O.ext hW,by simp[A8]⟩
  .have z:i<7:=(List.getElem?_eq_some_iff.1 hr).1;rcases(by omega:i=0\/i=1\/i=2\/i=3\/i=4\/i=5\/i=6) with rfl|rfl|rfl|rfl|rfl|rfl|rfl<;>(injection hr with hr;subst hr)
   .refine ⟨ag ha 0 _ rfl,ag ha 1 _ rfl,_,_,ag ha 2 _ rfl,fun _=>⟨ga,0,rfl,fun j q a=>?_⟩⟩;have n:j<2:=(List.getElem?_eq_some_iff.1 a).1;rcases(by omega:j=0\/j=1) with rfl|rfl<;>(injection a with a;subst a;exact⟨by decide,rfl⟩)
   .refine ⟨ag hb 0 _ rfl,ag hb 1 _ rfl,_,_,ag hb 2 _ rfl,fun _=>⟨b,0,rfl,fun j q a=>?_⟩⟩;have n:j<2:=(List.getElem?_eq_some_iff.1 a).1;rcases(by omega:j=0\/j=1) with rfl|rfl<;>(injection a with a;subst a;exact⟨by decide,rfl⟩)
   .refine ⟨hW.cell (d 0 (by decide)).1 id,hW.cell (d 0 (by decide)).2.1 id,_,_,hW.cell ((d 0 (by decide)).2.2.trans (congrArg some K)) id,fun h=>absurd h (by decide)⟩
   .refine ⟨hW.cell (d 1 (by decide)).1 id,hW.cell (d 1 (by decide)).2.1 id,_,_,hW.cell ((d 1 (by decide)).2.2.trans (congrArg some I)) id,fun h=>absurd h (by decide)⟩
   .refine ⟨hW.cell (g 0 (by decide)).1 id,hW.cell (g 0 (by decide)).2.1 id,_,_,hW.cell ((g 0 (by decide)).2.2.trans (congrArg some N)) id,fun _=>⟨c,0,rfl,fun j q a=>?_⟩⟩;have n:j<1:=(List.getElem?_eq_some_iff.1 a).1;rcases(by omega:j=0) with rfl<;>(injection a with a;subst a;exact⟨by decide,rfl⟩)
   .refine ⟨hW.cell (g 1 (by decide)).1 id,hW.cell (g 1 (by decide)).2.1 id,_,_,hW.cell ((g 1 (by decide)).2.2.trans (congrArg some M)) id,fun h=>absurd h (by decide)⟩
   .refine ⟨hW.cell (o 0 (by decide)).1 id,hW.cell (o 0 (by decide)).2.1 id,_,_,hW.cell ((o 0 (by decide)).2.2.trans (congrArg some Q)) id,fun h=>absurd h (by decide)⟩
 have l:=aaS;have hu:pJ MJ 20 WA=some none:=by
  cases a:pJ MJ 20 WA with
  |none=>rw[a] at l;cases l
  |some R=>
   cases R with
   |none=>rfl
   |some st=>rw[a] at l;cases l
 have hx:=yR (T:=MJ) (ad:=A8 W.heap.size ga b c) (S:=(fun k=>k=W.heap.size\/k=W.heap.size+1\/k=ga\/k=b\/k=c)) 20 A7 Dn (az ga) (az b) ca D W G
  ⟨_,_,rfl,(aU.read h1).weaken B⟩ ⟨_,_,rfl,(aU.read A).weaken u⟩ (by decide) (by decide) hw.1 hw.2
  (by rw[y];decide) (by rw[y];decide) rfl rfl U
  (by rintro k (h|h|h|h|h)<;>omega)
  (fun i r hr=>(by decide: ∀r∈MJ,r.ks.length<=1000000) r (List.mem_of_getElem? hr)) none hu (fun _=>default) (fun st e=>by cases e)
 refine hx.mono ?_;rintro e w' ⟨H,V⟩;rcases H with⟨_,h⟩|⟨h,_⟩
 .exact ⟨h,V⟩
 .exact absurd rfl h
abbrev Gn:Tm:=(.mk ⟨#[122,101,114,111]⟩ ai [])
abbrev Dp:Tm:=(.mk ⟨#[112,108,117,115]⟩ ai [(.mk ⟨#[122,101,114,111]⟩ ai []),(.mk ⟨#[78,95,50]⟩ ⟨#[110,97,116]⟩ [])])
def MK:List Nr:=[⟨⟨#[122,101,114,111]⟩,ai,[]⟩,⟨⟨#[112,108,117,115]⟩,ai,[2,3]⟩,⟨⟨#[122,101,114,111]⟩,ai,[]⟩,⟨⟨#[78,95,50]⟩,⟨#[110,97,116]⟩,[]⟩]
def WC:List Vd:=aY Gn++aY Dp
def Jl (a b:Nat):Nat->Nat×Nat
 |0=>(a,0)
 |1=>(a+1,0)
 |2=>(b,0)
 |3=>(b,3)
 |_=>(0,0)
theorem akm:WC=[(⟨#[78,95,50]⟩,⟨#[110,97,116]⟩)]:=by decide+kernel
theorem ah1:(wf aC Gn&&wf aC Dp)=true:=by decide+kernel
theorem aaW:(match pJ MK 20 WC with|some none=>true|_=>false)=true:=by decide+kernel
theorem akn (W:World) (A:dI W) (g l:Nat->Prop) (va vb:Value) (h1:aU 24 W g Gn.kids va) (p:aU 24 W l Dp.kids vb) (hd: ∀k,g k->¬l k) (C: ∀k,g k->k<W.heap.size) (t: ∀k,l k->k<W.heap.size):
  Calls Tryz.prog 17 #[tV Gn va,tV Dp vb] W fun e w'=>e= .returned (.tuple #[.slice none 0 0,.int .i64 12])/\Ext W w':=by
 obtain⟨u,w,D⟩:=aU.shape h1;obtain⟨a,x,ub,N,E,pb,F,c,y,O,_⟩:=aU.vZ p (by decide);obtain⟨P,K,G⟩:=aU.shape (y 0 (by decide));obtain⟨Q,L,H⟩:=aU.shape (y 1 (by decide));subst D E;have U:a<W.heap.size:=t _ (F);have n:aY Gn++aY Dp=[(⟨#[78,95,50]⟩,⟨#[110,97,116]⟩)]:=akm;have hw:=ah1;rw[Bool.and_eq_true] at hw;have I: ∀W',Ext W W'->W'.heap[W.heap.size]?=some (tO Gn u w)->W'.heap[W.heap.size+1]?=some (af Dp.name Dp.sort (az a) Dp.kids.length x)->Fj MK (Jl W.heap.size a) (fun k=>k=W.heap.size\/k=W.heap.size+1\/k=a) W':=fun W' hW ha hb=>by
  refine⟨fun i j hi z e=>?_,fun i hi=>?_,fun i r hr=>?_⟩
  .have o:i<4:=hi;have M:j<4:=z;rcases(by omega:i=0\/i=1\/i=2\/i=3) with rfl|rfl|rfl|rfl<;>rcases(by omega:j=0\/j=1\/j=2\/j=3) with rfl|rfl|rfl|rfl<;>first|rfl|(simp only[Jl,Prod.mk.injEq] at e;omega)
  .have o:i<4:=hi;rcases(by omega:i=0\/i=1\/i=2\/i=3) with rfl|rfl|rfl|rfl
   .exact ⟨⟨_,_,ha⟩,by simp[Jl]⟩
   .exact ⟨⟨_,_,hb⟩,by simp[Jl]⟩
   .exact ⟨pb.ext hW,by simp[Jl]⟩
   .exact ⟨pb.ext hW,by simp[Jl]⟩
  .have o:i<4:=(List.getElem?_eq_some_iff.1 hr).1;rcases(by omega:i=0\/i=1\/i=2\/i=3) with rfl|rfl|rfl|rfl<;>(injection hr with hr;subst hr)
   .refine ⟨ag ha 0 _ rfl,ag ha 1 _ rfl,_,_,ag ha 2 _ rfl,fun h=>absurd h (by decide)⟩
   .refine ⟨ag hb 0 _ rfl,ag hb 1 _ rfl,_,_,ag hb 2 _ rfl,fun _=>⟨a,0,rfl,fun j q b=>?_⟩⟩;have z:j<2:=(List.getElem?_eq_some_iff.1 b).1;rcases(by omega:j=0\/j=1) with rfl|rfl<;>(injection b with b;subst b;exact⟨by decide,rfl⟩)
   .refine ⟨hW.cell (c 0 (by decide)).1 id,hW.cell (c 0 (by decide)).2.1 id,_,_,hW.cell ((c 0 (by decide)).2.2.trans (congrArg some G)) id,fun h=>absurd h (by decide)⟩
   .refine ⟨hW.cell (c 1 (by decide)).1 id,hW.cell (c 1 (by decide)).2.1 id,_,_,hW.cell ((c 1 (by decide)).2.2.trans (congrArg some H)) id,fun h=>absurd h (by decide)⟩
 have d:=aaW;have hu:pJ MK 20 WC=some none:=by
  cases b:pJ MK 20 WC with
  |none=>rw[b] at d;cases d
  |some R=>
   cases R with
   |none=>rfl
   |some st=>rw[b] at d;cases d
 have hx:=yR (T:=MK) (ad:=Jl W.heap.size a) (S:=(fun k=>k=W.heap.size\/k=W.heap.size+1\/k=a)) 20 Gn Dp u (az a) w x W A
  ⟨_,_,rfl,(aU.read h1).weaken C⟩ ⟨_,_,rfl,(aU.read p).weaken t⟩ (by decide) (by decide) hw.1 hw.2
  (by rw[n];decide) (by rw[n];decide) rfl rfl I
  (by rintro k (h|h|h)<;>omega)
  (fun i r hr=>(by decide: ∀r∈MK,r.ks.length<=1000000) r (List.mem_of_getElem? hr)) none hu (fun _=>default) (fun st e=>by cases e)
 refine hx.mono ?_;rintro e w' ⟨B,J⟩;rcases B with⟨_,h⟩|⟨h,_⟩
 .exact ⟨h,J⟩
 .exact absurd rfl h
abbrev Gp:Tm:=(.mk ⟨#[122,101,114,111]⟩ ai [])
abbrev Dq:Tm:=(.mk ⟨#[112,108,117,115]⟩ ai [(.mk ⟨#[115]⟩ ai [(.mk ⟨#[78,95,50]⟩ ⟨#[110,97,116]⟩ [])]),(.mk ⟨#[77,95,50]⟩ ⟨#[110,97,116]⟩ [])])
def ML:List Nr:=[⟨⟨#[122,101,114,111]⟩,ai,[]⟩,⟨⟨#[112,108,117,115]⟩,ai,[2,3]⟩,⟨⟨#[115]⟩,ai,[4]⟩,⟨⟨#[77,95,50]⟩,⟨#[110,97,116]⟩,[]⟩,⟨⟨#[78,95,50]⟩,⟨#[110,97,116]⟩,[]⟩]
def WE:List Vd:=aY Gp++aY Dq
def Gq (a b c:Nat):Nat->Nat×Nat
 |0=>(a,0)
 |1=>(a+1,0)
 |2=>(b,0)
 |3=>(b,3)
 |4=>(c,0)
 |_=>(0,0)
theorem ako:WE=[(⟨#[77,95,50]⟩,⟨#[110,97,116]⟩),(⟨#[78,95,50]⟩,⟨#[110,97,116]⟩)]:=by decide+kernel
theorem ah2:(wf aC Gp&&wf aC Dq)=true:=by decide+kernel
theorem aaX:(match pJ ML 20 WE with|some none=>true|_=>false)=true:=by decide+kernel
theorem akp (W:World) (D:dI W) (n o:Nat->Prop) (va vb:Value) (h1:aU 24 W n Gp.kids va) (x:aU 24 W o Dq.kids vb) (hd: ∀k,n k->¬o k) (F: ∀k,n k->k<W.heap.size) (p: ∀k,o k->k<W.heap.size):
  Calls Tryz.prog 17 #[tV Gp va,tV Dq vb] W fun e w'=>e= .returned (.tuple #[.slice none 0 0,.int .i64 12])/\Ext W w':=by
 obtain⟨y,z,G⟩:=aU.shape h1;obtain⟨b,A,ub,ai,H,pb,I,d,B,C,_⟩:=aU.vZ x (by decide);obtain⟨aj,Q,J⟩:=aU.shape (B 1 (by decide));obtain⟨c,U,V,X,K,L,bb0,l,M,Y,_⟩:=aU.vZ (B 0 (by decide)) (by decide);obtain⟨Z,aa,N⟩:=aU.shape (M 0 (by decide));subst G H;have ak:b<W.heap.size:=p _ (I);have ab:c<W.heap.size:=p _ ((C 0 _ (by decide) bb0).1);have ae:b≠c:=fun e=>(C 0 _ (by decide) bb0).2 e.symm;have u:aY Gp++aY Dq=[(⟨#[77,95,50]⟩,⟨#[110,97,116]⟩),(⟨#[78,95,50]⟩,⟨#[110,97,116]⟩)]:=ako;have hw:=ah2;rw[Bool.and_eq_true] at hw;have O: ∀W',Ext W W'->W'.heap[W.heap.size]?=some (tO Gp y z)->W'.heap[W.heap.size+1]?=some (af Dq.name Dq.sort (az b) Dq.kids.length A)->Fj ML (Gq W.heap.size b c) (fun k=>k=W.heap.size\/k=W.heap.size+1\/k=b\/k=c) W':=fun W' hW ha hb=>by
  refine⟨fun i j hi t e=>?_,fun i hi=>?_,fun i r hr=>?_⟩
  .have w:i<5:=hi;have ah:j<5:=t;rcases(by omega:i=0\/i=1\/i=2\/i=3\/i=4) with rfl|rfl|rfl|rfl|rfl<;>rcases(by omega:j=0\/j=1\/j=2\/j=3\/j=4) with rfl|rfl|rfl|rfl|rfl<;>first|rfl|(simp only[Gq,Prod.mk.injEq] at e;omega)
  .have w:i<5:=hi;rcases(by omega:i=0\/i=1\/i=2\/i=3\/i=4) with rfl|rfl|rfl|rfl|rfl
   .exact ⟨⟨_,_,ha⟩,by simp[Gq]⟩
   .exact ⟨⟨_,_,hb⟩,by simp[Gq]⟩
   .exact ⟨pb.ext hW,by simp[Gq]⟩
   .exact ⟨pb.ext hW,by simp[Gq]⟩
   .exact ⟨L.ext hW,by simp[Gq]⟩
  .have w:i<5:=(List.getElem?_eq_some_iff.1 hr).1;rcases(by omega:i=0\/i=1\/i=2\/i=3\/i=4) with rfl|rfl|rfl|rfl|rfl<;>(injection hr with hr;subst hr)
   .refine ⟨ag ha 0 _ rfl,ag ha 1 _ rfl,_,_,ag ha 2 _ rfl,fun h=>absurd h (by decide)⟩
   .refine ⟨ag hb 0 _ rfl,ag hb 1 _ rfl,_,_,ag hb 2 _ rfl,fun _=>⟨b,0,rfl,fun j q a=>?_⟩⟩;have t:j<2:=(List.getElem?_eq_some_iff.1 a).1;rcases(by omega:j=0\/j=1) with rfl|rfl<;>(injection a with a;subst a;exact⟨by decide,rfl⟩)
   .refine ⟨hW.cell (d 0 (by decide)).1 id,hW.cell (d 0 (by decide)).2.1 id,_,_,hW.cell ((d 0 (by decide)).2.2.trans (congrArg some K)) id,fun _=>⟨c,0,rfl,fun j q a=>?_⟩⟩;have t:j<1:=(List.getElem?_eq_some_iff.1 a).1;rcases(by omega:j=0) with rfl<;>(injection a with a;subst a;exact⟨by decide,rfl⟩)
   .refine ⟨hW.cell (d 1 (by decide)).1 id,hW.cell (d 1 (by decide)).2.1 id,_,_,hW.cell ((d 1 (by decide)).2.2.trans (congrArg some J)) id,fun h=>absurd h (by decide)⟩
   .refine ⟨hW.cell (l 0 (by decide)).1 id,hW.cell (l 0 (by decide)).2.1 id,_,_,hW.cell ((l 0 (by decide)).2.2.trans (congrArg some N)) id,fun h=>absurd h (by decide)⟩
 have g:=aaX;have hu:pJ ML 20 WE=some none:=by
  cases a:pJ ML 20 WE with
  |none=>rw[a] at g;cases g
  |some R=>
   cases R with
   |none=>rfl
   |some st=>rw[a] at g;cases g
 have hx:=yR (T:=ML) (ad:=Gq W.heap.size b c) (S:=(fun k=>k=W.heap.size\/k=W.heap.size+1\/k=b\/k=c)) 20 Gp Dq y (az b) z A W D
  ⟨_,_,rfl,(aU.read h1).weaken F⟩ ⟨_,_,rfl,(aU.read x).weaken p⟩ (by decide) (by decide) hw.1 hw.2
  (by rw[u];decide) (by rw[u];decide) rfl rfl O
  (by rintro k (h|h|h|h)<;>omega)
  (fun i r hr=>(by decide: ∀r∈ML,r.ks.length<=1000000) r (List.mem_of_getElem? hr)) none hu (fun _=>default) (fun st e=>by cases e)
 refine hx.mono ?_;rintro e w' ⟨E,P⟩;rcases E with⟨_,h⟩|⟨h,_⟩
 .exact ⟨h,P⟩
 .exact absurd rfl h
abbrev A_:Tm:=(.mk ⟨#[115]⟩ ai [(.mk ⟨#[78,95,49]⟩ ⟨#[110,97,116]⟩ [])])
abbrev Dt:Tm:=(.mk ⟨#[112,108,117,115]⟩ ai [(.mk ⟨#[122,101,114,111]⟩ ai []),(.mk ⟨#[78,95,50]⟩ ⟨#[110,97,116]⟩ [])])
def MM:List Nr:=[⟨⟨#[115]⟩,ai,[2]⟩,⟨⟨#[112,108,117,115]⟩,ai,[3,4]⟩,⟨⟨#[78,95,49]⟩,⟨#[110,97,116]⟩,[]⟩,⟨⟨#[122,101,114,111]⟩,ai,[]⟩,⟨⟨#[78,95,50]⟩,⟨#[110,97,116]⟩,[]⟩]
def WG:List Vd:=aY A_++aY Dt
def Gs (a ga b:Nat):Nat->Nat×Nat
 |0=>(a,0)
 |1=>(a+1,0)
 |2=>(ga,0)
 |3=>(b,0)
 |4=>(b,3)
 |_=>(0,0)
theorem akq:WG=[(⟨#[78,95,49]⟩,⟨#[110,97,116]⟩),(⟨#[78,95,50]⟩,⟨#[110,97,116]⟩)]:=by decide+kernel
theorem ah3:(wf aC A_&&wf aC Dt)=true:=by decide+kernel
theorem aaY:(match pJ MM 20 WG with|some none=>true|_=>false)=true:=by decide+kernel
theorem akr (W:World) (C:dI W) (g l:Nat->Prop) (va vb:Value) (h1:aU 24 W g A_.kids va) (u:aU 24 W l Dt.kids vb) (hd: ∀k,g k->¬l k) (w: ∀k,g k->k<W.heap.size) (x: ∀k,l k->k<W.heap.size):
  Calls Tryz.prog 17 #[tV A_ va,tV Dt vb] W fun e w'=>e= .returned (.tuple #[.slice none 0 0,.int .i64 12])/\Ext W w':=by
 obtain⟨ga,ca,ua,V,E,pa,y,n,F,X,_⟩:=aU.vZ h1 (by decide);obtain⟨M,N,G⟩:=aU.shape (F 0 (by decide));obtain⟨b,z,ub,Y,H,pb,A,c,B,Z,_⟩:=aU.vZ u (by decide);obtain⟨aa,O,I⟩:=aU.shape (B 0 (by decide));obtain⟨ab,P,J⟩:=aU.shape (B 1 (by decide));subst E H;have ae:ga<W.heap.size:=w _ (y);have ah:b<W.heap.size:=x _ (A);have Q:ga≠b:=fun e=>hd _ (y) (e▸(A));have p:aY A_++aY Dt=[(⟨#[78,95,49]⟩,⟨#[110,97,116]⟩),(⟨#[78,95,50]⟩,⟨#[110,97,116]⟩)]:=akq;have hw:=ah3;rw[Bool.and_eq_true] at hw;have K: ∀W',Ext W W'->W'.heap[W.heap.size]?=some (af A_.name A_.sort (az ga) A_.kids.length ca)->W'.heap[W.heap.size+1]?=some (af Dt.name Dt.sort (az b) Dt.kids.length z)->Fj MM (Gs W.heap.size ga b) (fun k=>k=W.heap.size\/k=W.heap.size+1\/k=ga\/k=b) W':=fun W' hW ha hb=>by
  refine⟨fun i j hi o e=>?_,fun i hi=>?_,fun i r hr=>?_⟩
  .have t:i<5:=hi;have U:j<5:=o;rcases(by omega:i=0\/i=1\/i=2\/i=3\/i=4) with rfl|rfl|rfl|rfl|rfl<;>rcases(by omega:j=0\/j=1\/j=2\/j=3\/j=4) with rfl|rfl|rfl|rfl|rfl<;>first|rfl|(simp only[Gs,Prod.mk.injEq] at e;omega)
  .have t:i<5:=hi;rcases(by omega:i=0\/i=1\/i=2\/i=3\/i=4) with rfl|rfl|rfl|rfl|rfl
   .exact ⟨⟨_,_,ha⟩,by simp[Gs]⟩
   .exact ⟨⟨_,_,hb⟩,by simp[Gs]⟩
   .exact ⟨pa.ext hW,by simp[Gs]⟩
   .exact ⟨pb.ext hW,by simp[Gs]⟩
   .exact ⟨pb.ext hW,by simp[Gs]⟩
  .have t:i<5:=(List.getElem?_eq_some_iff.1 hr).1;rcases(by omega:i=0\/i=1\/i=2\/i=3\/i=4) with rfl|rfl|rfl|rfl|rfl<;>(injection hr with hr;subst hr)
   .refine ⟨ag ha 0 _ rfl,ag ha 1 _ rfl,_,_,ag ha 2 _ rfl,fun _=>⟨ga,0,rfl,fun j q a=>?_⟩⟩;have o:j<1:=(List.getElem?_eq_some_iff.1 a).1;rcases(by omega:j=0) with rfl<;>(injection a with a;subst a;exact⟨by decide,rfl⟩)
   .refine ⟨ag hb 0 _ rfl,ag hb 1 _ rfl,_,_,ag hb 2 _ rfl,fun _=>⟨b,0,rfl,fun j q a=>?_⟩⟩;have o:j<2:=(List.getElem?_eq_some_iff.1 a).1;rcases(by omega:j=0\/j=1) with rfl|rfl<;>(injection a with a;subst a;exact⟨by decide,rfl⟩)
   .refine ⟨hW.cell (n 0 (by decide)).1 id,hW.cell (n 0 (by decide)).2.1 id,_,_,hW.cell ((n 0 (by decide)).2.2.trans (congrArg some G)) id,fun h=>absurd h (by decide)⟩
   .refine ⟨hW.cell (c 0 (by decide)).1 id,hW.cell (c 0 (by decide)).2.1 id,_,_,hW.cell ((c 0 (by decide)).2.2.trans (congrArg some I)) id,fun h=>absurd h (by decide)⟩
   .refine ⟨hW.cell (c 1 (by decide)).1 id,hW.cell (c 1 (by decide)).2.1 id,_,_,hW.cell ((c 1 (by decide)).2.2.trans (congrArg some J)) id,fun h=>absurd h (by decide)⟩
 have d:=aaY;have hu:pJ MM 20 WG=some none:=by
  cases a:pJ MM 20 WG with
  |none=>rw[a] at d;cases d
  |some R=>
   cases R with
   |none=>rfl
   |some st=>rw[a] at d;cases d
 have hx:=yR (T:=MM) (ad:=Gs W.heap.size ga b) (S:=(fun k=>k=W.heap.size\/k=W.heap.size+1\/k=ga\/k=b)) 20 A_ Dt (az ga) (az b) ca z W C
  ⟨_,_,rfl,(aU.read h1).weaken w⟩ ⟨_,_,rfl,(aU.read u).weaken x⟩ (by decide) (by decide) hw.1 hw.2
  (by rw[p];decide) (by rw[p];decide) rfl rfl K
  (by rintro k (h|h|h|h)<;>omega)
  (fun i r hr=>(by decide: ∀r∈MM,r.ks.length<=1000000) r (List.mem_of_getElem? hr)) none hu (fun _=>default) (fun st e=>by cases e)
 refine hx.mono ?_;rintro e w' ⟨D,L⟩;rcases D with⟨_,h⟩|⟨h,_⟩
 .exact ⟨h,L⟩
 .exact absurd rfl h
abbrev Bc:Tm:=(.mk ⟨#[115]⟩ ai [(.mk ⟨#[78,95,49]⟩ ⟨#[110,97,116]⟩ [])])
abbrev Dv:Tm:=(.mk ⟨#[112,108,117,115]⟩ ai [(.mk ⟨#[115]⟩ ai [(.mk ⟨#[78,95,50]⟩ ⟨#[110,97,116]⟩ [])]),(.mk ⟨#[77,95,50]⟩ ⟨#[110,97,116]⟩ [])])
def MN:List Nr:=[⟨⟨#[115]⟩,ai,[2]⟩,⟨⟨#[112,108,117,115]⟩,ai,[3,4]⟩,⟨⟨#[78,95,49]⟩,⟨#[110,97,116]⟩,[]⟩,⟨⟨#[115]⟩,ai,[5]⟩,⟨⟨#[77,95,50]⟩,⟨#[110,97,116]⟩,[]⟩,⟨⟨#[78,95,50]⟩,⟨#[110,97,116]⟩,[]⟩]
def WH:List Vd:=aY Bc++aY Dv
def Dw (a ga b c:Nat):Nat->Nat×Nat
 |0=>(a,0)
 |1=>(a+1,0)
 |2=>(ga,0)
 |3=>(b,0)
 |4=>(b,3)
 |5=>(c,0)
 |_=>(0,0)
theorem aks:WH=[(⟨#[78,95,49]⟩,⟨#[110,97,116]⟩),(⟨#[77,95,50]⟩,⟨#[110,97,116]⟩),(⟨#[78,95,50]⟩,⟨#[110,97,116]⟩)]:=by decide+kernel
theorem ah4:(wf aC Bc&&wf aC Dv)=true:=by decide+kernel
theorem aaZ:(match pJ MN 20 WH with|some none=>true|_=>false)=true:=by decide+kernel
theorem akt (W:World) (F:dI W) (o p:Nat->Prop) (va vb:Value) (h1:aU 24 W o Bc.kids va) (A:aU 24 W p Dv.kids vb) (hd: ∀k,o k->¬p k) (B: ∀k,o k->k<W.heap.size) (t: ∀k,p k->k<W.heap.size):
  Calls Tryz.prog 17 #[tV Bc va,tV Dv vb] W fun e w'=>e= .returned (.tuple #[.slice none 0 0,.int .i64 12])/\Ext W w':=by
 obtain⟨ga,ca,ua,aq,H,pa,u,w,I,ar,_⟩:=aU.vZ h1 (by decide);obtain⟨V,X,J⟩:=aU.shape (I 0 (by decide));obtain⟨b,C,ub,au,K,pb,D,d,E,x,_⟩:=aU.vZ A (by decide);obtain⟨av,Y,L⟩:=aU.shape (E 1 (by decide));obtain⟨c,Z,aa,ab,M,N,bb0,n,O,ae,_⟩:=aU.vZ (E 0 (by decide)) (by decide);obtain⟨ah,ai,P⟩:=aU.shape (O 0 (by decide));subst H K;have aw:ga<W.heap.size:=B _ (u);have ax:b<W.heap.size:=t _ (D);have aj:c<W.heap.size:=t _ ((x 0 _ (by decide) bb0).1);have ak:ga≠b:=fun e=>hd _ (u) (e▸(D));have al:ga≠c:=fun e=>hd _ (u) (e▸((x 0 _ (by decide) bb0).1));have an:b≠c:=fun e=>(x 0 _ (by decide) bb0).2 e.symm;have y:aY Bc++aY Dv=[(⟨#[78,95,49]⟩,⟨#[110,97,116]⟩),(⟨#[77,95,50]⟩,⟨#[110,97,116]⟩),(⟨#[78,95,50]⟩,⟨#[110,97,116]⟩)]:=aks;have hw:=ah4;rw[Bool.and_eq_true] at hw;have Q: ∀W',Ext W W'->W'.heap[W.heap.size]?=some (af Bc.name Bc.sort (az ga) Bc.kids.length ca)->W'.heap[W.heap.size+1]?=some (af Dv.name Dv.sort (az b) Dv.kids.length C)->Fj MN (Dw W.heap.size ga b c) (fun k=>k=W.heap.size\/k=W.heap.size+1\/k=ga\/k=b\/k=c) W':=fun W' hW ha hb=>by
  refine⟨fun i j hi l e=>?_,fun i hi=>?_,fun i r hr=>?_⟩
  .have z:i<6:=hi;have ao:j<6:=l;rcases(by omega:i=0\/i=1\/i=2\/i=3\/i=4\/i=5) with rfl|rfl|rfl|rfl|rfl|rfl<;>rcases(by omega:j=0\/j=1\/j=2\/j=3\/j=4\/j=5) with rfl|rfl|rfl|rfl|rfl|rfl<;>first|rfl|(simp only[Dw,Prod.mk.injEq] at e;omega)
  .have z:i<6:=hi;rcases(by omega:i=0\/i=1\/i=2\/i=3\/i=4\/i=5) with rfl|rfl|rfl|rfl|rfl|rfl
   .exact ⟨⟨_,_,ha⟩,by simp[Dw]⟩
   .exact ⟨⟨_,_,hb⟩,by simp[Dw]⟩
   .exact ⟨pa.ext hW,by simp[Dw]⟩
   .exact ⟨pb.ext hW,by simp[Dw]⟩
   .exact ⟨pb.ext hW,by simp[Dw]⟩
   .exact ⟨N.ext hW,by simp[Dw]⟩
  .have z:i<6:=(List.getElem?_eq_some_iff.1 hr).1;rcases(by omega:i=0\/i=1\/i=2\/i=3\/i=4\/i=5) with rfl|rfl|rfl|rfl|rfl|rfl<;>(injection hr with hr;subst hr)
   .refine ⟨ag ha 0 _ rfl,ag ha 1 _ rfl,_,_,ag ha 2 _ rfl,fun _=>⟨ga,0,rfl,fun j q a=>?_⟩⟩;have l:j<1:=(List.getElem?_eq_some_iff.1 a).1;rcases(by omega:j=0) with rfl<;>(injection a with a;subst a;exact⟨by decide,rfl⟩)
   .refine ⟨ag hb 0 _ rfl,ag hb 1 _ rfl,_,_,ag hb 2 _ rfl,fun _=>⟨b,0,rfl,fun j q a=>?_⟩⟩;have l:j<2:=(List.getElem?_eq_some_iff.1 a).1;rcases(by omega:j=0\/j=1) with rfl|rfl<;>(injection a with a;subst a;exact⟨by decide,rfl⟩)
   .refine ⟨hW.cell (w 0 (by decide)).1 id,hW.cell (w 0 (by decide)).2.1 id,_,_,hW.cell ((w 0 (by decide)).2.2.trans (congrArg some J)) id,fun h=>absurd h (by decide)⟩
   .refine ⟨hW.cell (d 0 (by decide)).1 id,hW.cell (d 0 (by decide)).2.1 id,_,_,hW.cell ((d 0 (by decide)).2.2.trans (congrArg some M)) id,fun _=>⟨c,0,rfl,fun j q a=>?_⟩⟩;have l:j<1:=(List.getElem?_eq_some_iff.1 a).1;rcases(by omega:j=0) with rfl<;>(injection a with a;subst a;exact⟨by decide,rfl⟩)
   .refine ⟨hW.cell (d 1 (by decide)).1 id,hW.cell (d 1 (by decide)).2.1 id,_,_,hW.cell ((d 1 (by decide)).2.2.trans (congrArg some L)) id,fun h=>absurd h (by decide)⟩
   .refine ⟨hW.cell (n 0 (by decide)).1 id,hW.cell (n 0 (by decide)).2.1 id,_,_,hW.cell ((n 0 (by decide)).2.2.trans (congrArg some P)) id,fun h=>absurd h (by decide)⟩
 have g:=aaZ;have hu:pJ MN 20 WH=some none:=by
  cases a:pJ MN 20 WH with
  |none=>rw[a] at g;cases g
  |some R=>
   cases R with
   |none=>rfl
   |some st=>rw[a] at g;cases g
 have hx:=yR (T:=MN) (ad:=Dw W.heap.size ga b c) (S:=(fun k=>k=W.heap.size\/k=W.heap.size+1\/k=ga\/k=b\/k=c)) 20 Bc Dv (az ga) (az b) ca C W F
  ⟨_,_,rfl,(aU.read h1).weaken B⟩ ⟨_,_,rfl,(aU.read A).weaken t⟩ (by decide) (by decide) hw.1 hw.2
  (by rw[y];decide) (by rw[y];decide) rfl rfl Q
  (by rintro k (h|h|h|h|h)<;>omega)
  (fun i r hr=>(by decide: ∀r∈MN,r.ks.length<=1000000) r (List.mem_of_getElem? hr)) none hu (fun _=>default) (fun st e=>by cases e)
 refine hx.mono ?_;rintro e w' ⟨G,U⟩;rcases G with⟨_,h⟩|⟨h,_⟩
 .exact ⟨h,U⟩
 .exact absurd rfl h
abbrev Bf:Tm:=(.mk ⟨#[102]⟩ ai [(.mk ⟨#[88,95,49]⟩ ⟨#[97]⟩ [])])
abbrev Dx:Tm:=(.mk ⟨#[102]⟩ ai [(.mk ⟨#[102]⟩ ai [(.mk ⟨#[88,95,50]⟩ ⟨#[97]⟩ [])])])
def MO:List Nr:=[⟨⟨#[102]⟩,ai,[2]⟩,⟨⟨#[102]⟩,ai,[3]⟩,⟨⟨#[88,95,49]⟩,⟨#[97]⟩,[]⟩,⟨⟨#[102]⟩,ai,[4]⟩,⟨⟨#[88,95,50]⟩,⟨#[97]⟩,[]⟩]
def WI:List Vd:=aY Bf++aY Dx
def Gt (a ga b c:Nat):Nat->Nat×Nat
 |0=>(a,0)
 |1=>(a+1,0)
 |2=>(ga,0)
 |3=>(b,0)
 |4=>(c,0)
 |_=>(0,0)
theorem aku:WI=[(⟨#[88,95,49]⟩,⟨#[97]⟩),(⟨#[88,95,50]⟩,⟨#[97]⟩)]:=by decide+kernel
theorem ah5:(wf aC Bf&&wf aC Dx)=true:=by decide+kernel
def O6 (v:Vd):Tm:=if v.1=⟨#[88,95,49]⟩ then(.mk ⟨#[102]⟩ ai [(.mk ⟨#[88,95,50]⟩ ⟨#[97]⟩ [])]) else(.mk ⟨#[88,95,50]⟩ ⟨#[97]⟩ [])
def RV:List Bd:=[(⟨#[88,95,49]⟩,⟨#[97]⟩,(.mk ⟨#[102]⟩ ai [(.mk ⟨#[88,95,50]⟩ ⟨#[97]⟩ [])]))]
theorem ah6:((pJ MO 20 WI).bind id).any (fun st=>acE MO 20 WI O6 st)=true:=by decide+kernel
theorem akv (W:World) (J:dI W) (p t:Nat->Prop) (va vb:Value) (h1:aU 24 W p Bf.kids va) (D:aU 24 W t Dx.kids vb) (hd: ∀k,p k->¬t k) (E: ∀k,p k->k<W.heap.size) (u: ∀k,t k->k<W.heap.size):
  Calls Tryz.prog 17 #[tV Bf va,tV Dx vb] W fun e w'=> ∃g rc,e= .returned (.tuple #[.slice g 1 rc,.int .i64 0])/\jb (fun k=>W.heap.size<=k/\k<w'.heap.size) (fun k=>W.heap.size<=k/\k<w'.heap.size) w' (.slice g 1 rc) RV/\Ext W w':=by
 obtain⟨ga,ca,ua,aB,O,pa,w,x,P,aC,_⟩:=aU.vZ h1 (by decide);obtain⟨aj,ak,Q⟩:=aU.shape (P 0 (by decide));obtain⟨b,F,ub,aD,U,pb,G,y,V,z,_⟩:=aU.vZ D (by decide);obtain⟨c,al,an,ao,X,Y,bb0,n,Z,aq,_⟩:=aU.vZ (V 0 (by decide)) (by decide);obtain⟨ar,au,aa⟩:=aU.shape (Z 0 (by decide));subst O U;have aE:ga<W.heap.size:=E _ (w);have aF:b<W.heap.size:=u _ (G);have av:c<W.heap.size:=u _ ((z 0 _ (by decide) bb0).1);have aw:ga≠b:=fun e=>hd _ (w) (e▸(G));have ax:ga≠c:=fun e=>hd _ (w) (e▸((z 0 _ (by decide) bb0).1));have ay:b≠c:=fun e=>(z 0 _ (by decide) bb0).2 e.symm;have o:aY Bf++aY Dx=[(⟨#[88,95,49]⟩,⟨#[97]⟩),(⟨#[88,95,50]⟩,⟨#[97]⟩)]:=aku;have hw:=ah5;rw[Bool.and_eq_true] at hw;have ab: ∀W',Ext W W'->W'.heap[W.heap.size]?=some (af Bf.name Bf.sort (az ga) Bf.kids.length ca)->W'.heap[W.heap.size+1]?=some (af Dx.name Dx.sort (az b) Dx.kids.length F)->Fj MO (Gt W.heap.size ga b c) (fun k=>k=W.heap.size\/k=W.heap.size+1\/k=ga\/k=b\/k=c) W':=fun W' hW ha hb=>by
  refine⟨fun i j hi l e=>?_,fun i hi=>?_,fun i r hr=>?_⟩
  .have B:i<5:=hi;have aA:j<5:=l;rcases(by omega:i=0\/i=1\/i=2\/i=3\/i=4) with rfl|rfl|rfl|rfl|rfl<;>rcases(by omega:j=0\/j=1\/j=2\/j=3\/j=4) with rfl|rfl|rfl|rfl|rfl<;>first|rfl|(simp only[Gt,Prod.mk.injEq] at e;omega)
  .have B:i<5:=hi;rcases(by omega:i=0\/i=1\/i=2\/i=3\/i=4) with rfl|rfl|rfl|rfl|rfl
   .exact ⟨⟨_,_,ha⟩,by simp[Gt]⟩
   .exact ⟨⟨_,_,hb⟩,by simp[Gt]⟩
   .exact ⟨pa.ext hW,by simp[Gt]⟩
   .exact ⟨pb.ext hW,by simp[Gt]⟩
   .exact ⟨Y.ext hW,by simp[Gt]⟩
  .have B:i<5:=(List.getElem?_eq_some_iff.1 hr).1;rcases(by omega:i=0\/i=1\/i=2\/i=3\/i=4) with rfl|rfl|rfl|rfl|rfl<;>(injection hr with hr;subst hr)
   .refine ⟨ag ha 0 _ rfl,ag ha 1 _ rfl,_,_,ag ha 2 _ rfl,fun _=>⟨ga,0,rfl,fun j q a=>?_⟩⟩;have l:j<1:=(List.getElem?_eq_some_iff.1 a).1;rcases(by omega:j=0) with rfl<;>(injection a with a;subst a;exact⟨by decide,rfl⟩)
   .refine ⟨ag hb 0 _ rfl,ag hb 1 _ rfl,_,_,ag hb 2 _ rfl,fun _=>⟨b,0,rfl,fun j q a=>?_⟩⟩;have l:j<1:=(List.getElem?_eq_some_iff.1 a).1;rcases(by omega:j=0) with rfl<;>(injection a with a;subst a;exact⟨by decide,rfl⟩)
   .refine ⟨hW.cell (x 0 (by decide)).1 id,hW.cell (x 0 (by decide)).2.1 id,_,_,hW.cell ((x 0 (by decide)).2.2.trans (congrArg some Q)) id,fun h=>absurd h (by decide)⟩
   .refine ⟨hW.cell (y 0 (by decide)).1 id,hW.cell (y 0 (by decide)).2.1 id,_,_,hW.cell ((y 0 (by decide)).2.2.trans (congrArg some X)) id,fun _=>⟨c,0,rfl,fun j q a=>?_⟩⟩;have l:j<1:=(List.getElem?_eq_some_iff.1 a).1;rcases(by omega:j=0) with rfl<;>(injection a with a;subst a;exact⟨by decide,rfl⟩)
   .refine ⟨hW.cell (n 0 (by decide)).1 id,hW.cell (n 0 (by decide)).2.1 id,_,_,hW.cell ((n 0 (by decide)).2.2.trans (congrArg some aa)) id,fun h=>absurd h (by decide)⟩
 have d:=ah6;cases hu:pJ MO 20 WI with
 |none=>rw[hu] at d;cases d
 |some R=>
 rw[hu] at d;have N:R≠none:=fun e=>by rw[e] at d;cases d
 have hx:=yR (T:=MO) (ad:=Gt W.heap.size ga b c) (S:=(fun k=>k=W.heap.size\/k=W.heap.size+1\/k=ga\/k=b\/k=c)) 20 Bf Dx (az ga) (az b) ca F W J
  ⟨_,_,rfl,(aU.read h1).weaken E⟩ ⟨_,_,rfl,(aU.read D).weaken u⟩ (by decide) (by decide) hw.1 hw.2
  (by rw[o];decide) (by rw[o];decide) rfl rfl ab
  (by rintro k (h|h|h|h|h)<;>omega)
  (fun i r hr=>(by decide: ∀r∈MO,r.ks.length<=1000000) r (List.mem_of_getElem? hr)) R hu O6 (fun st e=>V8 (by rw[e] at d;exact d))
 refine hx.mono ?_;rintro e w' ⟨K,ae⟩;rcases K with⟨h,_⟩|⟨_,r,L,rfl,C,M,A⟩
 .exact absurd h N
 rw[o] at A;have H:O6 (⟨#[88,95,49]⟩,⟨#[97]⟩)=(.mk ⟨#[102]⟩ ai [(.mk ⟨#[88,95,50]⟩ ⟨#[97]⟩ [])]):=if_pos rfl;have ty:O6 (⟨#[88,95,50]⟩,⟨#[97]⟩)=(.mk ⟨#[88,95,50]⟩ ⟨#[97]⟩ []):=if_neg (by decide);have ah:L=RV:=I5 Prod.fst M (by unfold RV AscK;decide) (fun f=>by
  rw[A f];constructor
  .rintro ⟨⟨v,hv,e⟩,hs⟩;simp only[List.mem_cons,List.not_mem_nil,or_false] at hv;rcases hv with I|I<;>subst I<;>subst e
   .exact List.mem_cons.2 (.inl (by rw[H]))
   .exact absurd hs (by rw[ty];decide)
  .intro hf;unfold RV at hf;simp only[List.mem_cons,List.not_mem_nil,or_false] at hf;subst hf;exact⟨⟨(⟨#[88,95,49]⟩,⟨#[97]⟩),by simp,by rw[H]⟩,by decide⟩)
 subst ah;obtain⟨g,rc,rfl⟩:=C.shape;exact⟨g,rc,rfl,C,ae⟩
theorem agI (nm so b:By) (a:Option Addr) (n cap c:Nat) (w:World) (hs:w.cell? ⟨c,0,none⟩=some (.string b)) (hl:nm.size+b.size<=100000):Calls Tryz.prog 81 #[.agg #[.string nm,.string so,.slice a n cap],.pointer (az c)] w fun e w'=>e= .returned (.agg #[.string (nm++b),.string so,.slice none 0 0])/\Ext w w':=by
 have j:=(((uR w).alloc (af nm so a n cap)).alloc zO).cell hs id;have d:=ae (((uR w).alloc (af nm so a n cap)).alloc (af (nm++b) so none 0 0));go_enter Tryz.func81,Tryz.ntmps81;go_wp2_with fail;have hb:=alloc_at (w.alloc (af nm so a n cap)) (af (nm++b) so none 0 0) (n:=w.heap.size+1) (by simp);obtain⟨g,h,i⟩:=ah hb;exact bodyPost_ret (v:= .agg #[.string (nm++b),.string so,.slice none 0 0]) (by simp[results,Tryz.results81,go_sem,g,h,i]) rfl ⟨rfl,d.o⟩
theorem ad_ (b:By) (aF:Nat) (w0:World) (bU:Hid (∀W,Ext w0 W->W.cell? ⟨aF,0,none⟩=some (.string b))): ∀(t:Tm) (v:Value) (S:Nat->Prop) (w:World),Ext w0 w->bQ S w t v->(∀k,S k->k<w.heap.size)->t.size<=100000->(∀f∈dL t,f.1.size+b.size<=100000)->
  Calls Tryz.prog 80 #[v,.func (.func 81) #[] #[.pointer (az aF)]] w fun e w'=> ∃r B,e= .returned (tV (iW (fun n s=>vr (n++b) s) t) r)/\aU 24 w' B (iW (fun n s=>vr (n++b) s) t).kids r/\(∀j,B j->w.heap.size<=j/\j<w'.heap.size)/\Ext w w':=by
 refine Tm.ind (fun n s L bm=>?_);intro v S w bb X hS aA bc;obtain⟨Z,aH⟩:=ay (iW (fun n s=>vr (n++b) s) (.mk n s L));rw[aH];have bn:=ae aH;clear aH;obtain⟨a,cap,rfl,X⟩:=X;dsimp only[tV,Tm.name,Tm.sort,Tm.kids] at X⊢;have bV:=ae X;have bL:=ae bm;have bW:=ae hS;have bd:=ae bb;have bo:=ae bc;have bp:sizes L+1<=100000:=by rw[size_eq] at aA;simp only[Tm.kids] at aA;omega
 have bX:=ae bp;have cz:L.length<=100000:=by have h1:=bz L;omega
 have P:=ae (fun W=>nG n s a L.length cap W);have bq:=((uR w).alloc (af n s a L.length cap)).alloc zO;have A:=ae (ak (aj w (af n s a L.length cap)) zO);have O:=ae (alloc_at (w.alloc (af n s a L.length cap)) zO (n:=w.heap.size+1) (by simp));have an:w.heap.size+2<=((w.alloc (af n s a L.length cap)).alloc zO).heap.size:=by simp
 obtain⟨Q,R,T⟩:=ah A.o;have aI:=ae bq;have bf:=ae an;clear bm X hS aA bp bq an bb bc;by_cases E:s=ai;rotate_left
 .rw [dF E] at P;obtain rfl:Z=vr (n++b) s:=by rw[<-bn.o];exact qh _ E L
  have bY:=ae (bo.o (n,s) (nK E L));clear E;go_enter Tryz.func80,Tryz.ntmps80;go_wp2_with fail;refine(P.o _).mono ?_;rintro e w3 ⟨rfl,y⟩;have Y:=ae (aI.o.trans y);have aa:Hid (w.heap.size+2<=w3.heap.size):=ae (Nat.le_trans bf.o y.size);have ab:=ae (y.heap A.o id);have aq:=ae (y.heap O.o id);clear y P Q R T;obtain⟨Q,R,T⟩:=ah ab.o;go_wp2_with fail;refine(agI n s b a L.length cap aF w3 (bU.o _ (bd.o.trans Y.o)) bY.o).mono ?_;rintro e aJ ⟨rfl,ao⟩;have aK:=ae (Ff (vr (n++b) s) (tV (vr (n++b) s) (.slice none 0 0)) (fun k=>k<aJ.heap.size) aJ ⟨none,0,rfl,aG.nil _ _⟩ (fun k h=>h) (by show 1<=100000;decide));dsimp only[tV,Tm.name,Tm.sort] at aK⊢;have bZ:=ae (Y.o.trans ao);have b1:=ae (ao.heap aq.o id);have b2:Hid (w.heap.size+2<=aJ.heap.size):=ae (Nat.le_trans aa.o ao.size);clear ao Q R T;go_wp2_with fail;refine aK.o.mono ?_;rintro e H ⟨cA,b3,rfl,aL,bg,aB⟩;obtain⟨d,l,aM⟩:=aU.shape aL;subst aM;have b4:=ae aL;have ad:=ae bg;have b5:=ae (bZ.o.trans aB);have aQ:=ae (aB.heap b1.o id);obtain⟨d0,d1,d2⟩:=ah aQ.o;have f2:=fun i=>ax aQ.o i;dsimp only[tV]
  try dsimp only[Tm.name,Tm.sort,Tm.kids,List.length_nil]
  clear aL bg aB aK;go_wp2_with fail;have aC:=aO aQ.o (.string (n++b)) (.string s) (.slice d 0 l);have hu:=aN H (w.heap.size+1) (.string (n++b)) (.string s) (.slice d 0 l);obtain⟨aR,aS,aT⟩:=ah aC;have cx:=b2.o;refine bodyPost_ret (v:= .agg #[.string (n++b),.string s,.slice d 0 l]) (by simp[results,Tryz.results80,go_sem,aR,aS,aT]) rfl ⟨.slice d 0 l,b3,rfl,b4.o.kept hu (fun j q e=>by have h1:=(ad.o j q).1;omega),fun j q=>⟨by have h1:=(ad.o j q).1;omega,aP (ad.o j q).2 hu.size⟩,b5.o.trans' hu (fun j q e=>by omega)⟩
 rw[dT E] at P;obtain rfl:Z= .mk n ai (L.map (iW (fun n s=>vr (n++b) s))):=by rw[<-bn.o,E];exact uN _ n L
 have b6:Hid (∀x∈L,∀f∈dL x,f.1.size+b.size<=100000):=ae (fun x hx f hf=>bo.o f (by
  rw[E,vU];exact List.mem_flatMap.2 ⟨x,hx,hf⟩))
 clear E;go_enter Tryz.func80,Tryz.ntmps80;go_wp2_with fail;refine(P.o _).mono ?_;rintro e w3 ⟨rfl,y⟩;have Y:=ae (aI.o.trans y);have ab:=ae (y.heap A.o id);have aq:=ae (y.heap O.o id);have aa:Hid (w.heap.size+2<=w3.heap.size):=ae (Nat.le_trans bf.o y.size);clear y P Q R T;have br:=ae ((uR w3).alloc (af n ⟨#[]⟩ none 0 0));have bs:=ae (ak ab.o (af n ⟨#[]⟩ none 0 0));have bt:=ae (ak aq.o (af n ⟨#[]⟩ none 0 0));have aV:=ae (aj w3 (af n ⟨#[]⟩ none 0 0));have aW:Hid (w3.heap.size+1<=(w3.alloc (af n ⟨#[]⟩ none 0 0)).heap.size):=ae (by simp);obtain⟨Q,R,T⟩:=ah ab.o;obtain⟨u0,u1,u2⟩:=ah bs.o;go_wp2_with fail;generalize w3.alloc (af n ⟨#[]⟩ none 0 0)=b7 at*;obtain⟨c,bh⟩:=ay w3.heap.size;rw[bh] at aV aW aa⊢;have bu:=ae (Y.o.trans br.o);have bw:Hid (oN 24 (c+1) b7 (L.map (iW (fun n s=>vr (n++b) s))) (.slice none 0 0) [] (fun _ _=>False) 0):=ae ⟨rfl,⟨rfl,.inl ⟨rfl,rfl⟩⟩,fun i hi=>absurd hi (Nat.not_lt_zero _),fun i j hi=>absurd hi (Nat.not_lt_zero _),fun i i' j hi=>absurd hi (Nat.not_lt_zero _)⟩;clear bh Q R T u0 u1 u2 br Y ab aq bs aI A O;go_loopg [20] L.length (fun gk b8 wr=> ∃(k:Nat) (lv:Value) (us:List Value) (Bk:Nat->Nat->Prop),b8= .int .i64 (k:Int)/\gk=L.length-k/\k<=L.length/\Hid (oN 24 (c+1) wr (L.map (iW (fun n s=>vr (n++b) s))) lv us Bk k)/\Hid (wr.heap[w.heap.size+1]?=some zO)/\Hid (wr.heap[c]?=some (kW n ⟨#[]⟩ lv))/\Hid (Ext w wr)/\Hid (c+1<=wr.heap.size));case atStart=>exact⟨0,_,_,_,rfl,rfl,Nat.zero_le _,bw,bt,aV,bu,aW⟩
 case round=>
  clear bw bt aV bu aW;obtain⟨k,lv,us,Bk,rfl,rfl,hk,I,A,O,al,bx⟩:=hrel;obtain⟨C,lc,bN⟩:=bF I.o.own;subst bN;by_cases G:k<L.length
  .obtain ⟨g,off,bO,_,bj⟩:=(bV.o.ext al.o).at_ (by omega);subst bO;obtain⟨J,K,bA,aX,aY,bB⟩:=bj k G;rw[<-Nat.add_assoc] at aX aY;obtain⟨z0,cB,z2,cy⟩:=bH G;have aZ:=ae (fun W (hW:Ext wr W)=>bL.o (tg L k) (cZ L k G) _ S W (bd.o.trans (al.o.trans hW)) ⟨J,K,rfl,bB.ext hW⟩ (fun j q=>aP (bW.o j q) (Nat.le_trans al.o.size hW.size)) (by have h1:=bX.o;have b9:=gQ (cZ L k G);omega) (b6.o _ (cZ L k G)));dsimp only[tV] at aZ;obtain⟨x,hx⟩:=ay (tg L k);have aD:tg (L.map (iW (fun n s=>vr (n++b) s))) k=iW (fun n s=>vr (n++b) s) x:=by
    rw[<-hx];unfold tg;rw[List.getD_eq_getElem?_getD,List.getD_eq_getElem?_getD,List.getElem?_map,List.getElem?_eq_getElem G];rfl
   obtain⟨z,a1⟩:=ay (iW (fun n s=>vr (n++b) s) x);rw[hx,a1] at aZ;rw[hx] at bA aX aY;rw[a1] at aD;have ca:=ae aD;have hQ:=(uR wr).alloc (tO x J K);have bC:=aj wr (tO x J K);obtain⟨b0,cC,cD⟩:=ah bC;have a6:=ak O.o (tO x J K);have c2:=ag a6 2 (.slice C k lc) rfl;have cb:=ae a6;have ar:=ae hQ;have cc:=ae (ak A.o (tO x J K));have cd:=ae (I.o.own.alloc (tO x J K));have cf:Hid (¬(Value.slice C k lc).ownBlock=some c):=ae (fun e=>by have h1:=(I.o.own.lt c e).1;omega);have bD:Hid (k<=100000):=ae (by omega);obtain⟨cg,hi,bP,bR,an⟩:=info_parts uZ;clear bj bB hx hQ bC a6 a1 aD;go_wp2_with fail;generalize wr.alloc (tO x J K)=F at*;have ch:Hid (Ext F F):=ae (au.refl _ _);have bE:Hid (c+1<=F.heap.size):=ae (Nat.le_trans bx.o ar.o.size);clear bA aX aY;go_region_law (first
    |(refine d_ _ (.tmp 25) (.tmp 29) 22 rfl (c+1) 24 cg (.agg #[.string ⟨#[]⟩,.string ⟨#[]⟩,.slice none 0 0]) 3 56 Tryz.underlying22 hi bP bR an rfl (by decide) _ _ _ rfl cj.o _ 1 1 [Value.string z.name,.string z.sort,.slice d z.kids.length l] rfl rfl ck.o cm.o a7.o.1 a7.o.2.1 a7.o.2.2 ?_;intro cE H av;obtain⟨M,N,bS⟩:=bF av.own;subst bS;have aw:=av.upd.heap (ak cn.o (tO z d l)) cf.o;have f7:=fun i=>ax aw i;have c2:=ag aw 2 (.slice C k lc) rfl;have ad:=ae aw;have bG:=ae av;clear av aw)
    |(go_simp;refine(aZ.o F.drew (ar.o.trans ch.o.drew)).mono ?_;rintro e D ⟨r,Bx,rfl,a8,bk,bl⟩;obtain⟨d,l,aM⟩:=aU.shape a8;subst aM;have U:Hid (Ext F D):=ae (((uR F).drewN' 1).trans bl);have cp:=ae a8;have cq:Hid (∀j,Bx j->F.heap.size<=j/\j<D.heap.size):=ae bk;have cn:=ae (U.o.heap cb.o id);have cj:Hid ((D.alloc (tO z d l)).ownsRow (c+1) 24 3 (.slice C k lc) k (dK ((L.map (iW (fun n s=>vr (n++b) s))).take k) us)):=ae ((bM cd.o U.o (fun _ _ h=>h)).alloc _);have ck:Hid (∀(j:Nat) (u:Value),[Value.string z.name,.string z.sort,.slice d z.kids.length l][j]?=some u->(D.alloc (tO z d l)).cell? ((⟨D.heap.size,0,none⟩:Addr).add j)=some u):=ae (AA D _ _ _ 24);have cm:Hid (∀u∈[Value.string z.name,.string z.sort,.slice d z.kids.length l],u.oneCell'=true):=ae (fun u hu=>by simp at hu;rcases hu with h|h|h<;>(subst h;rfl));have a7:Hid (k+1<=maxLen/\(k+1)*56<=140737488355328/\c+1<=(D.alloc (tO z d l)).heap.size):=ae ⟨by unfold maxLen;have:=bD.o;omega,by have:=bD.o;omega,by have h1:=U.o.size;have b9:=bE.o;simp;omega⟩;have c5:=U.o.cell c2 id;have cF:=((uR D).alloc (tO z d l)).cell c5 id;clear a8 bk bl))
   all_goals
    go_wp2_with fail;have bI:=ae ((au.refl (fun j=>j=c) H).setCell (p:=⟨c,2,none⟩) (.inl rfl) (.slice M (k+1) N));have ba:Hid (au (fun j=>(Value.slice C k lc).ownBlock=some j\/j=c) F (H.setCell ⟨c,2,none⟩ (.slice M (k+1) N))):=ae (((((U.o.alloc (tO z d l)).mono (fun _ _ x=>x.elim)).trans (bG.o.upd.mono (fun _ _ e=> .inl e)))).trans (bI.o.mono (fun _ _ e=> .inr e)));have cr:=ae (I.o.grow (by rw[List.length_map];exact G) ca.o (by omega) bx.o ar.o U.o cp.o cq.o ((uR D).alloc (tO z d l)) bG.o bI.o);have bT:=aa.o;have ct:Hid (Ext w (H.setCell ⟨c,2,none⟩ (.slice M (k+1) N))):=ae ((al.o.trans ar.o).trans' ba.o (fun j q e=>by
     rcases e with e|e
     .have h1:=(I.o.own.lt j e).1;omega
     .omega))
    have cu:=ae (ba.o.heap cc.o (fun e=>by
     rcases e with e|e
     .have h1:=(I.o.own.lt _ e).1;omega
     .omega))
    have bJ:=setBlock ad.o 2 (.slice M (k+1) N);have cv:Hid ((H.setCell ⟨c,2,none⟩ (.slice M (k+1) N)).heap[c]?=some (af n ⟨#[]⟩ M (k+1) N)):=ae (by simpa using bJ);have cw:Hid (c+1<=(H.setCell ⟨c,2,none⟩ (.slice M (k+1) N)).heap.size):=ae (Nat.le_trans bE.o ba.o.size);clear bJ c2 f7;go_roundg (L.length- (k+1));case measure=>omega
    case rel=>exact⟨k+1,_,_,_,by go_num,rfl,by omega,cr,cu,cv,ct,cw⟩
  .obtain rfl:k=L.length:=by omega
   have z2:decide ((L.length:Int)< (L.length:Int))=false:=dF (by omega);have V:=I.o;have aE:(L.map (iW (fun n s=>vr (n++b) s))).length=L.length:=List.length_map ..;rw[<-aE] at V;have V:=V.fin;have bK:=ae V;rw[aE] at bK;obtain⟨cG,c1,c2⟩:=ah O.o;have f2:=fun i=>ax A.o i;obtain⟨d0,d1,d2⟩:=ah A.o;clear V aE
   go_wp2_with fail;have aC:=aO A.o (.string n) (.string ⟨#[]⟩) (.slice C L.length lc);have hu:=aN wr (w.heap.size+1) (.string n) (.string ⟨#[]⟩) (.slice C L.length lc);obtain⟨aR,aS,aT⟩:=ah aC;have bT:=aa.o;refine bodyPost_ret (v:= .agg #[.string n,.string ⟨#[]⟩,.slice C L.length lc]) (by simp[results,Tryz.results80,go_sem,aR,aS,aT]) rfl ⟨.slice C L.length lc,fun j=>c+1<=j/\j<wr.heap.size,by simp[List.length_map,ai],bK.o.kept hu (fun j q e=>by have h1:=q.1;omega),fun j q=>⟨by have h1:=q.1;omega,aP q.2 hu.size⟩,al.o.trans' hu (fun j q e=>by omega)⟩
def tu (a:By) (t:Tm):Tm×Int:=if wf aC t=true then(if((aY t).all fun v=>aC (v.1++a))=true then(iW (fun n s=>vr (n++a) s) t,0) else(.mk ai ai [],9)) else(.mk ai ai [],1)
theorem QM (t:Tm) (v:Value) (b:By) (w:World) (O:dI w) (hR:bQ (fun k=>k<w.heap.size) w t v) (aL:t.size<=100000) (aM: ∀f∈dL t,f.1.size+b.size<=100000):
  Calls Tryz.prog 20 #[v,.string b] w fun e w'=> ∃r B,e= .returned (.tuple #[tV (tu b t).1 r,.int .i64 (tu b t).2])/\aU 24 w' B (tu b t).1.kids r/\(∀j,B j->w.heap.size<=j/\j<w'.heap.size)/\Ext w w':=by
 have al:=ae hR;obtain⟨Z,an⟩:=ay (tu b t);rw[an];have ao:=ae an;clear an;obtain⟨a,cap,rfl,br⟩:=hR;have aq:=ae (fun W (hW:Ext w W)=>yT t _ W (aT O hW) ((al.o.ext hW).weaken (bW hW)) (by omega));have T:=ae (fun W (hW:Ext w W)=>uz t _ W (aT O hW) ((al.o.ext hW).weaken (bW hW)) (by omega));have bs:=ae O;have aZ:=ae aL;have a1:=ae aM;dsimp only[tV] at aq T⊢;have a6:=(((uR w).alloc (tO t a cap)).alloc (qx b)).alloc zO;have bl:w.heap.size+3<=(((w.alloc (tO t a cap)).alloc (qx b)).alloc zO).heap.size:=by simp
 have ar:=ae (ak (ak (aj w (tO t a cap)) (qx b)) zO);have av:=ae (ak (alloc_at (w.alloc (tO t a cap)) (qx b) (n:=w.heap.size+1) (by simp)) zO);have aw:=ae (alloc_at ((w.alloc (tO t a cap)).alloc (qx b)) zO (n:=w.heap.size+2) (by simp));obtain⟨E,F,G⟩:=ah ar.o;have az:=ae a6;clear br O aL aM a6;go_enter Tryz.func20,Tryz.ntmps20;go_wp2_with fail;obtain⟨rc,z⟩:=ay (w.heap.size+2);obtain⟨a7,P⟩:=ay (w.heap.size+1);have q:Hid (w.heap.size+2=rc/\w.heap.size+1=a7):=ae ⟨z,P⟩;rw[z] at aw;rw[P] at av;try rw[show w.heap.size+1+1=rc from z]
 try rw[z]
 try rw[P]
 generalize (((w.alloc (tO t a cap)).alloc (qx b)).alloc zO)=bK at*;clear z P;refine(aq.o _ az.o).mono ?_;rintro e w3 ⟨rfl,A⟩;have H:=ae (az.o.trans A);have aA:=ae (A.heap ar.o id);have a8:=ae (A.heap av.o id);have I:=ae (A.heap aw.o id);clear A E F G ar av aw az aq bl;cases p:wf aC t with
 |false=>
  obtain rfl:Z=(.mk ai ai [],1):=by rw[<-ao.o];unfold tu;rw[p];rfl
  clear p;obtain⟨d0,d1,d2⟩:=ah I.o;have f2:=fun i=>ax I.o i
  go_wp2_with fail;have C:=aO I.o (.string ⟨#[]⟩) (.string ⟨#[]⟩) (.slice none 0 0);have hu:=aN w3 rc (.string ⟨#[]⟩) (.string ⟨#[]⟩) (.slice none 0 0);obtain⟨d,J,K⟩:=ah C;refine bodyPost_ret (v:= .tuple #[.agg #[.string ⟨#[]⟩,.string ⟨#[]⟩,.slice none 0 0],.int .i64 1]) (by simp[results,Tryz.results20,go_sem,d,J,K]) rfl (by first|exact⟨.slice none 0 0,fun _=>False,rfl,aU.nil _ _ _,fun j c=>c.elim,H.o.trans' hu (fun j c e=>by have:=q.o;omega)⟩|exact⟨.slice none 0 0,rfl,fun _=>False,aU.nil _ _ _,fun j c=>c.elim,H.o.trans' hu (fun j c e=>by have:=q.o;omega)⟩)
 |true=>
  have aB:=ae p;have ba:=rq p;rw[ba] at T;have aQ:=oU p;have bb:=ae aQ;clear p ba aQ;obtain⟨E,F,G⟩:=ah aA.o;go_wp2_with fail;refine(T.o _ H.o).mono ?_;rintro e bt ⟨r1,rfl,Y,D⟩;have aD:=ae (H.o.trans D);have bu:=ae (D.heap aA.o id);have bc:=ae (D.heap a8.o id);have aR:=ae (D.heap I.o id);have bd:=ae Y;obtain⟨bL,c1,bm⟩:=dM.shape Y;subst bm;clear D E F G aA a8 I H T Y;obtain⟨VL,aE⟩:=ay (aY t);have aa:=ae aE;rw[aE] at bd bb⊢;have bI:VL.length<=100000:=Nat.le_trans bb.o aZ.o;clear aE;go_wp2_with fail;go_loopg [21] VL.length (fun gk bw wr=> ∃k:Nat,bw= .int .i64 (k:Int)/\gk=VL.length-k/\k<=VL.length/\Hid (Ext bt wr)/\Hid (∀v∈VL.take k,aC (v.1++b)=true));case atStart=>exact⟨0,rfl,rfl,Nat.zero_le _,ae (au.refl _ _),ae (fun v hv=>by simp at hv)⟩
  case round=>
   obtain⟨k,rfl,rfl,hk,u,bf⟩:=hrel;by_cases R:k<VL.length
   .obtain ⟨g,off,bo,aS⟩:=dM.at_ (dM.ext bd.o u.o) (by omega);subst bo;obtain⟨aF,aG⟩:=aS k R;have ab:=GR VL k R;have S:=yS R;obtain⟨v,hv⟩:=ay (vg VL k);rw[hv] at aF aG ab S;obtain⟨nm,so⟩:=v;simp only at aF aG;obtain⟨z0,bM,z2,bJ⟩:=bH R;have bx:=ae ab;have bp:=ae S;have bg:=aj wr (dC nm so);have d:=ag bg 0 (.string nm) rfl;have U:=u.o.alloc (dC nm so);have s0:=ag (U.heap bc.o id) 0 (.string b) rfl;have bz:=ae U;have hl:nm.size+b.size<=100000:=a1.o (nm,so) (((Aj aB.o).2 (nm,so)).1 (by rw[aa.o];exact S));have aH:=ae (wW (nm++b) (wr.alloc (dC nm so)) (aT bs.o (aD.o.trans U)));obtain⟨bn,ad⟩:=ay (aC (nm++b));rw[ad] at aH;have bh:=ae ad;clear aS ab S hv bg U ad;go_wp2_with fail;refine aH.o.mono ?_;rintro e bA ⟨rfl,aV⟩;have aI:=ae (bz.o.trans aV);clear aV aH aF aG d s0;cases bn with
    |false=>
     have y:(VL.all fun v=>aC (v.1++b))=false:=by
      rw[List.all_eq_false];exact⟨(nm,so),bp.o,by rw[bh.o];simp⟩
     obtain rfl:Z=(.mk ai ai [],9):=by rw[<-ao.o];unfold tu;rw[aB.o,aa.o,y];rfl
     clear y;have L:=ae (aD.o.trans aI.o);have l:=ae (aI.o.heap aR.o id);obtain⟨d0,d1,d2⟩:=ah l.o;have f2:=fun i=>ax l.o i
     go_wp2_with fail;have C:=aO l.o (.string ⟨#[]⟩) (.string ⟨#[]⟩) (.slice none 0 0);have hu:=aN bA rc (.string ⟨#[]⟩) (.string ⟨#[]⟩) (.slice none 0 0);obtain⟨d,J,K⟩:=ah C;refine bodyPost_ret (v:= .tuple #[.agg #[.string ⟨#[]⟩,.string ⟨#[]⟩,.slice none 0 0],.int .i64 9]) (by simp[results,Tryz.results20,go_sem,d,J,K]) rfl (by first|exact⟨.slice none 0 0,fun _=>False,rfl,aU.nil _ _ _,fun j c=>c.elim,L.o.trans' hu (fun j c e=>by have:=q.o;omega)⟩|exact⟨.slice none 0 0,rfl,fun _=>False,aU.nil _ _ _,fun j c=>c.elim,L.o.trans' hu (fun j c e=>by have:=q.o;omega)⟩)
    |true=>
     have bq:Hid (∀v∈VL.take (k+1),aC (v.1++b)=true):=ae (fun v hv=>by
      rw[bx.o,List.mem_append,List.mem_singleton] at hv;rcases hv with hv|hv
      .exact bf.o v hv
      .rw [hv];exact bh.o)
     go_wp2_with fail;go_roundg (VL.length- (k+1));case measure=>omega
     case rel=>exact⟨k+1,by go_num,rfl,by omega,aI,bq⟩
   .obtain rfl:k=VL.length:=by omega
    have z2:decide ((VL.length:Int)< (VL.length:Int))=false:=dF (by omega);have y:(VL.all fun v=>aC (v.1++b))=true:=by
     rw[List.all_eq_true];have:=bf.o;rw[List.take_length] at this;exact this
    obtain⟨Q,hQ⟩:=ay (iW (fun n s=>vr (n++b) s) t);obtain rfl:Z=(Q,0):=by rw[<-ao.o,<-hQ];unfold tu;rw[aB.o,aa.o,y];rfl
    have V:=ae (aD.o.trans u.o);have bB:=ae (u.o.heap bu.o id);have bC:=ae (u.o.heap bc.o id);have aW:=ae (u.o.heap aR.o id);have X:=ae (ad_ b a7 wr (ae (fun W hW=>ag (hW.heap bC.o id) 0 (.string b) rfl)) t _ (fun k=>k<wr.heap.size) wr (au.refl _ _) ((al.o.ext V.o).weaken (bW V.o)) (fun k h=>h) aZ.o a1.o);dsimp only[tV] at X;rw[hQ] at X;obtain⟨E,F,G⟩:=ah bB.o;clear y hQ;go_wp2_with fail;refine X.o.mono ?_;rintro e bD ⟨bN,bj,rfl,aJ,aX,af⟩;obtain⟨M,N,bE⟩:=aU.shape aJ;subst bE;have bk:=ae aJ;have x:=ae aX;have L:=ae (V.o.trans af);have l:=ae (af.heap aW.o id);have bF:=ae V.o.size;have bG:Hid (rc<wr.heap.size):=ae (Array.getElem?_eq_some_iff.1 aW.o).1;clear aJ aX af X E F G;obtain⟨d0,d1,d2⟩:=ah l.o;have f2:=fun i=>ax l.o i
    go_wp2_with fail;have C:=aO l.o (.string Q.name) (.string Q.sort) (.slice M Q.kids.length N);have hu:=aN bD rc (.string Q.name) (.string Q.sort) (.slice M Q.kids.length N);obtain⟨d,J,K⟩:=ah C;have h1:=bG.o;have bO:=bF.o;refine bodyPost_ret (v:= .tuple #[.agg #[.string Q.name,.string Q.sort,.slice M Q.kids.length N],.int .i64 0]) (by simp[results,Tryz.results20,go_sem,d,J,K]) rfl (by first|exact⟨.slice M Q.kids.length N,bj,rfl,bk.o.kept hu (fun j c e=>by have aK:=(x.o j c).1;omega),fun j c=>⟨by have aK:=(x.o j c).1;omega,aP (x.o j c).2 hu.size⟩,L.o.trans' hu (fun j c e=>by have:=q.o;omega)⟩|exact⟨.slice M Q.kids.length N,rfl,bj,bk.o.kept hu (fun j c e=>by have aK:=(x.o j c).1;omega),fun j c=>⟨by have aK:=(x.o j c).1;omega,aP (x.o j c).2 hu.size⟩,L.o.trans' hu (fun j c e=>by have:=q.o;omega)⟩)
theorem aa0 {w:World} {b:Nat} {te:TypeId} {u0 u1 u2 u3 u4 u5:Value} (h:w.heap[b]?=some (.cells #[u0,u1,u2,u3,u4,u5] te (0,0))) (v0 v1 v2 v3 v4 v5:Value):((((((((((((w).setCell ⟨b,0,none⟩ (v0))).setCell ⟨b,1,none⟩ (v1))).setCell ⟨b,2,none⟩ (v2))).setCell ⟨b,3,none⟩ (v3))).setCell ⟨b,4,none⟩ (v4))).setCell ⟨b,5,none⟩ (v5)).heap[b]?=some (.cells #[v0,v1,v2,v3,v4,v5] te (0,0)):=by
 have h0:=setBlock h 0 v0;have h1:=setBlock h0 1 v1;have a:=setBlock h1 2 v2;have c:=setBlock a 3 v3;have d:=setBlock c 4 v4;have e:=setBlock d 5 v5;simpa using e
theorem aey (w:World) (b:Nat) (v0 v1 v2 v3 v4 v5:Value):au (fun k=>k=b) w ((((((((((((w).setCell ⟨b,0,none⟩ (v0))).setCell ⟨b,1,none⟩ (v1))).setCell ⟨b,2,none⟩ (v2))).setCell ⟨b,3,none⟩ (v3))).setCell ⟨b,4,none⟩ (v4))).setCell ⟨b,5,none⟩ (v5)):=
 ((((((au.refl (fun k=>k=b) w).setCell (p:=⟨b,0,none⟩) (.inl rfl) _).setCell (p:=⟨b,1,none⟩) (.inl rfl) _).setCell (p:=⟨b,2,none⟩) (.inl rfl) _).setCell (p:=⟨b,3,none⟩) (.inl rfl) _).setCell (p:=⟨b,4,none⟩) (.inl rfl) _).setCell (p:=⟨b,5,none⟩) (.inl rfl) _
theorem RX (x y:Tm) (l t:Option Addr) (u z:Nat) (A:By) (w:World) (H:dI w) (h1:aG (fun k=>k<w.heap.size) w x.kids (.slice l x.kids.length u)) (M:aG (fun k=>k<w.heap.size) w y.kids (.slice t y.kids.length z)) (ai:x.size<=100000) (al:y.size<=100000) (an: ∀f∈dL x,f.1.size+A.size<=100000) (ao: ∀f∈dL y,f.1.size+A.size<=100000) (p q:Tm) (hp:tu A x=(p,0)) (av:tu A y=(q,0)):
  Calls Tryz.prog 162 #[.agg #[.string x.name,.string x.sort,.slice l x.kids.length u,.string y.name,.string y.sort,.slice t y.kids.length z],.string A] w fun e w'=> ∃pa d b c B D,e= .returned (.tuple #[.agg #[.string p.name,.string p.sort,.slice pa p.kids.length d,.string q.name,.string q.sort,.slice b q.kids.length c],.int .i64 0])/\aU 24 w' B p.kids (.slice pa p.kids.length d)/\aU 24 w' D q.kids (.slice b q.kids.length c)/\(∀j,B j->w.heap.size<=j/\j<w'.heap.size)/\(∀j,D j->w.heap.size<=j/\j<w'.heap.size)/\Ext w w':=by
 have E:=ae (fun W (hW:Ext w W)=>QM x (tV x (.slice l x.kids.length u)) A W (aT H hW) ⟨l,u,rfl,(h1.ext hW).weaken (bW hW)⟩ ai an);have F:=ae (fun W (hW:Ext w W)=>QM y (tV y (.slice t y.kids.length z)) A W (aT H hW) ⟨t,z,rfl,(M.ext hW).weaken (bW hW)⟩ al ao);rw[hp] at E;rw[av] at F;dsimp only[tV] at E F;have aw:=((uR w).alloc (aA x.name x.sort l x.kids.length u y.name y.sort t y.kids.length z)).alloc (aA ⟨#[]⟩ ⟨#[]⟩ none 0 0 ⟨#[]⟩ ⟨#[]⟩ none 0 0);have N:=ae aw;have I:=ae (ak (aj w (aA x.name x.sort l x.kids.length u y.name y.sort t y.kids.length z)) (aA ⟨#[]⟩ ⟨#[]⟩ none 0 0 ⟨#[]⟩ ⟨#[]⟩ none 0 0));have aq:=ae (alloc_at (w.alloc (aA x.name x.sort l x.kids.length u y.name y.sort t y.kids.length z)) (aA ⟨#[]⟩ ⟨#[]⟩ none 0 0 ⟨#[]⟩ ⟨#[]⟩ none 0 0) (n:=w.heap.size+1) (by simp));have az:w.heap.size+2<=((w.alloc (aA x.name x.sort l x.kids.length u y.name y.sort t y.kids.length z)).alloc (aA ⟨#[]⟩ ⟨#[]⟩ none 0 0 ⟨#[]⟩ ⟨#[]⟩ none 0 0)).heap.size:=by simp
 have O:=ae az;obtain⟨P,Q,R,S,T,U⟩:=eY I.o;clear aw az h1 M H ai al an ao hp av;go_enter Tryz.func162,Tryz.ntmps162;go_wp2_with fail;generalize ((w.alloc (aA x.name x.sort l x.kids.length u y.name y.sort t y.kids.length z)).alloc (aA ⟨#[]⟩ ⟨#[]⟩ none 0 0 ⟨#[]⟩ ⟨#[]⟩ none 0 0))=w1 at*;refine(E.o _ N.o).mono ?_;rintro e w3 ⟨r,B,rfl,V,X,J⟩;obtain⟨pa,d,hr⟩:=aU.shape V;subst hr;have g:=J.alloc (tO p pa d);have Y:=ae (N.o.trans g);have aB:=ae (g.heap I.o id);have aC:=ae (g.heap aq.o id);have G:=ae (aj w3 (tO p pa d));have ar:=ae (V.kept ((uR w3).alloc (tO p pa d)) (fun _ _ h=>h));have Z:Hid (∀j,B j->w.heap.size+2<=j/\j< (w3.alloc (tO p pa d)).heap.size):=ae (fun j a=>⟨Nat.le_trans O.o (X j a).1,aP (X j a).2 ((uR w3).alloc (tO p pa d)).size⟩);have aD:Hid (w.heap.size+2<=w3.heap.size):=ae (Nat.le_trans O.o J.size);clear V X J g E N I aq O P Q R S T U;dsimp only;obtain⟨aV,K⟩:=ay w3.heap.size;rw[K] at G aD;obtain⟨P,Q,R,S,T,U⟩:=eY aB.o;go_wp2_with fail;try rw[K]
 generalize w3.alloc (tO p pa d)=aW at*;clear K;refine(F.o _ Y.o).mono ?_;rintro e C ⟨r,D,rfl,aa,ab,au⟩;obtain⟨b,c,hr⟩:=aU.shape aa;subst hr;have g:=au.alloc (tO q b c);have aJ:=ae (Y.o.trans g);have ad:=ae (g.heap aC.o id);have aK:=ae (g.heap G.o id);have aE:=ae (aj C (tO q b c));have aF:=ae (ar.o.kept g (fun _ _ h=>h));have aH:=ae (aa.kept ((uR C).alloc (tO q b c)) (fun _ _ h=>h));have af:Hid (∀j,B j->w.heap.size+2<=j/\j< (C.alloc (tO q b c)).heap.size):=ae (fun j a=>⟨(Z.o j a).1,aP (Z.o j a).2 g.size⟩);have L:Hid (∀j,D j->w.heap.size+2<=j/\j< (C.alloc (tO q b c)).heap.size):=ae (fun j a=>⟨by have h1:=(ab j a).1;have M:=aD.o;have aX:=(Array.getElem?_eq_some_iff.1 G.o).1;omega,aP (ab j a).2 ((uR C).alloc (tO q b c)).size⟩);clear aa ab au g F Y aB aC G ar Z P Q R S T U;dsimp only;obtain⟨aY,ag⟩:=ay C.heap.size;rw[ag] at aE;obtain⟨aZ,a1,a6⟩:=ah aK.o;obtain⟨m0,m1,m2⟩:=ah aE.o;obtain⟨d0,d1,d2,d3,d4,d5⟩:=eY ad.o;have f2:=fun i=>ax ad.o i
 go_wp2_with fail;try rw[ag]
 generalize C.alloc (tO q b c)=aL at*;clear ag;have aI:=aa0 ad.o (.string p.name) (.string p.sort) (.slice pa p.kids.length d) (.string q.name) (.string q.sort) (.slice b q.kids.length c);have hu:=aey aL (w.heap.size+1) (.string p.name) (.string p.sort) (.slice pa p.kids.length d) (.string q.name) (.string q.sort) (.slice b q.kids.length c);obtain⟨aM,aN,aO,aQ,aR,aS⟩:=eY aI;refine bodyPost_ret (v:= .tuple #[.agg #[.string p.name,.string p.sort,.slice pa p.kids.length d,.string q.name,.string q.sort,.slice b q.kids.length c],.int .i64 0]) (by simp[results,Tryz.results162,go_sem,aM,aN,aO,aQ,aR,aS]) rfl ?_;exact⟨pa,d,b,c,B,D,rfl,aF.o.kept hu (fun j a e=>by have:=(af.o j a).1;omega),aH.o.kept hu (fun j a e=>by have:=(L.o j a).1;omega),fun j a=>⟨by have:=(af.o j a).1;omega,aP (af.o j a).2 hu.size⟩,fun j a=>⟨by have:=(L.o j a).1;omega,aP (L.o j a).2 hu.size⟩,aJ.o.trans' hu (fun j a e=>by omega)⟩
end
theorem lL {W:World} {z:Nat} {t:TypeId} {v0 v1 v2:Value} (h:W.heap[z]?=some (.cells #[v0,v1,v2] t (0,0))) (u0 u1 u2:Value):(((W.setCell ⟨z,0,none⟩ u0).setCell ⟨z,1,none⟩ u1).setCell ⟨z,2,none⟩ u2).heap[z]?=some (.cells #[u0,u1,u2] t (0,0)):=by
 have:=setBlock (setBlock (setBlock h 0 u0) 1 u1) 2 u2;simpa using this
theorem iZ (W:World) (z:Nat) (u0 u1 u2:Value):au (fun k=>k=z) W (((W.setCell ⟨z,0,none⟩ u0).setCell ⟨z,1,none⟩ u1).setCell ⟨z,2,none⟩ u2):=
 (((au.refl (fun k=>k=z) W).setCell (p:=⟨z,0,none⟩) (.inl rfl) u0).setCell (p:=⟨z,1,none⟩) (.inl rfl) u1).setCell (p:=⟨z,2,none⟩) (.inl rfl) u2
end Go.Proofs.YtlkcjmaiahnodaaGreatDoor
