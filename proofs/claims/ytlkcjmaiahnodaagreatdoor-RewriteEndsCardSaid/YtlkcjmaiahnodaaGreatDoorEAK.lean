/- The texts N17 N18 N70 N20 N21 N22 N23 N71 I44 I45 I46, one behind the other. -/
import Derived.Test.YtlkcjmaiahnodaaGreatDoorEAJ
import Derived.Test.YtlkcjmaiahnodaaGreatDoorEAE
import Derived.Deep.DeepCutAuto
import Derived.Test.YtlkcjmaiahnodaaGreatDoorEAD
import Derived.Test.YtlkcjmaiahnodaaGreatDoorEAH
set_option maxRecDepth 100000
set_option maxHeartbeats 8000000
set_option linter.unusedVariables false
set_option linter.unusedSimpArgs false
namespace Go.Proofs.YtlkcjmaiahnodaaGreatDoor
open Go.RowKit Go.Hw Go Tm
section
open Go.Sort Go.Proofs Go.ChangeMaps
abbrev zi:Tm:=(.mk ⟨#[112,108,117,115]⟩ ah [(.mk ⟨#[122,101,114,111]⟩ ah []),(.mk ⟨#[78,95,49]⟩ ⟨#[110,97,116]⟩ [])])
abbrev AY:Tm:=(.mk ⟨#[112,108,117,115]⟩ ah [(.mk ⟨#[115]⟩ ah [(.mk ⟨#[78,95,50]⟩ ⟨#[110,97,116]⟩ [])]),(.mk ⟨#[77,95,50]⟩ ⟨#[110,97,116]⟩ [])])
def JO:List Nr:=[⟨⟨#[112,108,117,115]⟩,ah,[2,3]⟩,⟨⟨#[112,108,117,115]⟩,ah,[4,5]⟩,⟨⟨#[122,101,114,111]⟩,ah,[]⟩,⟨⟨#[78,95,49]⟩,⟨#[110,97,116]⟩,[]⟩,⟨⟨#[115]⟩,ah,[6]⟩,⟨⟨#[77,95,50]⟩,⟨#[110,97,116]⟩,[]⟩,⟨⟨#[78,95,50]⟩,⟨#[110,97,116]⟩,[]⟩]
def Uu:List Vd:=aO zi++aO AY
def zo (r0 ga gb gZ:Nat):Nat->Nat×Nat
 |0=>(r0,0)
 |1=>(r0+1,0)
 |2=>(ga,0)
 |3=>(ga,3)
 |4=>(gb,0)
 |5=>(gb,3)
 |6=>(gZ,0)
 |_=>(0,0)
theorem ai1:Uu=[(⟨#[78,95,49]⟩,⟨#[110,97,116]⟩),(⟨#[77,95,50]⟩,⟨#[110,97,116]⟩),(⟨#[78,95,50]⟩,⟨#[110,97,116]⟩)]:=by decide+kernel
theorem af2:(wf ax zi&&wf ax AY)=true:=by decide+kernel
theorem Zb:(match nC JO 20 Uu with|some none=>true|_=>false)=true:=by decide+kernel
theorem ai2 (W:World) (htab:bT W) (B1 B2:Nat->Prop) (va vb:Value) (h1:aG 24 W B1 zi.kids va) (h2:aG 24 W B2 AY.kids vb) (hd: ∀k,B1 k->¬B2 k) (l1: ∀k,B1 k->k<W.heap.size) (l2: ∀k,B2 k->k<W.heap.size):
  Calls Tryz.prog 17 #[tV zi va,tV AY vb] W fun e w'=>e= .returned (.tuple #[.slice none 0 0,.int .i64 12])/\Ext W w':=by
 obtain⟨ga,ca,ua,Ba,ea,pa,ba,qa,ka,na,_⟩:=aG.tN h1 (by decide);obtain⟨xa0,ya0,O1⟩:=aG.shape (ka 0 (by decide));obtain⟨xa1,ya1,ea1⟩:=aG.shape (ka 1 (by decide));obtain⟨gb,cb,ub,Bb,eb,pb,bb,qb,kb,nb,_⟩:=aG.tN h2 (by decide);obtain⟨KC,yb1,IK⟩:=aG.shape (kb 1 (by decide));obtain⟨gZ,cb0,ub0,Bb0,Ed,O3,bb0,qb0,uC,nb0,_⟩:=aG.tN (kb 0 (by decide)) (by decide);obtain⟨Zc,Zd,Gw⟩:=aG.shape (uC 0 (by decide));subst ea eb;have za:ga<W.heap.size:=l1 _ (ba);have zb:gb<W.heap.size:=l2 _ (bb);have zb0:gZ<W.heap.size:=l2 _ ((nb 0 _ (by decide) bb0).1);have dab:ga≠gb:=fun e=>hd _ (ba) (e▸(bb));have af_:ga≠gZ:=fun e=>hd _ (ba) (e▸((nb 0 _ (by decide) bb0).1));have Ze:gb≠gZ:=fun e=>(nb 0 _ (by decide) bb0).2 e.symm;have hvs:aO zi++aO AY=[(⟨#[78,95,49]⟩,⟨#[110,97,116]⟩),(⟨#[77,95,50]⟩,⟨#[110,97,116]⟩),(⟨#[78,95,50]⟩,⟨#[110,97,116]⟩)]:=ai1;have hw:=af2;rw[Bool.and_eq_true] at hw;have hN: ∀W',Ext W W'->W'.heap[W.heap.size]?=some (.cells #[.string zi.name,.string zi.sort,.slice (some ⟨ga,0,none⟩) zi.kids.length ca] 24 (0,0))->W'.heap[W.heap.size+1]?=some (.cells #[.string AY.name,.string AY.sort,.slice (some ⟨gb,0,none⟩) AY.kids.length cb] 24 (0,0))->DL JO (zo W.heap.size ga gb gZ) (fun k=>k=W.heap.size\/k=W.heap.size+1\/k=ga\/k=gb\/k=gZ) W':=fun W' hW ha hb=>by
  refine⟨fun i j hi hj e=>?_,fun i hi=>?_,fun i r hr=>?_⟩
  .have hi':i<7:=hi;have hj':j<7:=hj;rcases(by omega:i=0\/i=1\/i=2\/i=3\/i=4\/i=5\/i=6) with rfl|rfl|rfl|rfl|rfl|rfl|rfl<;>rcases(by omega:j=0\/j=1\/j=2\/j=3\/j=4\/j=5\/j=6) with rfl|rfl|rfl|rfl|rfl|rfl|rfl<;>first|rfl|(simp only[zo,Prod.mk.injEq] at e;omega)
  .have hi':i<7:=hi;rcases(by omega:i=0\/i=1\/i=2\/i=3\/i=4\/i=5\/i=6) with rfl|rfl|rfl|rfl|rfl|rfl|rfl
   .exact ⟨⟨_,_,ha⟩,by simp[zo]⟩
   .exact ⟨⟨_,_,hb⟩,by simp[zo]⟩
   .exact ⟨pa.ext hW,by simp[zo]⟩
   .exact ⟨pa.ext hW,by simp[zo]⟩
   .exact ⟨pb.ext hW,by simp[zo]⟩
   .exact ⟨pb.ext hW,by simp[zo]⟩
   .exact ⟨O3.ext hW,by simp[zo]⟩
  .have hi':i<7:=(List.getElem?_eq_some_iff.1 hr).1;rcases(by omega:i=0\/i=1\/i=2\/i=3\/i=4\/i=5\/i=6) with rfl|rfl|rfl|rfl|rfl|rfl|rfl<;>(injection hr with hr;subst hr)
   .refine ⟨af ha 0 _ rfl,af ha 1 _ rfl,_,_,af ha 2 _ rfl,fun _=>⟨ga,0,rfl,fun j q hq=>?_⟩⟩;have hj:j<2:=(List.getElem?_eq_some_iff.1 hq).1;rcases(by omega:j=0\/j=1) with rfl|rfl<;>(injection hq with hq;subst hq;exact⟨by decide,rfl⟩)
   .refine ⟨af hb 0 _ rfl,af hb 1 _ rfl,_,_,af hb 2 _ rfl,fun _=>⟨gb,0,rfl,fun j q hq=>?_⟩⟩;have hj:j<2:=(List.getElem?_eq_some_iff.1 hq).1;rcases(by omega:j=0\/j=1) with rfl|rfl<;>(injection hq with hq;subst hq;exact⟨by decide,rfl⟩)
   .refine ⟨hW.cell (qa 0 (by decide)).1 (fun h=>h),hW.cell (qa 0 (by decide)).2.1 (fun h=>h),_,_,hW.cell ((qa 0 (by decide)).2.2.trans (congrArg some O1)) (fun h=>h),fun h=>absurd h (by decide)⟩
   .refine ⟨hW.cell (qa 1 (by decide)).1 (fun h=>h),hW.cell (qa 1 (by decide)).2.1 (fun h=>h),_,_,hW.cell ((qa 1 (by decide)).2.2.trans (congrArg some ea1)) (fun h=>h),fun h=>absurd h (by decide)⟩
   .refine ⟨hW.cell (qb 0 (by decide)).1 (fun h=>h),hW.cell (qb 0 (by decide)).2.1 (fun h=>h),_,_,hW.cell ((qb 0 (by decide)).2.2.trans (congrArg some Ed)) (fun h=>h),fun _=>⟨gZ,0,rfl,fun j q hq=>?_⟩⟩;have hj:j<1:=(List.getElem?_eq_some_iff.1 hq).1;rcases(by omega:j=0) with rfl<;>(injection hq with hq;subst hq;exact⟨by decide,rfl⟩)
   .refine ⟨hW.cell (qb 1 (by decide)).1 (fun h=>h),hW.cell (qb 1 (by decide)).2.1 (fun h=>h),_,_,hW.cell ((qb 1 (by decide)).2.2.trans (congrArg some IK)) (fun h=>h),fun h=>absurd h (by decide)⟩
   .refine ⟨hW.cell (qb0 0 (by decide)).1 (fun h=>h),hW.cell (qb0 0 (by decide)).2.1 (fun h=>h),_,_,hW.cell ((qb0 0 (by decide)).2.2.trans (congrArg some Gw)) (fun h=>h),fun h=>absurd h (by decide)⟩
 have hno:=Zb;have hu:nC JO 20 Uu=some none:=by
  cases hq:nC JO 20 Uu with
  |none=>rw[hq] at hno;cases hno
  |some R=>
   cases R with
   |none=>rfl
   |some st=>rw[hq] at hno;cases hno
 have hx:=xh (T:=JO) (ad:=zo W.heap.size ga gb gZ) (S:=(fun k=>k=W.heap.size\/k=W.heap.size+1\/k=ga\/k=gb\/k=gZ)) 20 zi AY (some ⟨ga,0,none⟩) (some ⟨gb,0,none⟩) ca cb W htab
  ⟨_,_,rfl,(aG.read h1).weaken l1⟩ ⟨_,_,rfl,(aG.read h2).weaken l2⟩ (by decide) (by decide) hw.1 hw.2
  (by rw[hvs];decide) (by rw[hvs];decide) rfl rfl hN
  (by rintro k (h|h|h|h|h)<;>omega)
  (fun i r hr=>(by decide: ∀r∈JO,r.ks.length<=1000000) r (List.mem_of_getElem? hr)) none hu (fun _=>default) (fun st e=>by cases e)
 refine hx.mono ?_;rintro e w' ⟨hres,hE⟩;rcases hres with⟨_,h⟩|⟨h,_⟩
 .exact ⟨h,hE⟩
 .exact absurd rfl h
abbrev Ee:Tm:=(.mk ⟨#[122,101,114,111]⟩ ah [])
abbrev AZ:Tm:=(.mk ⟨#[112,108,117,115]⟩ ah [(.mk ⟨#[122,101,114,111]⟩ ah []),(.mk ⟨#[78,95,50]⟩ ⟨#[110,97,116]⟩ [])])
def JP:List Nr:=[⟨⟨#[122,101,114,111]⟩,ah,[]⟩,⟨⟨#[112,108,117,115]⟩,ah,[2,3]⟩,⟨⟨#[122,101,114,111]⟩,ah,[]⟩,⟨⟨#[78,95,50]⟩,⟨#[110,97,116]⟩,[]⟩]
def Uw:List Vd:=aO Ee++aO AZ
def Gx (r0 gb:Nat):Nat->Nat×Nat
 |0=>(r0,0)
 |1=>(r0+1,0)
 |2=>(gb,0)
 |3=>(gb,3)
 |_=>(0,0)
theorem ai3:Uw=[(⟨#[78,95,50]⟩,⟨#[110,97,116]⟩)]:=by decide+kernel
theorem af':(wf ax Ee&&wf ax AZ)=true:=by decide+kernel
theorem Zf:(match nC JP 20 Uw with|some none=>true|_=>false)=true:=by decide+kernel
theorem ai4 (W:World) (htab:bT W) (B1 B2:Nat->Prop) (va vb:Value) (h1:aG 24 W B1 Ee.kids va) (h2:aG 24 W B2 AZ.kids vb) (hd: ∀k,B1 k->¬B2 k) (l1: ∀k,B1 k->k<W.heap.size) (l2: ∀k,B2 k->k<W.heap.size):
  Calls Tryz.prog 17 #[tV Ee va,tV AZ vb] W fun e w'=>e= .returned (.tuple #[.slice none 0 0,.int .i64 12])/\Ext W w':=by
 obtain⟨xa,ya,ea⟩:=aG.shape h1;obtain⟨gb,cb,ub,Bb,eb,pb,bb,qb,kb,nb,_⟩:=aG.tN h2 (by decide);obtain⟨Vs,yb0,Ed⟩:=aG.shape (kb 0 (by decide));obtain⟨KC,yb1,IK⟩:=aG.shape (kb 1 (by decide));subst ea eb;have zb:gb<W.heap.size:=l2 _ (bb);have hvs:aO Ee++aO AZ=[(⟨#[78,95,50]⟩,⟨#[110,97,116]⟩)]:=ai3;have hw:=af';rw[Bool.and_eq_true] at hw;have hN: ∀W',Ext W W'->W'.heap[W.heap.size]?=some (tO Ee xa ya)->W'.heap[W.heap.size+1]?=some (.cells #[.string AZ.name,.string AZ.sort,.slice (some ⟨gb,0,none⟩) AZ.kids.length cb] 24 (0,0))->DL JP (Gx W.heap.size gb) (fun k=>k=W.heap.size\/k=W.heap.size+1\/k=gb) W':=fun W' hW ha hb=>by
  refine⟨fun i j hi hj e=>?_,fun i hi=>?_,fun i r hr=>?_⟩
  .have hi':i<4:=hi;have hj':j<4:=hj;rcases(by omega:i=0\/i=1\/i=2\/i=3) with rfl|rfl|rfl|rfl<;>rcases(by omega:j=0\/j=1\/j=2\/j=3) with rfl|rfl|rfl|rfl<;>first|rfl|(simp only[Gx,Prod.mk.injEq] at e;omega)
  .have hi':i<4:=hi;rcases(by omega:i=0\/i=1\/i=2\/i=3) with rfl|rfl|rfl|rfl
   .exact ⟨⟨_,_,ha⟩,by simp[Gx]⟩
   .exact ⟨⟨_,_,hb⟩,by simp[Gx]⟩
   .exact ⟨pb.ext hW,by simp[Gx]⟩
   .exact ⟨pb.ext hW,by simp[Gx]⟩
  .have hi':i<4:=(List.getElem?_eq_some_iff.1 hr).1;rcases(by omega:i=0\/i=1\/i=2\/i=3) with rfl|rfl|rfl|rfl<;>(injection hr with hr;subst hr)
   .refine ⟨af ha 0 _ rfl,af ha 1 _ rfl,_,_,af ha 2 _ rfl,fun h=>absurd h (by decide)⟩
   .refine ⟨af hb 0 _ rfl,af hb 1 _ rfl,_,_,af hb 2 _ rfl,fun _=>⟨gb,0,rfl,fun j q hq=>?_⟩⟩;have hj:j<2:=(List.getElem?_eq_some_iff.1 hq).1;rcases(by omega:j=0\/j=1) with rfl|rfl<;>(injection hq with hq;subst hq;exact⟨by decide,rfl⟩)
   .refine ⟨hW.cell (qb 0 (by decide)).1 (fun h=>h),hW.cell (qb 0 (by decide)).2.1 (fun h=>h),_,_,hW.cell ((qb 0 (by decide)).2.2.trans (congrArg some Ed)) (fun h=>h),fun h=>absurd h (by decide)⟩
   .refine ⟨hW.cell (qb 1 (by decide)).1 (fun h=>h),hW.cell (qb 1 (by decide)).2.1 (fun h=>h),_,_,hW.cell ((qb 1 (by decide)).2.2.trans (congrArg some IK)) (fun h=>h),fun h=>absurd h (by decide)⟩
 have hno:=Zf;have hu:nC JP 20 Uw=some none:=by
  cases hq:nC JP 20 Uw with
  |none=>rw[hq] at hno;cases hno
  |some R=>
   cases R with
   |none=>rfl
   |some st=>rw[hq] at hno;cases hno
 have hx:=xh (T:=JP) (ad:=Gx W.heap.size gb) (S:=(fun k=>k=W.heap.size\/k=W.heap.size+1\/k=gb)) 20 Ee AZ xa (some ⟨gb,0,none⟩) ya cb W htab
  ⟨_,_,rfl,(aG.read h1).weaken l1⟩ ⟨_,_,rfl,(aG.read h2).weaken l2⟩ (by decide) (by decide) hw.1 hw.2
  (by rw[hvs];decide) (by rw[hvs];decide) rfl rfl hN
  (by rintro k (h|h|h)<;>omega)
  (fun i r hr=>(by decide: ∀r∈JP,r.ks.length<=1000000) r (List.mem_of_getElem? hr)) none hu (fun _=>default) (fun st e=>by cases e)
 refine hx.mono ?_;rintro e w' ⟨hres,hE⟩;rcases hres with⟨_,h⟩|⟨h,_⟩
 .exact ⟨h,hE⟩
 .exact absurd rfl h
abbrev Ef:Tm:=(.mk ⟨#[122,101,114,111]⟩ ah [])
abbrev A7:Tm:=(.mk ⟨#[112,108,117,115]⟩ ah [(.mk ⟨#[115]⟩ ah [(.mk ⟨#[78,95,50]⟩ ⟨#[110,97,116]⟩ [])]),(.mk ⟨#[77,95,50]⟩ ⟨#[110,97,116]⟩ [])])
def JQ:List Nr:=[⟨⟨#[122,101,114,111]⟩,ah,[]⟩,⟨⟨#[112,108,117,115]⟩,ah,[2,3]⟩,⟨⟨#[115]⟩,ah,[4]⟩,⟨⟨#[77,95,50]⟩,⟨#[110,97,116]⟩,[]⟩,⟨⟨#[78,95,50]⟩,⟨#[110,97,116]⟩,[]⟩]
def Ux:List Vd:=aO Ef++aO A7
def Eg (r0 gb gZ:Nat):Nat->Nat×Nat
 |0=>(r0,0)
 |1=>(r0+1,0)
 |2=>(gb,0)
 |3=>(gb,3)
 |4=>(gZ,0)
 |_=>(0,0)
theorem ai5:Ux=[(⟨#[77,95,50]⟩,⟨#[110,97,116]⟩),(⟨#[78,95,50]⟩,⟨#[110,97,116]⟩)]:=by decide+kernel
theorem aga:(wf ax Ef&&wf ax A7)=true:=by decide+kernel
theorem Zg:(match nC JQ 20 Ux with|some none=>true|_=>false)=true:=by decide+kernel
theorem ai6 (W:World) (htab:bT W) (B1 B2:Nat->Prop) (va vb:Value) (h1:aG 24 W B1 Ef.kids va) (h2:aG 24 W B2 A7.kids vb) (hd: ∀k,B1 k->¬B2 k) (l1: ∀k,B1 k->k<W.heap.size) (l2: ∀k,B2 k->k<W.heap.size):
  Calls Tryz.prog 17 #[tV Ef va,tV A7 vb] W fun e w'=>e= .returned (.tuple #[.slice none 0 0,.int .i64 12])/\Ext W w':=by
 obtain⟨xa,ya,ea⟩:=aG.shape h1;obtain⟨gb,cb,ub,Bb,eb,pb,bb,qb,kb,nb,_⟩:=aG.tN h2 (by decide);obtain⟨KC,yb1,IK⟩:=aG.shape (kb 1 (by decide));obtain⟨gZ,cb0,ub0,Bb0,Ed,O3,bb0,qb0,uC,nb0,_⟩:=aG.tN (kb 0 (by decide)) (by decide);obtain⟨Zc,Zd,Gw⟩:=aG.shape (uC 0 (by decide));subst ea eb;have zb:gb<W.heap.size:=l2 _ (bb);have zb0:gZ<W.heap.size:=l2 _ ((nb 0 _ (by decide) bb0).1);have Ze:gb≠gZ:=fun e=>(nb 0 _ (by decide) bb0).2 e.symm;have hvs:aO Ef++aO A7=[(⟨#[77,95,50]⟩,⟨#[110,97,116]⟩),(⟨#[78,95,50]⟩,⟨#[110,97,116]⟩)]:=ai5;have hw:=aga;rw[Bool.and_eq_true] at hw;have hN: ∀W',Ext W W'->W'.heap[W.heap.size]?=some (tO Ef xa ya)->W'.heap[W.heap.size+1]?=some (.cells #[.string A7.name,.string A7.sort,.slice (some ⟨gb,0,none⟩) A7.kids.length cb] 24 (0,0))->DL JQ (Eg W.heap.size gb gZ) (fun k=>k=W.heap.size\/k=W.heap.size+1\/k=gb\/k=gZ) W':=fun W' hW ha hb=>by
  refine⟨fun i j hi hj e=>?_,fun i hi=>?_,fun i r hr=>?_⟩
  .have hi':i<5:=hi;have hj':j<5:=hj;rcases(by omega:i=0\/i=1\/i=2\/i=3\/i=4) with rfl|rfl|rfl|rfl|rfl<;>rcases(by omega:j=0\/j=1\/j=2\/j=3\/j=4) with rfl|rfl|rfl|rfl|rfl<;>first|rfl|(simp only[Eg,Prod.mk.injEq] at e;omega)
  .have hi':i<5:=hi;rcases(by omega:i=0\/i=1\/i=2\/i=3\/i=4) with rfl|rfl|rfl|rfl|rfl
   .exact ⟨⟨_,_,ha⟩,by simp[Eg]⟩
   .exact ⟨⟨_,_,hb⟩,by simp[Eg]⟩
   .exact ⟨pb.ext hW,by simp[Eg]⟩
   .exact ⟨pb.ext hW,by simp[Eg]⟩
   .exact ⟨O3.ext hW,by simp[Eg]⟩
  .have hi':i<5:=(List.getElem?_eq_some_iff.1 hr).1;rcases(by omega:i=0\/i=1\/i=2\/i=3\/i=4) with rfl|rfl|rfl|rfl|rfl<;>(injection hr with hr;subst hr)
   .refine ⟨af ha 0 _ rfl,af ha 1 _ rfl,_,_,af ha 2 _ rfl,fun h=>absurd h (by decide)⟩
   .refine ⟨af hb 0 _ rfl,af hb 1 _ rfl,_,_,af hb 2 _ rfl,fun _=>⟨gb,0,rfl,fun j q hq=>?_⟩⟩;have hj:j<2:=(List.getElem?_eq_some_iff.1 hq).1;rcases(by omega:j=0\/j=1) with rfl|rfl<;>(injection hq with hq;subst hq;exact⟨by decide,rfl⟩)
   .refine ⟨hW.cell (qb 0 (by decide)).1 (fun h=>h),hW.cell (qb 0 (by decide)).2.1 (fun h=>h),_,_,hW.cell ((qb 0 (by decide)).2.2.trans (congrArg some Ed)) (fun h=>h),fun _=>⟨gZ,0,rfl,fun j q hq=>?_⟩⟩;have hj:j<1:=(List.getElem?_eq_some_iff.1 hq).1;rcases(by omega:j=0) with rfl<;>(injection hq with hq;subst hq;exact⟨by decide,rfl⟩)
   .refine ⟨hW.cell (qb 1 (by decide)).1 (fun h=>h),hW.cell (qb 1 (by decide)).2.1 (fun h=>h),_,_,hW.cell ((qb 1 (by decide)).2.2.trans (congrArg some IK)) (fun h=>h),fun h=>absurd h (by decide)⟩
   .refine ⟨hW.cell (qb0 0 (by decide)).1 (fun h=>h),hW.cell (qb0 0 (by decide)).2.1 (fun h=>h),_,_,hW.cell ((qb0 0 (by decide)).2.2.trans (congrArg some Gw)) (fun h=>h),fun h=>absurd h (by decide)⟩
 have hno:=Zg;have hu:nC JQ 20 Ux=some none:=by
  cases hq:nC JQ 20 Ux with
  |none=>rw[hq] at hno;cases hno
  |some R=>
   cases R with
   |none=>rfl
   |some st=>rw[hq] at hno;cases hno
 have hx:=xh (T:=JQ) (ad:=Eg W.heap.size gb gZ) (S:=(fun k=>k=W.heap.size\/k=W.heap.size+1\/k=gb\/k=gZ)) 20 Ef A7 xa (some ⟨gb,0,none⟩) ya cb W htab
  ⟨_,_,rfl,(aG.read h1).weaken l1⟩ ⟨_,_,rfl,(aG.read h2).weaken l2⟩ (by decide) (by decide) hw.1 hw.2
  (by rw[hvs];decide) (by rw[hvs];decide) rfl rfl hN
  (by rintro k (h|h|h|h)<;>omega)
  (fun i r hr=>(by decide: ∀r∈JQ,r.ks.length<=1000000) r (List.mem_of_getElem? hr)) none hu (fun _=>default) (fun st e=>by cases e)
 refine hx.mono ?_;rintro e w' ⟨hres,hE⟩;rcases hres with⟨_,h⟩|⟨h,_⟩
 .exact ⟨h,hE⟩
 .exact absurd rfl h
abbrev zt:Tm:=(.mk ⟨#[115]⟩ ah [(.mk ⟨#[78,95,49]⟩ ⟨#[110,97,116]⟩ [])])
abbrev A8:Tm:=(.mk ⟨#[112,108,117,115]⟩ ah [(.mk ⟨#[122,101,114,111]⟩ ah []),(.mk ⟨#[78,95,50]⟩ ⟨#[110,97,116]⟩ [])])
def JR:List Nr:=[⟨⟨#[115]⟩,ah,[2]⟩,⟨⟨#[112,108,117,115]⟩,ah,[3,4]⟩,⟨⟨#[78,95,49]⟩,⟨#[110,97,116]⟩,[]⟩,⟨⟨#[122,101,114,111]⟩,ah,[]⟩,⟨⟨#[78,95,50]⟩,⟨#[110,97,116]⟩,[]⟩]
def Uy:List Vd:=aO zt++aO A8
def Eh (r0 ga gb:Nat):Nat->Nat×Nat
 |0=>(r0,0)
 |1=>(r0+1,0)
 |2=>(ga,0)
 |3=>(gb,0)
 |4=>(gb,3)
 |_=>(0,0)
theorem ai7:Uy=[(⟨#[78,95,49]⟩,⟨#[110,97,116]⟩),(⟨#[78,95,50]⟩,⟨#[110,97,116]⟩)]:=by decide+kernel
theorem agb:(wf ax zt&&wf ax A8)=true:=by decide+kernel
theorem Zh:(match nC JR 20 Uy with|some none=>true|_=>false)=true:=by decide+kernel
theorem ai8 (W:World) (htab:bT W) (B1 B2:Nat->Prop) (va vb:Value) (h1:aG 24 W B1 zt.kids va) (h2:aG 24 W B2 A8.kids vb) (hd: ∀k,B1 k->¬B2 k) (l1: ∀k,B1 k->k<W.heap.size) (l2: ∀k,B2 k->k<W.heap.size):
  Calls Tryz.prog 17 #[tV zt va,tV A8 vb] W fun e w'=>e= .returned (.tuple #[.slice none 0 0,.int .i64 12])/\Ext W w':=by
 obtain⟨ga,ca,ua,Ba,ea,pa,ba,qa,ka,na,_⟩:=aG.tN h1 (by decide);obtain⟨xa0,ya0,O1⟩:=aG.shape (ka 0 (by decide));obtain⟨gb,cb,ub,Bb,eb,pb,bb,qb,kb,nb,_⟩:=aG.tN h2 (by decide);obtain⟨Vs,yb0,Ed⟩:=aG.shape (kb 0 (by decide));obtain⟨KC,yb1,IK⟩:=aG.shape (kb 1 (by decide));subst ea eb;have za:ga<W.heap.size:=l1 _ (ba);have zb:gb<W.heap.size:=l2 _ (bb);have dab:ga≠gb:=fun e=>hd _ (ba) (e▸(bb));have hvs:aO zt++aO A8=[(⟨#[78,95,49]⟩,⟨#[110,97,116]⟩),(⟨#[78,95,50]⟩,⟨#[110,97,116]⟩)]:=ai7;have hw:=agb;rw[Bool.and_eq_true] at hw;have hN: ∀W',Ext W W'->W'.heap[W.heap.size]?=some (.cells #[.string zt.name,.string zt.sort,.slice (some ⟨ga,0,none⟩) zt.kids.length ca] 24 (0,0))->W'.heap[W.heap.size+1]?=some (.cells #[.string A8.name,.string A8.sort,.slice (some ⟨gb,0,none⟩) A8.kids.length cb] 24 (0,0))->DL JR (Eh W.heap.size ga gb) (fun k=>k=W.heap.size\/k=W.heap.size+1\/k=ga\/k=gb) W':=fun W' hW ha hb=>by
  refine⟨fun i j hi hj e=>?_,fun i hi=>?_,fun i r hr=>?_⟩
  .have hi':i<5:=hi;have hj':j<5:=hj;rcases(by omega:i=0\/i=1\/i=2\/i=3\/i=4) with rfl|rfl|rfl|rfl|rfl<;>rcases(by omega:j=0\/j=1\/j=2\/j=3\/j=4) with rfl|rfl|rfl|rfl|rfl<;>first|rfl|(simp only[Eh,Prod.mk.injEq] at e;omega)
  .have hi':i<5:=hi;rcases(by omega:i=0\/i=1\/i=2\/i=3\/i=4) with rfl|rfl|rfl|rfl|rfl
   .exact ⟨⟨_,_,ha⟩,by simp[Eh]⟩
   .exact ⟨⟨_,_,hb⟩,by simp[Eh]⟩
   .exact ⟨pa.ext hW,by simp[Eh]⟩
   .exact ⟨pb.ext hW,by simp[Eh]⟩
   .exact ⟨pb.ext hW,by simp[Eh]⟩
  .have hi':i<5:=(List.getElem?_eq_some_iff.1 hr).1;rcases(by omega:i=0\/i=1\/i=2\/i=3\/i=4) with rfl|rfl|rfl|rfl|rfl<;>(injection hr with hr;subst hr)
   .refine ⟨af ha 0 _ rfl,af ha 1 _ rfl,_,_,af ha 2 _ rfl,fun _=>⟨ga,0,rfl,fun j q hq=>?_⟩⟩;have hj:j<1:=(List.getElem?_eq_some_iff.1 hq).1;rcases(by omega:j=0) with rfl<;>(injection hq with hq;subst hq;exact⟨by decide,rfl⟩)
   .refine ⟨af hb 0 _ rfl,af hb 1 _ rfl,_,_,af hb 2 _ rfl,fun _=>⟨gb,0,rfl,fun j q hq=>?_⟩⟩;have hj:j<2:=(List.getElem?_eq_some_iff.1 hq).1;rcases(by omega:j=0\/j=1) with rfl|rfl<;>(injection hq with hq;subst hq;exact⟨by decide,rfl⟩)
   .refine ⟨hW.cell (qa 0 (by decide)).1 (fun h=>h),hW.cell (qa 0 (by decide)).2.1 (fun h=>h),_,_,hW.cell ((qa 0 (by decide)).2.2.trans (congrArg some O1)) (fun h=>h),fun h=>absurd h (by decide)⟩
   .refine ⟨hW.cell (qb 0 (by decide)).1 (fun h=>h),hW.cell (qb 0 (by decide)).2.1 (fun h=>h),_,_,hW.cell ((qb 0 (by decide)).2.2.trans (congrArg some Ed)) (fun h=>h),fun h=>absurd h (by decide)⟩
   .refine ⟨hW.cell (qb 1 (by decide)).1 (fun h=>h),hW.cell (qb 1 (by decide)).2.1 (fun h=>h),_,_,hW.cell ((qb 1 (by decide)).2.2.trans (congrArg some IK)) (fun h=>h),fun h=>absurd h (by decide)⟩
 have hno:=Zh;have hu:nC JR 20 Uy=some none:=by
  cases hq:nC JR 20 Uy with
  |none=>rw[hq] at hno;cases hno
  |some R=>
   cases R with
   |none=>rfl
   |some st=>rw[hq] at hno;cases hno
 have hx:=xh (T:=JR) (ad:=Eh W.heap.size ga gb) (S:=(fun k=>k=W.heap.size\/k=W.heap.size+1\/k=ga\/k=gb)) 20 zt A8 (some ⟨ga,0,none⟩) (some ⟨gb,0,none⟩) ca cb W htab
  ⟨_,_,rfl,(aG.read h1).weaken l1⟩ ⟨_,_,rfl,(aG.read h2).weaken l2⟩ (by decide) (by decide) hw.1 hw.2
  (by rw[hvs];decide) (by rw[hvs];decide) rfl rfl hN
  (by rintro k (h|h|h|h)<;>omega)
  (fun i r hr=>(by decide: ∀r∈JR,r.ks.length<=1000000) r (List.mem_of_getElem? hr)) none hu (fun _=>default) (fun st e=>by cases e)
 refine hx.mono ?_;rintro e w' ⟨hres,hE⟩;rcases hres with⟨_,h⟩|⟨h,_⟩
 .exact ⟨h,hE⟩
 .exact absurd rfl h
abbrev zu:Tm:=(.mk ⟨#[115]⟩ ah [(.mk ⟨#[78,95,49]⟩ ⟨#[110,97,116]⟩ [])])
abbrev A_:Tm:=(.mk ⟨#[112,108,117,115]⟩ ah [(.mk ⟨#[115]⟩ ah [(.mk ⟨#[78,95,50]⟩ ⟨#[110,97,116]⟩ [])]),(.mk ⟨#[77,95,50]⟩ ⟨#[110,97,116]⟩ [])])
def JS:List Nr:=[⟨⟨#[115]⟩,ah,[2]⟩,⟨⟨#[112,108,117,115]⟩,ah,[3,4]⟩,⟨⟨#[78,95,49]⟩,⟨#[110,97,116]⟩,[]⟩,⟨⟨#[115]⟩,ah,[5]⟩,⟨⟨#[77,95,50]⟩,⟨#[110,97,116]⟩,[]⟩,⟨⟨#[78,95,50]⟩,⟨#[110,97,116]⟩,[]⟩]
def Uz:List Vd:=aO zu++aO A_
def Bc (r0 ga gb gZ:Nat):Nat->Nat×Nat
 |0=>(r0,0)
 |1=>(r0+1,0)
 |2=>(ga,0)
 |3=>(gb,0)
 |4=>(gb,3)
 |5=>(gZ,0)
 |_=>(0,0)
theorem ai9:Uz=[(⟨#[78,95,49]⟩,⟨#[110,97,116]⟩),(⟨#[77,95,50]⟩,⟨#[110,97,116]⟩),(⟨#[78,95,50]⟩,⟨#[110,97,116]⟩)]:=by decide+kernel
theorem agc:(wf ax zu&&wf ax A_)=true:=by decide+kernel
theorem Zi:(match nC JS 20 Uz with|some none=>true|_=>false)=true:=by decide+kernel
theorem ai_ (W:World) (htab:bT W) (B1 B2:Nat->Prop) (va vb:Value) (h1:aG 24 W B1 zu.kids va) (h2:aG 24 W B2 A_.kids vb) (hd: ∀k,B1 k->¬B2 k) (l1: ∀k,B1 k->k<W.heap.size) (l2: ∀k,B2 k->k<W.heap.size):
  Calls Tryz.prog 17 #[tV zu va,tV A_ vb] W fun e w'=>e= .returned (.tuple #[.slice none 0 0,.int .i64 12])/\Ext W w':=by
 obtain⟨ga,ca,ua,Ba,ea,pa,ba,qa,ka,na,_⟩:=aG.tN h1 (by decide);obtain⟨xa0,ya0,O1⟩:=aG.shape (ka 0 (by decide));obtain⟨gb,cb,ub,Bb,eb,pb,bb,qb,kb,nb,_⟩:=aG.tN h2 (by decide);obtain⟨KC,yb1,IK⟩:=aG.shape (kb 1 (by decide));obtain⟨gZ,cb0,ub0,Bb0,Ed,O3,bb0,qb0,uC,nb0,_⟩:=aG.tN (kb 0 (by decide)) (by decide);obtain⟨Zc,Zd,Gw⟩:=aG.shape (uC 0 (by decide));subst ea eb;have za:ga<W.heap.size:=l1 _ (ba);have zb:gb<W.heap.size:=l2 _ (bb);have zb0:gZ<W.heap.size:=l2 _ ((nb 0 _ (by decide) bb0).1);have dab:ga≠gb:=fun e=>hd _ (ba) (e▸(bb));have af_:ga≠gZ:=fun e=>hd _ (ba) (e▸((nb 0 _ (by decide) bb0).1));have Ze:gb≠gZ:=fun e=>(nb 0 _ (by decide) bb0).2 e.symm;have hvs:aO zu++aO A_=[(⟨#[78,95,49]⟩,⟨#[110,97,116]⟩),(⟨#[77,95,50]⟩,⟨#[110,97,116]⟩),(⟨#[78,95,50]⟩,⟨#[110,97,116]⟩)]:=ai9;have hw:=agc;rw[Bool.and_eq_true] at hw;have hN: ∀W',Ext W W'->W'.heap[W.heap.size]?=some (.cells #[.string zu.name,.string zu.sort,.slice (some ⟨ga,0,none⟩) zu.kids.length ca] 24 (0,0))->W'.heap[W.heap.size+1]?=some (.cells #[.string A_.name,.string A_.sort,.slice (some ⟨gb,0,none⟩) A_.kids.length cb] 24 (0,0))->DL JS (Bc W.heap.size ga gb gZ) (fun k=>k=W.heap.size\/k=W.heap.size+1\/k=ga\/k=gb\/k=gZ) W':=fun W' hW ha hb=>by
  refine⟨fun i j hi hj e=>?_,fun i hi=>?_,fun i r hr=>?_⟩
  .have hi':i<6:=hi;have hj':j<6:=hj;rcases(by omega:i=0\/i=1\/i=2\/i=3\/i=4\/i=5) with rfl|rfl|rfl|rfl|rfl|rfl<;>rcases(by omega:j=0\/j=1\/j=2\/j=3\/j=4\/j=5) with rfl|rfl|rfl|rfl|rfl|rfl<;>first|rfl|(simp only[Bc,Prod.mk.injEq] at e;omega)
  .have hi':i<6:=hi;rcases(by omega:i=0\/i=1\/i=2\/i=3\/i=4\/i=5) with rfl|rfl|rfl|rfl|rfl|rfl
   .exact ⟨⟨_,_,ha⟩,by simp[Bc]⟩
   .exact ⟨⟨_,_,hb⟩,by simp[Bc]⟩
   .exact ⟨pa.ext hW,by simp[Bc]⟩
   .exact ⟨pb.ext hW,by simp[Bc]⟩
   .exact ⟨pb.ext hW,by simp[Bc]⟩
   .exact ⟨O3.ext hW,by simp[Bc]⟩
  .have hi':i<6:=(List.getElem?_eq_some_iff.1 hr).1;rcases(by omega:i=0\/i=1\/i=2\/i=3\/i=4\/i=5) with rfl|rfl|rfl|rfl|rfl|rfl<;>(injection hr with hr;subst hr)
   .refine ⟨af ha 0 _ rfl,af ha 1 _ rfl,_,_,af ha 2 _ rfl,fun _=>⟨ga,0,rfl,fun j q hq=>?_⟩⟩;have hj:j<1:=(List.getElem?_eq_some_iff.1 hq).1;rcases(by omega:j=0) with rfl<;>(injection hq with hq;subst hq;exact⟨by decide,rfl⟩)
   .refine ⟨af hb 0 _ rfl,af hb 1 _ rfl,_,_,af hb 2 _ rfl,fun _=>⟨gb,0,rfl,fun j q hq=>?_⟩⟩;have hj:j<2:=(List.getElem?_eq_some_iff.1 hq).1;rcases(by omega:j=0\/j=1) with rfl|rfl<;>(injection hq with hq;subst hq;exact⟨by decide,rfl⟩)
   .refine ⟨hW.cell (qa 0 (by decide)).1 (fun h=>h),hW.cell (qa 0 (by decide)).2.1 (fun h=>h),_,_,hW.cell ((qa 0 (by decide)).2.2.trans (congrArg some O1)) (fun h=>h),fun h=>absurd h (by decide)⟩
   .refine ⟨hW.cell (qb 0 (by decide)).1 (fun h=>h),hW.cell (qb 0 (by decide)).2.1 (fun h=>h),_,_,hW.cell ((qb 0 (by decide)).2.2.trans (congrArg some Ed)) (fun h=>h),fun _=>⟨gZ,0,rfl,fun j q hq=>?_⟩⟩;have hj:j<1:=(List.getElem?_eq_some_iff.1 hq).1;rcases(by omega:j=0) with rfl<;>(injection hq with hq;subst hq;exact⟨by decide,rfl⟩)
   .refine ⟨hW.cell (qb 1 (by decide)).1 (fun h=>h),hW.cell (qb 1 (by decide)).2.1 (fun h=>h),_,_,hW.cell ((qb 1 (by decide)).2.2.trans (congrArg some IK)) (fun h=>h),fun h=>absurd h (by decide)⟩
   .refine ⟨hW.cell (qb0 0 (by decide)).1 (fun h=>h),hW.cell (qb0 0 (by decide)).2.1 (fun h=>h),_,_,hW.cell ((qb0 0 (by decide)).2.2.trans (congrArg some Gw)) (fun h=>h),fun h=>absurd h (by decide)⟩
 have hno:=Zi;have hu:nC JS 20 Uz=some none:=by
  cases hq:nC JS 20 Uz with
  |none=>rw[hq] at hno;cases hno
  |some R=>
   cases R with
   |none=>rfl
   |some st=>rw[hq] at hno;cases hno
 have hx:=xh (T:=JS) (ad:=Bc W.heap.size ga gb gZ) (S:=(fun k=>k=W.heap.size\/k=W.heap.size+1\/k=ga\/k=gb\/k=gZ)) 20 zu A_ (some ⟨ga,0,none⟩) (some ⟨gb,0,none⟩) ca cb W htab
  ⟨_,_,rfl,(aG.read h1).weaken l1⟩ ⟨_,_,rfl,(aG.read h2).weaken l2⟩ (by decide) (by decide) hw.1 hw.2
  (by rw[hvs];decide) (by rw[hvs];decide) rfl rfl hN
  (by rintro k (h|h|h|h|h)<;>omega)
  (fun i r hr=>(by decide: ∀r∈JS,r.ks.length<=1000000) r (List.mem_of_getElem? hr)) none hu (fun _=>default) (fun st e=>by cases e)
 refine hx.mono ?_;rintro e w' ⟨hres,hE⟩;rcases hres with⟨_,h⟩|⟨h,_⟩
 .exact ⟨h,hE⟩
 .exact absurd rfl h
abbrev zx:Tm:=(.mk ⟨#[102]⟩ ah [(.mk ⟨#[88,95,49]⟩ ⟨#[97]⟩ [])])
abbrev Bf:Tm:=(.mk ⟨#[102]⟩ ah [(.mk ⟨#[102]⟩ ah [(.mk ⟨#[88,95,50]⟩ ⟨#[97]⟩ [])])])
def JU:List Nr:=[⟨⟨#[102]⟩,ah,[2]⟩,⟨⟨#[102]⟩,ah,[3]⟩,⟨⟨#[88,95,49]⟩,⟨#[97]⟩,[]⟩,⟨⟨#[102]⟩,ah,[4]⟩,⟨⟨#[88,95,50]⟩,⟨#[97]⟩,[]⟩]
def UA:List Vd:=aO zx++aO Bf
def Ei (r0 ga gb gZ:Nat):Nat->Nat×Nat
 |0=>(r0,0)
 |1=>(r0+1,0)
 |2=>(ga,0)
 |3=>(gb,0)
 |4=>(gZ,0)
 |_=>(0,0)
theorem ai':UA=[(⟨#[88,95,49]⟩,⟨#[97]⟩),(⟨#[88,95,50]⟩,⟨#[97]⟩)]:=by decide+kernel
theorem agd:(wf ax zx&&wf ax Bf)=true:=by decide+kernel
def MN (v:Vd):Tm:=if v.1=⟨#[88,95,49]⟩ then(.mk ⟨#[102]⟩ ah [(.mk ⟨#[88,95,50]⟩ ⟨#[97]⟩ [])]) else(.mk ⟨#[88,95,50]⟩ ⟨#[97]⟩ [])
def O4:List Bd:=[(⟨#[88,95,49]⟩,⟨#[97]⟩,(.mk ⟨#[102]⟩ ah [(.mk ⟨#[88,95,50]⟩ ⟨#[97]⟩ [])]))]
theorem age:((nC JU 20 UA).bind id).any (fun st=>aa1 JU 20 UA MN st)=true:=by decide+kernel
theorem aja (W:World) (htab:bT W) (B1 B2:Nat->Prop) (va vb:Value) (h1:aG 24 W B1 zx.kids va) (h2:aG 24 W B2 Bf.kids vb) (hd: ∀k,B1 k->¬B2 k) (l1: ∀k,B1 k->k<W.heap.size) (l2: ∀k,B2 k->k<W.heap.size):
  Calls Tryz.prog 17 #[tV zx va,tV Bf vb] W fun e w'=> ∃ra rc,e= .returned (.tuple #[.slice ra 1 rc,.int .i64 0])/\lC (fun k=>W.heap.size<=k/\k<w'.heap.size) (fun k=>W.heap.size<=k/\k<w'.heap.size) w' (.slice ra 1 rc) O4/\Ext W w':=by
 obtain⟨ga,ca,ua,Ba,ea,pa,ba,qa,ka,na,_⟩:=aG.tN h1 (by decide);obtain⟨xa0,ya0,O1⟩:=aG.shape (ka 0 (by decide));obtain⟨gb,cb,ub,Bb,eb,pb,bb,qb,kb,nb,_⟩:=aG.tN h2 (by decide);obtain⟨gZ,cb0,ub0,Bb0,Ed,O3,bb0,qb0,uC,nb0,_⟩:=aG.tN (kb 0 (by decide)) (by decide);obtain⟨Zc,Zd,Gw⟩:=aG.shape (uC 0 (by decide));subst ea eb;have za:ga<W.heap.size:=l1 _ (ba);have zb:gb<W.heap.size:=l2 _ (bb);have zb0:gZ<W.heap.size:=l2 _ ((nb 0 _ (by decide) bb0).1);have dab:ga≠gb:=fun e=>hd _ (ba) (e▸(bb));have af_:ga≠gZ:=fun e=>hd _ (ba) (e▸((nb 0 _ (by decide) bb0).1));have Ze:gb≠gZ:=fun e=>(nb 0 _ (by decide) bb0).2 e.symm;have hvs:aO zx++aO Bf=[(⟨#[88,95,49]⟩,⟨#[97]⟩),(⟨#[88,95,50]⟩,⟨#[97]⟩)]:=ai';have hw:=agd;rw[Bool.and_eq_true] at hw;have hN: ∀W',Ext W W'->W'.heap[W.heap.size]?=some (.cells #[.string zx.name,.string zx.sort,.slice (some ⟨ga,0,none⟩) zx.kids.length ca] 24 (0,0))->W'.heap[W.heap.size+1]?=some (.cells #[.string Bf.name,.string Bf.sort,.slice (some ⟨gb,0,none⟩) Bf.kids.length cb] 24 (0,0))->DL JU (Ei W.heap.size ga gb gZ) (fun k=>k=W.heap.size\/k=W.heap.size+1\/k=ga\/k=gb\/k=gZ) W':=fun W' hW ha hb=>by
  refine⟨fun i j hi hj e=>?_,fun i hi=>?_,fun i r hr=>?_⟩
  .have hi':i<5:=hi;have hj':j<5:=hj;rcases(by omega:i=0\/i=1\/i=2\/i=3\/i=4) with rfl|rfl|rfl|rfl|rfl<;>rcases(by omega:j=0\/j=1\/j=2\/j=3\/j=4) with rfl|rfl|rfl|rfl|rfl<;>first|rfl|(simp only[Ei,Prod.mk.injEq] at e;omega)
  .have hi':i<5:=hi;rcases(by omega:i=0\/i=1\/i=2\/i=3\/i=4) with rfl|rfl|rfl|rfl|rfl
   .exact ⟨⟨_,_,ha⟩,by simp[Ei]⟩
   .exact ⟨⟨_,_,hb⟩,by simp[Ei]⟩
   .exact ⟨pa.ext hW,by simp[Ei]⟩
   .exact ⟨pb.ext hW,by simp[Ei]⟩
   .exact ⟨O3.ext hW,by simp[Ei]⟩
  .have hi':i<5:=(List.getElem?_eq_some_iff.1 hr).1;rcases(by omega:i=0\/i=1\/i=2\/i=3\/i=4) with rfl|rfl|rfl|rfl|rfl<;>(injection hr with hr;subst hr)
   .refine ⟨af ha 0 _ rfl,af ha 1 _ rfl,_,_,af ha 2 _ rfl,fun _=>⟨ga,0,rfl,fun j q hq=>?_⟩⟩;have hj:j<1:=(List.getElem?_eq_some_iff.1 hq).1;rcases(by omega:j=0) with rfl<;>(injection hq with hq;subst hq;exact⟨by decide,rfl⟩)
   .refine ⟨af hb 0 _ rfl,af hb 1 _ rfl,_,_,af hb 2 _ rfl,fun _=>⟨gb,0,rfl,fun j q hq=>?_⟩⟩;have hj:j<1:=(List.getElem?_eq_some_iff.1 hq).1;rcases(by omega:j=0) with rfl<;>(injection hq with hq;subst hq;exact⟨by decide,rfl⟩)
   .refine ⟨hW.cell (qa 0 (by decide)).1 (fun h=>h),hW.cell (qa 0 (by decide)).2.1 (fun h=>h),_,_,hW.cell ((qa 0 (by decide)).2.2.trans (congrArg some O1)) (fun h=>h),fun h=>absurd h (by decide)⟩
   .refine ⟨hW.cell (qb 0 (by decide)).1 (fun h=>h),hW.cell (qb 0 (by decide)).2.1 (fun h=>h),_,_,hW.cell ((qb 0 (by decide)).2.2.trans (congrArg some Ed)) (fun h=>h),fun _=>⟨gZ,0,rfl,fun j q hq=>?_⟩⟩;have hj:j<1:=(List.getElem?_eq_some_iff.1 hq).1;rcases(by omega:j=0) with rfl<;>(injection hq with hq;subst hq;exact⟨by decide,rfl⟩)
   .refine ⟨hW.cell (qb0 0 (by decide)).1 (fun h=>h),hW.cell (qb0 0 (by decide)).2.1 (fun h=>h),_,_,hW.cell ((qb0 0 (by decide)).2.2.trans (congrArg some Gw)) (fun h=>h),fun h=>absurd h (by decide)⟩
 have hok:=age;cases hu:nC JU 20 UA with
 |none=>rw[hu] at hok;cases hok
 |some R=>
 rw[hu] at hok;have hR0:R≠none:=fun e=>by rw[e] at hok;cases hok
 have hx:=xh (T:=JU) (ad:=Ei W.heap.size ga gb gZ) (S:=(fun k=>k=W.heap.size\/k=W.heap.size+1\/k=ga\/k=gb\/k=gZ)) 20 zx Bf (some ⟨ga,0,none⟩) (some ⟨gb,0,none⟩) ca cb W htab
  ⟨_,_,rfl,(aG.read h1).weaken l1⟩ ⟨_,_,rfl,(aG.read h2).weaken l2⟩ (by decide) (by decide) hw.1 hw.2
  (by rw[hvs];decide) (by rw[hvs];decide) rfl rfl hN
  (by rintro k (h|h|h|h|h)<;>omega)
  (fun i r hr=>(by decide: ∀r∈JU,r.ks.length<=1000000) r (List.mem_of_getElem? hr)) R hu MN (fun st e=>Ue (by rw[e] at hok;exact hok))
 refine hx.mono ?_;rintro e w' ⟨hres,hE⟩;rcases hres with⟨h,_⟩|⟨_,r,L,rfl,hbn,hasc,hmem⟩
 .exact absurd h hR0
 rw[hvs] at hmem;have tx:MN (⟨#[88,95,49]⟩,⟨#[97]⟩)=(.mk ⟨#[102]⟩ ah [(.mk ⟨#[88,95,50]⟩ ⟨#[97]⟩ [])]):=if_pos rfl;have ty:MN (⟨#[88,95,50]⟩,⟨#[97]⟩)=(.mk ⟨#[88,95,50]⟩ ⟨#[97]⟩ []):=if_neg (by decide);have hL:L=O4:=Gf Prod.fst hasc (by unfold O4 AscK;decide) (fun f=>by
  rw[hmem f];constructor
  .rintro ⟨⟨v,hv,e⟩,hs⟩;simp only[List.mem_cons,List.not_mem_nil,or_false] at hv;rcases hv with e2|e2<;>subst e2<;>subst e
   .exact List.mem_cons.2 (.inl (by rw[tx]))
   .exact absurd hs (by rw[ty];decide)
  .intro hf;unfold O4 at hf;simp only[List.mem_cons,List.not_mem_nil,or_false] at hf;subst hf;exact⟨⟨(⟨#[88,95,49]⟩,⟨#[97]⟩),by simp,by rw[tx]⟩,by decide⟩)
 subst hL;obtain⟨ra,rc,rfl⟩:=hbn.shape;exact⟨ra,rc,rfl,hbn,hE⟩
theorem afi (nm so dH:By) (a:Option Addr) (n cap sb:Nat) (w:World) (hs:w.cell? ⟨sb,0,none⟩=some (.string dH)) (hl:nm.size+dH.size<=100000):Calls Tryz.prog 81 #[.agg #[.string nm,.string so,.slice a n cap],.pointer (some ⟨sb,0,none⟩)] w fun e w'=>e= .returned (.agg #[.string (nm++dH),.string so,.slice none 0 0])/\Ext w w':=by
 have hs2:=(((uR w).alloc (.cells #[.string nm,.string so,.slice a n cap] 24)).alloc zO).cell hs (fun h=>h);have HX:=ae (((uR w).alloc (.cells #[.string nm,.string so,.slice a n cap] 24)).alloc (.cells #[.string (nm++dH),.string so,.slice none 0 0] 24))
 go_enter Tryz.func81,Tryz.ntmps81
 go_wp2_with fail
 have hb:=alloc_at (w.alloc (.cells #[.string nm,.string so,.slice a n cap] 24)) (.cells #[.string (nm++dH),.string so,.slice none 0 0] 24) (n:=w.heap.size+1) (by simp);obtain⟨e0,e1,e2⟩:=ag hb;exact bodyPost_ret (v:= .agg #[.string (nm++dH),.string so,.slice none 0 0]) (by simp[results,Tryz.results81,go_sem,e0,e1,e2]) rfl ⟨rfl,HX.out⟩
theorem acD (dH:By) (sb:Nat) (w0:World) (BQ:Hid (∀W,Ext w0 W->W.cell? ⟨sb,0,none⟩=some (.string dH))): ∀(t:Tm) (v:Value) (S:Nat->Prop) (w:World),Ext w0 w->bC S w t v->(∀k,S k->k<w.heap.size)->t.size<=100000->(∀f∈fD t,f.1.size+dH.size<=100000)->
  Calls Tryz.prog 80 #[v,.func (.func 81) #[] #[.pointer (some ⟨sb,0,none⟩)]] w fun e w'=> ∃r B,e= .returned (tV (fA (fun n s=>vr (n++dH) s) t) r)/\aG 24 w' B (fA (fun n s=>vr (n++dH) s) t).kids r/\(∀j,B j->w.heap.size<=j/\j<w'.heap.size)/\Ext w w':=by
 refine Tm.ind (fun n s L ih=>?_);intro v S w hw0 hT hS hsz hok;obtain⟨Z,l7⟩: ∃Z,fA (fun n s=>vr (n++dH) s) (.mk n s L)=Z:=⟨_,rfl⟩
 rw[l7];have iH:=ae l7;clear l7;obtain⟨a,cap,rfl,hT⟩:=hT;dsimp only[tV,Tm.name,Tm.sort,Tm.kids] at hT⊢;have cO:=ae hT;have HIH:=ae ih;have jf:=ae hS;have HW0:=ae hw0;have fK:=ae hok;have iU:sizes L+1<=100000:=by rw[size_eq] at hsz;simp only[Tm.kids] at hsz;omega
 have oM:=ae iU;have mr:L.length<=100000:=by have h1:=bf L;omega
 have pg:=ae (fun W=>kX n s a L.length cap W);have hZ:=((uR w).alloc (.cells #[.string n,.string s,.slice a L.length cap] 24)).alloc zO;have HB2:=ae (ak (ai w (.cells #[.string n,.string s,.slice a L.length cap] 24)) zO);have HB3:=ae (alloc_at (w.alloc (.cells #[.string n,.string s,.slice a L.length cap] 24)) zO (n:=w.heap.size+1) (by simp));have hz2:w.heap.size+2<=((w.alloc (.cells #[.string n,.string s,.slice a L.length cap] 24)).alloc zO).heap.size:=by simp
 obtain⟨x0,x1,x2⟩:=ag HB2.out;have HZ:=ae hZ;have HZ2:=ae hz2;clear ih hT hS hsz iU hZ hz2 hw0 hok;by_cases hs0:s=ah
 rotate_left
 .rw [dF hs0] at pg;obtain rfl:Z=vr (n++dH) s:=by rw[<-iH.out];exact o_ _ hs0 L
  have DW:=ae (fK.out (n,s) (qQ hs0 L));clear hs0
  go_enter Tryz.func80,Tryz.ntmps80
  go_wp2_with fail
  refine(pg.out _).mono ?_;rintro e w3 ⟨rfl,hw3⟩;have aS:=ae (HZ.out.trans hw3);have gV:Hid (w.heap.size+2<=w3.heap.size):=ae (Nat.le_trans HZ2.out hw3.size);have nP:=ae (hw3.heap HB2.out (fun h=>h));have uN:=ae (hw3.heap HB3.out (fun h=>h));clear hw3 pg x0 x1 x2;obtain⟨x0,x1,x2⟩:=ag nP.out
  go_wp2_with fail
  refine(afi n s dH a L.length cap sb w3 (BQ.out _ (HW0.out.trans aS.out)) DW.out).mono ?_;rintro e w6 ⟨rfl,hw6⟩;have sZ:=ae (DI (vr (n++dH) s) (tV (vr (n++dH) s) (.slice none 0 0)) (fun k=>k<w6.heap.size) w6 ⟨none,0,rfl,aA.nil _ _⟩ (fun k h=>h) (by show 1<=100000;decide));dsimp only[tV,Tm.name,Tm.sort] at sZ⊢;have eQ:=ae (aS.out.trans hw6);have YQ:=ae (hw6.heap uN.out (fun h=>h));have xx:Hid (w.heap.size+2<=w6.heap.size):=ae (Nat.le_trans gV.out hw6.size);clear hw6 x0 x1 x2
  go_wp2_with fail
  refine sZ.out.mono ?_;rintro e w7 ⟨r7,B7,rfl,DX,hb7,hw7⟩;obtain⟨ya,yc,jB⟩:=aG.shape DX;subst jB;have Ro:=ae DX;have eP:=ae hb7;have jg:=ae (eQ.out.trans hw7);have Gn:=ae (hw7.heap YQ.out (fun h=>h));obtain⟨d0,d1,d2⟩:=ag Gn.out;have f2:=fun i=>au Gn.out i;dsimp only[tV]
  try dsimp only[Tm.name,Tm.sort,Tm.kids,List.length_nil]
  clear DX hb7 hw7 sZ
  go_wp2_with fail
  have hr3:=aJ Gn.out (.string (n++dH)) (.string s) (.slice ya 0 yc);have hu:=aI w7 (w.heap.size+1) (.string (n++dH)) (.string s) (.slice ya 0 yc);obtain⟨e0,e1,e2⟩:=ag hr3;have hs6:=xx.out;refine bodyPost_ret (v:= .agg #[.string (n++dH),.string s,.slice ya 0 yc]) (by simp[results,Tryz.results80,go_sem,e0,e1,e2]) rfl ⟨.slice ya 0 yc,B7,rfl,Ro.out.kept hu (fun j hj e=>by have h1:=(eP.out j hj).1;omega),fun j hj=>⟨by have h1:=(eP.out j hj).1;omega,ay (eP.out j hj).2 hu.size⟩,jg.out.trans' hu (fun j hj e=>by omega)⟩
 rw[dT hs0] at pg;obtain rfl:Z= .mk n ah (L.map (fA (fun n s=>vr (n++dH) s))):=by rw[<-iH.out,hs0];exact rG _ n L
 have Ox:Hid (∀x∈L,∀f∈fD x,f.1.size+dH.size<=100000):=ae (fun x hx f hf=>fK.out f (by
  rw[hs0,vI];exact List.mem_flatMap.2 ⟨x,hx,hf⟩))
 clear hs0
 go_enter Tryz.func80,Tryz.ntmps80
 go_wp2_with fail
 refine(pg.out _).mono ?_;rintro e w3 ⟨rfl,hw3⟩;have aS:=ae (HZ.out.trans hw3);have nP:=ae (hw3.heap HB2.out (fun h=>h));have uN:=ae (hw3.heap HB3.out (fun h=>h));have gV:Hid (w.heap.size+2<=w3.heap.size):=ae (Nat.le_trans HZ2.out hw3.size);clear hw3 pg x0 x1 x2;have wL:=ae ((uR w3).alloc (.cells #[.string n,.string ⟨#[]⟩,.slice none 0 0] 24));have dO:=ae (ak nP.out (.cells #[.string n,.string ⟨#[]⟩,.slice none 0 0] 24));have zg:=ae (ak uN.out (.cells #[.string n,.string ⟨#[]⟩,.slice none 0 0] 24));have Gp:=ae (ai w3 (.cells #[.string n,.string ⟨#[]⟩,.slice none 0 0] 24));have gQ:Hid (w3.heap.size+1<=(w3.alloc (.cells #[.string n,.string ⟨#[]⟩,.slice none 0 0] 24)).heap.size):=ae (by simp);obtain⟨x0,x1,x2⟩:=ag nP.out;obtain⟨u0,u1,u2⟩:=ag dO.out
 go_wp2_with fail
 generalize w3.alloc (.cells #[.string n,.string ⟨#[]⟩,.slice none 0 0] 24)=w4 at*;obtain⟨n3,hn3⟩: ∃n3,w3.heap.size=n3:=⟨_,rfl⟩
 rw[hn3] at Gp gQ gV⊢;have bQ:=ae (aS.out.trans wL.out);have nX:Hid (ru 24 (n3+1) w4 (L.map (fA (fun n s=>vr (n++dH) s))) (.slice none 0 0) [] (fun _ _=>False) 0):=ae ⟨rfl,⟨rfl,.inl ⟨rfl,rfl⟩⟩,fun i hi=>absurd hi (Nat.not_lt_zero _),fun i j hi=>absurd hi (Nat.not_lt_zero _),fun i i' j hi=>absurd hi (Nat.not_lt_zero _)⟩;clear hn3 x0 x1 x2 u0 u1 u2 wL aS nP uN dO HZ HB2 HB3
 go_loopg [20] L.length (fun gk iv wr=> ∃(k:Nat) (lv:Value) (us:List Value) (Bk:Nat->Nat->Prop),iv= .int .i64 (k:Int)/\gk=L.length-k/\k<=L.length/\Hid (ru 24 (n3+1) wr (L.map (fA (fun n s=>vr (n++dH) s))) lv us Bk k)/\Hid (wr.heap[w.heap.size+1]?=some zO)/\Hid (wr.heap[n3]?=some (.cells #[.string n,.string ⟨#[]⟩,lv] 24 (0,0)))/\Hid (Ext w wr)/\Hid (n3+1<=wr.heap.size))
 case atStart=>exact⟨0,_,_,_,rfl,rfl,Nat.zero_le _,nX,zg,Gp,bQ,gQ⟩
 case round=>
  clear nX zg Gp bQ gQ;obtain⟨k,lv,us,Bk,rfl,rfl,hk,HJ,HB2,HB3,HE,dw⟩:=hrel;obtain⟨la,lc,hlv⟩:=bJ HJ.out.own;subst hlv;by_cases hlt:k<L.length
  .obtain ⟨g,off,hga,_,hat⟩:=(cO.out.ext HE.out).at_ (by omega);subst hga;obtain⟨xa,xc,q0,q1,q2,aY⟩:=hat k hlt;rw[<-Nat.add_assoc] at q1 q2;obtain⟨z0,z1,z2,z2'⟩:=bz hlt;have a_:=ae (fun W (hW:Ext wr W)=>HIH.out (tg L k) (ed L k hlt) _ S W (HW0.out.trans (HE.out.trans hW)) ⟨xa,xc,rfl,aY.ext hW⟩ (fun j hj=>ay (jf.out j hj) (Nat.le_trans HE.out.size hW.size)) (by have h1:=oM.out;have h2:=ku (ed L k hlt);omega) (Ox.out _ (ed L k hlt)));dsimp only[tV] at a_;obtain⟨x,hx⟩: ∃x,tg L k=x:=⟨_,rfl⟩
   have hzx:tg (L.map (fA (fun n s=>vr (n++dH) s))) k=fA (fun n s=>vr (n++dH) s) x:=by
    rw[<-hx];unfold tg;rw[List.getD_eq_getElem?_getD,List.getD_eq_getElem?_getD,List.getElem?_map,List.getElem?_eq_getElem hlt];rfl
   obtain⟨z,hz⟩: ∃z,fA (fun n s=>vr (n++dH) s) x=z:=⟨_,rfl⟩
   rw[hx,hz] at a_;rw[hx] at q0 q1 q2;rw[hz] at hzx;have HZX:=ae hzx;have hQ:=(uR wr).alloc (tO x xa xc);have kT:=ai wr (tO x xa xc);obtain⟨b0,b1,b2⟩:=ag kT;have kz:=ak HB3.out (tO x xa xc);have c2:=af kz 2 (.slice la k lc) rfl;have yA:=ae kz;have HQ:=ae hQ;have xG:=ae (ak HB2.out (tO x xa xc));have CV:=ae (HJ.out.own.alloc (tO x xa xc));have jD:Hid (¬(Value.slice la k lc).ownBlock=some n3):=ae (fun e=>by have h1:=(HJ.out.own.lt n3 e).1;omega);have HK:Hid (k<=100000):=ae (by omega);obtain⟨iT,hi,hz0,hz1,hz2⟩:=info_parts Ar;clear hat aY hx hQ kT kz hz hzx
   go_wp2_with fail
   generalize wr.alloc (tO x xa xc)=wq at*;have yB:Hid (Ext wq wq):=ae (aj.refl _ _);have ui:Hid (n3+1<=wq.heap.size):=ae (Nat.le_trans dw.out HQ.out.size);clear q0 q1 q2
   go_region_law (first
    |(refine dP _ (.tmp 25) (.tmp 29) 22 rfl (n3+1) 24 iT (.agg #[.string ⟨#[]⟩,.string ⟨#[]⟩,.slice none 0 0]) 3 56 Tryz.underlying22 hi hz0 hz1 hz2 rfl (by decide) _ _ _ rfl xH.out _ 1 1 [Value.string z.name,.string z.sort,.slice ya z.kids.length yc] rfl rfl oN.out mW.out jA.out.1 jA.out.2.1 jA.out.2.2 ?_;intro v7 w7 dE;obtain⟨a7,c7,hv7⟩:=bJ dE.own;subst hv7;have iL:=dE.upd.heap (ak fE.out (tO z ya yc)) jD.out;have f7:=fun i=>au iL i;have c2:=af iL 2 (.slice la k lc) rfl;have eP:=ae iL;have mD:=ae dE;clear dE iL)
    |(go_simp;refine(a_.out wq.drew (HQ.out.trans yB.out.drew)).mono ?_;rintro e w5 ⟨r,Bx,rfl,jV,hb5,hw5⟩;obtain⟨ya,yc,jB⟩:=aG.shape jV;subst jB;have dS:Hid (Ext wq w5):=ae (((uR wq).drewN' 1).trans hw5);have ql:=ae jV;have qH:Hid (∀j,Bx j->wq.heap.size<=j/\j<w5.heap.size):=ae hb5;have fE:=ae (dS.out.heap yA.out (fun h=>h));have xH:Hid ((w5.alloc (tO z ya yc)).ownsRow (n3+1) 24 3 (.slice la k lc) k (dC ((L.map (fA (fun n s=>vr (n++dH) s))).take k) us)):=ae ((df CV.out dS.out (fun _ _ h=>h)).alloc _);have oN:Hid (∀(j:Nat) (u:Value),[Value.string z.name,.string z.sort,.slice ya z.kids.length yc][j]?=some u->(w5.alloc (tO z ya yc)).cell? ((⟨w5.heap.size,0,none⟩:Addr).add j)=some u):=ae (F5 w5 _ _ _ 24);have mW:Hid (∀u∈[Value.string z.name,.string z.sort,.slice ya z.kids.length yc],u.oneCell'=true):=ae (fun u hu=>by simp at hu;rcases hu with h|h|h<;>(subst h;rfl));have jA:Hid (k+1<=maxLen/\(k+1)*56<=140737488355328/\n3+1<=(w5.alloc (tO z ya yc)).heap.size):=ae ⟨by unfold maxLen;have:=HK.out;omega,by have:=HK.out;omega,by have h1:=dS.out.size;have h2:=ui.out;simp;omega⟩;have c5:=dS.out.cell c2 (fun h=>h);have c6:=((uR w5).alloc (tO z ya yc)).cell c5 (fun h=>h);clear jV hb5 hw5))
   all_goals
    go_wp2_with fail
    have ji:=ae ((aj.refl (fun j=>j=n3) w7).setCell (p:=⟨n3,2,none⟩) (.inl rfl) (.slice a7 (k+1) c7));have dG:Hid (aj (fun j=>(Value.slice la k lc).ownBlock=some j\/j=n3) wq (w7.setCell ⟨n3,2,none⟩ (.slice a7 (k+1) c7))):=ae (((((dS.out.alloc (tO z ya yc)).mono (fun _ _ x=>x.elim)).trans (mD.out.upd.mono (fun _ _ e=> .inl e)))).trans (ji.out.mono (fun _ _ e=> .inr e)));have zL:=ae (HJ.out.grow (by rw[List.length_map];exact hlt) HZX.out (by omega) dw.out HQ.out dS.out ql.out qH.out ((uR w5).alloc (tO z ya yc)) mD.out ji.out);have hs3:=gV.out;have bV:Hid (Ext w (w7.setCell ⟨n3,2,none⟩ (.slice a7 (k+1) c7))):=ae ((HE.out.trans HQ.out).trans' dG.out (fun j hj e=>by
     rcases e with e|e
     .have h1:=(HJ.out.own.lt j e).1;omega
     .omega))
    have uH:=ae (dG.out.heap xG.out (fun e=>by
     rcases e with e|e
     .have h1:=(HJ.out.own.lt _ e).1;omega
     .omega))
    have lT:=setBlock eP.out 2 (.slice a7 (k+1) c7);have uI:Hid ((w7.setCell ⟨n3,2,none⟩ (.slice a7 (k+1) c7)).heap[n3]?=some (.cells #[.string n,.string ⟨#[]⟩,.slice a7 (k+1) c7] 24 (0,0))):=ae (by simpa using lT);have pF:Hid (n3+1<=(w7.setCell ⟨n3,2,none⟩ (.slice a7 (k+1) c7)).heap.size):=ae (Nat.le_trans ui.out dG.out.size);clear lT c2 f7
    go_roundg (L.length- (k+1))
    case measure=>omega
    case rel=>exact⟨k+1,_,_,_,by go_num,rfl,by omega,zL,uH,uI,bV,pF⟩
  .obtain rfl:k=L.length:=by omega
   have z2:decide ((L.length:Int)< (L.length:Int))=false:=dF (by omega);have hfin:=HJ.out;have hll:(L.map (fA (fun n s=>vr (n++dH) s))).length=L.length:=List.length_map ..;rw[<-hll] at hfin;have hfin:=hfin.fin;have tq:=ae hfin;rw[hll] at tq;obtain⟨c0,c1,c2⟩:=ag HB3.out;have f2:=fun i=>au HB2.out i;obtain⟨d0,d1,d2⟩:=ag HB2.out;clear hfin hll
   go_wp2_with fail
   have hr3:=aJ HB2.out (.string n) (.string ⟨#[]⟩) (.slice la L.length lc);have hu:=aI wr (w.heap.size+1) (.string n) (.string ⟨#[]⟩) (.slice la L.length lc);obtain⟨e0,e1,e2⟩:=ag hr3;have hs3:=gV.out;refine bodyPost_ret (v:= .agg #[.string n,.string ⟨#[]⟩,.slice la L.length lc]) (by simp[results,Tryz.results80,go_sem,e0,e1,e2]) rfl ⟨.slice la L.length lc,fun j=>n3+1<=j/\j<wr.heap.size,by simp[List.length_map,ah],tq.out.kept hu (fun j hj e=>by have h1:=hj.1;omega),fun j hj=>⟨by have h1:=hj.1;omega,ay hj.2 hu.size⟩,HE.out.trans' hu (fun j hj e=>by omega)⟩
def qw (dH:By) (t:Tm):Tm×Int:=if wf ax t=true then(if((aO t).all fun v=>ax (v.1++dH))=true then(fA (fun n s=>vr (n++dH) s) t,0) else(.mk ah ah [],9)) else(.mk ah ah [],1)
theorem Oy (t:Tm) (v:Value) (dH:By) (w:World) (htab:bT w) (hR:bC (fun k=>k<w.heap.size) w t v) (hsz:t.size<=100000) (hok: ∀f∈fD t,f.1.size+dH.size<=100000):
  Calls Tryz.prog 20 #[v,.string dH] w fun e w'=> ∃r B,e= .returned (.tuple #[tV (qw dH t).1 r,.int .i64 (qw dH t).2])/\aG 24 w' B (qw dH t).1.kids r/\(∀j,B j->w.heap.size<=j/\j<w'.heap.size)/\Ext w w':=by
 have HR:=ae hR;obtain⟨Z,l7⟩: ∃Z,qw dH t=Z:=⟨_,rfl⟩
 rw[l7];have iH:=ae l7;clear l7;obtain⟨a,cap,rfl,hT⟩:=hR;have HF:=ae (fun W (hW:Ext w W)=>xn t _ W (aC htab hW) ((HR.out.ext hW).weaken (fun k hk=>ay hk hW.size)) (by omega));have HV:=ae (fun W (hW:Ext w W)=>qY t _ W (aC htab hW) ((HR.out.ext hW).weaken (fun k hk=>ay hk hW.size)) (by omega));have fB:=ae htab;have dw:=ae hsz;have fK:=ae hok;dsimp only[tV] at HF HV⊢;have hZ:=(((uR w).alloc (tO t a cap)).alloc (.cells #[.string dH] 9)).alloc zO;have hz2:w.heap.size+3<=(((w.alloc (tO t a cap)).alloc (.cells #[.string dH] 9)).alloc zO).heap.size:=by simp
 have H2:=ae (ak (ak (ai w (tO t a cap)) (.cells #[.string dH] 9)) zO);have H3:=ae (ak (alloc_at (w.alloc (tO t a cap)) (.cells #[.string dH] 9) (n:=w.heap.size+1) (by simp)) zO);have H4:=ae (alloc_at ((w.alloc (tO t a cap)).alloc (.cells #[.string dH] 9)) zO (n:=w.heap.size+2) (by simp));obtain⟨x0,x1,x2⟩:=ag H2.out;have HZ:=ae hZ;clear hT htab hsz hok hZ
 go_enter Tryz.func20,Tryz.ntmps20
 go_wp2_with fail
 obtain⟨rc,hrc⟩: ∃n,w.heap.size+2=n:=⟨_,rfl⟩
 obtain⟨sb,hsb⟩: ∃n,w.heap.size+1=n:=⟨_,rfl⟩
 have FD:Hid (w.heap.size+2=rc/\w.heap.size+1=sb):=ae ⟨hrc,hsb⟩;rw[hrc] at H4;rw[hsb] at H3
 try rw[show w.heap.size+1+1=rc from hrc]
 try rw[hrc]
 try rw[hsb]
 generalize (((w.alloc (tO t a cap)).alloc (.cells #[.string dH] 9)).alloc zO)=wa at*;clear hrc hsb;refine(HF.out _ HZ.out).mono ?_;rintro e w3 ⟨rfl,hw3⟩;have aS:=ae (HZ.out.trans hw3);have Ad:=ae (hw3.heap H2.out (fun h=>h));have uw:=ae (hw3.heap H3.out (fun h=>h));have Wy:=ae (hw3.heap H4.out (fun h=>h));clear hw3 x0 x1 x2 H2 H3 H4 HZ HF hz2;cases hwf:wf ax t with
 |false=>
  obtain rfl:Z=(.mk ah ah [],1):=by rw[<-iH.out];unfold qw;rw[hwf];rfl
  clear hwf;obtain⟨d0,d1,d2⟩:=ag Wy.out;have f2:=fun i=>au Wy.out i
  go_wp2_with fail
  have hr3:=aJ Wy.out (.string ⟨#[]⟩) (.string ⟨#[]⟩) (.slice none 0 0);have hu:=aI w3 rc (.string ⟨#[]⟩) (.string ⟨#[]⟩) (.slice none 0 0);obtain⟨e0,e1,e2⟩:=ag hr3;refine bodyPost_ret (v:= .tuple #[.agg #[.string ⟨#[]⟩,.string ⟨#[]⟩,.slice none 0 0],.int .i64 1]) (by simp[results,Tryz.results20,go_sem,e0,e1,e2]) rfl (by first|exact⟨.slice none 0 0,fun _=>False,rfl,aG.nil _ _ _,fun j hj=>hj.elim,aS.out.trans' hu (fun j hj e=>by have:=FD.out;omega)⟩|exact⟨.slice none 0 0,rfl,fun _=>False,aG.nil _ _ _,fun j hj=>hj.elim,aS.out.trans' hu (fun j hj e=>by have:=FD.out;omega)⟩)
 |true=>
  have lH:=ae hwf;have wM:=oU hwf;rw[wM] at HV;have hvl:=mO hwf;have zD:=ae hvl;clear hwf wM hvl;obtain⟨x0,x1,x2⟩:=ag Ad.out
  go_wp2_with fail
  refine(HV.out _ aS.out).mono ?_;rintro e w4 ⟨r1,rfl,hr1,hw4⟩;have bQ:=ae (aS.out.trans hw4);have Ae:=ae (hw4.heap Ad.out (fun h=>h));have uz:=ae (hw4.heap uw.out (fun h=>h));have H44:=ae (hw4.heap Wy.out (fun h=>h));have KI:=ae hr1;obtain⟨p1,c1,hp1⟩:=bU.shape hr1;subst hp1;clear hw4 x0 x1 x2 Ad uw Wy aS HV hr1;obtain⟨VL,DN⟩: ∃L,aO t=L:=⟨_,rfl⟩
  have HVQ:=ae DN;rw[DN] at KI zD⊢;have hlv:VL.length<=100000:=Nat.le_trans zD.out dw.out;clear DN
  go_wp2_with fail
  go_loopg [21] VL.length (fun gk iv wr=> ∃k:Nat,iv= .int .i64 (k:Int)/\gk=VL.length-k/\k<=VL.length/\Hid (Ext w4 wr)/\Hid (∀v∈VL.take k,ax (v.1++dH)=true))
  case atStart=>exact⟨0,rfl,rfl,Nat.zero_le _,ae (aj.refl _ _),ae (fun v hv=>by simp at hv)⟩
  case round=>
   obtain⟨k,rfl,rfl,hk,HE,rZ⟩:=hrel;by_cases hlt:k<VL.length
   .obtain ⟨g,off,hga,hat⟩:=bU.at_ (bU.ext KI.out HE.out) (by omega);subst hga;obtain⟨q0,q1⟩:=hat k hlt;have htk:=EE VL k hlt;have hvm:=xk hlt;obtain⟨v,hv⟩: ∃v,vg VL k=v:=⟨_,rfl⟩
    rw[hv] at q0 q1 htk hvm;obtain⟨nm,so⟩:=v;simp only at q0 q1;obtain⟨z0,z1,z2,z2'⟩:=bz hlt;have mF:=ae htk;have HVM:=ae hvm;have hB:=ai wr (.cells #[.string nm,.string so] 116);have e0:=af hB 0 (.string nm) rfl;have nM:=HE.out.alloc (.cells #[.string nm,.string so] 116);have s0:=af (nM.heap uz.out (fun h=>h)) 0 (.string dH) rfl;have fP:=ae nM;have hl:nm.size+dH.size<=100000:=fK.out (nm,so) (((yM lH.out).2 (nm,so)).1 (by rw[HVQ.out];exact hvm));have um:=ae (uF (nm++dH) (wr.alloc (.cells #[.string nm,.string so] 116)) (aC fB.out (bQ.out.trans nM)));obtain⟨bn,hbn⟩: ∃b,ax (nm++dH)=b:=⟨_,rfl⟩
    rw[hbn] at um;have rD:=ae hbn;clear hat htk hvm hv hB nM hbn
    go_wp2_with fail
    refine um.out.mono ?_;rintro e w6 ⟨rfl,hw6⟩;have eQ:=ae (fP.out.trans hw6);clear hw6 um q0 q1 e0 s0;cases bn with
    |false=>
     have hall:(VL.all fun v=>ax (v.1++dH))=false:=by
      rw[List.all_eq_false];exact⟨(nm,so),HVM.out,by rw[rD.out];simp⟩
     obtain rfl:Z=(.mk ah ah [],9):=by rw[<-iH.out];unfold qw;rw[lH.out,HVQ.out,hall];rfl
     clear hall;have jg:=ae (bQ.out.trans eQ.out);have Oz:=ae (eQ.out.heap H44.out (fun h=>h));obtain⟨d0,d1,d2⟩:=ag Oz.out;have f2:=fun i=>au Oz.out i
     go_wp2_with fail
     have hr3:=aJ Oz.out (.string ⟨#[]⟩) (.string ⟨#[]⟩) (.slice none 0 0);have hu:=aI w6 rc (.string ⟨#[]⟩) (.string ⟨#[]⟩) (.slice none 0 0);obtain⟨e0,e1,e2⟩:=ag hr3;refine bodyPost_ret (v:= .tuple #[.agg #[.string ⟨#[]⟩,.string ⟨#[]⟩,.slice none 0 0],.int .i64 9]) (by simp[results,Tryz.results20,go_sem,e0,e1,e2]) rfl (by first|exact⟨.slice none 0 0,fun _=>False,rfl,aG.nil _ _ _,fun j hj=>hj.elim,jg.out.trans' hu (fun j hj e=>by have:=FD.out;omega)⟩|exact⟨.slice none 0 0,rfl,fun _=>False,aG.nil _ _ _,fun j hj=>hj.elim,jg.out.trans' hu (fun j hj e=>by have:=FD.out;omega)⟩)
    |true=>
     have amy:Hid (∀v∈VL.take (k+1),ax (v.1++dH)=true):=ae (fun v hv=>by
      rw[mF.out,List.mem_append,List.mem_singleton] at hv;rcases hv with hv|hv
      .exact rZ.out v hv
      .rw [hv];exact rD.out)
     go_wp2_with fail
     go_roundg (VL.length- (k+1))
     case measure=>omega
     case rel=>exact⟨k+1,by go_num,rfl,by omega,eQ,amy⟩
   .obtain rfl:k=VL.length:=by omega
    have z2:decide ((VL.length:Int)< (VL.length:Int))=false:=dF (by omega);have hall:(VL.all fun v=>ax (v.1++dH))=true:=by
     rw[List.all_eq_true];have:=rZ.out;rw[List.take_length] at this;exact this
    obtain⟨Q,hQ⟩: ∃Q,fA (fun n s=>vr (n++dH) s) t=Q:=⟨_,rfl⟩
    obtain rfl:Z=(Q,0):=by rw[<-iH.out,<-hQ];unfold qw;rw[lH.out,HVQ.out,hall];rfl
    have dX:=ae (bQ.out.trans HE.out);have Oi:=ae (HE.out.heap Ae.out (fun h=>h));have Ir:=ae (HE.out.heap uz.out (fun h=>h));have H45:=ae (HE.out.heap H44.out (fun h=>h));have yN:=ae (acD dH sb wr (ae (fun W hW=>af (hW.heap Ir.out (fun h=>h)) 0 (.string dH) rfl)) t _ (fun k=>k<wr.heap.size) wr (aj.refl _ _) ((HR.out.ext dX.out).weaken (fun k hk=>ay hk dX.out.size)) (fun k h=>h) dw.out fK.out);dsimp only[tV] at yN;rw[hQ] at yN;obtain⟨x0,x1,x2⟩:=ag Oi.out;clear hall hQ
    go_wp2_with fail
    refine yN.out.mono ?_;rintro e w7 ⟨r7,B7,rfl,DX,hb7,hw7⟩;obtain⟨ya,yc,jB⟩:=aG.shape DX;subst jB;have Ro:=ae DX;have eP:=ae hb7;have jg:=ae (dX.out.trans hw7);have Oz:=ae (hw7.heap H45.out (fun h=>h));have dS:=ae dX.out.size;have Fa:Hid (rc<wr.heap.size):=ae (Array.getElem?_eq_some_iff.1 H45.out).1;clear DX hb7 hw7 yN x0 x1 x2;obtain⟨d0,d1,d2⟩:=ag Oz.out;have f2:=fun i=>au Oz.out i
    go_wp2_with fail
    have hr3:=aJ Oz.out (.string Q.name) (.string Q.sort) (.slice ya Q.kids.length yc);have hu:=aI w7 rc (.string Q.name) (.string Q.sort) (.slice ya Q.kids.length yc);obtain⟨e0,e1,e2⟩:=ag hr3;have h1:=Fa.out;have h2:=dS.out;refine bodyPost_ret (v:= .tuple #[.agg #[.string Q.name,.string Q.sort,.slice ya Q.kids.length yc],.int .i64 0]) (by simp[results,Tryz.results20,go_sem,e0,e1,e2]) rfl (by first|exact⟨.slice ya Q.kids.length yc,B7,rfl,Ro.out.kept hu (fun j hj e=>by have h3:=(eP.out j hj).1;omega),fun j hj=>⟨by have h3:=(eP.out j hj).1;omega,ay (eP.out j hj).2 hu.size⟩,jg.out.trans' hu (fun j hj e=>by have:=FD.out;omega)⟩|exact⟨.slice ya Q.kids.length yc,rfl,B7,Ro.out.kept hu (fun j hj e=>by have h3:=(eP.out j hj).1;omega),fun j hj=>⟨by have h3:=(eP.out j hj).1;omega,ay (eP.out j hj).2 hu.size⟩,jg.out.trans' hu (fun j hj e=>by have:=FD.out;omega)⟩)
theorem Zj {w:World} {b:Nat} {te:TypeId} {u0 u1 u2 u3 u4 u5:Value} (h:w.heap[b]?=some (.cells #[u0,u1,u2,u3,u4,u5] te (0,0))) (v0 v1 v2 v3 v4 v5:Value):((((((((((((w).setCell ⟨b,0,none⟩ (v0))).setCell ⟨b,1,none⟩ (v1))).setCell ⟨b,2,none⟩ (v2))).setCell ⟨b,3,none⟩ (v3))).setCell ⟨b,4,none⟩ (v4))).setCell ⟨b,5,none⟩ (v5)).heap[b]?=some (.cells #[v0,v1,v2,v3,v4,v5] te (0,0)):=by
 have h0:=setBlock h 0 v0;have h1:=setBlock h0 1 v1;have h2:=setBlock h1 2 v2;have h3:=setBlock h2 3 v3;have h4:=setBlock h3 4 v4;have h5:=setBlock h4 5 v5;simpa using h5
theorem acT (w:World) (b:Nat) (v0 v1 v2 v3 v4 v5:Value):aj (fun k=>k=b) w ((((((((((((w).setCell ⟨b,0,none⟩ (v0))).setCell ⟨b,1,none⟩ (v1))).setCell ⟨b,2,none⟩ (v2))).setCell ⟨b,3,none⟩ (v3))).setCell ⟨b,4,none⟩ (v4))).setCell ⟨b,5,none⟩ (v5)):=
 ((((((aj.refl (fun k=>k=b) w).setCell (p:=⟨b,0,none⟩) (.inl rfl) _).setCell (p:=⟨b,1,none⟩) (.inl rfl) _).setCell (p:=⟨b,2,none⟩) (.inl rfl) _).setCell (p:=⟨b,3,none⟩) (.inl rfl) _).setCell (p:=⟨b,4,none⟩) (.inl rfl) _).setCell (p:=⟨b,5,none⟩) (.inl rfl) _
theorem O5 (x y:Tm) (xa ya:Option Addr) (xc yc:Nat) (dH:By) (w:World) (htab:bT w) (h1:aA (fun k=>k<w.heap.size) w x.kids (.slice xa x.kids.length xc)) (h2:aA (fun k=>k<w.heap.size) w y.kids (.slice ya y.kids.length yc)) (hsx:x.size<=100000) (hsy:y.size<=100000) (hox: ∀f∈fD x,f.1.size+dH.size<=100000) (hoy: ∀f∈fD y,f.1.size+dH.size<=100000) (p q:Tm) (hp:qw dH x=(p,0)) (hq:qw dH y=(q,0)):
  Calls Tryz.prog 162 #[.agg #[.string x.name,.string x.sort,.slice xa x.kids.length xc,.string y.name,.string y.sort,.slice ya y.kids.length yc],.string dH] w fun e w'=> ∃pa pc qa qc B B2,e= .returned (.tuple #[.agg #[.string p.name,.string p.sort,.slice pa p.kids.length pc,.string q.name,.string q.sort,.slice qa q.kids.length qc],.int .i64 0])/\aG 24 w' B p.kids (.slice pa p.kids.length pc)/\aG 24 w' B2 q.kids (.slice qa q.kids.length qc)/\(∀j,B j->w.heap.size<=j/\j<w'.heap.size)/\(∀j,B2 j->w.heap.size<=j/\j<w'.heap.size)/\Ext w w':=by
 have HR1:=ae (fun W (hW:Ext w W)=>Oy x (tV x (.slice xa x.kids.length xc)) dH W (aC htab hW) ⟨xa,xc,rfl,(h1.ext hW).weaken (fun k hk=>ay hk hW.size)⟩ hsx hox);have HR2:=ae (fun W (hW:Ext w W)=>Oy y (tV y (.slice ya y.kids.length yc)) dH W (aC htab hW) ⟨ya,yc,rfl,(h2.ext hW).weaken (fun k hk=>ay hk hW.size)⟩ hsy hoy);rw[hp] at HR1;rw[hq] at HR2;dsimp only[tV] at HR1 HR2;have hE:=((uR w).alloc (.cells #[.string x.name,.string x.sort,.slice xa x.kids.length xc,.string y.name,.string y.sort,.slice ya y.kids.length yc] 146)).alloc (.cells #[.string ⟨#[]⟩,.string ⟨#[]⟩,.slice none 0 0,.string ⟨#[]⟩,.string ⟨#[]⟩,.slice none 0 0] 146);have HE:=ae hE;have HB0:=ae (ak (ai w (.cells #[.string x.name,.string x.sort,.slice xa x.kids.length xc,.string y.name,.string y.sort,.slice ya y.kids.length yc] 146)) (.cells #[.string ⟨#[]⟩,.string ⟨#[]⟩,.slice none 0 0,.string ⟨#[]⟩,.string ⟨#[]⟩,.slice none 0 0] 146));have HB1:=ae (alloc_at (w.alloc (.cells #[.string x.name,.string x.sort,.slice xa x.kids.length xc,.string y.name,.string y.sort,.slice ya y.kids.length yc] 146)) (.cells #[.string ⟨#[]⟩,.string ⟨#[]⟩,.slice none 0 0,.string ⟨#[]⟩,.string ⟨#[]⟩,.slice none 0 0] 146) (n:=w.heap.size+1) (by simp));have hz:w.heap.size+2<=((w.alloc (.cells #[.string x.name,.string x.sort,.slice xa x.kids.length xc,.string y.name,.string y.sort,.slice ya y.kids.length yc] 146)).alloc (.cells #[.string ⟨#[]⟩,.string ⟨#[]⟩,.slice none 0 0,.string ⟨#[]⟩,.string ⟨#[]⟩,.slice none 0 0] 146)).heap.size:=by simp
 have HS:=ae hz;obtain⟨x0,x1,x2,x3,x4,x5⟩:=eG HB0.out;clear hE hz h1 h2 htab hsx hsy hox hoy hp hq
 go_enter Tryz.func162,Tryz.ntmps162
 go_wp2_with fail
 generalize ((w.alloc (.cells #[.string x.name,.string x.sort,.slice xa x.kids.length xc,.string y.name,.string y.sort,.slice ya y.kids.length yc] 146)).alloc (.cells #[.string ⟨#[]⟩,.string ⟨#[]⟩,.slice none 0 0,.string ⟨#[]⟩,.string ⟨#[]⟩,.slice none 0 0] 146))=w1 at*;refine(HR1.out _ HE.out).mono ?_;rintro e w3 ⟨r,B,rfl,IL,IM,hw3⟩;obtain⟨pa,pc,hr⟩:=aG.shape IL;subst hr;have hX:=hw3.alloc (tO p pa pc);have aS:=ae (HE.out.trans hX);have wo:=ae (hX.heap HB0.out (fun h=>h));have jS:=ae (hX.heap HB1.out (fun h=>h));have gz:=ae (ai w3 (tO p pa pc));have HT3:=ae (IL.kept ((uR w3).alloc (tO p pa pc)) (fun _ _ h=>h));have Wq:Hid (∀j,B j->w.heap.size+2<=j/\j< (w3.alloc (tO p pa pc)).heap.size):=ae (fun j hj=>⟨Nat.le_trans HS.out (IM j hj).1,ay (IM j hj).2 ((uR w3).alloc (tO p pa pc)).size⟩);have gV:Hid (w.heap.size+2<=w3.heap.size):=ae (Nat.le_trans HS.out hw3.size);clear IL IM hw3 hX HR1 HE HB0 HB1 HS x0 x1 x2 x3 x4 x5;dsimp only;obtain⟨nb,hnb⟩: ∃n,w3.heap.size=n:=⟨_,rfl⟩
 rw[hnb] at gz gV;obtain⟨x0,x1,x2,x3,x4,x5⟩:=eG wo.out
 go_wp2_with fail
 try rw[hnb]
 generalize w3.alloc (tO p pa pc)=w4 at*;clear hnb;refine(HR2.out _ aS.out).mono ?_;rintro e w5 ⟨r,B2,rfl,IP,IQ,hw5⟩;obtain⟨qa,qc,hr⟩:=aG.shape IP;subst hr;have hX:=hw5.alloc (tO q qa qc);have dX:=ae (aS.out.trans hX);have jm:=ae (hX.heap jS.out (fun h=>h));have HN5:=ae (hX.heap gz.out (fun h=>h));have HM5:=ae (ai w5 (tO q qa qc));have HTP:=ae (HT3.out.kept hX (fun _ _ h=>h));have HTQ:=ae (IP.kept ((uR w5).alloc (tO q qa qc)) (fun _ _ h=>h));have Zk:Hid (∀j,B j->w.heap.size+2<=j/\j< (w5.alloc (tO q qa qc)).heap.size):=ae (fun j hj=>⟨(Wq.out j hj).1,ay (Wq.out j hj).2 hX.size⟩);have Zl:Hid (∀j,B2 j->w.heap.size+2<=j/\j< (w5.alloc (tO q qa qc)).heap.size):=ae (fun j hj=>⟨by have h1:=(IQ j hj).1;have h2:=gV.out;have h3:=(Array.getElem?_eq_some_iff.1 gz.out).1;omega,ay (IQ j hj).2 ((uR w5).alloc (tO q qa qc)).size⟩);clear IP IQ hw5 hX HR2 aS wo jS gz HT3 Wq x0 x1 x2 x3 x4 x5;dsimp only;obtain⟨nb5,Gy⟩: ∃n,w5.heap.size=n:=⟨_,rfl⟩
 rw[Gy] at HM5;obtain⟨k0,k1,k2⟩:=ag HN5.out;obtain⟨m0,m1,m2⟩:=ag HM5.out;obtain⟨d0,d1,d2,d3,d4,d5⟩:=eG jm.out;have f2:=fun i=>au jm.out i
 go_wp2_with fail
 try rw[Gy]
 generalize w5.alloc (tO q qa qc)=w6 at*;clear Gy;have hr6:=Zj jm.out (.string p.name) (.string p.sort) (.slice pa p.kids.length pc) (.string q.name) (.string q.sort) (.slice qa q.kids.length qc);have hu:=acT w6 (w.heap.size+1) (.string p.name) (.string p.sort) (.slice pa p.kids.length pc) (.string q.name) (.string q.sort) (.slice qa q.kids.length qc);obtain⟨e0,e1,e2,e3,e4,e5⟩:=eG hr6;refine bodyPost_ret (v:= .tuple #[.agg #[.string p.name,.string p.sort,.slice pa p.kids.length pc,.string q.name,.string q.sort,.slice qa q.kids.length qc],.int .i64 0]) (by simp[results,Tryz.results162,go_sem,e0,e1,e2,e3,e4,e5]) rfl ?_;exact⟨pa,pc,qa,qc,B,B2,rfl,HTP.out.kept hu (fun j hj e=>by have:=(Zk.out j hj).1;omega),HTQ.out.kept hu (fun j hj e=>by have:=(Zl.out j hj).1;omega),fun j hj=>⟨by have:=(Zk.out j hj).1;omega,ay (Zk.out j hj).2 hu.size⟩,fun j hj=>⟨by have:=(Zl.out j hj).1;omega,ay (Zl.out j hj).2 hu.size⟩,dX.out.trans' hu (fun j hj e=>by omega)⟩
end
theorem jU {W:World} {z:Nat} {t:TypeId} {v0 v1 v2:Value} (h:W.heap[z]?=some (.cells #[v0,v1,v2] t (0,0))) (u0 u1 u2:Value):(((W.setCell ⟨z,0,none⟩ u0).setCell ⟨z,1,none⟩ u1).setCell ⟨z,2,none⟩ u2).heap[z]?=some (.cells #[u0,u1,u2] t (0,0)):=by
 have:=setBlock (setBlock (setBlock h 0 u0) 1 u1) 2 u2;simpa using this
theorem gq (W:World) (z:Nat) (u0 u1 u2:Value):aj (fun k=>k=z) W (((W.setCell ⟨z,0,none⟩ u0).setCell ⟨z,1,none⟩ u1).setCell ⟨z,2,none⟩ u2):=
 (((aj.refl (fun k=>k=z) W).setCell (p:=⟨z,0,none⟩) (.inl rfl) u0).setCell (p:=⟨z,1,none⟩) (.inl rfl) u1).setCell (p:=⟨z,2,none⟩) (.inl rfl) u2
end Go.Proofs.YtlkcjmaiahnodaaGreatDoor
