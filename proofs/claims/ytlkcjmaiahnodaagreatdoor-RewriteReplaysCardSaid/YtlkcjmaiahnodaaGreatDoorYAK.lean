/- The texts N17 N18 N70 N20 N21 N22 N23 N71 I44 I45 I46, one behind the other. -/
import Derived.Test.YtlkcjmaiahnodaaGreatDoorYAJ
import Derived.Test.YtlkcjmaiahnodaaGreatDoorYAD
import Derived.Deep.DeepCutAuto
import Derived.Test.YtlkcjmaiahnodaaGreatDoorYAH
import Derived.Test.YtlkcjmaiahnodaaGreatDoorYAE
set_option linter.unusedVariables false
set_option linter.unusedSimpArgs false
set_option maxRecDepth 100000
set_option maxHeartbeats 8000000
namespace Go.Proofs.YtlkcjmaiahnodaaGreatDoor
open Go.RowKit Go.Hw Go Tm
section
open Go.Sort Go.Proofs Go.ChangeMaps
theorem adB {W W':World} {v:Value} {L:List Bd} (h:gQ (fun k=>k<W.heap.size) (fun k=>k<W.heap.size) W v L) (hE:Ext W W'):gQ (fun k=>k<W'.heap.size) (fun k=>k<W'.heap.size) W' v L:=(h.ext hE).weaken (fun k hk=>ax hk hE.size) (fun k hk=>ax hk hE.size)
abbrev yN:Tm:=(.mk ⟨#[112,108,117,115]⟩ ah [(.mk ⟨#[122,101,114,111]⟩ ah []),(.mk ⟨#[78,95,49]⟩ ⟨#[110,97,116]⟩ [])])
abbrev AB:Tm:=(.mk ⟨#[112,108,117,115]⟩ ah [(.mk ⟨#[115]⟩ ah [(.mk ⟨#[78,95,50]⟩ ⟨#[110,97,116]⟩ [])]),(.mk ⟨#[77,95,50]⟩ ⟨#[110,97,116]⟩ [])])
def Jl:List Nr:=[⟨⟨#[112,108,117,115]⟩,ah,[2,3]⟩,⟨⟨#[112,108,117,115]⟩,ah,[4,5]⟩,⟨⟨#[122,101,114,111]⟩,ah,[]⟩,⟨⟨#[78,95,49]⟩,⟨#[110,97,116]⟩,[]⟩,⟨⟨#[115]⟩,ah,[6]⟩,⟨⟨#[77,95,50]⟩,⟨#[110,97,116]⟩,[]⟩,⟨⟨#[78,95,50]⟩,⟨#[110,97,116]⟩,[]⟩]
def TF:List Vd:=aO yN++aO AB
def yO (r0 ga gb ik:Nat):Nat->Nat×Nat
 |0=>(r0,0)
 |1=>(r0+1,0)
 |2=>(ga,0)
 |3=>(ga,3)
 |4=>(gb,0)
 |5=>(gb,3)
 |6=>(ik,0)
 |_=>(0,0)
theorem agQ:TF=[(⟨#[78,95,49]⟩,⟨#[110,97,116]⟩),(⟨#[77,95,50]⟩,⟨#[110,97,116]⟩),(⟨#[78,95,50]⟩,⟨#[110,97,116]⟩)]:=by decide+kernel
theorem aeN:(wf aB yN&&wf aB AB)=true:=by decide+kernel
theorem Yf:(match nM Jl 20 TF with|some none=>true|_=>false)=true:=by decide+kernel
theorem agR (W:World) (htab:cO W) (B1 B2:Nat->Prop) (va vb:Value) (h1:aG 24 W B1 yN.kids va) (h2:aG 24 W B2 AB.kids vb) (hd: ∀k,B1 k->¬B2 k) (l1: ∀k,B1 k->k<W.heap.size) (l2: ∀k,B2 k->k<W.heap.size):
  Calls Tryz.prog 17 #[tV yN va,tV AB vb] W fun e w'=>e= .returned (.tuple #[.slice none 0 0,.int .i64 12])/\Ext W w':=by
 obtain⟨ga,ca,ua,Ba,ea,pa,ba,qa,ka,na,_⟩:=aG.tC h1 (by decide);obtain⟨xa0,ya0,OB⟩:=aG.shape (ka 0 (by decide));obtain⟨xa1,ya1,ea1⟩:=aG.shape (ka 1 (by decide));obtain⟨gb,cb,ub,Bb,eb,pb,bb,qb,kb,nb,_⟩:=aG.tC h2 (by decide);obtain⟨QG,yb1,Ik⟩:=aG.shape (kb 1 (by decide));obtain⟨ik,cb0,ub0,Bb0,Eb,OC,bb0,qb0,um,nb0,_⟩:=aG.tC (kb 0 (by decide)) (by decide);obtain⟨Yg,Yh,Gg⟩:=aG.shape (um 0 (by decide));subst ea eb;have za:ga<W.heap.size:=l1 _ (ba);have zb:gb<W.heap.size:=l2 _ (bb);have zb0:ik<W.heap.size:=l2 _ ((nb 0 _ (by decide) bb0).1);have dab:ga≠gb:=fun e=>hd _ (ba) (e▸(bb));have aeU:ga≠ik:=fun e=>hd _ (ba) (e▸((nb 0 _ (by decide) bb0).1));have Yi:gb≠ik:=fun e=>(nb 0 _ (by decide) bb0).2 e.symm;have hvs:aO yN++aO AB=[(⟨#[78,95,49]⟩,⟨#[110,97,116]⟩),(⟨#[77,95,50]⟩,⟨#[110,97,116]⟩),(⟨#[78,95,50]⟩,⟨#[110,97,116]⟩)]:=agQ;have hw:=aeN;rw[Bool.and_eq_true] at hw;have hN: ∀W',Ext W W'->W'.heap[W.heap.size]?=some (.cells #[.string yN.name,.string yN.sort,.slice (some ⟨ga,0,none⟩) yN.kids.length ca] 24 (0,0))->W'.heap[W.heap.size+1]?=some (.cells #[.string AB.name,.string AB.sort,.slice (some ⟨gb,0,none⟩) AB.kids.length cb] 24 (0,0))->Du Jl (yO W.heap.size ga gb ik) (fun k=>k=W.heap.size\/k=W.heap.size+1\/k=ga\/k=gb\/k=ik) W':=fun W' hW ha hb=>by
  refine⟨fun i j hi hj e=>?_,fun i hi=>?_,fun i r hr=>?_⟩
  .have hi':i<7:=hi;have hj':j<7:=hj;rcases(by omega:i=0\/i=1\/i=2\/i=3\/i=4\/i=5\/i=6) with rfl|rfl|rfl|rfl|rfl|rfl|rfl<;>rcases(by omega:j=0\/j=1\/j=2\/j=3\/j=4\/j=5\/j=6) with rfl|rfl|rfl|rfl|rfl|rfl|rfl<;>first|rfl|(simp only[yO,Prod.mk.injEq] at e;omega)
  .have hi':i<7:=hi;rcases(by omega:i=0\/i=1\/i=2\/i=3\/i=4\/i=5\/i=6) with rfl|rfl|rfl|rfl|rfl|rfl|rfl
   .exact ⟨⟨_,_,ha⟩,by simp[yO]⟩
   .exact ⟨⟨_,_,hb⟩,by simp[yO]⟩
   .exact ⟨pa.ext hW,by simp[yO]⟩
   .exact ⟨pa.ext hW,by simp[yO]⟩
   .exact ⟨pb.ext hW,by simp[yO]⟩
   .exact ⟨pb.ext hW,by simp[yO]⟩
   .exact ⟨OC.ext hW,by simp[yO]⟩
  .have hi':i<7:=(List.getElem?_eq_some_iff.1 hr).1;rcases(by omega:i=0\/i=1\/i=2\/i=3\/i=4\/i=5\/i=6) with rfl|rfl|rfl|rfl|rfl|rfl|rfl<;>(injection hr with hr;subst hr)
   .refine ⟨ag ha 0 _ rfl,ag ha 1 _ rfl,_,_,ag ha 2 _ rfl,fun _=>⟨ga,0,rfl,fun j q hq=>?_⟩⟩;have hj:j<2:=(List.getElem?_eq_some_iff.1 hq).1;rcases(by omega:j=0\/j=1) with rfl|rfl<;>(injection hq with hq;subst hq;exact⟨by decide,rfl⟩)
   .refine ⟨ag hb 0 _ rfl,ag hb 1 _ rfl,_,_,ag hb 2 _ rfl,fun _=>⟨gb,0,rfl,fun j q hq=>?_⟩⟩;have hj:j<2:=(List.getElem?_eq_some_iff.1 hq).1;rcases(by omega:j=0\/j=1) with rfl|rfl<;>(injection hq with hq;subst hq;exact⟨by decide,rfl⟩)
   .refine ⟨hW.cell (qa 0 (by decide)).1 (fun h=>h),hW.cell (qa 0 (by decide)).2.1 (fun h=>h),_,_,hW.cell ((qa 0 (by decide)).2.2.trans (congrArg some OB)) (fun h=>h),fun h=>absurd h (by decide)⟩
   .refine ⟨hW.cell (qa 1 (by decide)).1 (fun h=>h),hW.cell (qa 1 (by decide)).2.1 (fun h=>h),_,_,hW.cell ((qa 1 (by decide)).2.2.trans (congrArg some ea1)) (fun h=>h),fun h=>absurd h (by decide)⟩
   .refine ⟨hW.cell (qb 0 (by decide)).1 (fun h=>h),hW.cell (qb 0 (by decide)).2.1 (fun h=>h),_,_,hW.cell ((qb 0 (by decide)).2.2.trans (congrArg some Eb)) (fun h=>h),fun _=>⟨ik,0,rfl,fun j q hq=>?_⟩⟩;have hj:j<1:=(List.getElem?_eq_some_iff.1 hq).1;rcases(by omega:j=0) with rfl<;>(injection hq with hq;subst hq;exact⟨by decide,rfl⟩)
   .refine ⟨hW.cell (qb 1 (by decide)).1 (fun h=>h),hW.cell (qb 1 (by decide)).2.1 (fun h=>h),_,_,hW.cell ((qb 1 (by decide)).2.2.trans (congrArg some Ik)) (fun h=>h),fun h=>absurd h (by decide)⟩
   .refine ⟨hW.cell (qb0 0 (by decide)).1 (fun h=>h),hW.cell (qb0 0 (by decide)).2.1 (fun h=>h),_,_,hW.cell ((qb0 0 (by decide)).2.2.trans (congrArg some Gg)) (fun h=>h),fun h=>absurd h (by decide)⟩
 have hno:=Yf;have hu:nM Jl 20 TF=some none:=by
  cases hq:nM Jl 20 TF with
  |none=>rw[hq] at hno;cases hno
  |some R=>
   cases R with
   |none=>rfl
   |some st=>rw[hq] at hno;cases hno
 have hx:=wO (T:=Jl) (ad:=yO W.heap.size ga gb ik) (S:=(fun k=>k=W.heap.size\/k=W.heap.size+1\/k=ga\/k=gb\/k=ik)) 20 yN AB (some ⟨ga,0,none⟩) (some ⟨gb,0,none⟩) ca cb W htab
  ⟨_,_,rfl,(aG.read h1).weaken l1⟩ ⟨_,_,rfl,(aG.read h2).weaken l2⟩ (by decide) (by decide) hw.1 hw.2
  (by rw[hvs];decide) (by rw[hvs];decide) rfl rfl hN
  (by rintro k (h|h|h|h|h)<;>omega)
  (fun i r hr=>(by decide: ∀r∈Jl,r.ks.length<=1000000) r (List.mem_of_getElem? hr)) none hu (fun _=>default) (fun st e=>by cases e)
 refine hx.mono ?_;rintro e w' ⟨hres,hE⟩;rcases hres with⟨_,h⟩|⟨h,_⟩
 .exact ⟨h,hE⟩
 .exact absurd rfl h
abbrev Ec:Tm:=(.mk ⟨#[122,101,114,111]⟩ ah [])
abbrev AL:Tm:=(.mk ⟨#[112,108,117,115]⟩ ah [(.mk ⟨#[122,101,114,111]⟩ ah []),(.mk ⟨#[78,95,50]⟩ ⟨#[110,97,116]⟩ [])])
def Jm:List Nr:=[⟨⟨#[122,101,114,111]⟩,ah,[]⟩,⟨⟨#[112,108,117,115]⟩,ah,[2,3]⟩,⟨⟨#[122,101,114,111]⟩,ah,[]⟩,⟨⟨#[78,95,50]⟩,⟨#[110,97,116]⟩,[]⟩]
def TG:List Vd:=aO Ec++aO AL
def Gh (r0 gb:Nat):Nat->Nat×Nat
 |0=>(r0,0)
 |1=>(r0+1,0)
 |2=>(gb,0)
 |3=>(gb,3)
 |_=>(0,0)
theorem agS:TG=[(⟨#[78,95,50]⟩,⟨#[110,97,116]⟩)]:=by decide+kernel
theorem aeV:(wf aB Ec&&wf aB AL)=true:=by decide+kernel
theorem Yj:(match nM Jm 20 TG with|some none=>true|_=>false)=true:=by decide+kernel
theorem agT (W:World) (htab:cO W) (B1 B2:Nat->Prop) (va vb:Value) (h1:aG 24 W B1 Ec.kids va) (h2:aG 24 W B2 AL.kids vb) (hd: ∀k,B1 k->¬B2 k) (l1: ∀k,B1 k->k<W.heap.size) (l2: ∀k,B2 k->k<W.heap.size):
  Calls Tryz.prog 17 #[tV Ec va,tV AL vb] W fun e w'=>e= .returned (.tuple #[.slice none 0 0,.int .i64 12])/\Ext W w':=by
 obtain⟨xa,ya,ea⟩:=aG.shape h1;obtain⟨gb,cb,ub,Bb,eb,pb,bb,qb,kb,nb,_⟩:=aG.tC h2 (by decide);obtain⟨xb0,yb0,Eb⟩:=aG.shape (kb 0 (by decide));obtain⟨QG,yb1,Ik⟩:=aG.shape (kb 1 (by decide));subst ea eb;have zb:gb<W.heap.size:=l2 _ (bb);have hvs:aO Ec++aO AL=[(⟨#[78,95,50]⟩,⟨#[110,97,116]⟩)]:=agS;have hw:=aeV;rw[Bool.and_eq_true] at hw;have hN: ∀W',Ext W W'->W'.heap[W.heap.size]?=some (tO Ec xa ya)->W'.heap[W.heap.size+1]?=some (.cells #[.string AL.name,.string AL.sort,.slice (some ⟨gb,0,none⟩) AL.kids.length cb] 24 (0,0))->Du Jm (Gh W.heap.size gb) (fun k=>k=W.heap.size\/k=W.heap.size+1\/k=gb) W':=fun W' hW ha hb=>by
  refine⟨fun i j hi hj e=>?_,fun i hi=>?_,fun i r hr=>?_⟩
  .have hi':i<4:=hi;have hj':j<4:=hj;rcases(by omega:i=0\/i=1\/i=2\/i=3) with rfl|rfl|rfl|rfl<;>rcases(by omega:j=0\/j=1\/j=2\/j=3) with rfl|rfl|rfl|rfl<;>first|rfl|(simp only[Gh,Prod.mk.injEq] at e;omega)
  .have hi':i<4:=hi;rcases(by omega:i=0\/i=1\/i=2\/i=3) with rfl|rfl|rfl|rfl
   .exact ⟨⟨_,_,ha⟩,by simp[Gh]⟩
   .exact ⟨⟨_,_,hb⟩,by simp[Gh]⟩
   .exact ⟨pb.ext hW,by simp[Gh]⟩
   .exact ⟨pb.ext hW,by simp[Gh]⟩
  .have hi':i<4:=(List.getElem?_eq_some_iff.1 hr).1;rcases(by omega:i=0\/i=1\/i=2\/i=3) with rfl|rfl|rfl|rfl<;>(injection hr with hr;subst hr)
   .refine ⟨ag ha 0 _ rfl,ag ha 1 _ rfl,_,_,ag ha 2 _ rfl,fun h=>absurd h (by decide)⟩
   .refine ⟨ag hb 0 _ rfl,ag hb 1 _ rfl,_,_,ag hb 2 _ rfl,fun _=>⟨gb,0,rfl,fun j q hq=>?_⟩⟩;have hj:j<2:=(List.getElem?_eq_some_iff.1 hq).1;rcases(by omega:j=0\/j=1) with rfl|rfl<;>(injection hq with hq;subst hq;exact⟨by decide,rfl⟩)
   .refine ⟨hW.cell (qb 0 (by decide)).1 (fun h=>h),hW.cell (qb 0 (by decide)).2.1 (fun h=>h),_,_,hW.cell ((qb 0 (by decide)).2.2.trans (congrArg some Eb)) (fun h=>h),fun h=>absurd h (by decide)⟩
   .refine ⟨hW.cell (qb 1 (by decide)).1 (fun h=>h),hW.cell (qb 1 (by decide)).2.1 (fun h=>h),_,_,hW.cell ((qb 1 (by decide)).2.2.trans (congrArg some Ik)) (fun h=>h),fun h=>absurd h (by decide)⟩
 have hno:=Yj;have hu:nM Jm 20 TG=some none:=by
  cases hq:nM Jm 20 TG with
  |none=>rw[hq] at hno;cases hno
  |some R=>
   cases R with
   |none=>rfl
   |some st=>rw[hq] at hno;cases hno
 have hx:=wO (T:=Jm) (ad:=Gh W.heap.size gb) (S:=(fun k=>k=W.heap.size\/k=W.heap.size+1\/k=gb)) 20 Ec AL xa (some ⟨gb,0,none⟩) ya cb W htab
  ⟨_,_,rfl,(aG.read h1).weaken l1⟩ ⟨_,_,rfl,(aG.read h2).weaken l2⟩ (by decide) (by decide) hw.1 hw.2
  (by rw[hvs];decide) (by rw[hvs];decide) rfl rfl hN
  (by rintro k (h|h|h)<;>omega)
  (fun i r hr=>(by decide: ∀r∈Jm,r.ks.length<=1000000) r (List.mem_of_getElem? hr)) none hu (fun _=>default) (fun st e=>by cases e)
 refine hx.mono ?_;rintro e w' ⟨hres,hE⟩;rcases hres with⟨_,h⟩|⟨h,_⟩
 .exact ⟨h,hE⟩
 .exact absurd rfl h
abbrev Ed:Tm:=(.mk ⟨#[122,101,114,111]⟩ ah [])
abbrev AO:Tm:=(.mk ⟨#[112,108,117,115]⟩ ah [(.mk ⟨#[115]⟩ ah [(.mk ⟨#[78,95,50]⟩ ⟨#[110,97,116]⟩ [])]),(.mk ⟨#[77,95,50]⟩ ⟨#[110,97,116]⟩ [])])
def Jn:List Nr:=[⟨⟨#[122,101,114,111]⟩,ah,[]⟩,⟨⟨#[112,108,117,115]⟩,ah,[2,3]⟩,⟨⟨#[115]⟩,ah,[4]⟩,⟨⟨#[77,95,50]⟩,⟨#[110,97,116]⟩,[]⟩,⟨⟨#[78,95,50]⟩,⟨#[110,97,116]⟩,[]⟩]
def TI:List Vd:=aO Ed++aO AO
def Ee (r0 gb ik:Nat):Nat->Nat×Nat
 |0=>(r0,0)
 |1=>(r0+1,0)
 |2=>(gb,0)
 |3=>(gb,3)
 |4=>(ik,0)
 |_=>(0,0)
theorem agU:TI=[(⟨#[77,95,50]⟩,⟨#[110,97,116]⟩),(⟨#[78,95,50]⟩,⟨#[110,97,116]⟩)]:=by decide+kernel
theorem aeW:(wf aB Ed&&wf aB AO)=true:=by decide+kernel
theorem Yk:(match nM Jn 20 TI with|some none=>true|_=>false)=true:=by decide+kernel
theorem agV (W:World) (htab:cO W) (B1 B2:Nat->Prop) (va vb:Value) (h1:aG 24 W B1 Ed.kids va) (h2:aG 24 W B2 AO.kids vb) (hd: ∀k,B1 k->¬B2 k) (l1: ∀k,B1 k->k<W.heap.size) (l2: ∀k,B2 k->k<W.heap.size):
  Calls Tryz.prog 17 #[tV Ed va,tV AO vb] W fun e w'=>e= .returned (.tuple #[.slice none 0 0,.int .i64 12])/\Ext W w':=by
 obtain⟨xa,ya,ea⟩:=aG.shape h1;obtain⟨gb,cb,ub,Bb,eb,pb,bb,qb,kb,nb,_⟩:=aG.tC h2 (by decide);obtain⟨QG,yb1,Ik⟩:=aG.shape (kb 1 (by decide));obtain⟨ik,cb0,ub0,Bb0,Eb,OC,bb0,qb0,um,nb0,_⟩:=aG.tC (kb 0 (by decide)) (by decide);obtain⟨Yg,Yh,Gg⟩:=aG.shape (um 0 (by decide));subst ea eb;have zb:gb<W.heap.size:=l2 _ (bb);have zb0:ik<W.heap.size:=l2 _ ((nb 0 _ (by decide) bb0).1);have Yi:gb≠ik:=fun e=>(nb 0 _ (by decide) bb0).2 e.symm;have hvs:aO Ed++aO AO=[(⟨#[77,95,50]⟩,⟨#[110,97,116]⟩),(⟨#[78,95,50]⟩,⟨#[110,97,116]⟩)]:=agU;have hw:=aeW;rw[Bool.and_eq_true] at hw;have hN: ∀W',Ext W W'->W'.heap[W.heap.size]?=some (tO Ed xa ya)->W'.heap[W.heap.size+1]?=some (.cells #[.string AO.name,.string AO.sort,.slice (some ⟨gb,0,none⟩) AO.kids.length cb] 24 (0,0))->Du Jn (Ee W.heap.size gb ik) (fun k=>k=W.heap.size\/k=W.heap.size+1\/k=gb\/k=ik) W':=fun W' hW ha hb=>by
  refine⟨fun i j hi hj e=>?_,fun i hi=>?_,fun i r hr=>?_⟩
  .have hi':i<5:=hi;have hj':j<5:=hj;rcases(by omega:i=0\/i=1\/i=2\/i=3\/i=4) with rfl|rfl|rfl|rfl|rfl<;>rcases(by omega:j=0\/j=1\/j=2\/j=3\/j=4) with rfl|rfl|rfl|rfl|rfl<;>first|rfl|(simp only[Ee,Prod.mk.injEq] at e;omega)
  .have hi':i<5:=hi;rcases(by omega:i=0\/i=1\/i=2\/i=3\/i=4) with rfl|rfl|rfl|rfl|rfl
   .exact ⟨⟨_,_,ha⟩,by simp[Ee]⟩
   .exact ⟨⟨_,_,hb⟩,by simp[Ee]⟩
   .exact ⟨pb.ext hW,by simp[Ee]⟩
   .exact ⟨pb.ext hW,by simp[Ee]⟩
   .exact ⟨OC.ext hW,by simp[Ee]⟩
  .have hi':i<5:=(List.getElem?_eq_some_iff.1 hr).1;rcases(by omega:i=0\/i=1\/i=2\/i=3\/i=4) with rfl|rfl|rfl|rfl|rfl<;>(injection hr with hr;subst hr)
   .refine ⟨ag ha 0 _ rfl,ag ha 1 _ rfl,_,_,ag ha 2 _ rfl,fun h=>absurd h (by decide)⟩
   .refine ⟨ag hb 0 _ rfl,ag hb 1 _ rfl,_,_,ag hb 2 _ rfl,fun _=>⟨gb,0,rfl,fun j q hq=>?_⟩⟩;have hj:j<2:=(List.getElem?_eq_some_iff.1 hq).1;rcases(by omega:j=0\/j=1) with rfl|rfl<;>(injection hq with hq;subst hq;exact⟨by decide,rfl⟩)
   .refine ⟨hW.cell (qb 0 (by decide)).1 (fun h=>h),hW.cell (qb 0 (by decide)).2.1 (fun h=>h),_,_,hW.cell ((qb 0 (by decide)).2.2.trans (congrArg some Eb)) (fun h=>h),fun _=>⟨ik,0,rfl,fun j q hq=>?_⟩⟩;have hj:j<1:=(List.getElem?_eq_some_iff.1 hq).1;rcases(by omega:j=0) with rfl<;>(injection hq with hq;subst hq;exact⟨by decide,rfl⟩)
   .refine ⟨hW.cell (qb 1 (by decide)).1 (fun h=>h),hW.cell (qb 1 (by decide)).2.1 (fun h=>h),_,_,hW.cell ((qb 1 (by decide)).2.2.trans (congrArg some Ik)) (fun h=>h),fun h=>absurd h (by decide)⟩
   .refine ⟨hW.cell (qb0 0 (by decide)).1 (fun h=>h),hW.cell (qb0 0 (by decide)).2.1 (fun h=>h),_,_,hW.cell ((qb0 0 (by decide)).2.2.trans (congrArg some Gg)) (fun h=>h),fun h=>absurd h (by decide)⟩
 have hno:=Yk;have hu:nM Jn 20 TI=some none:=by
  cases hq:nM Jn 20 TI with
  |none=>rw[hq] at hno;cases hno
  |some R=>
   cases R with
   |none=>rfl
   |some st=>rw[hq] at hno;cases hno
 have hx:=wO (T:=Jn) (ad:=Ee W.heap.size gb ik) (S:=(fun k=>k=W.heap.size\/k=W.heap.size+1\/k=gb\/k=ik)) 20 Ed AO xa (some ⟨gb,0,none⟩) ya cb W htab
  ⟨_,_,rfl,(aG.read h1).weaken l1⟩ ⟨_,_,rfl,(aG.read h2).weaken l2⟩ (by decide) (by decide) hw.1 hw.2
  (by rw[hvs];decide) (by rw[hvs];decide) rfl rfl hN
  (by rintro k (h|h|h|h)<;>omega)
  (fun i r hr=>(by decide: ∀r∈Jn,r.ks.length<=1000000) r (List.mem_of_getElem? hr)) none hu (fun _=>default) (fun st e=>by cases e)
 refine hx.mono ?_;rintro e w' ⟨hres,hE⟩;rcases hres with⟨_,h⟩|⟨h,_⟩
 .exact ⟨h,hE⟩
 .exact absurd rfl h
abbrev yP:Tm:=(.mk ⟨#[115]⟩ ah [(.mk ⟨#[78,95,49]⟩ ⟨#[110,97,116]⟩ [])])
abbrev AP:Tm:=(.mk ⟨#[112,108,117,115]⟩ ah [(.mk ⟨#[122,101,114,111]⟩ ah []),(.mk ⟨#[78,95,50]⟩ ⟨#[110,97,116]⟩ [])])
def Jo:List Nr:=[⟨⟨#[115]⟩,ah,[2]⟩,⟨⟨#[112,108,117,115]⟩,ah,[3,4]⟩,⟨⟨#[78,95,49]⟩,⟨#[110,97,116]⟩,[]⟩,⟨⟨#[122,101,114,111]⟩,ah,[]⟩,⟨⟨#[78,95,50]⟩,⟨#[110,97,116]⟩,[]⟩]
def TJ:List Vd:=aO yP++aO AP
def Ef (r0 ga gb:Nat):Nat->Nat×Nat
 |0=>(r0,0)
 |1=>(r0+1,0)
 |2=>(ga,0)
 |3=>(gb,0)
 |4=>(gb,3)
 |_=>(0,0)
theorem agW:TJ=[(⟨#[78,95,49]⟩,⟨#[110,97,116]⟩),(⟨#[78,95,50]⟩,⟨#[110,97,116]⟩)]:=by decide+kernel
theorem aeX:(wf aB yP&&wf aB AP)=true:=by decide+kernel
theorem Yl:(match nM Jo 20 TJ with|some none=>true|_=>false)=true:=by decide+kernel
theorem agX (W:World) (htab:cO W) (B1 B2:Nat->Prop) (va vb:Value) (h1:aG 24 W B1 yP.kids va) (h2:aG 24 W B2 AP.kids vb) (hd: ∀k,B1 k->¬B2 k) (l1: ∀k,B1 k->k<W.heap.size) (l2: ∀k,B2 k->k<W.heap.size):
  Calls Tryz.prog 17 #[tV yP va,tV AP vb] W fun e w'=>e= .returned (.tuple #[.slice none 0 0,.int .i64 12])/\Ext W w':=by
 obtain⟨ga,ca,ua,Ba,ea,pa,ba,qa,ka,na,_⟩:=aG.tC h1 (by decide);obtain⟨xa0,ya0,OB⟩:=aG.shape (ka 0 (by decide));obtain⟨gb,cb,ub,Bb,eb,pb,bb,qb,kb,nb,_⟩:=aG.tC h2 (by decide);obtain⟨xb0,yb0,Eb⟩:=aG.shape (kb 0 (by decide));obtain⟨QG,yb1,Ik⟩:=aG.shape (kb 1 (by decide));subst ea eb;have za:ga<W.heap.size:=l1 _ (ba);have zb:gb<W.heap.size:=l2 _ (bb);have dab:ga≠gb:=fun e=>hd _ (ba) (e▸(bb));have hvs:aO yP++aO AP=[(⟨#[78,95,49]⟩,⟨#[110,97,116]⟩),(⟨#[78,95,50]⟩,⟨#[110,97,116]⟩)]:=agW;have hw:=aeX;rw[Bool.and_eq_true] at hw;have hN: ∀W',Ext W W'->W'.heap[W.heap.size]?=some (.cells #[.string yP.name,.string yP.sort,.slice (some ⟨ga,0,none⟩) yP.kids.length ca] 24 (0,0))->W'.heap[W.heap.size+1]?=some (.cells #[.string AP.name,.string AP.sort,.slice (some ⟨gb,0,none⟩) AP.kids.length cb] 24 (0,0))->Du Jo (Ef W.heap.size ga gb) (fun k=>k=W.heap.size\/k=W.heap.size+1\/k=ga\/k=gb) W':=fun W' hW ha hb=>by
  refine⟨fun i j hi hj e=>?_,fun i hi=>?_,fun i r hr=>?_⟩
  .have hi':i<5:=hi;have hj':j<5:=hj;rcases(by omega:i=0\/i=1\/i=2\/i=3\/i=4) with rfl|rfl|rfl|rfl|rfl<;>rcases(by omega:j=0\/j=1\/j=2\/j=3\/j=4) with rfl|rfl|rfl|rfl|rfl<;>first|rfl|(simp only[Ef,Prod.mk.injEq] at e;omega)
  .have hi':i<5:=hi;rcases(by omega:i=0\/i=1\/i=2\/i=3\/i=4) with rfl|rfl|rfl|rfl|rfl
   .exact ⟨⟨_,_,ha⟩,by simp[Ef]⟩
   .exact ⟨⟨_,_,hb⟩,by simp[Ef]⟩
   .exact ⟨pa.ext hW,by simp[Ef]⟩
   .exact ⟨pb.ext hW,by simp[Ef]⟩
   .exact ⟨pb.ext hW,by simp[Ef]⟩
  .have hi':i<5:=(List.getElem?_eq_some_iff.1 hr).1;rcases(by omega:i=0\/i=1\/i=2\/i=3\/i=4) with rfl|rfl|rfl|rfl|rfl<;>(injection hr with hr;subst hr)
   .refine ⟨ag ha 0 _ rfl,ag ha 1 _ rfl,_,_,ag ha 2 _ rfl,fun _=>⟨ga,0,rfl,fun j q hq=>?_⟩⟩;have hj:j<1:=(List.getElem?_eq_some_iff.1 hq).1;rcases(by omega:j=0) with rfl<;>(injection hq with hq;subst hq;exact⟨by decide,rfl⟩)
   .refine ⟨ag hb 0 _ rfl,ag hb 1 _ rfl,_,_,ag hb 2 _ rfl,fun _=>⟨gb,0,rfl,fun j q hq=>?_⟩⟩;have hj:j<2:=(List.getElem?_eq_some_iff.1 hq).1;rcases(by omega:j=0\/j=1) with rfl|rfl<;>(injection hq with hq;subst hq;exact⟨by decide,rfl⟩)
   .refine ⟨hW.cell (qa 0 (by decide)).1 (fun h=>h),hW.cell (qa 0 (by decide)).2.1 (fun h=>h),_,_,hW.cell ((qa 0 (by decide)).2.2.trans (congrArg some OB)) (fun h=>h),fun h=>absurd h (by decide)⟩
   .refine ⟨hW.cell (qb 0 (by decide)).1 (fun h=>h),hW.cell (qb 0 (by decide)).2.1 (fun h=>h),_,_,hW.cell ((qb 0 (by decide)).2.2.trans (congrArg some Eb)) (fun h=>h),fun h=>absurd h (by decide)⟩
   .refine ⟨hW.cell (qb 1 (by decide)).1 (fun h=>h),hW.cell (qb 1 (by decide)).2.1 (fun h=>h),_,_,hW.cell ((qb 1 (by decide)).2.2.trans (congrArg some Ik)) (fun h=>h),fun h=>absurd h (by decide)⟩
 have hno:=Yl;have hu:nM Jo 20 TJ=some none:=by
  cases hq:nM Jo 20 TJ with
  |none=>rw[hq] at hno;cases hno
  |some R=>
   cases R with
   |none=>rfl
   |some st=>rw[hq] at hno;cases hno
 have hx:=wO (T:=Jo) (ad:=Ef W.heap.size ga gb) (S:=(fun k=>k=W.heap.size\/k=W.heap.size+1\/k=ga\/k=gb)) 20 yP AP (some ⟨ga,0,none⟩) (some ⟨gb,0,none⟩) ca cb W htab
  ⟨_,_,rfl,(aG.read h1).weaken l1⟩ ⟨_,_,rfl,(aG.read h2).weaken l2⟩ (by decide) (by decide) hw.1 hw.2
  (by rw[hvs];decide) (by rw[hvs];decide) rfl rfl hN
  (by rintro k (h|h|h|h)<;>omega)
  (fun i r hr=>(by decide: ∀r∈Jo,r.ks.length<=1000000) r (List.mem_of_getElem? hr)) none hu (fun _=>default) (fun st e=>by cases e)
 refine hx.mono ?_;rintro e w' ⟨hres,hE⟩;rcases hres with⟨_,h⟩|⟨h,_⟩
 .exact ⟨h,hE⟩
 .exact absurd rfl h
abbrev yQ:Tm:=(.mk ⟨#[115]⟩ ah [(.mk ⟨#[78,95,49]⟩ ⟨#[110,97,116]⟩ [])])
abbrev AQ:Tm:=(.mk ⟨#[112,108,117,115]⟩ ah [(.mk ⟨#[115]⟩ ah [(.mk ⟨#[78,95,50]⟩ ⟨#[110,97,116]⟩ [])]),(.mk ⟨#[77,95,50]⟩ ⟨#[110,97,116]⟩ [])])
def Jp:List Nr:=[⟨⟨#[115]⟩,ah,[2]⟩,⟨⟨#[112,108,117,115]⟩,ah,[3,4]⟩,⟨⟨#[78,95,49]⟩,⟨#[110,97,116]⟩,[]⟩,⟨⟨#[115]⟩,ah,[5]⟩,⟨⟨#[77,95,50]⟩,⟨#[110,97,116]⟩,[]⟩,⟨⟨#[78,95,50]⟩,⟨#[110,97,116]⟩,[]⟩]
def TK:List Vd:=aO yQ++aO AQ
def AU (r0 ga gb ik:Nat):Nat->Nat×Nat
 |0=>(r0,0)
 |1=>(r0+1,0)
 |2=>(ga,0)
 |3=>(gb,0)
 |4=>(gb,3)
 |5=>(ik,0)
 |_=>(0,0)
theorem agY:TK=[(⟨#[78,95,49]⟩,⟨#[110,97,116]⟩),(⟨#[77,95,50]⟩,⟨#[110,97,116]⟩),(⟨#[78,95,50]⟩,⟨#[110,97,116]⟩)]:=by decide+kernel
theorem aeY:(wf aB yQ&&wf aB AQ)=true:=by decide+kernel
theorem Ym:(match nM Jp 20 TK with|some none=>true|_=>false)=true:=by decide+kernel
theorem agZ (W:World) (htab:cO W) (B1 B2:Nat->Prop) (va vb:Value) (h1:aG 24 W B1 yQ.kids va) (h2:aG 24 W B2 AQ.kids vb) (hd: ∀k,B1 k->¬B2 k) (l1: ∀k,B1 k->k<W.heap.size) (l2: ∀k,B2 k->k<W.heap.size):
  Calls Tryz.prog 17 #[tV yQ va,tV AQ vb] W fun e w'=>e= .returned (.tuple #[.slice none 0 0,.int .i64 12])/\Ext W w':=by
 obtain⟨ga,ca,ua,Ba,ea,pa,ba,qa,ka,na,_⟩:=aG.tC h1 (by decide);obtain⟨xa0,ya0,OB⟩:=aG.shape (ka 0 (by decide));obtain⟨gb,cb,ub,Bb,eb,pb,bb,qb,kb,nb,_⟩:=aG.tC h2 (by decide);obtain⟨QG,yb1,Ik⟩:=aG.shape (kb 1 (by decide));obtain⟨ik,cb0,ub0,Bb0,Eb,OC,bb0,qb0,um,nb0,_⟩:=aG.tC (kb 0 (by decide)) (by decide);obtain⟨Yg,Yh,Gg⟩:=aG.shape (um 0 (by decide));subst ea eb;have za:ga<W.heap.size:=l1 _ (ba);have zb:gb<W.heap.size:=l2 _ (bb);have zb0:ik<W.heap.size:=l2 _ ((nb 0 _ (by decide) bb0).1);have dab:ga≠gb:=fun e=>hd _ (ba) (e▸(bb));have aeU:ga≠ik:=fun e=>hd _ (ba) (e▸((nb 0 _ (by decide) bb0).1));have Yi:gb≠ik:=fun e=>(nb 0 _ (by decide) bb0).2 e.symm;have hvs:aO yQ++aO AQ=[(⟨#[78,95,49]⟩,⟨#[110,97,116]⟩),(⟨#[77,95,50]⟩,⟨#[110,97,116]⟩),(⟨#[78,95,50]⟩,⟨#[110,97,116]⟩)]:=agY;have hw:=aeY;rw[Bool.and_eq_true] at hw;have hN: ∀W',Ext W W'->W'.heap[W.heap.size]?=some (.cells #[.string yQ.name,.string yQ.sort,.slice (some ⟨ga,0,none⟩) yQ.kids.length ca] 24 (0,0))->W'.heap[W.heap.size+1]?=some (.cells #[.string AQ.name,.string AQ.sort,.slice (some ⟨gb,0,none⟩) AQ.kids.length cb] 24 (0,0))->Du Jp (AU W.heap.size ga gb ik) (fun k=>k=W.heap.size\/k=W.heap.size+1\/k=ga\/k=gb\/k=ik) W':=fun W' hW ha hb=>by
  refine⟨fun i j hi hj e=>?_,fun i hi=>?_,fun i r hr=>?_⟩
  .have hi':i<6:=hi;have hj':j<6:=hj;rcases(by omega:i=0\/i=1\/i=2\/i=3\/i=4\/i=5) with rfl|rfl|rfl|rfl|rfl|rfl<;>rcases(by omega:j=0\/j=1\/j=2\/j=3\/j=4\/j=5) with rfl|rfl|rfl|rfl|rfl|rfl<;>first|rfl|(simp only[AU,Prod.mk.injEq] at e;omega)
  .have hi':i<6:=hi;rcases(by omega:i=0\/i=1\/i=2\/i=3\/i=4\/i=5) with rfl|rfl|rfl|rfl|rfl|rfl
   .exact ⟨⟨_,_,ha⟩,by simp[AU]⟩
   .exact ⟨⟨_,_,hb⟩,by simp[AU]⟩
   .exact ⟨pa.ext hW,by simp[AU]⟩
   .exact ⟨pb.ext hW,by simp[AU]⟩
   .exact ⟨pb.ext hW,by simp[AU]⟩
   .exact ⟨OC.ext hW,by simp[AU]⟩
  .have hi':i<6:=(List.getElem?_eq_some_iff.1 hr).1;rcases(by omega:i=0\/i=1\/i=2\/i=3\/i=4\/i=5) with rfl|rfl|rfl|rfl|rfl|rfl<;>(injection hr with hr;subst hr)
   .refine ⟨ag ha 0 _ rfl,ag ha 1 _ rfl,_,_,ag ha 2 _ rfl,fun _=>⟨ga,0,rfl,fun j q hq=>?_⟩⟩;have hj:j<1:=(List.getElem?_eq_some_iff.1 hq).1;rcases(by omega:j=0) with rfl<;>(injection hq with hq;subst hq;exact⟨by decide,rfl⟩)
   .refine ⟨ag hb 0 _ rfl,ag hb 1 _ rfl,_,_,ag hb 2 _ rfl,fun _=>⟨gb,0,rfl,fun j q hq=>?_⟩⟩;have hj:j<2:=(List.getElem?_eq_some_iff.1 hq).1;rcases(by omega:j=0\/j=1) with rfl|rfl<;>(injection hq with hq;subst hq;exact⟨by decide,rfl⟩)
   .refine ⟨hW.cell (qa 0 (by decide)).1 (fun h=>h),hW.cell (qa 0 (by decide)).2.1 (fun h=>h),_,_,hW.cell ((qa 0 (by decide)).2.2.trans (congrArg some OB)) (fun h=>h),fun h=>absurd h (by decide)⟩
   .refine ⟨hW.cell (qb 0 (by decide)).1 (fun h=>h),hW.cell (qb 0 (by decide)).2.1 (fun h=>h),_,_,hW.cell ((qb 0 (by decide)).2.2.trans (congrArg some Eb)) (fun h=>h),fun _=>⟨ik,0,rfl,fun j q hq=>?_⟩⟩;have hj:j<1:=(List.getElem?_eq_some_iff.1 hq).1;rcases(by omega:j=0) with rfl<;>(injection hq with hq;subst hq;exact⟨by decide,rfl⟩)
   .refine ⟨hW.cell (qb 1 (by decide)).1 (fun h=>h),hW.cell (qb 1 (by decide)).2.1 (fun h=>h),_,_,hW.cell ((qb 1 (by decide)).2.2.trans (congrArg some Ik)) (fun h=>h),fun h=>absurd h (by decide)⟩
   .refine ⟨hW.cell (qb0 0 (by decide)).1 (fun h=>h),hW.cell (qb0 0 (by decide)).2.1 (fun h=>h),_,_,hW.cell ((qb0 0 (by decide)).2.2.trans (congrArg some Gg)) (fun h=>h),fun h=>absurd h (by decide)⟩
 have hno:=Ym;have hu:nM Jp 20 TK=some none:=by
  cases hq:nM Jp 20 TK with
  |none=>rw[hq] at hno;cases hno
  |some R=>
   cases R with
   |none=>rfl
   |some st=>rw[hq] at hno;cases hno
 have hx:=wO (T:=Jp) (ad:=AU W.heap.size ga gb ik) (S:=(fun k=>k=W.heap.size\/k=W.heap.size+1\/k=ga\/k=gb\/k=ik)) 20 yQ AQ (some ⟨ga,0,none⟩) (some ⟨gb,0,none⟩) ca cb W htab
  ⟨_,_,rfl,(aG.read h1).weaken l1⟩ ⟨_,_,rfl,(aG.read h2).weaken l2⟩ (by decide) (by decide) hw.1 hw.2
  (by rw[hvs];decide) (by rw[hvs];decide) rfl rfl hN
  (by rintro k (h|h|h|h|h)<;>omega)
  (fun i r hr=>(by decide: ∀r∈Jp,r.ks.length<=1000000) r (List.mem_of_getElem? hr)) none hu (fun _=>default) (fun st e=>by cases e)
 refine hx.mono ?_;rintro e w' ⟨hres,hE⟩;rcases hres with⟨_,h⟩|⟨h,_⟩
 .exact ⟨h,hE⟩
 .exact absurd rfl h
abbrev yR:Tm:=(.mk ⟨#[102]⟩ ah [(.mk ⟨#[88,95,49]⟩ ⟨#[97]⟩ [])])
abbrev AV:Tm:=(.mk ⟨#[102]⟩ ah [(.mk ⟨#[102]⟩ ah [(.mk ⟨#[88,95,50]⟩ ⟨#[97]⟩ [])])])
def Jq:List Nr:=[⟨⟨#[102]⟩,ah,[2]⟩,⟨⟨#[102]⟩,ah,[3]⟩,⟨⟨#[88,95,49]⟩,⟨#[97]⟩,[]⟩,⟨⟨#[102]⟩,ah,[4]⟩,⟨⟨#[88,95,50]⟩,⟨#[97]⟩,[]⟩]
def TL:List Vd:=aO yR++aO AV
def Eg (r0 ga gb ik:Nat):Nat->Nat×Nat
 |0=>(r0,0)
 |1=>(r0+1,0)
 |2=>(ga,0)
 |3=>(gb,0)
 |4=>(ik,0)
 |_=>(0,0)
theorem ag0:TL=[(⟨#[88,95,49]⟩,⟨#[97]⟩),(⟨#[88,95,50]⟩,⟨#[97]⟩)]:=by decide+kernel
theorem aeZ:(wf aB yR&&wf aB AV)=true:=by decide+kernel
def Lr (v:Vd):Tm:=if v.1=⟨#[88,95,49]⟩ then(.mk ⟨#[102]⟩ ah [(.mk ⟨#[88,95,50]⟩ ⟨#[97]⟩ [])]) else(.mk ⟨#[88,95,50]⟩ ⟨#[97]⟩ [])
def OD:List Bd:=[(⟨#[88,95,49]⟩,⟨#[97]⟩,(.mk ⟨#[102]⟩ ah [(.mk ⟨#[88,95,50]⟩ ⟨#[97]⟩ [])]))]
theorem ae0:((nM Jq 20 TL).bind id).any (fun st=>ZF Jq 20 TL Lr st)=true:=by decide+kernel
theorem ag1 (W:World) (htab:cO W) (B1 B2:Nat->Prop) (va vb:Value) (h1:aG 24 W B1 yR.kids va) (h2:aG 24 W B2 AV.kids vb) (hd: ∀k,B1 k->¬B2 k) (l1: ∀k,B1 k->k<W.heap.size) (l2: ∀k,B2 k->k<W.heap.size):
  Calls Tryz.prog 17 #[tV yR va,tV AV vb] W fun e w'=> ∃ra rc,e= .returned (.tuple #[.slice ra 1 rc,.int .i64 0])/\gQ (fun k=>W.heap.size<=k/\k<w'.heap.size) (fun k=>W.heap.size<=k/\k<w'.heap.size) w' (.slice ra 1 rc) OD/\Ext W w':=by
 obtain⟨ga,ca,ua,Ba,ea,pa,ba,qa,ka,na,_⟩:=aG.tC h1 (by decide);obtain⟨xa0,ya0,OB⟩:=aG.shape (ka 0 (by decide));obtain⟨gb,cb,ub,Bb,eb,pb,bb,qb,kb,nb,_⟩:=aG.tC h2 (by decide);obtain⟨ik,cb0,ub0,Bb0,Eb,OC,bb0,qb0,um,nb0,_⟩:=aG.tC (kb 0 (by decide)) (by decide);obtain⟨Yg,Yh,Gg⟩:=aG.shape (um 0 (by decide));subst ea eb;have za:ga<W.heap.size:=l1 _ (ba);have zb:gb<W.heap.size:=l2 _ (bb);have zb0:ik<W.heap.size:=l2 _ ((nb 0 _ (by decide) bb0).1);have dab:ga≠gb:=fun e=>hd _ (ba) (e▸(bb));have aeU:ga≠ik:=fun e=>hd _ (ba) (e▸((nb 0 _ (by decide) bb0).1));have Yi:gb≠ik:=fun e=>(nb 0 _ (by decide) bb0).2 e.symm;have hvs:aO yR++aO AV=[(⟨#[88,95,49]⟩,⟨#[97]⟩),(⟨#[88,95,50]⟩,⟨#[97]⟩)]:=ag0;have hw:=aeZ;rw[Bool.and_eq_true] at hw;have hN: ∀W',Ext W W'->W'.heap[W.heap.size]?=some (.cells #[.string yR.name,.string yR.sort,.slice (some ⟨ga,0,none⟩) yR.kids.length ca] 24 (0,0))->W'.heap[W.heap.size+1]?=some (.cells #[.string AV.name,.string AV.sort,.slice (some ⟨gb,0,none⟩) AV.kids.length cb] 24 (0,0))->Du Jq (Eg W.heap.size ga gb ik) (fun k=>k=W.heap.size\/k=W.heap.size+1\/k=ga\/k=gb\/k=ik) W':=fun W' hW ha hb=>by
  refine⟨fun i j hi hj e=>?_,fun i hi=>?_,fun i r hr=>?_⟩
  .have hi':i<5:=hi;have hj':j<5:=hj;rcases(by omega:i=0\/i=1\/i=2\/i=3\/i=4) with rfl|rfl|rfl|rfl|rfl<;>rcases(by omega:j=0\/j=1\/j=2\/j=3\/j=4) with rfl|rfl|rfl|rfl|rfl<;>first|rfl|(simp only[Eg,Prod.mk.injEq] at e;omega)
  .have hi':i<5:=hi;rcases(by omega:i=0\/i=1\/i=2\/i=3\/i=4) with rfl|rfl|rfl|rfl|rfl
   .exact ⟨⟨_,_,ha⟩,by simp[Eg]⟩
   .exact ⟨⟨_,_,hb⟩,by simp[Eg]⟩
   .exact ⟨pa.ext hW,by simp[Eg]⟩
   .exact ⟨pb.ext hW,by simp[Eg]⟩
   .exact ⟨OC.ext hW,by simp[Eg]⟩
  .have hi':i<5:=(List.getElem?_eq_some_iff.1 hr).1;rcases(by omega:i=0\/i=1\/i=2\/i=3\/i=4) with rfl|rfl|rfl|rfl|rfl<;>(injection hr with hr;subst hr)
   .refine ⟨ag ha 0 _ rfl,ag ha 1 _ rfl,_,_,ag ha 2 _ rfl,fun _=>⟨ga,0,rfl,fun j q hq=>?_⟩⟩;have hj:j<1:=(List.getElem?_eq_some_iff.1 hq).1;rcases(by omega:j=0) with rfl<;>(injection hq with hq;subst hq;exact⟨by decide,rfl⟩)
   .refine ⟨ag hb 0 _ rfl,ag hb 1 _ rfl,_,_,ag hb 2 _ rfl,fun _=>⟨gb,0,rfl,fun j q hq=>?_⟩⟩;have hj:j<1:=(List.getElem?_eq_some_iff.1 hq).1;rcases(by omega:j=0) with rfl<;>(injection hq with hq;subst hq;exact⟨by decide,rfl⟩)
   .refine ⟨hW.cell (qa 0 (by decide)).1 (fun h=>h),hW.cell (qa 0 (by decide)).2.1 (fun h=>h),_,_,hW.cell ((qa 0 (by decide)).2.2.trans (congrArg some OB)) (fun h=>h),fun h=>absurd h (by decide)⟩
   .refine ⟨hW.cell (qb 0 (by decide)).1 (fun h=>h),hW.cell (qb 0 (by decide)).2.1 (fun h=>h),_,_,hW.cell ((qb 0 (by decide)).2.2.trans (congrArg some Eb)) (fun h=>h),fun _=>⟨ik,0,rfl,fun j q hq=>?_⟩⟩;have hj:j<1:=(List.getElem?_eq_some_iff.1 hq).1;rcases(by omega:j=0) with rfl<;>(injection hq with hq;subst hq;exact⟨by decide,rfl⟩)
   .refine ⟨hW.cell (qb0 0 (by decide)).1 (fun h=>h),hW.cell (qb0 0 (by decide)).2.1 (fun h=>h),_,_,hW.cell ((qb0 0 (by decide)).2.2.trans (congrArg some Gg)) (fun h=>h),fun h=>absurd h (by decide)⟩
 have hok:=ae0;cases hu:nM Jq 20 TL with
 |none=>rw[hu] at hok;cases hok
 |some R=>
 rw[hu] at hok;have hR0:R≠none:=fun e=>by rw[e] at hok;cases hok
 have hx:=wO (T:=Jq) (ad:=Eg W.heap.size ga gb ik) (S:=(fun k=>k=W.heap.size\/k=W.heap.size+1\/k=ga\/k=gb\/k=ik)) 20 yR AV (some ⟨ga,0,none⟩) (some ⟨gb,0,none⟩) ca cb W htab
  ⟨_,_,rfl,(aG.read h1).weaken l1⟩ ⟨_,_,rfl,(aG.read h2).weaken l2⟩ (by decide) (by decide) hw.1 hw.2
  (by rw[hvs];decide) (by rw[hvs];decide) rfl rfl hN
  (by rintro k (h|h|h|h|h)<;>omega)
  (fun i r hr=>(by decide: ∀r∈Jq,r.ks.length<=1000000) r (List.mem_of_getElem? hr)) R hu Lr (fun st e=>SY (by rw[e] at hok;exact hok))
 refine hx.mono ?_;rintro e w' ⟨hres,hE⟩;rcases hres with⟨h,_⟩|⟨_,r,L,rfl,hbn,hasc,hmem⟩
 .exact absurd h hR0
 rw[hvs] at hmem;have tx:Lr (⟨#[88,95,49]⟩,⟨#[97]⟩)=(.mk ⟨#[102]⟩ ah [(.mk ⟨#[88,95,50]⟩ ⟨#[97]⟩ [])]):=if_pos rfl;have ty:Lr (⟨#[88,95,50]⟩,⟨#[97]⟩)=(.mk ⟨#[88,95,50]⟩ ⟨#[97]⟩ []):=if_neg (by decide);have hL:L=OD:=FU Prod.fst hasc (by unfold OD AscK;decide) (fun f=>by
  rw[hmem f];constructor
  .rintro ⟨⟨v,hv,e⟩,hs⟩;simp only[List.mem_cons,List.not_mem_nil,or_false] at hv;rcases hv with e2|e2<;>subst e2<;>subst e
   .exact List.mem_cons.2 (.inl (by rw[tx]))
   .exact absurd hs (by rw[ty];decide)
  .intro hf;unfold OD at hf;simp only[List.mem_cons,List.not_mem_nil,or_false] at hf;subst hf;exact⟨⟨(⟨#[88,95,49]⟩,⟨#[97]⟩),by simp,by rw[tx]⟩,by decide⟩)
 subst hL;obtain⟨ra,rc,rfl⟩:=hbn.shape;exact⟨ra,rc,rfl,hbn,hE⟩
theorem adD (nm so dK:By) (a:Option Addr) (n cap sb:Nat) (w:World) (hs:w.cell? ⟨sb,0,none⟩=some (.string dK)) (hl:nm.size+dK.size<=100000):Calls Tryz.prog 81 #[.agg #[.string nm,.string so,.slice a n cap],.pointer (some ⟨sb,0,none⟩)] w fun e w'=>e= .returned (.agg #[.string (nm++dK),.string so,.slice none 0 0])/\Ext w w':=by
 have hs2:=(((uR w).alloc (.cells #[.string nm,.string so,.slice a n cap] 24)).alloc zO).cell hs (fun h=>h);have HX:=ae (((uR w).alloc (.cells #[.string nm,.string so,.slice a n cap] 24)).alloc (.cells #[.string (nm++dK),.string so,.slice none 0 0] 24))
 go_enter Tryz.func81,Tryz.ntmps81
 go_wp2_with fail
 have hb:=alloc_at (w.alloc (.cells #[.string nm,.string so,.slice a n cap] 24)) (.cells #[.string (nm++dK),.string so,.slice none 0 0] 24) (n:=w.heap.size+1) (by simp);obtain⟨e0,e1,e2⟩:=af hb;exact bodyPost_ret (v:= .agg #[.string (nm++dK),.string so,.slice none 0 0]) (by simp[results,Tryz.results81,go_sem,e0,e1,e2]) rfl ⟨rfl,HX.out⟩
theorem aa6 (dK:By) (sb:Nat) (w0:World) (vZ:Hid (∀W,Ext w0 W->W.cell? ⟨sb,0,none⟩=some (.string dK))): ∀(t:Tm) (v:Value) (S:Nat->Prop) (w:World),Ext w0 w->bG S w t v->(∀k,S k->k<w.heap.size)->t.size<=100000->(∀f∈cu t,f.1.size+dK.size<=100000)->
  Calls Tryz.prog 80 #[v,.func (.func 81) #[] #[.pointer (some ⟨sb,0,none⟩)]] w fun e w'=> ∃r B,e= .returned (tV (gu (fun n s=>vr (n++dK) s) t) r)/\aG 24 w' B (gu (fun n s=>vr (n++dK) s) t).kids r/\(∀j,B j->w.heap.size<=j/\j<w'.heap.size)/\Ext w w':=by
 refine Tm.ind (fun n s L ih=>?_);intro v S w hw0 hT hS hsz hok;obtain⟨Z,jA⟩: ∃Z,gu (fun n s=>vr (n++dK) s) (.mk n s L)=Z:=⟨_,rfl⟩
 rw[jA];have gY:=ae jA;clear jA;obtain⟨a,cap,rfl,hT⟩:=hT;dsimp only[tV,Tm.name,Tm.sort,Tm.kids] at hT⊢;have cZ:=ae hT;have HIH:=ae ih;have gm:=ae hS;have HW0:=ae hw0;have jO:=ae hok;have fB:sizes L+1<=100000:=by rw[size_eq] at hsz;simp only[Tm.kids] at hsz;omega
 have kK:=ae fB;have jW:L.length<=100000:=by have h1:=aX L;omega
 have pq:=ae (fun W=>lJ n s a L.length cap W);have hZ:=((uR w).alloc (.cells #[.string n,.string s,.slice a L.length cap] 24)).alloc zO;have HB2:=ae (ak (aj w (.cells #[.string n,.string s,.slice a L.length cap] 24)) zO);have HB3:=ae (alloc_at (w.alloc (.cells #[.string n,.string s,.slice a L.length cap] 24)) zO (n:=w.heap.size+1) (by simp));have hz2:w.heap.size+2<=((w.alloc (.cells #[.string n,.string s,.slice a L.length cap] 24)).alloc zO).heap.size:=by simp
 obtain⟨x0,x1,x2⟩:=af HB2.out;have HZ:=ae hZ;have HZ2:=ae hz2;clear ih hT hS hsz fB hZ hz2 hw0 hok;by_cases hs0:s=ah
 rotate_left
 .rw [dF hs0] at pq;obtain rfl:Z=vr (n++dK) s:=by rw[<-gY.out];exact nU _ hs0 L
  have DD:=ae (jO.out (n,s) (lN hs0 L));clear hs0
  go_enter Tryz.func80,Tryz.ntmps80
  go_wp2_with fail
  refine(pq.out _).mono ?_;rintro e w3 ⟨rfl,hw3⟩;have aT:=ae (HZ.out.trans hw3);have eP:Hid (w.heap.size+2<=w3.heap.size):=ae (Nat.le_trans HZ2.out hw3.size);have fG:=ae (hw3.heap HB2.out (fun h=>h));have uD:=ae (hw3.heap HB3.out (fun h=>h));clear hw3 pq x0 x1 x2;obtain⟨x0,x1,x2⟩:=af fG.out
  go_wp2_with fail
  refine(adD n s dK a L.length cap sb w3 (vZ.out _ (HW0.out.trans aT.out)) DD.out).mono ?_;rintro e w6 ⟨rfl,hw6⟩;have oH:=ae (Dp (vr (n++dK) s) (tV (vr (n++dK) s) (.slice none 0 0)) (fun k=>k<w6.heap.size) w6 ⟨none,0,rfl,ay.nil _ _⟩ (fun k h=>h) (by show 1<=100000;decide));dsimp only[tV,Tm.name,Tm.sort] at oH⊢;have dS:=ae (aT.out.trans hw6);have qP:=ae (hw6.heap uD.out (fun h=>h));have uS:Hid (w.heap.size+2<=w6.heap.size):=ae (Nat.le_trans eP.out hw6.size);clear hw6 x0 x1 x2
  go_wp2_with fail
  refine oH.out.mono ?_;rintro e w7 ⟨r7,B7,rfl,xw,hb7,hw7⟩;obtain⟨ya,yc,iO⟩:=aG.shape xw;subst iO;have Fq:=ae xw;have dZ:=ae hb7;have ig:=ae (dS.out.trans hw7);have pO:=ae (hw7.heap qP.out (fun h=>h));obtain⟨d0,d1,d2⟩:=af pO.out;have f2:=fun i=>ai pO.out i;dsimp only[tV]
  try dsimp only[Tm.name,Tm.sort,Tm.kids,List.length_nil]
  clear xw hb7 hw7 oH
  go_wp2_with fail
  have hr3:=aF pO.out (.string (n++dK)) (.string s) (.slice ya 0 yc);have hu:=aC w7 (w.heap.size+1) (.string (n++dK)) (.string s) (.slice ya 0 yc);obtain⟨e0,e1,e2⟩:=af hr3;have hs6:=uS.out;refine bodyPost_ret (v:= .agg #[.string (n++dK),.string s,.slice ya 0 yc]) (by simp[results,Tryz.results80,go_sem,e0,e1,e2]) rfl ⟨.slice ya 0 yc,B7,rfl,Fq.out.kept hu (fun j hj e=>by have h1:=(dZ.out j hj).1;omega),fun j hj=>⟨by have h1:=(dZ.out j hj).1;omega,ax (dZ.out j hj).2 hu.size⟩,ig.out.trans' hu (fun j hj e=>by omega)⟩
 rw[dT hs0] at pq;obtain rfl:Z= .mk n ah (L.map (gu (fun n s=>vr (n++dK) s))):=by rw[<-gY.out,hs0];exact rD _ n L
 have NG:Hid (∀x∈L,∀f∈cu x,f.1.size+dK.size<=100000):=ae (fun x hx f hf=>jO.out f (by
  rw[hs0,sU];exact List.mem_flatMap.2 ⟨x,hx,hf⟩))
 clear hs0
 go_enter Tryz.func80,Tryz.ntmps80
 go_wp2_with fail
 refine(pq.out _).mono ?_;rintro e w3 ⟨rfl,hw3⟩;have aT:=ae (HZ.out.trans hw3);have fG:=ae (hw3.heap HB2.out (fun h=>h));have uD:=ae (hw3.heap HB3.out (fun h=>h));have eP:Hid (w.heap.size+2<=w3.heap.size):=ae (Nat.le_trans HZ2.out hw3.size);clear hw3 pq x0 x1 x2;have vW:=ae ((uR w3).alloc (.cells #[.string n,.string ⟨#[]⟩,.slice none 0 0] 24));have dQ:=ae (ak fG.out (.cells #[.string n,.string ⟨#[]⟩,.slice none 0 0] 24));have pR:=ae (ak uD.out (.cells #[.string n,.string ⟨#[]⟩,.slice none 0 0] 24));have uF:=ae (aj w3 (.cells #[.string n,.string ⟨#[]⟩,.slice none 0 0] 24));have eY:Hid (w3.heap.size+1<=(w3.alloc (.cells #[.string n,.string ⟨#[]⟩,.slice none 0 0] 24)).heap.size):=ae (by simp);obtain⟨x0,x1,x2⟩:=af fG.out;obtain⟨u0,u1,u2⟩:=af dQ.out
 go_wp2_with fail
 generalize w3.alloc (.cells #[.string n,.string ⟨#[]⟩,.slice none 0 0] 24)=w4 at*;obtain⟨n3,hn3⟩: ∃n3,w3.heap.size=n3:=⟨_,rfl⟩
 rw[hn3] at uF eY eP⊢;have bD:=ae (aT.out.trans vW.out);have jP:Hid (mP 24 (n3+1) w4 (L.map (gu (fun n s=>vr (n++dK) s))) (.slice none 0 0) [] (fun _ _=>False) 0):=ae ⟨rfl,⟨rfl,.inl ⟨rfl,rfl⟩⟩,fun i hi=>absurd hi (Nat.not_lt_zero _),fun i j hi=>absurd hi (Nat.not_lt_zero _),fun i i' j hi=>absurd hi (Nat.not_lt_zero _)⟩;clear hn3 x0 x1 x2 u0 u1 u2 vW aT fG uD dQ HZ HB2 HB3
 go_loopg [20] L.length (fun gk iv wr=> ∃(k:Nat) (lv:Value) (us:List Value) (Bk:Nat->Nat->Prop),iv= .int .i64 (k:Int)/\gk=L.length-k/\k<=L.length/\Hid (mP 24 (n3+1) wr (L.map (gu (fun n s=>vr (n++dK) s))) lv us Bk k)/\Hid (wr.heap[w.heap.size+1]?=some zO)/\Hid (wr.heap[n3]?=some (.cells #[.string n,.string ⟨#[]⟩,lv] 24 (0,0)))/\Hid (Ext w wr)/\Hid (n3+1<=wr.heap.size))
 case atStart=>exact⟨0,_,_,_,rfl,rfl,Nat.zero_le _,jP,pR,uF,bD,eY⟩
 case round=>
  clear jP pR uF bD eY;obtain⟨k,lv,us,Bk,rfl,rfl,hk,HJ,HB2,HB3,HE,bT⟩:=hrel;obtain⟨la,lc,hlv⟩:=aY HJ.out.own;subst hlv;by_cases hlt:k<L.length
  .obtain ⟨g,off,hga,_,hat⟩:=(cZ.out.ext HE.out).at_ (by omega);subst hga;obtain⟨xa,xc,q0,q1,q2,aQ⟩:=hat k hlt;rw[<-Nat.add_assoc] at q1 q2;obtain⟨z0,z1,z2,z2'⟩:=bJ hlt;have aW:=ae (fun W (hW:Ext wr W)=>HIH.out (tg L k) (bM L k hlt) _ S W (HW0.out.trans (HE.out.trans hW)) ⟨xa,xc,rfl,aQ.ext hW⟩ (fun j hj=>ax (gm.out j hj) (Nat.le_trans HE.out.size hW.size)) (by have h1:=kK.out;have h2:=eU (bM L k hlt);omega) (NG.out _ (bM L k hlt)));dsimp only[tV] at aW;obtain⟨x,hx⟩: ∃x,tg L k=x:=⟨_,rfl⟩
   have hzx:tg (L.map (gu (fun n s=>vr (n++dK) s))) k=gu (fun n s=>vr (n++dK) s) x:=by
    rw[<-hx];unfold tg;rw[List.getD_eq_getElem?_getD,List.getD_eq_getElem?_getD,List.getElem?_map,List.getElem?_eq_getElem hlt];rfl
   obtain⟨z,hz⟩: ∃z,gu (fun n s=>vr (n++dK) s) x=z:=⟨_,rfl⟩
   rw[hx,hz] at aW;rw[hx] at q0 q1 q2;rw[hz] at hzx;have NH:=ae hzx;have hQ:=(uR wr).alloc (tO x xa xc);have lF:=aj wr (tO x xa xc);obtain⟨b0,b1,b2⟩:=af lF;have kL:=ak HB3.out (tO x xa xc);have c2:=ag kL 2 (.slice la k lc) rfl;have xW:=ae kL;have HQ:=ae hQ;have wW:=ae (ak HB2.out (tO x xa xc));have CB:=ae (HJ.out.own.alloc (tO x xa xc));have g_:Hid (¬(Value.slice la k lc).ownBlock=some n3):=ae (fun e=>by have h1:=(HJ.out.own.lt n3 e).1;omega);have HK:Hid (k<=100000):=ae (by omega);obtain⟨iT,hi,hz0,hz1,hz2⟩:=info_parts rQ;clear hat aQ hx hQ lF kL hz hzx
   go_wp2_with fail
   generalize wr.alloc (tO x xa xc)=wq at*;have CE:Hid (Ext wq wq):=ae (au.refl _ _);have rq:Hid (n3+1<=wq.heap.size):=ae (Nat.le_trans bT.out HQ.out.size);clear q0 q1 q2
   go_region_law (first
    |(refine dJ _ (.tmp 25) (.tmp 29) 22 rfl (n3+1) 24 iT (.agg #[.string ⟨#[]⟩,.string ⟨#[]⟩,.slice none 0 0]) 3 56 Tryz.underlying22 hi hz0 hz1 hz2 rfl (by decide) _ _ _ rfl wX.out _ 1 1 [Value.string z.name,.string z.sort,.slice ya z.kids.length yc] rfl rfl ni.out kM.out iM.out.1 iM.out.2.1 iM.out.2.2 ?_;intro v7 w7 bF;obtain⟨a7,c7,hv7⟩:=aY bF.own;subst hv7;have d_:=bF.upd.heap (ak dW.out (tO z ya yc)) g_.out;have f7:=fun i=>ai d_ i;have c2:=ag d_ 2 (.slice la k lc) rfl;have dZ:=ae d_;have jw:=ae bF;clear bF d_)
    |(go_simp;refine(aW.out wq.drew (HQ.out.trans CE.out.drew)).mono ?_;rintro e w5 ⟨r,Bx,rfl,j_,hb5,hw5⟩;obtain⟨ya,yc,iO⟩:=aG.shape j_;subst iO;have bV:Hid (Ext wq w5):=ae (((uR wq).drewN' 1).trans hw5);have p_:=ae j_;have qH:Hid (∀j,Bx j->wq.heap.size<=j/\j<w5.heap.size):=ae hb5;have dW:=ae (bV.out.heap xW.out (fun h=>h));have wX:Hid ((w5.alloc (tO z ya yc)).ownsRow (n3+1) 24 3 (.slice la k lc) k (bY ((L.map (gu (fun n s=>vr (n++dK) s))).take k) us)):=ae ((bI CB.out bV.out (fun _ _ h=>h)).alloc _);have ni:Hid (∀(j:Nat) (u:Value),[Value.string z.name,.string z.sort,.slice ya z.kids.length yc][j]?=some u->(w5.alloc (tO z ya yc)).cell? ((⟨w5.heap.size,0,none⟩:Addr).add j)=some u):=ae (yC w5 _ _ _ 24);have kM:Hid (∀u∈[Value.string z.name,.string z.sort,.slice ya z.kids.length yc],u.oneCell'=true):=ae (fun u hu=>by simp at hu;rcases hu with h|h|h<;>(subst h;rfl));have iM:Hid (k+1<=maxLen/\(k+1)*56<=140737488355328/\n3+1<=(w5.alloc (tO z ya yc)).heap.size):=ae ⟨by unfold maxLen;have:=HK.out;omega,by have:=HK.out;omega,by have h1:=bV.out.size;have h2:=rq.out;simp;omega⟩;have c5:=bV.out.cell c2 (fun h=>h);have c6:=((uR w5).alloc (tO z ya yc)).cell c5 (fun h=>h);clear j_ hb5 hw5))
   all_goals
    go_wp2_with fail
    have fO:=ae ((au.refl (fun j=>j=n3) w7).setCell (p:=⟨n3,2,none⟩) (.inl rfl) (.slice a7 (k+1) c7));have bQ:Hid (au (fun j=>(Value.slice la k lc).ownBlock=some j\/j=n3) wq (w7.setCell ⟨n3,2,none⟩ (.slice a7 (k+1) c7))):=ae (((((bV.out.alloc (tO z ya yc)).mono (fun _ _ x=>x.elim)).trans (jw.out.upd.mono (fun _ _ e=> .inl e)))).trans (fO.out.mono (fun _ _ e=> .inr e)));have rW:=ae (HJ.out.grow (by rw[List.length_map];exact hlt) NH.out (by omega) bT.out HQ.out bV.out p_.out qH.out ((uR w5).alloc (tO z ya yc)) jw.out fO.out);have hs3:=eP.out;have bU:Hid (Ext w (w7.setCell ⟨n3,2,none⟩ (.slice a7 (k+1) c7))):=ae ((HE.out.trans HQ.out).trans' bQ.out (fun j hj e=>by
     rcases e with e|e
     .have h1:=(HJ.out.own.lt j e).1;omega
     .omega))
    have lL:=ae (bQ.out.heap wW.out (fun e=>by
     rcases e with e|e
     .have h1:=(HJ.out.own.lt _ e).1;omega
     .omega))
    have iP:=setBlock dZ.out 2 (.slice a7 (k+1) c7);have kX:Hid ((w7.setCell ⟨n3,2,none⟩ (.slice a7 (k+1) c7)).heap[n3]?=some (.cells #[.string n,.string ⟨#[]⟩,.slice a7 (k+1) c7] 24 (0,0))):=ae (by simpa using iP);have jy:Hid (n3+1<=(w7.setCell ⟨n3,2,none⟩ (.slice a7 (k+1) c7)).heap.size):=ae (Nat.le_trans rq.out bQ.out.size);clear iP c2 f7
    go_roundg (L.length- (k+1))
    case measure=>omega
    case rel=>exact⟨k+1,_,_,_,by go_num,rfl,by omega,rW,lL,kX,bU,jy⟩
  .obtain rfl:k=L.length:=by omega
   have z2:decide ((L.length:Int)< (L.length:Int))=false:=dF (by omega);have hfin:=HJ.out;have hll:(L.map (gu (fun n s=>vr (n++dK) s))).length=L.length:=List.length_map ..;rw[<-hll] at hfin;have hfin:=hfin.fin;have kY:=ae hfin;rw[hll] at kY;obtain⟨c0,c1,c2⟩:=af HB3.out;have f2:=fun i=>ai HB2.out i;obtain⟨d0,d1,d2⟩:=af HB2.out;clear hfin hll
   go_wp2_with fail
   have hr3:=aF HB2.out (.string n) (.string ⟨#[]⟩) (.slice la L.length lc);have hu:=aC wr (w.heap.size+1) (.string n) (.string ⟨#[]⟩) (.slice la L.length lc);obtain⟨e0,e1,e2⟩:=af hr3;have hs3:=eP.out;refine bodyPost_ret (v:= .agg #[.string n,.string ⟨#[]⟩,.slice la L.length lc]) (by simp[results,Tryz.results80,go_sem,e0,e1,e2]) rfl ⟨.slice la L.length lc,fun j=>n3+1<=j/\j<wr.heap.size,by simp[List.length_map,ah],kY.out.kept hu (fun j hj e=>by have h1:=hj.1;omega),fun j hj=>⟨by have h1:=hj.1;omega,ax hj.2 hu.size⟩,HE.out.trans' hu (fun j hj e=>by omega)⟩
def ql (dK:By) (t:Tm):Tm×Int:=if wf aB t=true then(if((aO t).all fun v=>aB (v.1++dK))=true then(gu (fun n s=>vr (n++dK) s) t,0) else(.mk ah ah [],9)) else(.mk ah ah [],1)
theorem NI (t:Tm) (v:Value) (dK:By) (w:World) (htab:cO w) (hR:bG (fun k=>k<w.heap.size) w t v) (hsz:t.size<=100000) (hok: ∀f∈cu t,f.1.size+dK.size<=100000):
  Calls Tryz.prog 20 #[v,.string dK] w fun e w'=> ∃r B,e= .returned (.tuple #[tV (ql dK t).1 r,.int .i64 (ql dK t).2])/\aG 24 w' B (ql dK t).1.kids r/\(∀j,B j->w.heap.size<=j/\j<w'.heap.size)/\Ext w w':=by
 have HR:=ae hR;obtain⟨Z,jA⟩: ∃Z,ql dK t=Z:=⟨_,rfl⟩
 rw[jA];have gY:=ae jA;clear jA;obtain⟨a,cap,rfl,hT⟩:=hR;have HF:=ae (fun W (hW:Ext w W)=>wQ t _ W (aJ htab hW) ((HR.out.ext hW).weaken (fun k hk=>ax hk hW.size)) (by omega));have HV:=ae (fun W (hW:Ext w W)=>qX t _ W (aJ htab hW) ((HR.out.ext hW).weaken (fun k hk=>ax hk hW.size)) (by omega));have je:=ae htab;have bT:=ae hsz;have jO:=ae hok;dsimp only[tV] at HF HV⊢;have hZ:=(((uR w).alloc (tO t a cap)).alloc (.cells #[.string dK] 9)).alloc zO;have hz2:w.heap.size+3<=(((w.alloc (tO t a cap)).alloc (.cells #[.string dK] 9)).alloc zO).heap.size:=by simp
 have H2:=ae (ak (ak (aj w (tO t a cap)) (.cells #[.string dK] 9)) zO);have H3:=ae (ak (alloc_at (w.alloc (tO t a cap)) (.cells #[.string dK] 9) (n:=w.heap.size+1) (by simp)) zO);have H4:=ae (alloc_at ((w.alloc (tO t a cap)).alloc (.cells #[.string dK] 9)) zO (n:=w.heap.size+2) (by simp));obtain⟨x0,x1,x2⟩:=af H2.out;have HZ:=ae hZ;clear hT htab hsz hok hZ
 go_enter Tryz.func20,Tryz.ntmps20
 go_wp2_with fail
 obtain⟨rc,hrc⟩: ∃n,w.heap.size+2=n:=⟨_,rfl⟩
 obtain⟨sb,hsb⟩: ∃n,w.heap.size+1=n:=⟨_,rfl⟩
 have QD:Hid (w.heap.size+2=rc/\w.heap.size+1=sb):=ae ⟨hrc,hsb⟩;rw[hrc] at H4;rw[hsb] at H3
 try rw[show w.heap.size+1+1=rc from hrc]
 try rw[hrc]
 try rw[hsb]
 generalize (((w.alloc (tO t a cap)).alloc (.cells #[.string dK] 9)).alloc zO)=wa at*;clear hrc hsb;refine(HF.out _ HZ.out).mono ?_;rintro e w3 ⟨rfl,hw3⟩;have aT:=ae (HZ.out.trans hw3);have zy:=ae (hw3.heap H2.out (fun h=>h));have uh:=ae (hw3.heap H3.out (fun h=>h));have Vt:=ae (hw3.heap H4.out (fun h=>h));clear hw3 x0 x1 x2 H2 H3 H4 HZ HF hz2;cases hwf:wf aB t with
 |false=>
  obtain rfl:Z=(.mk ah ah [],1):=by rw[<-gY.out];unfold ql;rw[hwf];rfl
  clear hwf;obtain⟨d0,d1,d2⟩:=af Vt.out;have f2:=fun i=>ai Vt.out i
  go_wp2_with fail
  have hr3:=aF Vt.out (.string ⟨#[]⟩) (.string ⟨#[]⟩) (.slice none 0 0);have hu:=aC w3 rc (.string ⟨#[]⟩) (.string ⟨#[]⟩) (.slice none 0 0);obtain⟨e0,e1,e2⟩:=af hr3;refine bodyPost_ret (v:= .tuple #[.agg #[.string ⟨#[]⟩,.string ⟨#[]⟩,.slice none 0 0],.int .i64 1]) (by simp[results,Tryz.results20,go_sem,e0,e1,e2]) rfl (by first|exact⟨.slice none 0 0,fun _=>False,rfl,aG.nil _ _ _,fun j hj=>hj.elim,aT.out.trans' hu (fun j hj e=>by have:=QD.out;omega)⟩|exact⟨.slice none 0 0,rfl,fun _=>False,aG.nil _ _ _,fun j hj=>hj.elim,aT.out.trans' hu (fun j hj e=>by have:=QD.out;omega)⟩)
 |true=>
  have lX:=ae hwf;have vY:=o6 hwf;rw[vY] at HV;have hvl:=mY hwf;have vP:=ae hvl;clear hwf vY hvl;obtain⟨x0,x1,x2⟩:=af zy.out
  go_wp2_with fail
  refine(HV.out _ aT.out).mono ?_;rintro e w4 ⟨r1,rfl,hr1,hw4⟩;have bD:=ae (aT.out.trans hw4);have zA:=ae (hw4.heap zy.out (fun h=>h));have ui:=ae (hw4.heap uh.out (fun h=>h));have H44:=ae (hw4.heap Vt.out (fun h=>h));have JP:=ae hr1;obtain⟨p1,c1,hp1⟩:=b_.shape hr1;subst hp1;clear hw4 x0 x1 x2 zy uh Vt aT HV hr1;obtain⟨VL,Dv⟩: ∃L,aO t=L:=⟨_,rfl⟩
  have HVQ:=ae Dv;rw[Dv] at JP vP⊢;have hlv:VL.length<=100000:=Nat.le_trans vP.out bT.out;clear Dv
  go_wp2_with fail
  go_loopg [21] VL.length (fun gk iv wr=> ∃k:Nat,iv= .int .i64 (k:Int)/\gk=VL.length-k/\k<=VL.length/\Hid (Ext w4 wr)/\Hid (∀v∈VL.take k,aB (v.1++dK)=true))
  case atStart=>exact⟨0,rfl,rfl,Nat.zero_le _,ae (au.refl _ _),ae (fun v hv=>by simp at hv)⟩
  case round=>
   obtain⟨k,rfl,rfl,hk,HE,Gv⟩:=hrel;by_cases hlt:k<VL.length
   .obtain ⟨g,off,hga,hat⟩:=b_.at_ (b_.ext JP.out HE.out) (by omega);subst hga;obtain⟨q0,q1⟩:=hat k hlt;have htk:=Ez VL k hlt;have hvm:=wP hlt;obtain⟨v,hv⟩: ∃v,vg VL k=v:=⟨_,rfl⟩
    rw[hv] at q0 q1 htk hvm;obtain⟨nm,so⟩:=v;simp only at q0 q1;obtain⟨z0,z1,z2,z2'⟩:=bJ hlt;have qf:=ae htk;have HVM:=ae hvm;have hB:=aj wr (.cells #[.string nm,.string so] 116);have e0:=ag hB 0 (.string nm) rfl;have nS:=HE.out.alloc (.cells #[.string nm,.string so] 116);have s0:=ag (nS.heap ui.out (fun h=>h)) 0 (.string dK) rfl;have jk:=ae nS;have hl:nm.size+dK.size<=100000:=jO.out (nm,so) (((yt lX.out).2 (nm,so)).1 (by rw[HVQ.out];exact hvm));have HIN:=ae (zT (nm++dK) (wr.alloc (.cells #[.string nm,.string so] 116)) (aJ je.out (bD.out.trans nS)));obtain⟨bn,hbn⟩: ∃b,aB (nm++dK)=b:=⟨_,rfl⟩
    rw[hbn] at HIN;have mX:=ae hbn;clear hat htk hvm hv hB nS hbn
    go_wp2_with fail
    refine HIN.out.mono ?_;rintro e w6 ⟨rfl,hw6⟩;have dS:=ae (jk.out.trans hw6);clear hw6 HIN q0 q1 e0 s0;cases bn with
    |false=>
     have hall:(VL.all fun v=>aB (v.1++dK))=false:=by
      rw[List.all_eq_false];exact⟨(nm,so),HVM.out,by rw[mX.out];simp⟩
     obtain rfl:Z=(.mk ah ah [],9):=by rw[<-gY.out];unfold ql;rw[lX.out,HVQ.out,hall];rfl
     clear hall;have ig:=ae (bD.out.trans dS.out);have NJ:=ae (dS.out.heap H44.out (fun h=>h));obtain⟨d0,d1,d2⟩:=af NJ.out;have f2:=fun i=>ai NJ.out i
     go_wp2_with fail
     have hr3:=aF NJ.out (.string ⟨#[]⟩) (.string ⟨#[]⟩) (.slice none 0 0);have hu:=aC w6 rc (.string ⟨#[]⟩) (.string ⟨#[]⟩) (.slice none 0 0);obtain⟨e0,e1,e2⟩:=af hr3;refine bodyPost_ret (v:= .tuple #[.agg #[.string ⟨#[]⟩,.string ⟨#[]⟩,.slice none 0 0],.int .i64 9]) (by simp[results,Tryz.results20,go_sem,e0,e1,e2]) rfl (by first|exact⟨.slice none 0 0,fun _=>False,rfl,aG.nil _ _ _,fun j hj=>hj.elim,ig.out.trans' hu (fun j hj e=>by have:=QD.out;omega)⟩|exact⟨.slice none 0 0,rfl,fun _=>False,aG.nil _ _ _,fun j hj=>hj.elim,ig.out.trans' hu (fun j hj e=>by have:=QD.out;omega)⟩)
    |true=>
     have ajz:Hid (∀v∈VL.take (k+1),aB (v.1++dK)=true):=ae (fun v hv=>by
      rw[qf.out,List.mem_append,List.mem_singleton] at hv;rcases hv with hv|hv
      .exact Gv.out v hv
      .rw [hv];exact mX.out)
     go_wp2_with fail
     go_roundg (VL.length- (k+1))
     case measure=>omega
     case rel=>exact⟨k+1,by go_num,rfl,by omega,dS,ajz⟩
   .obtain rfl:k=VL.length:=by omega
    have z2:decide ((VL.length:Int)< (VL.length:Int))=false:=dF (by omega);have hall:(VL.all fun v=>aB (v.1++dK))=true:=by
     rw[List.all_eq_true];have:=Gv.out;rw[List.take_length] at this;exact this
    obtain⟨Q,hQ⟩: ∃Q,gu (fun n s=>vr (n++dK) s) t=Q:=⟨_,rfl⟩
    obtain rfl:Z=(Q,0):=by rw[<-gY.out,<-hQ];unfold ql;rw[lX.out,HVQ.out,hall];rfl
    have di:=ae (bD.out.trans HE.out);have Nu:=ae (HE.out.heap zA.out (fun h=>h));have Hq:=ae (HE.out.heap ui.out (fun h=>h));have H45:=ae (HE.out.heap H44.out (fun h=>h));have BF:=ae (aa6 dK sb wr (ae (fun W hW=>ag (hW.heap Hq.out (fun h=>h)) 0 (.string dK) rfl)) t _ (fun k=>k<wr.heap.size) wr (au.refl _ _) ((HR.out.ext di.out).weaken (fun k hk=>ax hk di.out.size)) (fun k h=>h) bT.out jO.out);dsimp only[tV] at BF;rw[hQ] at BF;obtain⟨x0,x1,x2⟩:=af Nu.out;clear hall hQ
    go_wp2_with fail
    refine BF.out.mono ?_;rintro e w7 ⟨r7,B7,rfl,xw,hb7,hw7⟩;obtain⟨ya,yc,iO⟩:=aG.shape xw;subst iO;have Fq:=ae xw;have dZ:=ae hb7;have ig:=ae (di.out.trans hw7);have NJ:=ae (hw7.heap H45.out (fun h=>h));have bV:=ae di.out.size;have CV:Hid (rc<wr.heap.size):=ae (Array.getElem?_eq_some_iff.1 H45.out).1;clear xw hb7 hw7 BF x0 x1 x2;obtain⟨d0,d1,d2⟩:=af NJ.out;have f2:=fun i=>ai NJ.out i
    go_wp2_with fail
    have hr3:=aF NJ.out (.string Q.name) (.string Q.sort) (.slice ya Q.kids.length yc);have hu:=aC w7 rc (.string Q.name) (.string Q.sort) (.slice ya Q.kids.length yc);obtain⟨e0,e1,e2⟩:=af hr3;have h1:=CV.out;have h2:=bV.out;refine bodyPost_ret (v:= .tuple #[.agg #[.string Q.name,.string Q.sort,.slice ya Q.kids.length yc],.int .i64 0]) (by simp[results,Tryz.results20,go_sem,e0,e1,e2]) rfl (by first|exact⟨.slice ya Q.kids.length yc,B7,rfl,Fq.out.kept hu (fun j hj e=>by have h3:=(dZ.out j hj).1;omega),fun j hj=>⟨by have h3:=(dZ.out j hj).1;omega,ax (dZ.out j hj).2 hu.size⟩,ig.out.trans' hu (fun j hj e=>by have:=QD.out;omega)⟩|exact⟨.slice ya Q.kids.length yc,rfl,B7,Fq.out.kept hu (fun j hj e=>by have h3:=(dZ.out j hj).1;omega),fun j hj=>⟨by have h3:=(dZ.out j hj).1;omega,ax (dZ.out j hj).2 hu.size⟩,ig.out.trans' hu (fun j hj e=>by have:=QD.out;omega)⟩)
theorem Yn {w:World} {b:Nat} {te:TypeId} {u0 u1 u2 u3 u4 u5:Value} (h:w.heap[b]?=some (.cells #[u0,u1,u2,u3,u4,u5] te (0,0))) (v0 v1 v2 v3 v4 v5:Value):((((((((((((w).setCell ⟨b,0,none⟩ (v0))).setCell ⟨b,1,none⟩ (v1))).setCell ⟨b,2,none⟩ (v2))).setCell ⟨b,3,none⟩ (v3))).setCell ⟨b,4,none⟩ (v4))).setCell ⟨b,5,none⟩ (v5)).heap[b]?=some (.cells #[v0,v1,v2,v3,v4,v5] te (0,0)):=by
 have h0:=setBlock h 0 v0;have h1:=setBlock h0 1 v1;have h2:=setBlock h1 2 v2;have h3:=setBlock h2 3 v3;have h4:=setBlock h3 4 v4;have h5:=setBlock h4 5 v5;simpa using h5
theorem abt (w:World) (b:Nat) (v0 v1 v2 v3 v4 v5:Value):au (fun k=>k=b) w ((((((((((((w).setCell ⟨b,0,none⟩ (v0))).setCell ⟨b,1,none⟩ (v1))).setCell ⟨b,2,none⟩ (v2))).setCell ⟨b,3,none⟩ (v3))).setCell ⟨b,4,none⟩ (v4))).setCell ⟨b,5,none⟩ (v5)):=
 ((((((au.refl (fun k=>k=b) w).setCell (p:=⟨b,0,none⟩) (.inl rfl) _).setCell (p:=⟨b,1,none⟩) (.inl rfl) _).setCell (p:=⟨b,2,none⟩) (.inl rfl) _).setCell (p:=⟨b,3,none⟩) (.inl rfl) _).setCell (p:=⟨b,4,none⟩) (.inl rfl) _).setCell (p:=⟨b,5,none⟩) (.inl rfl) _
theorem OE (x y:Tm) (xa ya:Option Addr) (xc yc:Nat) (dK:By) (w:World) (htab:cO w) (h1:ay (fun k=>k<w.heap.size) w x.kids (.slice xa x.kids.length xc)) (h2:ay (fun k=>k<w.heap.size) w y.kids (.slice ya y.kids.length yc)) (hsx:x.size<=100000) (hsy:y.size<=100000) (hox: ∀f∈cu x,f.1.size+dK.size<=100000) (hoy: ∀f∈cu y,f.1.size+dK.size<=100000) (p q:Tm) (hp:ql dK x=(p,0)) (hq:ql dK y=(q,0)):
  Calls Tryz.prog 162 #[.agg #[.string x.name,.string x.sort,.slice xa x.kids.length xc,.string y.name,.string y.sort,.slice ya y.kids.length yc],.string dK] w fun e w'=> ∃pa pc qa qc B B2,e= .returned (.tuple #[.agg #[.string p.name,.string p.sort,.slice pa p.kids.length pc,.string q.name,.string q.sort,.slice qa q.kids.length qc],.int .i64 0])/\aG 24 w' B p.kids (.slice pa p.kids.length pc)/\aG 24 w' B2 q.kids (.slice qa q.kids.length qc)/\(∀j,B j->w.heap.size<=j/\j<w'.heap.size)/\(∀j,B2 j->w.heap.size<=j/\j<w'.heap.size)/\Ext w w':=by
 have HR1:=ae (fun W (hW:Ext w W)=>NI x (tV x (.slice xa x.kids.length xc)) dK W (aJ htab hW) ⟨xa,xc,rfl,(h1.ext hW).weaken (fun k hk=>ax hk hW.size)⟩ hsx hox);have HR2:=ae (fun W (hW:Ext w W)=>NI y (tV y (.slice ya y.kids.length yc)) dK W (aJ htab hW) ⟨ya,yc,rfl,(h2.ext hW).weaken (fun k hk=>ax hk hW.size)⟩ hsy hoy);rw[hp] at HR1;rw[hq] at HR2;dsimp only[tV] at HR1 HR2;have hE:=((uR w).alloc (.cells #[.string x.name,.string x.sort,.slice xa x.kids.length xc,.string y.name,.string y.sort,.slice ya y.kids.length yc] 146)).alloc (.cells #[.string ⟨#[]⟩,.string ⟨#[]⟩,.slice none 0 0,.string ⟨#[]⟩,.string ⟨#[]⟩,.slice none 0 0] 146);have HE:=ae hE;have HB0:=ae (ak (aj w (.cells #[.string x.name,.string x.sort,.slice xa x.kids.length xc,.string y.name,.string y.sort,.slice ya y.kids.length yc] 146)) (.cells #[.string ⟨#[]⟩,.string ⟨#[]⟩,.slice none 0 0,.string ⟨#[]⟩,.string ⟨#[]⟩,.slice none 0 0] 146));have HB1:=ae (alloc_at (w.alloc (.cells #[.string x.name,.string x.sort,.slice xa x.kids.length xc,.string y.name,.string y.sort,.slice ya y.kids.length yc] 146)) (.cells #[.string ⟨#[]⟩,.string ⟨#[]⟩,.slice none 0 0,.string ⟨#[]⟩,.string ⟨#[]⟩,.slice none 0 0] 146) (n:=w.heap.size+1) (by simp));have hz:w.heap.size+2<=((w.alloc (.cells #[.string x.name,.string x.sort,.slice xa x.kids.length xc,.string y.name,.string y.sort,.slice ya y.kids.length yc] 146)).alloc (.cells #[.string ⟨#[]⟩,.string ⟨#[]⟩,.slice none 0 0,.string ⟨#[]⟩,.string ⟨#[]⟩,.slice none 0 0] 146)).heap.size:=by simp
 have HS:=ae hz;obtain⟨x0,x1,x2,x3,x4,x5⟩:=dR HB0.out;clear hE hz h1 h2 htab hsx hsy hox hoy hp hq
 go_enter Tryz.func162,Tryz.ntmps162
 go_wp2_with fail
 generalize ((w.alloc (.cells #[.string x.name,.string x.sort,.slice xa x.kids.length xc,.string y.name,.string y.sort,.slice ya y.kids.length yc] 146)).alloc (.cells #[.string ⟨#[]⟩,.string ⟨#[]⟩,.slice none 0 0,.string ⟨#[]⟩,.string ⟨#[]⟩,.slice none 0 0] 146))=w1 at*;refine(HR1.out _ HE.out).mono ?_;rintro e w3 ⟨r,B,rfl,Il,Io,hw3⟩;obtain⟨pa,pc,hr⟩:=aG.shape Il;subst hr;have hX:=hw3.alloc (tO p pa pc);have aT:=ae (HE.out.trans hX);have n_:=ae (hX.heap HB0.out (fun h=>h));have iQ:=ae (hX.heap HB1.out (fun h=>h));have fM:=ae (aj w3 (tO p pa pc));have HT3:=ae (Il.kept ((uR w3).alloc (tO p pa pc)) (fun _ _ h=>h));have BA:Hid (∀j,B j->w.heap.size+2<=j/\j< (w3.alloc (tO p pa pc)).heap.size):=ae (fun j hj=>⟨Nat.le_trans HS.out (Io j hj).1,ax (Io j hj).2 ((uR w3).alloc (tO p pa pc)).size⟩);have eP:Hid (w.heap.size+2<=w3.heap.size):=ae (Nat.le_trans HS.out hw3.size);clear Il Io hw3 hX HR1 HE HB0 HB1 HS x0 x1 x2 x3 x4 x5;dsimp only;obtain⟨nb,hnb⟩: ∃n,w3.heap.size=n:=⟨_,rfl⟩
 rw[hnb] at fM eP;obtain⟨x0,x1,x2,x3,x4,x5⟩:=dR n_.out
 go_wp2_with fail
 try rw[hnb]
 generalize w3.alloc (tO p pa pc)=w4 at*;clear hnb;refine(HR2.out _ aT.out).mono ?_;rintro e w5 ⟨r,B2,rfl,Ip,Iq,hw5⟩;obtain⟨qa,qc,hr⟩:=aG.shape Ip;subst hr;have hX:=hw5.alloc (tO q qa qc);have di:=ae (aT.out.trans hX);have kR:=ae (hX.heap iQ.out (fun h=>h));have Zn:=ae (hX.heap fM.out (fun h=>h));have HM5:=ae (aj w5 (tO q qa qc));have HTP:=ae (HT3.out.kept hX (fun _ _ h=>h));have HTQ:=ae (Ip.kept ((uR w5).alloc (tO q qa qc)) (fun _ _ h=>h));have NM:Hid (∀j,B j->w.heap.size+2<=j/\j< (w5.alloc (tO q qa qc)).heap.size):=ae (fun j hj=>⟨(BA.out j hj).1,ax (BA.out j hj).2 hX.size⟩);have Yo:Hid (∀j,B2 j->w.heap.size+2<=j/\j< (w5.alloc (tO q qa qc)).heap.size):=ae (fun j hj=>⟨by have h1:=(Iq j hj).1;have h2:=eP.out;have h3:=(Array.getElem?_eq_some_iff.1 fM.out).1;omega,ax (Iq j hj).2 ((uR w5).alloc (tO q qa qc)).size⟩);clear Ip Iq hw5 hX HR2 aT n_ iQ fM HT3 BA x0 x1 x2 x3 x4 x5;dsimp only;obtain⟨nb5,xJ⟩: ∃n,w5.heap.size=n:=⟨_,rfl⟩
 rw[xJ] at HM5;obtain⟨k0,k1,k2⟩:=af Zn.out;obtain⟨m0,m1,m2⟩:=af HM5.out;obtain⟨d0,d1,d2,d3,d4,d5⟩:=dR kR.out;have f2:=fun i=>ai kR.out i
 go_wp2_with fail
 try rw[xJ]
 generalize w5.alloc (tO q qa qc)=w6 at*;clear xJ;have ZL:=Yn kR.out (.string p.name) (.string p.sort) (.slice pa p.kids.length pc) (.string q.name) (.string q.sort) (.slice qa q.kids.length qc);have hu:=abt w6 (w.heap.size+1) (.string p.name) (.string p.sort) (.slice pa p.kids.length pc) (.string q.name) (.string q.sort) (.slice qa q.kids.length qc);obtain⟨e0,e1,e2,e3,e4,e5⟩:=dR ZL;refine bodyPost_ret (v:= .tuple #[.agg #[.string p.name,.string p.sort,.slice pa p.kids.length pc,.string q.name,.string q.sort,.slice qa q.kids.length qc],.int .i64 0]) (by simp[results,Tryz.results162,go_sem,e0,e1,e2,e3,e4,e5]) rfl ?_;exact⟨pa,pc,qa,qc,B,B2,rfl,HTP.out.kept hu (fun j hj e=>by have:=(NM.out j hj).1;omega),HTQ.out.kept hu (fun j hj e=>by have:=(Yo.out j hj).1;omega),fun j hj=>⟨by have:=(NM.out j hj).1;omega,ax (NM.out j hj).2 hu.size⟩,fun j hj=>⟨by have:=(Yo.out j hj).1;omega,ax (Yo.out j hj).2 hu.size⟩,di.out.trans' hu (fun j hj e=>by omega)⟩
end
theorem jY {W:World} {z:Nat} {t:TypeId} {v0 v1 v2:Value} (h:W.heap[z]?=some (.cells #[v0,v1,v2] t (0,0))) (u0 u1 u2:Value):(((W.setCell ⟨z,0,none⟩ u0).setCell ⟨z,1,none⟩ u1).setCell ⟨z,2,none⟩ u2).heap[z]?=some (.cells #[u0,u1,u2] t (0,0)):=by
 have:=setBlock (setBlock (setBlock h 0 u0) 1 u1) 2 u2;simpa using this
theorem gz (W:World) (z:Nat) (u0 u1 u2:Value):au (fun k=>k=z) W (((W.setCell ⟨z,0,none⟩ u0).setCell ⟨z,1,none⟩ u1).setCell ⟨z,2,none⟩ u2):=
 (((au.refl (fun k=>k=z) W).setCell (p:=⟨z,0,none⟩) (.inl rfl) u0).setCell (p:=⟨z,1,none⟩) (.inl rfl) u1).setCell (p:=⟨z,2,none⟩) (.inl rfl) u2
end Go.Proofs.YtlkcjmaiahnodaaGreatDoor
