/- The texts N17 N18 N70 N20 N21 N22 N23 N71 I44 I45 I46, one behind the other. -/
import Derived.Test.YtlkcjmaiahnodaaGreatDoorYAJ
import Derived.Test.YtlkcjmaiahnodaaGreatDoorYAD
import Derived.Deep.DeepCutAuto
import Derived.Test.YtlkcjmaiahnodaaGreatDoorYAH
set_option linter.unusedVariables false
set_option linter.unusedSimpArgs false
set_option maxRecDepth 100000
set_option maxHeartbeats 8000000
namespace Go.Proofs.YtlkcjmaiahnodaaGreatDoor
open Go.RowKit Go.Hw Go Tm
section
open Go.Sort Go.Proofs Go.ChangeMaps
theorem afk {W W':World} {v:Value} {L:List Bd} (h:iM (fun k=>k<W.heap.size) (fun k=>k<W.heap.size) W v L) (hE:Ext W W'):iM (fun k=>k<W'.heap.size) (fun k=>k<W'.heap.size) W' v L:=(h.ext hE).weaken (fun k hk=>aF hk hE.size) (fun k hk=>aF hk hE.size)
abbrev Ah:Tm:=(.mk ⟨#[112,108,117,115]⟩ au [(.mk ⟨#[122,101,114,111]⟩ au []),(.mk ⟨#[78,95,49]⟩ ⟨#[110,97,116]⟩ [])])
abbrev CU:Tm:=(.mk ⟨#[112,108,117,115]⟩ au [(.mk ⟨#[115]⟩ au [(.mk ⟨#[78,95,50]⟩ ⟨#[110,97,116]⟩ [])]),(.mk ⟨#[77,95,50]⟩ ⟨#[110,97,116]⟩ [])])
def La:List Nr:=[⟨⟨#[112,108,117,115]⟩,au,[2,3]⟩,⟨⟨#[112,108,117,115]⟩,au,[4,5]⟩,⟨⟨#[122,101,114,111]⟩,au,[]⟩,⟨⟨#[78,95,49]⟩,⟨#[110,97,116]⟩,[]⟩,⟨⟨#[115]⟩,au,[6]⟩,⟨⟨#[77,95,50]⟩,⟨#[110,97,116]⟩,[]⟩,⟨⟨#[78,95,50]⟩,⟨#[110,97,116]⟩,[]⟩]
def VJ:List Vd:=aV Ah++aV CU
def Ai (r0 ga gb jh:Nat):Nat->Nat×Nat
 |0=>(r0,0)
 |1=>(r0+1,0)
 |2=>(ga,0)
 |3=>(ga,3)
 |4=>(gb,0)
 |5=>(gb,3)
 |6=>(jh,0)
 |_=>(0,0)
theorem aiL:VJ=[(⟨#[78,95,49]⟩,⟨#[110,97,116]⟩),(⟨#[77,95,50]⟩,⟨#[110,97,116]⟩),(⟨#[78,95,50]⟩,⟨#[110,97,116]⟩)]:=by decide+kernel
theorem agD:(wf aJ Ah&&wf aJ CU)=true:=by decide+kernel
theorem Z4:(match oQ La 20 VJ with|some none=>true|_=>false)=true:=by decide+kernel
theorem aiM (W:World) (htab:dN W) (B1 B2:Nat->Prop) (va vb:Value) (h1:aP 24 W B1 Ah.kids va) (h2:aP 24 W B2 CU.kids vb) (hd: ∀k,B1 k->¬B2 k) (l1: ∀k,B1 k->k<W.heap.size) (l2: ∀k,B2 k->k<W.heap.size):
  Calls Tryz.prog 17 #[tV Ah va,tV CU vb] W fun e w'=>e= .returned (.tuple #[.slice none 0 0,.int .i64 12])/\Ext W w':=by
 obtain⟨ga,ca,ua,Ba,ea,pa,ba,qa,ka,na,_⟩:=aP.vk h1 (by decide);obtain⟨xa0,ya0,QN⟩:=aP.shape (ka 0 (by decide));obtain⟨xa1,ya1,ea1⟩:=aP.shape (ka 1 (by decide));obtain⟨gb,cb,ub,Bb,eb,pb,bb,qb,kb,nb,_⟩:=aP.vk h2 (by decide);obtain⟨TI,yb1,JL⟩:=aP.shape (kb 1 (by decide));obtain⟨jh,cb0,ub0,Bb0,FT,QO,bb0,qb0,vS,nb0,_⟩:=aP.vk (kb 0 (by decide)) (by decide);obtain⟨Z5,Z7,IC⟩:=aP.shape (vS 0 (by decide));subst ea eb;have za:ga<W.heap.size:=l1 _ (ba);have zb:gb<W.heap.size:=l2 _ (bb);have zb0:jh<W.heap.size:=l2 _ ((nb 0 _ (by decide) bb0).1);have dab:ga≠gb:=fun e=>hd _ (ba) (e▸(bb));have agJ:ga≠jh:=fun e=>hd _ (ba) (e▸((nb 0 _ (by decide) bb0).1));have Z8:gb≠jh:=fun e=>(nb 0 _ (by decide) bb0).2 e.symm;have hvs:aV Ah++aV CU=[(⟨#[78,95,49]⟩,⟨#[110,97,116]⟩),(⟨#[77,95,50]⟩,⟨#[110,97,116]⟩),(⟨#[78,95,50]⟩,⟨#[110,97,116]⟩)]:=aiL;have hw:=agD;rw[Bool.and_eq_true] at hw;have hN: ∀W',Ext W W'->W'.heap[W.heap.size]?=some (.cells #[.string Ah.name,.string Ah.sort,.slice (some ⟨ga,0,none⟩) Ah.kids.length ca] 24 (0,0))->W'.heap[W.heap.size+1]?=some (.cells #[.string CU.name,.string CU.sort,.slice (some ⟨gb,0,none⟩) CU.kids.length cb] 24 (0,0))->EM La (Ai W.heap.size ga gb jh) (fun k=>k=W.heap.size\/k=W.heap.size+1\/k=ga\/k=gb\/k=jh) W':=fun W' hW ha hb=>by
  refine⟨fun i j hi hj e=>?_,fun i hi=>?_,fun i r hr=>?_⟩
  .have hi':i<7:=hi;have hj':j<7:=hj;rcases(by omega:i=0\/i=1\/i=2\/i=3\/i=4\/i=5\/i=6) with rfl|rfl|rfl|rfl|rfl|rfl|rfl<;>rcases(by omega:j=0\/j=1\/j=2\/j=3\/j=4\/j=5\/j=6) with rfl|rfl|rfl|rfl|rfl|rfl|rfl<;>first|rfl|(simp only[Ai,Prod.mk.injEq] at e;omega)
  .have hi':i<7:=hi;rcases(by omega:i=0\/i=1\/i=2\/i=3\/i=4\/i=5\/i=6) with rfl|rfl|rfl|rfl|rfl|rfl|rfl
   .exact ⟨⟨_,_,ha⟩,by simp[Ai]⟩
   .exact ⟨⟨_,_,hb⟩,by simp[Ai]⟩
   .exact ⟨pa.ext hW,by simp[Ai]⟩
   .exact ⟨pa.ext hW,by simp[Ai]⟩
   .exact ⟨pb.ext hW,by simp[Ai]⟩
   .exact ⟨pb.ext hW,by simp[Ai]⟩
   .exact ⟨QO.ext hW,by simp[Ai]⟩
  .have hi':i<7:=(List.getElem?_eq_some_iff.1 hr).1;rcases(by omega:i=0\/i=1\/i=2\/i=3\/i=4\/i=5\/i=6) with rfl|rfl|rfl|rfl|rfl|rfl|rfl<;>(injection hr with hr;subst hr)
   .refine ⟨aj ha 0 _ rfl,aj ha 1 _ rfl,_,_,aj ha 2 _ rfl,fun _=>⟨ga,0,rfl,fun j q hq=>?_⟩⟩;have hj:j<2:=(List.getElem?_eq_some_iff.1 hq).1;rcases(by omega:j=0\/j=1) with rfl|rfl<;>(injection hq with hq;subst hq;exact⟨by decide,rfl⟩)
   .refine ⟨aj hb 0 _ rfl,aj hb 1 _ rfl,_,_,aj hb 2 _ rfl,fun _=>⟨gb,0,rfl,fun j q hq=>?_⟩⟩;have hj:j<2:=(List.getElem?_eq_some_iff.1 hq).1;rcases(by omega:j=0\/j=1) with rfl|rfl<;>(injection hq with hq;subst hq;exact⟨by decide,rfl⟩)
   .refine ⟨hW.cell (qa 0 (by decide)).1 (fun h=>h),hW.cell (qa 0 (by decide)).2.1 (fun h=>h),_,_,hW.cell ((qa 0 (by decide)).2.2.trans (congrArg some QN)) (fun h=>h),fun h=>absurd h (by decide)⟩
   .refine ⟨hW.cell (qa 1 (by decide)).1 (fun h=>h),hW.cell (qa 1 (by decide)).2.1 (fun h=>h),_,_,hW.cell ((qa 1 (by decide)).2.2.trans (congrArg some ea1)) (fun h=>h),fun h=>absurd h (by decide)⟩
   .refine ⟨hW.cell (qb 0 (by decide)).1 (fun h=>h),hW.cell (qb 0 (by decide)).2.1 (fun h=>h),_,_,hW.cell ((qb 0 (by decide)).2.2.trans (congrArg some FT)) (fun h=>h),fun _=>⟨jh,0,rfl,fun j q hq=>?_⟩⟩;have hj:j<1:=(List.getElem?_eq_some_iff.1 hq).1;rcases(by omega:j=0) with rfl<;>(injection hq with hq;subst hq;exact⟨by decide,rfl⟩)
   .refine ⟨hW.cell (qb 1 (by decide)).1 (fun h=>h),hW.cell (qb 1 (by decide)).2.1 (fun h=>h),_,_,hW.cell ((qb 1 (by decide)).2.2.trans (congrArg some JL)) (fun h=>h),fun h=>absurd h (by decide)⟩
   .refine ⟨hW.cell (qb0 0 (by decide)).1 (fun h=>h),hW.cell (qb0 0 (by decide)).2.1 (fun h=>h),_,_,hW.cell ((qb0 0 (by decide)).2.2.trans (congrArg some IC)) (fun h=>h),fun h=>absurd h (by decide)⟩
 have hno:=Z4;have hu:oQ La 20 VJ=some none:=by
  cases hq:oQ La 20 VJ with
  |none=>rw[hq] at hno;cases hno
  |some R=>
   cases R with
   |none=>rfl
   |some st=>rw[hq] at hno;cases hno
 have hx:=yt (T:=La) (ad:=Ai W.heap.size ga gb jh) (S:=(fun k=>k=W.heap.size\/k=W.heap.size+1\/k=ga\/k=gb\/k=jh)) 20 Ah CU (some ⟨ga,0,none⟩) (some ⟨gb,0,none⟩) ca cb W htab
  ⟨_,_,rfl,(aP.read h1).weaken l1⟩ ⟨_,_,rfl,(aP.read h2).weaken l2⟩ (by decide) (by decide) hw.1 hw.2
  (by rw[hvs];decide) (by rw[hvs];decide) rfl rfl hN
  (by rintro k (h|h|h|h|h)<;>omega)
  (fun i r hr=>(by decide: ∀r∈La,r.ks.length<=1000000) r (List.mem_of_getElem? hr)) none hu (fun _=>default) (fun st e=>by cases e)
 refine hx.mono ?_;rintro e w' ⟨hres,hE⟩;rcases hres with⟨_,h⟩|⟨h,_⟩
 .exact ⟨h,hE⟩
 .exact absurd rfl h
abbrev FU:Tm:=(.mk ⟨#[122,101,114,111]⟩ au [])
abbrev CV:Tm:=(.mk ⟨#[112,108,117,115]⟩ au [(.mk ⟨#[122,101,114,111]⟩ au []),(.mk ⟨#[78,95,50]⟩ ⟨#[110,97,116]⟩ [])])
def Lc:List Nr:=[⟨⟨#[122,101,114,111]⟩,au,[]⟩,⟨⟨#[112,108,117,115]⟩,au,[2,3]⟩,⟨⟨#[122,101,114,111]⟩,au,[]⟩,⟨⟨#[78,95,50]⟩,⟨#[110,97,116]⟩,[]⟩]
def VK:List Vd:=aV FU++aV CV
def IE (r0 gb:Nat):Nat->Nat×Nat
 |0=>(r0,0)
 |1=>(r0+1,0)
 |2=>(gb,0)
 |3=>(gb,3)
 |_=>(0,0)
theorem aiN:VK=[(⟨#[78,95,50]⟩,⟨#[110,97,116]⟩)]:=by decide+kernel
theorem agK:(wf aJ FU&&wf aJ CV)=true:=by decide+kernel
theorem Z9:(match oQ Lc 20 VK with|some none=>true|_=>false)=true:=by decide+kernel
theorem aiO (W:World) (htab:dN W) (B1 B2:Nat->Prop) (va vb:Value) (h1:aP 24 W B1 FU.kids va) (h2:aP 24 W B2 CV.kids vb) (hd: ∀k,B1 k->¬B2 k) (l1: ∀k,B1 k->k<W.heap.size) (l2: ∀k,B2 k->k<W.heap.size):
  Calls Tryz.prog 17 #[tV FU va,tV CV vb] W fun e w'=>e= .returned (.tuple #[.slice none 0 0,.int .i64 12])/\Ext W w':=by
 obtain⟨xa,ya,ea⟩:=aP.shape h1;obtain⟨gb,cb,ub,Bb,eb,pb,bb,qb,kb,nb,_⟩:=aP.vk h2 (by decide);obtain⟨xb0,yb0,FT⟩:=aP.shape (kb 0 (by decide));obtain⟨TI,yb1,JL⟩:=aP.shape (kb 1 (by decide));subst ea eb;have zb:gb<W.heap.size:=l2 _ (bb);have hvs:aV FU++aV CV=[(⟨#[78,95,50]⟩,⟨#[110,97,116]⟩)]:=aiN;have hw:=agK;rw[Bool.and_eq_true] at hw;have hN: ∀W',Ext W W'->W'.heap[W.heap.size]?=some (tO FU xa ya)->W'.heap[W.heap.size+1]?=some (.cells #[.string CV.name,.string CV.sort,.slice (some ⟨gb,0,none⟩) CV.kids.length cb] 24 (0,0))->EM Lc (IE W.heap.size gb) (fun k=>k=W.heap.size\/k=W.heap.size+1\/k=gb) W':=fun W' hW ha hb=>by
  refine⟨fun i j hi hj e=>?_,fun i hi=>?_,fun i r hr=>?_⟩
  .have hi':i<4:=hi;have hj':j<4:=hj;rcases(by omega:i=0\/i=1\/i=2\/i=3) with rfl|rfl|rfl|rfl<;>rcases(by omega:j=0\/j=1\/j=2\/j=3) with rfl|rfl|rfl|rfl<;>first|rfl|(simp only[IE,Prod.mk.injEq] at e;omega)
  .have hi':i<4:=hi;rcases(by omega:i=0\/i=1\/i=2\/i=3) with rfl|rfl|rfl|rfl
   .exact ⟨⟨_,_,ha⟩,by simp[IE]⟩
   .exact ⟨⟨_,_,hb⟩,by simp[IE]⟩
   .exact ⟨pb.ext hW,by simp[IE]⟩
   .exact ⟨pb.ext hW,by simp[IE]⟩
  .have hi':i<4:=(List.getElem?_eq_some_iff.1 hr).1;rcases(by omega:i=0\/i=1\/i=2\/i=3) with rfl|rfl|rfl|rfl<;>(injection hr with hr;subst hr)
   .refine ⟨aj ha 0 _ rfl,aj ha 1 _ rfl,_,_,aj ha 2 _ rfl,fun h=>absurd h (by decide)⟩
   .refine ⟨aj hb 0 _ rfl,aj hb 1 _ rfl,_,_,aj hb 2 _ rfl,fun _=>⟨gb,0,rfl,fun j q hq=>?_⟩⟩;have hj:j<2:=(List.getElem?_eq_some_iff.1 hq).1;rcases(by omega:j=0\/j=1) with rfl|rfl<;>(injection hq with hq;subst hq;exact⟨by decide,rfl⟩)
   .refine ⟨hW.cell (qb 0 (by decide)).1 (fun h=>h),hW.cell (qb 0 (by decide)).2.1 (fun h=>h),_,_,hW.cell ((qb 0 (by decide)).2.2.trans (congrArg some FT)) (fun h=>h),fun h=>absurd h (by decide)⟩
   .refine ⟨hW.cell (qb 1 (by decide)).1 (fun h=>h),hW.cell (qb 1 (by decide)).2.1 (fun h=>h),_,_,hW.cell ((qb 1 (by decide)).2.2.trans (congrArg some JL)) (fun h=>h),fun h=>absurd h (by decide)⟩
 have hno:=Z9;have hu:oQ Lc 20 VK=some none:=by
  cases hq:oQ Lc 20 VK with
  |none=>rw[hq] at hno;cases hno
  |some R=>
   cases R with
   |none=>rfl
   |some st=>rw[hq] at hno;cases hno
 have hx:=yt (T:=Lc) (ad:=IE W.heap.size gb) (S:=(fun k=>k=W.heap.size\/k=W.heap.size+1\/k=gb)) 20 FU CV xa (some ⟨gb,0,none⟩) ya cb W htab
  ⟨_,_,rfl,(aP.read h1).weaken l1⟩ ⟨_,_,rfl,(aP.read h2).weaken l2⟩ (by decide) (by decide) hw.1 hw.2
  (by rw[hvs];decide) (by rw[hvs];decide) rfl rfl hN
  (by rintro k (h|h|h)<;>omega)
  (fun i r hr=>(by decide: ∀r∈Lc,r.ks.length<=1000000) r (List.mem_of_getElem? hr)) none hu (fun _=>default) (fun st e=>by cases e)
 refine hx.mono ?_;rintro e w' ⟨hres,hE⟩;rcases hres with⟨_,h⟩|⟨h,_⟩
 .exact ⟨h,hE⟩
 .exact absurd rfl h
abbrev FV:Tm:=(.mk ⟨#[122,101,114,111]⟩ au [])
abbrev CW:Tm:=(.mk ⟨#[112,108,117,115]⟩ au [(.mk ⟨#[115]⟩ au [(.mk ⟨#[78,95,50]⟩ ⟨#[110,97,116]⟩ [])]),(.mk ⟨#[77,95,50]⟩ ⟨#[110,97,116]⟩ [])])
def Ld:List Nr:=[⟨⟨#[122,101,114,111]⟩,au,[]⟩,⟨⟨#[112,108,117,115]⟩,au,[2,3]⟩,⟨⟨#[115]⟩,au,[4]⟩,⟨⟨#[77,95,50]⟩,⟨#[110,97,116]⟩,[]⟩,⟨⟨#[78,95,50]⟩,⟨#[110,97,116]⟩,[]⟩]
def VN:List Vd:=aV FV++aV CW
def FW (r0 gb jh:Nat):Nat->Nat×Nat
 |0=>(r0,0)
 |1=>(r0+1,0)
 |2=>(gb,0)
 |3=>(gb,3)
 |4=>(jh,0)
 |_=>(0,0)
theorem aiP:VN=[(⟨#[77,95,50]⟩,⟨#[110,97,116]⟩),(⟨#[78,95,50]⟩,⟨#[110,97,116]⟩)]:=by decide+kernel
theorem agL:(wf aJ FV&&wf aJ CW)=true:=by decide+kernel
theorem Z_:(match oQ Ld 20 VN with|some none=>true|_=>false)=true:=by decide+kernel
theorem aiQ (W:World) (htab:dN W) (B1 B2:Nat->Prop) (va vb:Value) (h1:aP 24 W B1 FV.kids va) (h2:aP 24 W B2 CW.kids vb) (hd: ∀k,B1 k->¬B2 k) (l1: ∀k,B1 k->k<W.heap.size) (l2: ∀k,B2 k->k<W.heap.size):
  Calls Tryz.prog 17 #[tV FV va,tV CW vb] W fun e w'=>e= .returned (.tuple #[.slice none 0 0,.int .i64 12])/\Ext W w':=by
 obtain⟨xa,ya,ea⟩:=aP.shape h1;obtain⟨gb,cb,ub,Bb,eb,pb,bb,qb,kb,nb,_⟩:=aP.vk h2 (by decide);obtain⟨TI,yb1,JL⟩:=aP.shape (kb 1 (by decide));obtain⟨jh,cb0,ub0,Bb0,FT,QO,bb0,qb0,vS,nb0,_⟩:=aP.vk (kb 0 (by decide)) (by decide);obtain⟨Z5,Z7,IC⟩:=aP.shape (vS 0 (by decide));subst ea eb;have zb:gb<W.heap.size:=l2 _ (bb);have zb0:jh<W.heap.size:=l2 _ ((nb 0 _ (by decide) bb0).1);have Z8:gb≠jh:=fun e=>(nb 0 _ (by decide) bb0).2 e.symm;have hvs:aV FV++aV CW=[(⟨#[77,95,50]⟩,⟨#[110,97,116]⟩),(⟨#[78,95,50]⟩,⟨#[110,97,116]⟩)]:=aiP;have hw:=agL;rw[Bool.and_eq_true] at hw;have hN: ∀W',Ext W W'->W'.heap[W.heap.size]?=some (tO FV xa ya)->W'.heap[W.heap.size+1]?=some (.cells #[.string CW.name,.string CW.sort,.slice (some ⟨gb,0,none⟩) CW.kids.length cb] 24 (0,0))->EM Ld (FW W.heap.size gb jh) (fun k=>k=W.heap.size\/k=W.heap.size+1\/k=gb\/k=jh) W':=fun W' hW ha hb=>by
  refine⟨fun i j hi hj e=>?_,fun i hi=>?_,fun i r hr=>?_⟩
  .have hi':i<5:=hi;have hj':j<5:=hj;rcases(by omega:i=0\/i=1\/i=2\/i=3\/i=4) with rfl|rfl|rfl|rfl|rfl<;>rcases(by omega:j=0\/j=1\/j=2\/j=3\/j=4) with rfl|rfl|rfl|rfl|rfl<;>first|rfl|(simp only[FW,Prod.mk.injEq] at e;omega)
  .have hi':i<5:=hi;rcases(by omega:i=0\/i=1\/i=2\/i=3\/i=4) with rfl|rfl|rfl|rfl|rfl
   .exact ⟨⟨_,_,ha⟩,by simp[FW]⟩
   .exact ⟨⟨_,_,hb⟩,by simp[FW]⟩
   .exact ⟨pb.ext hW,by simp[FW]⟩
   .exact ⟨pb.ext hW,by simp[FW]⟩
   .exact ⟨QO.ext hW,by simp[FW]⟩
  .have hi':i<5:=(List.getElem?_eq_some_iff.1 hr).1;rcases(by omega:i=0\/i=1\/i=2\/i=3\/i=4) with rfl|rfl|rfl|rfl|rfl<;>(injection hr with hr;subst hr)
   .refine ⟨aj ha 0 _ rfl,aj ha 1 _ rfl,_,_,aj ha 2 _ rfl,fun h=>absurd h (by decide)⟩
   .refine ⟨aj hb 0 _ rfl,aj hb 1 _ rfl,_,_,aj hb 2 _ rfl,fun _=>⟨gb,0,rfl,fun j q hq=>?_⟩⟩;have hj:j<2:=(List.getElem?_eq_some_iff.1 hq).1;rcases(by omega:j=0\/j=1) with rfl|rfl<;>(injection hq with hq;subst hq;exact⟨by decide,rfl⟩)
   .refine ⟨hW.cell (qb 0 (by decide)).1 (fun h=>h),hW.cell (qb 0 (by decide)).2.1 (fun h=>h),_,_,hW.cell ((qb 0 (by decide)).2.2.trans (congrArg some FT)) (fun h=>h),fun _=>⟨jh,0,rfl,fun j q hq=>?_⟩⟩;have hj:j<1:=(List.getElem?_eq_some_iff.1 hq).1;rcases(by omega:j=0) with rfl<;>(injection hq with hq;subst hq;exact⟨by decide,rfl⟩)
   .refine ⟨hW.cell (qb 1 (by decide)).1 (fun h=>h),hW.cell (qb 1 (by decide)).2.1 (fun h=>h),_,_,hW.cell ((qb 1 (by decide)).2.2.trans (congrArg some JL)) (fun h=>h),fun h=>absurd h (by decide)⟩
   .refine ⟨hW.cell (qb0 0 (by decide)).1 (fun h=>h),hW.cell (qb0 0 (by decide)).2.1 (fun h=>h),_,_,hW.cell ((qb0 0 (by decide)).2.2.trans (congrArg some IC)) (fun h=>h),fun h=>absurd h (by decide)⟩
 have hno:=Z_;have hu:oQ Ld 20 VN=some none:=by
  cases hq:oQ Ld 20 VN with
  |none=>rw[hq] at hno;cases hno
  |some R=>
   cases R with
   |none=>rfl
   |some st=>rw[hq] at hno;cases hno
 have hx:=yt (T:=Ld) (ad:=FW W.heap.size gb jh) (S:=(fun k=>k=W.heap.size\/k=W.heap.size+1\/k=gb\/k=jh)) 20 FV CW xa (some ⟨gb,0,none⟩) ya cb W htab
  ⟨_,_,rfl,(aP.read h1).weaken l1⟩ ⟨_,_,rfl,(aP.read h2).weaken l2⟩ (by decide) (by decide) hw.1 hw.2
  (by rw[hvs];decide) (by rw[hvs];decide) rfl rfl hN
  (by rintro k (h|h|h|h)<;>omega)
  (fun i r hr=>(by decide: ∀r∈Ld,r.ks.length<=1000000) r (List.mem_of_getElem? hr)) none hu (fun _=>default) (fun st e=>by cases e)
 refine hx.mono ?_;rintro e w' ⟨hres,hE⟩;rcases hres with⟨_,h⟩|⟨h,_⟩
 .exact ⟨h,hE⟩
 .exact absurd rfl h
abbrev Aj:Tm:=(.mk ⟨#[115]⟩ au [(.mk ⟨#[78,95,49]⟩ ⟨#[110,97,116]⟩ [])])
abbrev CX:Tm:=(.mk ⟨#[112,108,117,115]⟩ au [(.mk ⟨#[122,101,114,111]⟩ au []),(.mk ⟨#[78,95,50]⟩ ⟨#[110,97,116]⟩ [])])
def Le:List Nr:=[⟨⟨#[115]⟩,au,[2]⟩,⟨⟨#[112,108,117,115]⟩,au,[3,4]⟩,⟨⟨#[78,95,49]⟩,⟨#[110,97,116]⟩,[]⟩,⟨⟨#[122,101,114,111]⟩,au,[]⟩,⟨⟨#[78,95,50]⟩,⟨#[110,97,116]⟩,[]⟩]
def VO:List Vd:=aV Aj++aV CX
def FY (r0 ga gb:Nat):Nat->Nat×Nat
 |0=>(r0,0)
 |1=>(r0+1,0)
 |2=>(ga,0)
 |3=>(gb,0)
 |4=>(gb,3)
 |_=>(0,0)
theorem aiR:VO=[(⟨#[78,95,49]⟩,⟨#[110,97,116]⟩),(⟨#[78,95,50]⟩,⟨#[110,97,116]⟩)]:=by decide+kernel
theorem agM:(wf aJ Aj&&wf aJ CX)=true:=by decide+kernel
theorem aac:(match oQ Le 20 VO with|some none=>true|_=>false)=true:=by decide+kernel
theorem aiS (W:World) (htab:dN W) (B1 B2:Nat->Prop) (va vb:Value) (h1:aP 24 W B1 Aj.kids va) (h2:aP 24 W B2 CX.kids vb) (hd: ∀k,B1 k->¬B2 k) (l1: ∀k,B1 k->k<W.heap.size) (l2: ∀k,B2 k->k<W.heap.size):
  Calls Tryz.prog 17 #[tV Aj va,tV CX vb] W fun e w'=>e= .returned (.tuple #[.slice none 0 0,.int .i64 12])/\Ext W w':=by
 obtain⟨ga,ca,ua,Ba,ea,pa,ba,qa,ka,na,_⟩:=aP.vk h1 (by decide);obtain⟨xa0,ya0,QN⟩:=aP.shape (ka 0 (by decide));obtain⟨gb,cb,ub,Bb,eb,pb,bb,qb,kb,nb,_⟩:=aP.vk h2 (by decide);obtain⟨xb0,yb0,FT⟩:=aP.shape (kb 0 (by decide));obtain⟨TI,yb1,JL⟩:=aP.shape (kb 1 (by decide));subst ea eb;have za:ga<W.heap.size:=l1 _ (ba);have zb:gb<W.heap.size:=l2 _ (bb);have dab:ga≠gb:=fun e=>hd _ (ba) (e▸(bb));have hvs:aV Aj++aV CX=[(⟨#[78,95,49]⟩,⟨#[110,97,116]⟩),(⟨#[78,95,50]⟩,⟨#[110,97,116]⟩)]:=aiR;have hw:=agM;rw[Bool.and_eq_true] at hw;have hN: ∀W',Ext W W'->W'.heap[W.heap.size]?=some (.cells #[.string Aj.name,.string Aj.sort,.slice (some ⟨ga,0,none⟩) Aj.kids.length ca] 24 (0,0))->W'.heap[W.heap.size+1]?=some (.cells #[.string CX.name,.string CX.sort,.slice (some ⟨gb,0,none⟩) CX.kids.length cb] 24 (0,0))->EM Le (FY W.heap.size ga gb) (fun k=>k=W.heap.size\/k=W.heap.size+1\/k=ga\/k=gb) W':=fun W' hW ha hb=>by
  refine⟨fun i j hi hj e=>?_,fun i hi=>?_,fun i r hr=>?_⟩
  .have hi':i<5:=hi;have hj':j<5:=hj;rcases(by omega:i=0\/i=1\/i=2\/i=3\/i=4) with rfl|rfl|rfl|rfl|rfl<;>rcases(by omega:j=0\/j=1\/j=2\/j=3\/j=4) with rfl|rfl|rfl|rfl|rfl<;>first|rfl|(simp only[FY,Prod.mk.injEq] at e;omega)
  .have hi':i<5:=hi;rcases(by omega:i=0\/i=1\/i=2\/i=3\/i=4) with rfl|rfl|rfl|rfl|rfl
   .exact ⟨⟨_,_,ha⟩,by simp[FY]⟩
   .exact ⟨⟨_,_,hb⟩,by simp[FY]⟩
   .exact ⟨pa.ext hW,by simp[FY]⟩
   .exact ⟨pb.ext hW,by simp[FY]⟩
   .exact ⟨pb.ext hW,by simp[FY]⟩
  .have hi':i<5:=(List.getElem?_eq_some_iff.1 hr).1;rcases(by omega:i=0\/i=1\/i=2\/i=3\/i=4) with rfl|rfl|rfl|rfl|rfl<;>(injection hr with hr;subst hr)
   .refine ⟨aj ha 0 _ rfl,aj ha 1 _ rfl,_,_,aj ha 2 _ rfl,fun _=>⟨ga,0,rfl,fun j q hq=>?_⟩⟩;have hj:j<1:=(List.getElem?_eq_some_iff.1 hq).1;rcases(by omega:j=0) with rfl<;>(injection hq with hq;subst hq;exact⟨by decide,rfl⟩)
   .refine ⟨aj hb 0 _ rfl,aj hb 1 _ rfl,_,_,aj hb 2 _ rfl,fun _=>⟨gb,0,rfl,fun j q hq=>?_⟩⟩;have hj:j<2:=(List.getElem?_eq_some_iff.1 hq).1;rcases(by omega:j=0\/j=1) with rfl|rfl<;>(injection hq with hq;subst hq;exact⟨by decide,rfl⟩)
   .refine ⟨hW.cell (qa 0 (by decide)).1 (fun h=>h),hW.cell (qa 0 (by decide)).2.1 (fun h=>h),_,_,hW.cell ((qa 0 (by decide)).2.2.trans (congrArg some QN)) (fun h=>h),fun h=>absurd h (by decide)⟩
   .refine ⟨hW.cell (qb 0 (by decide)).1 (fun h=>h),hW.cell (qb 0 (by decide)).2.1 (fun h=>h),_,_,hW.cell ((qb 0 (by decide)).2.2.trans (congrArg some FT)) (fun h=>h),fun h=>absurd h (by decide)⟩
   .refine ⟨hW.cell (qb 1 (by decide)).1 (fun h=>h),hW.cell (qb 1 (by decide)).2.1 (fun h=>h),_,_,hW.cell ((qb 1 (by decide)).2.2.trans (congrArg some JL)) (fun h=>h),fun h=>absurd h (by decide)⟩
 have hno:=aac;have hu:oQ Le 20 VO=some none:=by
  cases hq:oQ Le 20 VO with
  |none=>rw[hq] at hno;cases hno
  |some R=>
   cases R with
   |none=>rfl
   |some st=>rw[hq] at hno;cases hno
 have hx:=yt (T:=Le) (ad:=FY W.heap.size ga gb) (S:=(fun k=>k=W.heap.size\/k=W.heap.size+1\/k=ga\/k=gb)) 20 Aj CX (some ⟨ga,0,none⟩) (some ⟨gb,0,none⟩) ca cb W htab
  ⟨_,_,rfl,(aP.read h1).weaken l1⟩ ⟨_,_,rfl,(aP.read h2).weaken l2⟩ (by decide) (by decide) hw.1 hw.2
  (by rw[hvs];decide) (by rw[hvs];decide) rfl rfl hN
  (by rintro k (h|h|h|h)<;>omega)
  (fun i r hr=>(by decide: ∀r∈Le,r.ks.length<=1000000) r (List.mem_of_getElem? hr)) none hu (fun _=>default) (fun st e=>by cases e)
 refine hx.mono ?_;rintro e w' ⟨hres,hE⟩;rcases hres with⟨_,h⟩|⟨h,_⟩
 .exact ⟨h,hE⟩
 .exact absurd rfl h
abbrev Ak:Tm:=(.mk ⟨#[115]⟩ au [(.mk ⟨#[78,95,49]⟩ ⟨#[110,97,116]⟩ [])])
abbrev CY:Tm:=(.mk ⟨#[112,108,117,115]⟩ au [(.mk ⟨#[115]⟩ au [(.mk ⟨#[78,95,50]⟩ ⟨#[110,97,116]⟩ [])]),(.mk ⟨#[77,95,50]⟩ ⟨#[110,97,116]⟩ [])])
def Lh:List Nr:=[⟨⟨#[115]⟩,au,[2]⟩,⟨⟨#[112,108,117,115]⟩,au,[3,4]⟩,⟨⟨#[78,95,49]⟩,⟨#[110,97,116]⟩,[]⟩,⟨⟨#[115]⟩,au,[5]⟩,⟨⟨#[77,95,50]⟩,⟨#[110,97,116]⟩,[]⟩,⟨⟨#[78,95,50]⟩,⟨#[110,97,116]⟩,[]⟩]
def VP:List Vd:=aV Ak++aV CY
def CZ (r0 ga gb jh:Nat):Nat->Nat×Nat
 |0=>(r0,0)
 |1=>(r0+1,0)
 |2=>(ga,0)
 |3=>(gb,0)
 |4=>(gb,3)
 |5=>(jh,0)
 |_=>(0,0)
theorem aiT:VP=[(⟨#[78,95,49]⟩,⟨#[110,97,116]⟩),(⟨#[77,95,50]⟩,⟨#[110,97,116]⟩),(⟨#[78,95,50]⟩,⟨#[110,97,116]⟩)]:=by decide+kernel
theorem agN:(wf aJ Ak&&wf aJ CY)=true:=by decide+kernel
theorem aad:(match oQ Lh 20 VP with|some none=>true|_=>false)=true:=by decide+kernel
theorem aiU (W:World) (htab:dN W) (B1 B2:Nat->Prop) (va vb:Value) (h1:aP 24 W B1 Ak.kids va) (h2:aP 24 W B2 CY.kids vb) (hd: ∀k,B1 k->¬B2 k) (l1: ∀k,B1 k->k<W.heap.size) (l2: ∀k,B2 k->k<W.heap.size):
  Calls Tryz.prog 17 #[tV Ak va,tV CY vb] W fun e w'=>e= .returned (.tuple #[.slice none 0 0,.int .i64 12])/\Ext W w':=by
 obtain⟨ga,ca,ua,Ba,ea,pa,ba,qa,ka,na,_⟩:=aP.vk h1 (by decide);obtain⟨xa0,ya0,QN⟩:=aP.shape (ka 0 (by decide));obtain⟨gb,cb,ub,Bb,eb,pb,bb,qb,kb,nb,_⟩:=aP.vk h2 (by decide);obtain⟨TI,yb1,JL⟩:=aP.shape (kb 1 (by decide));obtain⟨jh,cb0,ub0,Bb0,FT,QO,bb0,qb0,vS,nb0,_⟩:=aP.vk (kb 0 (by decide)) (by decide);obtain⟨Z5,Z7,IC⟩:=aP.shape (vS 0 (by decide));subst ea eb;have za:ga<W.heap.size:=l1 _ (ba);have zb:gb<W.heap.size:=l2 _ (bb);have zb0:jh<W.heap.size:=l2 _ ((nb 0 _ (by decide) bb0).1);have dab:ga≠gb:=fun e=>hd _ (ba) (e▸(bb));have agJ:ga≠jh:=fun e=>hd _ (ba) (e▸((nb 0 _ (by decide) bb0).1));have Z8:gb≠jh:=fun e=>(nb 0 _ (by decide) bb0).2 e.symm;have hvs:aV Ak++aV CY=[(⟨#[78,95,49]⟩,⟨#[110,97,116]⟩),(⟨#[77,95,50]⟩,⟨#[110,97,116]⟩),(⟨#[78,95,50]⟩,⟨#[110,97,116]⟩)]:=aiT;have hw:=agN;rw[Bool.and_eq_true] at hw;have hN: ∀W',Ext W W'->W'.heap[W.heap.size]?=some (.cells #[.string Ak.name,.string Ak.sort,.slice (some ⟨ga,0,none⟩) Ak.kids.length ca] 24 (0,0))->W'.heap[W.heap.size+1]?=some (.cells #[.string CY.name,.string CY.sort,.slice (some ⟨gb,0,none⟩) CY.kids.length cb] 24 (0,0))->EM Lh (CZ W.heap.size ga gb jh) (fun k=>k=W.heap.size\/k=W.heap.size+1\/k=ga\/k=gb\/k=jh) W':=fun W' hW ha hb=>by
  refine⟨fun i j hi hj e=>?_,fun i hi=>?_,fun i r hr=>?_⟩
  .have hi':i<6:=hi;have hj':j<6:=hj;rcases(by omega:i=0\/i=1\/i=2\/i=3\/i=4\/i=5) with rfl|rfl|rfl|rfl|rfl|rfl<;>rcases(by omega:j=0\/j=1\/j=2\/j=3\/j=4\/j=5) with rfl|rfl|rfl|rfl|rfl|rfl<;>first|rfl|(simp only[CZ,Prod.mk.injEq] at e;omega)
  .have hi':i<6:=hi;rcases(by omega:i=0\/i=1\/i=2\/i=3\/i=4\/i=5) with rfl|rfl|rfl|rfl|rfl|rfl
   .exact ⟨⟨_,_,ha⟩,by simp[CZ]⟩
   .exact ⟨⟨_,_,hb⟩,by simp[CZ]⟩
   .exact ⟨pa.ext hW,by simp[CZ]⟩
   .exact ⟨pb.ext hW,by simp[CZ]⟩
   .exact ⟨pb.ext hW,by simp[CZ]⟩
   .exact ⟨QO.ext hW,by simp[CZ]⟩
  .have hi':i<6:=(List.getElem?_eq_some_iff.1 hr).1;rcases(by omega:i=0\/i=1\/i=2\/i=3\/i=4\/i=5) with rfl|rfl|rfl|rfl|rfl|rfl<;>(injection hr with hr;subst hr)
   .refine ⟨aj ha 0 _ rfl,aj ha 1 _ rfl,_,_,aj ha 2 _ rfl,fun _=>⟨ga,0,rfl,fun j q hq=>?_⟩⟩;have hj:j<1:=(List.getElem?_eq_some_iff.1 hq).1;rcases(by omega:j=0) with rfl<;>(injection hq with hq;subst hq;exact⟨by decide,rfl⟩)
   .refine ⟨aj hb 0 _ rfl,aj hb 1 _ rfl,_,_,aj hb 2 _ rfl,fun _=>⟨gb,0,rfl,fun j q hq=>?_⟩⟩;have hj:j<2:=(List.getElem?_eq_some_iff.1 hq).1;rcases(by omega:j=0\/j=1) with rfl|rfl<;>(injection hq with hq;subst hq;exact⟨by decide,rfl⟩)
   .refine ⟨hW.cell (qa 0 (by decide)).1 (fun h=>h),hW.cell (qa 0 (by decide)).2.1 (fun h=>h),_,_,hW.cell ((qa 0 (by decide)).2.2.trans (congrArg some QN)) (fun h=>h),fun h=>absurd h (by decide)⟩
   .refine ⟨hW.cell (qb 0 (by decide)).1 (fun h=>h),hW.cell (qb 0 (by decide)).2.1 (fun h=>h),_,_,hW.cell ((qb 0 (by decide)).2.2.trans (congrArg some FT)) (fun h=>h),fun _=>⟨jh,0,rfl,fun j q hq=>?_⟩⟩;have hj:j<1:=(List.getElem?_eq_some_iff.1 hq).1;rcases(by omega:j=0) with rfl<;>(injection hq with hq;subst hq;exact⟨by decide,rfl⟩)
   .refine ⟨hW.cell (qb 1 (by decide)).1 (fun h=>h),hW.cell (qb 1 (by decide)).2.1 (fun h=>h),_,_,hW.cell ((qb 1 (by decide)).2.2.trans (congrArg some JL)) (fun h=>h),fun h=>absurd h (by decide)⟩
   .refine ⟨hW.cell (qb0 0 (by decide)).1 (fun h=>h),hW.cell (qb0 0 (by decide)).2.1 (fun h=>h),_,_,hW.cell ((qb0 0 (by decide)).2.2.trans (congrArg some IC)) (fun h=>h),fun h=>absurd h (by decide)⟩
 have hno:=aad;have hu:oQ Lh 20 VP=some none:=by
  cases hq:oQ Lh 20 VP with
  |none=>rw[hq] at hno;cases hno
  |some R=>
   cases R with
   |none=>rfl
   |some st=>rw[hq] at hno;cases hno
 have hx:=yt (T:=Lh) (ad:=CZ W.heap.size ga gb jh) (S:=(fun k=>k=W.heap.size\/k=W.heap.size+1\/k=ga\/k=gb\/k=jh)) 20 Ak CY (some ⟨ga,0,none⟩) (some ⟨gb,0,none⟩) ca cb W htab
  ⟨_,_,rfl,(aP.read h1).weaken l1⟩ ⟨_,_,rfl,(aP.read h2).weaken l2⟩ (by decide) (by decide) hw.1 hw.2
  (by rw[hvs];decide) (by rw[hvs];decide) rfl rfl hN
  (by rintro k (h|h|h|h|h)<;>omega)
  (fun i r hr=>(by decide: ∀r∈Lh,r.ks.length<=1000000) r (List.mem_of_getElem? hr)) none hu (fun _=>default) (fun st e=>by cases e)
 refine hx.mono ?_;rintro e w' ⟨hres,hE⟩;rcases hres with⟨_,h⟩|⟨h,_⟩
 .exact ⟨h,hE⟩
 .exact absurd rfl h
abbrev Am:Tm:=(.mk ⟨#[102]⟩ au [(.mk ⟨#[88,95,49]⟩ ⟨#[97]⟩ [])])
abbrev C9:Tm:=(.mk ⟨#[102]⟩ au [(.mk ⟨#[102]⟩ au [(.mk ⟨#[88,95,50]⟩ ⟨#[97]⟩ [])])])
def Lj:List Nr:=[⟨⟨#[102]⟩,au,[2]⟩,⟨⟨#[102]⟩,au,[3]⟩,⟨⟨#[88,95,49]⟩,⟨#[97]⟩,[]⟩,⟨⟨#[102]⟩,au,[4]⟩,⟨⟨#[88,95,50]⟩,⟨#[97]⟩,[]⟩]
def VQ:List Vd:=aV Am++aV C9
def FZ (r0 ga gb jh:Nat):Nat->Nat×Nat
 |0=>(r0,0)
 |1=>(r0+1,0)
 |2=>(ga,0)
 |3=>(gb,0)
 |4=>(jh,0)
 |_=>(0,0)
theorem aiV:VQ=[(⟨#[88,95,49]⟩,⟨#[97]⟩),(⟨#[88,95,50]⟩,⟨#[97]⟩)]:=by decide+kernel
theorem agO:(wf aJ Am&&wf aJ C9)=true:=by decide+kernel
def Oh (v:Vd):Tm:=if v.1=⟨#[88,95,49]⟩ then(.mk ⟨#[102]⟩ au [(.mk ⟨#[88,95,50]⟩ ⟨#[97]⟩ [])]) else(.mk ⟨#[88,95,50]⟩ ⟨#[97]⟩ [])
def QS:List Bd:=[(⟨#[88,95,49]⟩,⟨#[97]⟩,(.mk ⟨#[102]⟩ au [(.mk ⟨#[88,95,50]⟩ ⟨#[97]⟩ [])]))]
theorem agP:((oQ Lj 20 VQ).bind id).any (fun st=>abq Lj 20 VQ Oh st)=true:=by decide+kernel
theorem aiW (W:World) (htab:dN W) (B1 B2:Nat->Prop) (va vb:Value) (h1:aP 24 W B1 Am.kids va) (h2:aP 24 W B2 C9.kids vb) (hd: ∀k,B1 k->¬B2 k) (l1: ∀k,B1 k->k<W.heap.size) (l2: ∀k,B2 k->k<W.heap.size):
  Calls Tryz.prog 17 #[tV Am va,tV C9 vb] W fun e w'=> ∃ra rc,e= .returned (.tuple #[.slice ra 1 rc,.int .i64 0])/\iM (fun k=>W.heap.size<=k/\k<w'.heap.size) (fun k=>W.heap.size<=k/\k<w'.heap.size) w' (.slice ra 1 rc) QS/\Ext W w':=by
 obtain⟨ga,ca,ua,Ba,ea,pa,ba,qa,ka,na,_⟩:=aP.vk h1 (by decide);obtain⟨xa0,ya0,QN⟩:=aP.shape (ka 0 (by decide));obtain⟨gb,cb,ub,Bb,eb,pb,bb,qb,kb,nb,_⟩:=aP.vk h2 (by decide);obtain⟨jh,cb0,ub0,Bb0,FT,QO,bb0,qb0,vS,nb0,_⟩:=aP.vk (kb 0 (by decide)) (by decide);obtain⟨Z5,Z7,IC⟩:=aP.shape (vS 0 (by decide));subst ea eb;have za:ga<W.heap.size:=l1 _ (ba);have zb:gb<W.heap.size:=l2 _ (bb);have zb0:jh<W.heap.size:=l2 _ ((nb 0 _ (by decide) bb0).1);have dab:ga≠gb:=fun e=>hd _ (ba) (e▸(bb));have agJ:ga≠jh:=fun e=>hd _ (ba) (e▸((nb 0 _ (by decide) bb0).1));have Z8:gb≠jh:=fun e=>(nb 0 _ (by decide) bb0).2 e.symm;have hvs:aV Am++aV C9=[(⟨#[88,95,49]⟩,⟨#[97]⟩),(⟨#[88,95,50]⟩,⟨#[97]⟩)]:=aiV;have hw:=agO;rw[Bool.and_eq_true] at hw;have hN: ∀W',Ext W W'->W'.heap[W.heap.size]?=some (.cells #[.string Am.name,.string Am.sort,.slice (some ⟨ga,0,none⟩) Am.kids.length ca] 24 (0,0))->W'.heap[W.heap.size+1]?=some (.cells #[.string C9.name,.string C9.sort,.slice (some ⟨gb,0,none⟩) C9.kids.length cb] 24 (0,0))->EM Lj (FZ W.heap.size ga gb jh) (fun k=>k=W.heap.size\/k=W.heap.size+1\/k=ga\/k=gb\/k=jh) W':=fun W' hW ha hb=>by
  refine⟨fun i j hi hj e=>?_,fun i hi=>?_,fun i r hr=>?_⟩
  .have hi':i<5:=hi;have hj':j<5:=hj;rcases(by omega:i=0\/i=1\/i=2\/i=3\/i=4) with rfl|rfl|rfl|rfl|rfl<;>rcases(by omega:j=0\/j=1\/j=2\/j=3\/j=4) with rfl|rfl|rfl|rfl|rfl<;>first|rfl|(simp only[FZ,Prod.mk.injEq] at e;omega)
  .have hi':i<5:=hi;rcases(by omega:i=0\/i=1\/i=2\/i=3\/i=4) with rfl|rfl|rfl|rfl|rfl
   .exact ⟨⟨_,_,ha⟩,by simp[FZ]⟩
   .exact ⟨⟨_,_,hb⟩,by simp[FZ]⟩
   .exact ⟨pa.ext hW,by simp[FZ]⟩
   .exact ⟨pb.ext hW,by simp[FZ]⟩
   .exact ⟨QO.ext hW,by simp[FZ]⟩
  .have hi':i<5:=(List.getElem?_eq_some_iff.1 hr).1;rcases(by omega:i=0\/i=1\/i=2\/i=3\/i=4) with rfl|rfl|rfl|rfl|rfl<;>(injection hr with hr;subst hr)
   .refine ⟨aj ha 0 _ rfl,aj ha 1 _ rfl,_,_,aj ha 2 _ rfl,fun _=>⟨ga,0,rfl,fun j q hq=>?_⟩⟩;have hj:j<1:=(List.getElem?_eq_some_iff.1 hq).1;rcases(by omega:j=0) with rfl<;>(injection hq with hq;subst hq;exact⟨by decide,rfl⟩)
   .refine ⟨aj hb 0 _ rfl,aj hb 1 _ rfl,_,_,aj hb 2 _ rfl,fun _=>⟨gb,0,rfl,fun j q hq=>?_⟩⟩;have hj:j<1:=(List.getElem?_eq_some_iff.1 hq).1;rcases(by omega:j=0) with rfl<;>(injection hq with hq;subst hq;exact⟨by decide,rfl⟩)
   .refine ⟨hW.cell (qa 0 (by decide)).1 (fun h=>h),hW.cell (qa 0 (by decide)).2.1 (fun h=>h),_,_,hW.cell ((qa 0 (by decide)).2.2.trans (congrArg some QN)) (fun h=>h),fun h=>absurd h (by decide)⟩
   .refine ⟨hW.cell (qb 0 (by decide)).1 (fun h=>h),hW.cell (qb 0 (by decide)).2.1 (fun h=>h),_,_,hW.cell ((qb 0 (by decide)).2.2.trans (congrArg some FT)) (fun h=>h),fun _=>⟨jh,0,rfl,fun j q hq=>?_⟩⟩;have hj:j<1:=(List.getElem?_eq_some_iff.1 hq).1;rcases(by omega:j=0) with rfl<;>(injection hq with hq;subst hq;exact⟨by decide,rfl⟩)
   .refine ⟨hW.cell (qb0 0 (by decide)).1 (fun h=>h),hW.cell (qb0 0 (by decide)).2.1 (fun h=>h),_,_,hW.cell ((qb0 0 (by decide)).2.2.trans (congrArg some IC)) (fun h=>h),fun h=>absurd h (by decide)⟩
 have hok:=agP;cases hu:oQ Lj 20 VQ with
 |none=>rw[hu] at hok;cases hok
 |some R=>
 rw[hu] at hok;have hR0:R≠none:=fun e=>by rw[e] at hok;cases hok
 have hx:=yt (T:=Lj) (ad:=FZ W.heap.size ga gb jh) (S:=(fun k=>k=W.heap.size\/k=W.heap.size+1\/k=ga\/k=gb\/k=jh)) 20 Am C9 (some ⟨ga,0,none⟩) (some ⟨gb,0,none⟩) ca cb W htab
  ⟨_,_,rfl,(aP.read h1).weaken l1⟩ ⟨_,_,rfl,(aP.read h2).weaken l2⟩ (by decide) (by decide) hw.1 hw.2
  (by rw[hvs];decide) (by rw[hvs];decide) rfl rfl hN
  (by rintro k (h|h|h|h|h)<;>omega)
  (fun i r hr=>(by decide: ∀r∈Lj,r.ks.length<=1000000) r (List.mem_of_getElem? hr)) R hu Oh (fun st e=>Vl (by rw[e] at hok;exact hok))
 refine hx.mono ?_;rintro e w' ⟨hres,hE⟩;rcases hres with⟨h,_⟩|⟨_,r,L,rfl,hbn,hasc,hmem⟩
 .exact absurd h hR0
 rw[hvs] at hmem;have tx:Oh (⟨#[88,95,49]⟩,⟨#[97]⟩)=(.mk ⟨#[102]⟩ au [(.mk ⟨#[88,95,50]⟩ ⟨#[97]⟩ [])]):=if_pos rfl;have ty:Oh (⟨#[88,95,50]⟩,⟨#[97]⟩)=(.mk ⟨#[88,95,50]⟩ ⟨#[97]⟩ []):=if_neg (by decide);have hL:L=QS:=Ih Prod.fst hasc (by unfold QS AscK;decide) (fun f=>by
  rw[hmem f];constructor
  .rintro ⟨⟨v,hv,e⟩,hs⟩;simp only[List.mem_cons,List.not_mem_nil,or_false] at hv;rcases hv with e2|e2<;>subst e2<;>subst e
   .exact List.mem_cons.2 (.inl (by rw[tx]))
   .exact absurd hs (by rw[ty];decide)
  .intro hf;unfold QS at hf;simp only[List.mem_cons,List.not_mem_nil,or_false] at hf;subst hf;exact⟨⟨(⟨#[88,95,49]⟩,⟨#[97]⟩),by simp,by rw[tx]⟩,by decide⟩)
 subst hL;obtain⟨ra,rc,rfl⟩:=hbn.shape;exact⟨ra,rc,rfl,hbn,hE⟩
theorem afm (nm so suf:By) (a:Option Addr) (n cap sb:Nat) (w:World) (hs:w.cell? ⟨sb,0,none⟩=some (.string suf)) (hl:nm.size+suf.size<=100000):Calls Tryz.prog 81 #[.agg #[.string nm,.string so,.slice a n cap],.pointer (some ⟨sb,0,none⟩)] w fun e w'=>e= .returned (.agg #[.string (nm++suf),.string so,.slice none 0 0])/\Ext w w':=by
 have hs2:=(((uR w).alloc (.cells #[.string nm,.string so,.slice a n cap] 24)).alloc zO).cell hs (fun h=>h);have HX:=ah (((uR w).alloc (.cells #[.string nm,.string so,.slice a n cap] 24)).alloc (.cells #[.string (nm++suf),.string so,.slice none 0 0] 24))
 go_enter Tryz.func81,Tryz.ntmps81
 go_wp2_with fail
 have hb:=alloc_at (w.alloc (.cells #[.string nm,.string so,.slice a n cap] 24)) (.cells #[.string (nm++suf),.string so,.slice none 0 0] 24) (n:=w.heap.size+1) (by simp);obtain⟨e0,e1,e2⟩:=ak hb;exact bodyPost_ret (v:= .agg #[.string (nm++suf),.string so,.slice none 0 0]) (by simp[results,Tryz.results81,go_sem,e0,e1,e2]) rfl ⟨rfl,HX.out⟩
theorem ac2 (suf:By) (sb:Nat) (w0:World) (xQ:Hid (∀W,Ext w0 W->W.cell? ⟨sb,0,none⟩=some (.string suf))): ∀(t:Tm) (v:Value) (S:Nat->Prop) (w:World),Ext w0 w->bQ S w t v->(∀k,S k->k<w.heap.size)->t.size<=100000->(∀f∈dJ t,f.1.size+suf.size<=100000)->
  Calls Tryz.prog 80 #[v,.func (.func 81) #[] #[.pointer (some ⟨sb,0,none⟩)]] w fun e w'=> ∃r B,e= .returned (tV (iH (fun n s=>vr (n++suf) s) t) r)/\aP 24 w' B (iH (fun n s=>vr (n++suf) s) t).kids r/\(∀j,B j->w.heap.size<=j/\j<w'.heap.size)/\Ext w w':=by
 refine Tm.ind (fun n s L ih=>?_);intro v S w hw0 hT hS hsz hok;obtain⟨Z,jY⟩: ∃Z,iH (fun n s=>vr (n++suf) s) (.mk n s L)=Z:=⟨_,rfl⟩
 rw[jY];have jm:=ah jY;clear jY;obtain⟨a,cap,rfl,hT⟩:=hT;dsimp only[tV,Tm.name,Tm.sort,Tm.kids] at hT⊢;have dH:=ah hT;have HIH:=ah ih;have iE:=ah hS;have HW0:=ah hw0;have lM:=ah hok;have fJ:sizes L+1<=100000:=by rw[size_eq] at hsz;simp only[Tm.kids] at hsz;omega
 have HSL:=ah fJ;have j_:L.length<=100000:=by have h1:=bG L;omega
 have qJ:=ah (fun W=>mW n s a L.length cap W);have hZ:=((uR w).alloc (.cells #[.string n,.string s,.slice a L.length cap] 24)).alloc zO;have HB2:=ah (aB (ay w (.cells #[.string n,.string s,.slice a L.length cap] 24)) zO);have HB3:=ah (alloc_at (w.alloc (.cells #[.string n,.string s,.slice a L.length cap] 24)) zO (n:=w.heap.size+1) (by simp));have hz2:w.heap.size+2<=((w.alloc (.cells #[.string n,.string s,.slice a L.length cap] 24)).alloc zO).heap.size:=by simp
 obtain⟨x0,x1,x2⟩:=ak HB2.out;have HZ:=ah hZ;have HZ2:=ah hz2;clear ih hT hS hsz fJ hZ hz2 hw0 hok;by_cases hs0:s=au
 rotate_left
 .rw [dF hs0] at qJ;obtain rfl:Z=vr (n++suf) s:=by rw[<-jm.out];exact pz _ hs0 L
  have EX:=ah (lM.out (n,s) (m_ hs0 L));clear hs0
  go_enter Tryz.func80,Tryz.ntmps80
  go_wp2_with fail
  refine(qJ.out _).mono ?_;rintro e w3 ⟨rfl,hw3⟩;have aY:=ah (HZ.out.trans hw3);have fU:Hid (w.heap.size+2<=w3.heap.size):=ah (Nat.le_trans HZ2.out hw3.size);have eH:=ah (hw3.heap HB2.out (fun h=>h));have wo:=ah (hw3.heap HB3.out (fun h=>h));clear hw3 qJ x0 x1 x2;obtain⟨x0,x1,x2⟩:=ak eH.out
  go_wp2_with fail
  refine(afm n s suf a L.length cap sb w3 (xQ.out _ (HW0.out.trans aY.out)) EX.out).mono ?_;rintro e w6 ⟨rfl,hw6⟩;have tu:=ah (EJ (vr (n++suf) s) (tV (vr (n++suf) s) (.slice none 0 0)) (fun k=>k<w6.heap.size) w6 ⟨none,0,rfl,aI.nil _ _⟩ (fun k h=>h) (by show 1<=100000;decide));dsimp only[tV,Tm.name,Tm.sort] at tu⊢;have fV:=ah (aY.out.trans hw6);have sJ:=ah (hw6.heap wo.out (fun h=>h));have wQ:Hid (w.heap.size+2<=w6.heap.size):=ah (Nat.le_trans fU.out hw6.size);clear hw6 x0 x1 x2
  go_wp2_with fail
  refine tu.out.mono ?_;rintro e w7 ⟨r7,B7,rfl,yQ,hb7,hw7⟩;obtain⟨ya,yc,jP⟩:=aP.shape yQ;subst jP;have He:=ah yQ;have eU:=ah hb7;have iG:=ah (fV.out.trans hw7);have qZ:=ah (hw7.heap sJ.out (fun h=>h));obtain⟨d0,d1,d2⟩:=ak qZ.out;have f2:=fun i=>aA qZ.out i;dsimp only[tV]
  try dsimp only[Tm.name,Tm.sort,Tm.kids,List.length_nil]
  clear yQ hb7 hw7 tu
  go_wp2_with fail
  have hr3:=aN qZ.out (.string (n++suf)) (.string s) (.slice ya 0 yc);have hu:=aK w7 (w.heap.size+1) (.string (n++suf)) (.string s) (.slice ya 0 yc);obtain⟨e0,e1,e2⟩:=ak hr3;have hs6:=wQ.out;refine bodyPost_ret (v:= .agg #[.string (n++suf),.string s,.slice ya 0 yc]) (by simp[results,Tryz.results80,go_sem,e0,e1,e2]) rfl ⟨.slice ya 0 yc,B7,rfl,He.out.kept hu (fun j hj e=>by have h1:=(eU.out j hj).1;omega),fun j hj=>⟨by have h1:=(eU.out j hj).1;omega,aF (eU.out j hj).2 hu.size⟩,iG.out.trans' hu (fun j hj e=>by omega)⟩
 rw[dT hs0] at qJ;obtain rfl:Z= .mk n au (L.map (iH (fun n s=>vr (n++suf) s))):=by rw[<-jm.out,hs0];exact tC _ n L
 have PU:Hid (∀x∈L,∀f∈dJ x,f.1.size+suf.size<=100000):=ah (fun x hx f hf=>lM.out f (by
  rw[hs0,uX];exact List.mem_flatMap.2 ⟨x,hx,hf⟩))
 clear hs0
 go_enter Tryz.func80,Tryz.ntmps80
 go_wp2_with fail
 refine(qJ.out _).mono ?_;rintro e w3 ⟨rfl,hw3⟩;have aY:=ah (HZ.out.trans hw3);have eH:=ah (hw3.heap HB2.out (fun h=>h));have wo:=ah (hw3.heap HB3.out (fun h=>h));have fU:Hid (w.heap.size+2<=w3.heap.size):=ah (Nat.le_trans HZ2.out hw3.size);clear hw3 qJ x0 x1 x2;have xP:=ah ((uR w3).alloc (.cells #[.string n,.string ⟨#[]⟩,.slice none 0 0] 24));have gV:=ah (aB eH.out (.cells #[.string n,.string ⟨#[]⟩,.slice none 0 0] 24));have ru:=ah (aB wo.out (.cells #[.string n,.string ⟨#[]⟩,.slice none 0 0] 24));have wu:=ah (ay w3 (.cells #[.string n,.string ⟨#[]⟩,.slice none 0 0] 24));have gW:Hid (w3.heap.size+1<=(w3.alloc (.cells #[.string n,.string ⟨#[]⟩,.slice none 0 0] 24)).heap.size):=ah (by simp);obtain⟨x0,x1,x2⟩:=ak eH.out;obtain⟨u0,u1,u2⟩:=ak gV.out
 go_wp2_with fail
 generalize w3.alloc (.cells #[.string n,.string ⟨#[]⟩,.slice none 0 0] 24)=w4 at*;obtain⟨n3,hn3⟩: ∃n3,w3.heap.size=n3:=⟨_,rfl⟩
 rw[hn3] at wu gW fU⊢;have bW:=ah (aY.out.trans xP.out);have kL:Hid (n_ 24 (n3+1) w4 (L.map (iH (fun n s=>vr (n++suf) s))) (.slice none 0 0) [] (fun _ _=>False) 0):=ah ⟨rfl,⟨rfl,.inl ⟨rfl,rfl⟩⟩,fun i hi=>absurd hi (Nat.not_lt_zero _),fun i j hi=>absurd hi (Nat.not_lt_zero _),fun i i' j hi=>absurd hi (Nat.not_lt_zero _)⟩;clear hn3 x0 x1 x2 u0 u1 u2 xP aY eH wo gV HZ HB2 HB3
 go_loopg [20] L.length (fun gk iv wr=> ∃(k:Nat) (lv:Value) (us:List Value) (Bk:Nat->Nat->Prop),iv= .int .i64 (k:Int)/\gk=L.length-k/\k<=L.length/\Hid (n_ 24 (n3+1) wr (L.map (iH (fun n s=>vr (n++suf) s))) lv us Bk k)/\Hid (wr.heap[w.heap.size+1]?=some zO)/\Hid (wr.heap[n3]?=some (.cells #[.string n,.string ⟨#[]⟩,lv] 24 (0,0)))/\Hid (Ext w wr)/\Hid (n3+1<=wr.heap.size))
 case atStart=>exact⟨0,_,_,_,rfl,rfl,Nat.zero_le _,kL,ru,wu,bW,gW⟩
 case round=>
  clear kL ru wu bW gW;obtain⟨k,lv,us,Bk,rfl,rfl,hk,HJ,HB2,HB3,HE,bU⟩:=hrel;obtain⟨la,lc,hlv⟩:=bF HJ.out.own;subst hlv;by_cases hlt:k<L.length
  .obtain ⟨g,off,hga,_,hat⟩:=(dH.out.ext HE.out).at_ (by omega);subst hga;obtain⟨xa,xc,q0,q1,q2,aW⟩:=hat k hlt;rw[<-Nat.add_assoc] at q1 q2;obtain⟨z0,z1,z2,z2'⟩:=bZ hlt;have bf:=ah (fun W (hW:Ext wr W)=>HIH.out (tg L k) (bY L k hlt) _ S W (HW0.out.trans (HE.out.trans hW)) ⟨xa,xc,rfl,aW.ext hW⟩ (fun j hj=>aF (iE.out j hj) (Nat.le_trans HE.out.size hW.size)) (by have h1:=HSL.out;have h2:=gq (bY L k hlt);omega) (PU.out _ (bY L k hlt)));dsimp only[tV] at bf;obtain⟨x,hx⟩: ∃x,tg L k=x:=⟨_,rfl⟩
   have hzx:tg (L.map (iH (fun n s=>vr (n++suf) s))) k=iH (fun n s=>vr (n++suf) s) x:=by
    rw[<-hx];unfold tg;rw[List.getD_eq_getElem?_getD,List.getD_eq_getElem?_getD,List.getElem?_map,List.getElem?_eq_getElem hlt];rfl
   obtain⟨z,hz⟩: ∃z,iH (fun n s=>vr (n++suf) s) x=z:=⟨_,rfl⟩
   rw[hx,hz] at bf;rw[hx] at q0 q1 q2;rw[hz] at hzx;have PV:=ah hzx;have hQ:=(uR wr).alloc (tO x xa xc);have mO:=ay wr (tO x xa xc);obtain⟨b0,b1,b2⟩:=ak mO;have lF:=aB HB3.out (tO x xa xc);have c2:=aj lF 2 (.slice la k lc) rfl;have zA:=ah lF;have HQ:=ah hQ;have yD:=ah (aB HB2.out (tO x xa xc));have Ed:=ah (HJ.out.own.alloc (tO x xa xc));have iV:Hid (¬(Value.slice la k lc).ownBlock=some n3):=ah (fun e=>by have h1:=(HJ.out.own.lt n3 e).1;omega);have HK:Hid (k<=100000):=ah (by omega);obtain⟨iT,hi,hz0,hz1,hz2⟩:=info_parts um;clear hat aW hx hQ mO lF hz hzx
   go_wp2_with fail
   generalize wr.alloc (tO x xa xc)=wq at*;have Ee:Hid (Ext wq wq):=ah (aC.refl _ _);have sW:Hid (n3+1<=wq.heap.size):=ah (Nat.le_trans bU.out HQ.out.size);clear q0 q1 q2
   go_region_law (first
    |(refine dY _ (.tmp 25) (.tmp 29) 22 rfl (n3+1) 24 iT (.agg #[.string ⟨#[]⟩,.string ⟨#[]⟩,.slice none 0 0]) 3 56 Tryz.underlying22 hi hz0 hz1 hz2 rfl (by decide) _ _ _ rfl yE.out _ 1 1 [Value.string z.name,.string z.sort,.slice ya z.kids.length yc] rfl rfl oD.out kF.out iW.out.1 iW.out.2.1 iW.out.2.2 ?_;intro v7 w7 bK;obtain⟨a7,c7,hv7⟩:=bF bK.own;subst hv7;have fK:=bK.upd.heap (aB fC.out (tO z ya yc)) iV.out;have f7:=fun i=>aA fK i;have c2:=aj fK 2 (.slice la k lc) rfl;have eU:=ah fK;have jO:=ah bK;clear bK fK)
    |(go_simp;refine(bf.out wq.drew (HQ.out.trans Ee.out.drew)).mono ?_;rintro e w5 ⟨r,Bx,rfl,kV,hb5,hw5⟩;obtain⟨ya,yc,jP⟩:=aP.shape kV;subst jP;have dh:Hid (Ext wq w5):=ah (((uR wq).drewN' 1).trans hw5);have o7:=ah kV;have sG:Hid (∀j,Bx j->wq.heap.size<=j/\j<w5.heap.size):=ah hb5;have fC:=ah (dh.out.heap zA.out (fun h=>h));have yE:Hid ((w5.alloc (tO z ya yc)).ownsRow (n3+1) 24 3 (.slice la k lc) k (dI ((L.map (iH (fun n s=>vr (n++suf) s))).take k) us)):=ah ((bH Ed.out dh.out (fun _ _ h=>h)).alloc _);have oD:Hid (∀(j:Nat) (u:Value),[Value.string z.name,.string z.sort,.slice ya z.kids.length yc][j]?=some u->(w5.alloc (tO z ya yc)).cell? ((⟨w5.heap.size,0,none⟩:Addr).add j)=some u):=ah (zU w5 _ _ _ 24);have kF:Hid (∀u∈[Value.string z.name,.string z.sort,.slice ya z.kids.length yc],u.oneCell'=true):=ah (fun u hu=>by simp at hu;rcases hu with h|h|h<;>(subst h;rfl));have iW:Hid (k+1<=maxLen/\(k+1)*56<=140737488355328/\n3+1<=(w5.alloc (tO z ya yc)).heap.size):=ah ⟨by unfold maxLen;have:=HK.out;omega,by have:=HK.out;omega,by have h1:=dh.out.size;have h2:=sW.out;simp;omega⟩;have c5:=dh.out.cell c2 (fun h=>h);have c6:=((uR w5).alloc (tO z ya yc)).cell c5 (fun h=>h);clear kV hb5 hw5))
   all_goals
    go_wp2_with fail
    have ig:=ah ((aC.refl (fun j=>j=n3) w7).setCell (p:=⟨n3,2,none⟩) (.inl rfl) (.slice a7 (k+1) c7));have dB:Hid (aC (fun j=>(Value.slice la k lc).ownBlock=some j\/j=n3) wq (w7.setCell ⟨n3,2,none⟩ (.slice a7 (k+1) c7))):=ah (((((dh.out.alloc (tO z ya yc)).mono (fun _ _ x=>x.elim)).trans (jO.out.upd.mono (fun _ _ e=> .inl e)))).trans (ig.out.mono (fun _ _ e=> .inr e)));have uF:=ah (HJ.out.grow (by rw[List.length_map];exact hlt) PV.out (by omega) bU.out HQ.out dh.out o7.out sG.out ((uR w5).alloc (tO z ya yc)) jO.out ig.out);have hs3:=fU.out;have dG:Hid (Ext w (w7.setCell ⟨n3,2,none⟩ (.slice a7 (k+1) c7))):=ah ((HE.out.trans HQ.out).trans' dB.out (fun j hj e=>by
     rcases e with e|e
     .have h1:=(HJ.out.own.lt j e).1;omega
     .omega))
    have mY:=ah (dB.out.heap yD.out (fun e=>by
     rcases e with e|e
     .have h1:=(HJ.out.own.lt _ e).1;omega
     .omega))
    have jC:=setBlock eU.out 2 (.slice a7 (k+1) c7);have lY:Hid ((w7.setCell ⟨n3,2,none⟩ (.slice a7 (k+1) c7)).heap[n3]?=some (.cells #[.string n,.string ⟨#[]⟩,.slice a7 (k+1) c7] 24 (0,0))):=ah (by simpa using jC);have jX:Hid (n3+1<=(w7.setCell ⟨n3,2,none⟩ (.slice a7 (k+1) c7)).heap.size):=ah (Nat.le_trans sW.out dB.out.size);clear jC c2 f7
    go_roundg (L.length- (k+1))
    case measure=>omega
    case rel=>exact⟨k+1,_,_,_,by go_num,rfl,by omega,uF,mY,lY,dG,jX⟩
  .obtain rfl:k=L.length:=by omega
   have z2:decide ((L.length:Int)< (L.length:Int))=false:=dF (by omega);have hfin:=HJ.out;have hll:(L.map (iH (fun n s=>vr (n++suf) s))).length=L.length:=List.length_map ..;rw[<-hll] at hfin;have hfin:=hfin.fin;have lZ:=ah hfin;rw[hll] at lZ;obtain⟨c0,c1,c2⟩:=ak HB3.out;have f2:=fun i=>aA HB2.out i;obtain⟨d0,d1,d2⟩:=ak HB2.out;clear hfin hll
   go_wp2_with fail
   have hr3:=aN HB2.out (.string n) (.string ⟨#[]⟩) (.slice la L.length lc);have hu:=aK wr (w.heap.size+1) (.string n) (.string ⟨#[]⟩) (.slice la L.length lc);obtain⟨e0,e1,e2⟩:=ak hr3;have hs3:=fU.out;refine bodyPost_ret (v:= .agg #[.string n,.string ⟨#[]⟩,.slice la L.length lc]) (by simp[results,Tryz.results80,go_sem,e0,e1,e2]) rfl ⟨.slice la L.length lc,fun j=>n3+1<=j/\j<wr.heap.size,by simp[List.length_map,au],lZ.out.kept hu (fun j hj e=>by have h1:=hj.1;omega),fun j hj=>⟨by have h1:=hj.1;omega,aF hj.2 hu.size⟩,HE.out.trans' hu (fun j hj e=>by omega)⟩
def rU (suf:By) (t:Tm):Tm×Int:=if wf aJ t=true then(if((aV t).all fun v=>aJ (v.1++suf))=true then(iH (fun n s=>vr (n++suf) s) t,0) else(.mk au au [],9)) else(.mk au au [],1)
theorem PW (t:Tm) (v:Value) (suf:By) (w:World) (htab:dN w) (hR:bQ (fun k=>k<w.heap.size) w t v) (hsz:t.size<=100000) (hok: ∀f∈dJ t,f.1.size+suf.size<=100000):
  Calls Tryz.prog 20 #[v,.string suf] w fun e w'=> ∃r B,e= .returned (.tuple #[tV (rU suf t).1 r,.int .i64 (rU suf t).2])/\aP 24 w' B (rU suf t).1.kids r/\(∀j,B j->w.heap.size<=j/\j<w'.heap.size)/\Ext w w':=by
 have HR:=ah hR;obtain⟨Z,jY⟩: ∃Z,rU suf t=Z:=⟨_,rfl⟩
 rw[jY];have jm:=ah jY;clear jY;obtain⟨a,cap,rfl,hT⟩:=hR;have HF:=ah (fun W (hW:Ext w W)=>yw t _ W (aS htab hW) ((HR.out.ext hW).weaken (fun k hk=>aF hk hW.size)) (by omega));have HV:=ah (fun W (hW:Ext w W)=>sO t _ W (aS htab hW) ((HR.out.ext hW).weaken (fun k hk=>aF hk hW.size)) (by omega));have HTAB:=ah htab;have bU:=ah hsz;have lM:=ah hok;dsimp only[tV] at HF HV⊢;have hZ:=(((uR w).alloc (tO t a cap)).alloc (.cells #[.string suf] 9)).alloc zO;have hz2:w.heap.size+3<=(((w.alloc (tO t a cap)).alloc (.cells #[.string suf] 9)).alloc zO).heap.size:=by simp
 have H2:=ah (aB (aB (ay w (tO t a cap)) (.cells #[.string suf] 9)) zO);have H3:=ah (aB (alloc_at (w.alloc (tO t a cap)) (.cells #[.string suf] 9) (n:=w.heap.size+1) (by simp)) zO);have H4:=ah (alloc_at ((w.alloc (tO t a cap)).alloc (.cells #[.string suf] 9)) zO (n:=w.heap.size+2) (by simp));obtain⟨x0,x1,x2⟩:=ak H2.out;have HZ:=ah hZ;clear hT htab hsz hok hZ
 go_enter Tryz.func20,Tryz.ntmps20
 go_wp2_with fail
 obtain⟨rc,hrc⟩: ∃n,w.heap.size+2=n:=⟨_,rfl⟩
 obtain⟨sb,hsb⟩: ∃n,w.heap.size+1=n:=⟨_,rfl⟩
 have TD:Hid (w.heap.size+2=rc/\w.heap.size+1=sb):=ah ⟨hrc,hsb⟩;rw[hrc] at H4;rw[hsb] at H3
 try rw[show w.heap.size+1+1=rc from hrc]
 try rw[hrc]
 try rw[hsb]
 generalize (((w.alloc (tO t a cap)).alloc (.cells #[.string suf] 9)).alloc zO)=wa at*;clear hrc hsb;refine(HF.out _ HZ.out).mono ?_;rintro e w3 ⟨rfl,hw3⟩;have aY:=ah (HZ.out.trans hw3);have A_:=ah (hw3.heap H2.out (fun h=>h));have vM:=ah (hw3.heap H3.out (fun h=>h));have XG:=ah (hw3.heap H4.out (fun h=>h));clear hw3 x0 x1 x2 H2 H3 H4 HZ HF hz2;cases hwf:wf aJ t with
 |false=>
  obtain rfl:Z=(.mk au au [],1):=by rw[<-jm.out];unfold rU;rw[hwf];rfl
  clear hwf;obtain⟨d0,d1,d2⟩:=ak XG.out;have f2:=fun i=>aA XG.out i
  go_wp2_with fail
  have hr3:=aN XG.out (.string ⟨#[]⟩) (.string ⟨#[]⟩) (.slice none 0 0);have hu:=aK w3 rc (.string ⟨#[]⟩) (.string ⟨#[]⟩) (.slice none 0 0);obtain⟨e0,e1,e2⟩:=ak hr3;refine bodyPost_ret (v:= .tuple #[.agg #[.string ⟨#[]⟩,.string ⟨#[]⟩,.slice none 0 0],.int .i64 1]) (by simp[results,Tryz.results20,go_sem,e0,e1,e2]) rfl (by first|exact⟨.slice none 0 0,fun _=>False,rfl,aP.nil _ _ _,fun j hj=>hj.elim,aY.out.trans' hu (fun j hj e=>by have:=TD.out;omega)⟩|exact⟨.slice none 0 0,rfl,fun _=>False,aP.nil _ _ _,fun j hj=>hj.elim,aY.out.trans' hu (fun j hj e=>by have:=TD.out;omega)⟩)
 |true=>
  have sV:=ah hwf;have hvf:=qA hwf;rw[hvf] at HV;have hvl:=ou hwf;have xI:=ah hvl;clear hwf hvf hvl;obtain⟨x0,x1,x2⟩:=ak A_.out
  go_wp2_with fail
  refine(HV.out _ aY.out).mono ?_;rintro e w4 ⟨r1,rfl,hr1,hw4⟩;have bW:=ah (aY.out.trans hw4);have Bc:=ah (hw4.heap A_.out (fun h=>h));have vN:=ah (hw4.heap vM.out (fun h=>h));have H44:=ah (hw4.heap XG.out (fun h=>h));have Md:=ah hr1;obtain⟨p1,c1,hp1⟩:=dL.shape hr1;subst hp1;clear hw4 x0 x1 x2 A_ vM XG aY HV hr1;obtain⟨VL,EN⟩: ∃L,aV t=L:=⟨_,rfl⟩
  have HVQ:=ah EN;rw[EN] at Md xI⊢;have hlv:VL.length<=100000:=Nat.le_trans xI.out bU.out;clear EN
  go_wp2_with fail
  go_loopg [21] VL.length (fun gk iv wr=> ∃k:Nat,iv= .int .i64 (k:Int)/\gk=VL.length-k/\k<=VL.length/\Hid (Ext w4 wr)/\Hid (∀v∈VL.take k,aJ (v.1++suf)=true))
  case atStart=>exact⟨0,rfl,rfl,Nat.zero_le _,ah (aC.refl _ _),ah (fun v hv=>by simp at hv)⟩
  case round=>
   obtain⟨k,rfl,rfl,hk,HE,zx⟩:=hrel;by_cases hlt:k<VL.length
   .obtain ⟨g,off,hga,hat⟩:=dL.at_ (dL.ext Md.out HE.out) (by omega);subst hga;obtain⟨q0,q1⟩:=hat k hlt;have htk:=Gm VL k hlt;have hvm:=yu hlt;obtain⟨v,hv⟩: ∃v,vg VL k=v:=⟨_,rfl⟩
    rw[hv] at q0 q1 htk hvm;obtain⟨nm,so⟩:=v;simp only at q0 q1;obtain⟨z0,z1,z2,z2'⟩:=bZ hlt;have rJ:=ah htk;have HVM:=ah hvm;have hB:=ay wr (.cells #[.string nm,.string so] 116);have e0:=aj hB 0 (.string nm) rfl;have o_:=HE.out.alloc (.cells #[.string nm,.string so] 116);have s0:=aj (o_.heap vN.out (fun h=>h)) 0 (.string suf) rfl;have h_:=ah o_;have hl:nm.size+suf.size<=100000:=lM.out (nm,so) (((zH sV.out).2 (nm,so)).1 (by rw[HVQ.out];exact hvm));have HIN:=ah (BG (nm++suf) (wr.alloc (.cells #[.string nm,.string so] 116)) (aS HTAB.out (bW.out.trans o_)));obtain⟨bn,hbn⟩: ∃b,aJ (nm++suf)=b:=⟨_,rfl⟩
    rw[hbn] at HIN;have o8:=ah hbn;clear hat htk hvm hv hB o_ hbn
    go_wp2_with fail
    refine HIN.out.mono ?_;rintro e w6 ⟨rfl,hw6⟩;have fV:=ah (h_.out.trans hw6);clear hw6 HIN q0 q1 e0 s0;cases bn with
    |false=>
     have hall:(VL.all fun v=>aJ (v.1++suf))=false:=by
      rw[List.all_eq_false];exact⟨(nm,so),HVM.out,by rw[o8.out];simp⟩
     obtain rfl:Z=(.mk au au [],9):=by rw[<-jm.out];unfold rU;rw[sV.out,HVQ.out,hall];rfl
     clear hall;have iG:=ah (bW.out.trans fV.out);have PX:=ah (fV.out.heap H44.out (fun h=>h));obtain⟨d0,d1,d2⟩:=ak PX.out;have f2:=fun i=>aA PX.out i
     go_wp2_with fail
     have hr3:=aN PX.out (.string ⟨#[]⟩) (.string ⟨#[]⟩) (.slice none 0 0);have hu:=aK w6 rc (.string ⟨#[]⟩) (.string ⟨#[]⟩) (.slice none 0 0);obtain⟨e0,e1,e2⟩:=ak hr3;refine bodyPost_ret (v:= .tuple #[.agg #[.string ⟨#[]⟩,.string ⟨#[]⟩,.slice none 0 0],.int .i64 9]) (by simp[results,Tryz.results20,go_sem,e0,e1,e2]) rfl (by first|exact⟨.slice none 0 0,fun _=>False,rfl,aP.nil _ _ _,fun j hj=>hj.elim,iG.out.trans' hu (fun j hj e=>by have:=TD.out;omega)⟩|exact⟨.slice none 0 0,rfl,fun _=>False,aP.nil _ _ _,fun j hj=>hj.elim,iG.out.trans' hu (fun j hj e=>by have:=TD.out;omega)⟩)
    |true=>
     have alg:Hid (∀v∈VL.take (k+1),aJ (v.1++suf)=true):=ah (fun v hv=>by
      rw[rJ.out,List.mem_append,List.mem_singleton] at hv;rcases hv with hv|hv
      .exact zx.out v hv
      .rw [hv];exact o8.out)
     go_wp2_with fail
     go_roundg (VL.length- (k+1))
     case measure=>omega
     case rel=>exact⟨k+1,by go_num,rfl,by omega,fV,alg⟩
   .obtain rfl:k=VL.length:=by omega
    have z2:decide ((VL.length:Int)< (VL.length:Int))=false:=dF (by omega);have hall:(VL.all fun v=>aJ (v.1++suf))=true:=by
     rw[List.all_eq_true];have:=zx.out;rw[List.take_length] at this;exact this
    obtain⟨Q,hQ⟩: ∃Q,iH (fun n s=>vr (n++suf) s) t=Q:=⟨_,rfl⟩
    obtain rfl:Z=(Q,0):=by rw[<-jm.out,<-hQ];unfold rU;rw[sV.out,HVQ.out,hall];rfl
    have dA:=ah (bW.out.trans HE.out);have Px:=ah (HE.out.heap Bc.out (fun h=>h));have Jq:=ah (HE.out.heap vN.out (fun h=>h));have H45:=ah (HE.out.heap H44.out (fun h=>h));have Jy:=ah (ac2 suf sb wr (ah (fun W hW=>aj (hW.heap Jq.out (fun h=>h)) 0 (.string suf) rfl)) t _ (fun k=>k<wr.heap.size) wr (aC.refl _ _) ((HR.out.ext dA.out).weaken (fun k hk=>aF hk dA.out.size)) (fun k h=>h) bU.out lM.out);dsimp only[tV] at Jy;rw[hQ] at Jy;obtain⟨x0,x1,x2⟩:=ak Px.out;clear hall hQ
    go_wp2_with fail
    refine Jy.out.mono ?_;rintro e w7 ⟨r7,B7,rfl,yQ,hb7,hw7⟩;obtain⟨ya,yc,jP⟩:=aP.shape yQ;subst jP;have He:=ah yQ;have eU:=ah hb7;have iG:=ah (dA.out.trans hw7);have PX:=ah (hw7.heap H45.out (fun h=>h));have dh:=ah dA.out.size;have xO:Hid (rc<wr.heap.size):=ah (Array.getElem?_eq_some_iff.1 H45.out).1;clear yQ hb7 hw7 Jy x0 x1 x2;obtain⟨d0,d1,d2⟩:=ak PX.out;have f2:=fun i=>aA PX.out i
    go_wp2_with fail
    have hr3:=aN PX.out (.string Q.name) (.string Q.sort) (.slice ya Q.kids.length yc);have hu:=aK w7 rc (.string Q.name) (.string Q.sort) (.slice ya Q.kids.length yc);obtain⟨e0,e1,e2⟩:=ak hr3;have h1:=xO.out;have h2:=dh.out;refine bodyPost_ret (v:= .tuple #[.agg #[.string Q.name,.string Q.sort,.slice ya Q.kids.length yc],.int .i64 0]) (by simp[results,Tryz.results20,go_sem,e0,e1,e2]) rfl (by first|exact⟨.slice ya Q.kids.length yc,B7,rfl,He.out.kept hu (fun j hj e=>by have h3:=(eU.out j hj).1;omega),fun j hj=>⟨by have h3:=(eU.out j hj).1;omega,aF (eU.out j hj).2 hu.size⟩,iG.out.trans' hu (fun j hj e=>by have:=TD.out;omega)⟩|exact⟨.slice ya Q.kids.length yc,rfl,B7,He.out.kept hu (fun j hj e=>by have h3:=(eU.out j hj).1;omega),fun j hj=>⟨by have h3:=(eU.out j hj).1;omega,aF (eU.out j hj).2 hu.size⟩,iG.out.trans' hu (fun j hj e=>by have:=TD.out;omega)⟩)
theorem aae {w:World} {b:Nat} {te:TypeId} {u0 u1 u2 u3 u4 u5:Value} (h:w.heap[b]?=some (.cells #[u0,u1,u2,u3,u4,u5] te (0,0))) (v0 v1 v2 v3 v4 v5:Value):((((((((((((w).setCell ⟨b,0,none⟩ (v0))).setCell ⟨b,1,none⟩ (v1))).setCell ⟨b,2,none⟩ (v2))).setCell ⟨b,3,none⟩ (v3))).setCell ⟨b,4,none⟩ (v4))).setCell ⟨b,5,none⟩ (v5)).heap[b]?=some (.cells #[v0,v1,v2,v3,v4,v5] te (0,0)):=by
 have h0:=setBlock h 0 v0;have h1:=setBlock h0 1 v1;have h2:=setBlock h1 2 v2;have h3:=setBlock h2 3 v3;have h4:=setBlock h3 4 v4;have h5:=setBlock h4 5 v5;simpa using h5
theorem adt (w:World) (b:Nat) (v0 v1 v2 v3 v4 v5:Value):aC (fun k=>k=b) w ((((((((((((w).setCell ⟨b,0,none⟩ (v0))).setCell ⟨b,1,none⟩ (v1))).setCell ⟨b,2,none⟩ (v2))).setCell ⟨b,3,none⟩ (v3))).setCell ⟨b,4,none⟩ (v4))).setCell ⟨b,5,none⟩ (v5)):=
 ((((((aC.refl (fun k=>k=b) w).setCell (p:=⟨b,0,none⟩) (.inl rfl) _).setCell (p:=⟨b,1,none⟩) (.inl rfl) _).setCell (p:=⟨b,2,none⟩) (.inl rfl) _).setCell (p:=⟨b,3,none⟩) (.inl rfl) _).setCell (p:=⟨b,4,none⟩) (.inl rfl) _).setCell (p:=⟨b,5,none⟩) (.inl rfl) _
theorem QT (x y:Tm) (xa ya:Option Addr) (xc yc:Nat) (suf:By) (w:World) (htab:dN w) (h1:aI (fun k=>k<w.heap.size) w x.kids (.slice xa x.kids.length xc)) (h2:aI (fun k=>k<w.heap.size) w y.kids (.slice ya y.kids.length yc)) (hsx:x.size<=100000) (hsy:y.size<=100000) (hox: ∀f∈dJ x,f.1.size+suf.size<=100000) (hoy: ∀f∈dJ y,f.1.size+suf.size<=100000) (p q:Tm) (hp:rU suf x=(p,0)) (hq:rU suf y=(q,0)):
  Calls Tryz.prog 162 #[.agg #[.string x.name,.string x.sort,.slice xa x.kids.length xc,.string y.name,.string y.sort,.slice ya y.kids.length yc],.string suf] w fun e w'=> ∃pa pc qa qc B B2,e= .returned (.tuple #[.agg #[.string p.name,.string p.sort,.slice pa p.kids.length pc,.string q.name,.string q.sort,.slice qa q.kids.length qc],.int .i64 0])/\aP 24 w' B p.kids (.slice pa p.kids.length pc)/\aP 24 w' B2 q.kids (.slice qa q.kids.length qc)/\(∀j,B j->w.heap.size<=j/\j<w'.heap.size)/\(∀j,B2 j->w.heap.size<=j/\j<w'.heap.size)/\Ext w w':=by
 have HR1:=ah (fun W (hW:Ext w W)=>PW x (tV x (.slice xa x.kids.length xc)) suf W (aS htab hW) ⟨xa,xc,rfl,(h1.ext hW).weaken (fun k hk=>aF hk hW.size)⟩ hsx hox);have HR2:=ah (fun W (hW:Ext w W)=>PW y (tV y (.slice ya y.kids.length yc)) suf W (aS htab hW) ⟨ya,yc,rfl,(h2.ext hW).weaken (fun k hk=>aF hk hW.size)⟩ hsy hoy);rw[hp] at HR1;rw[hq] at HR2;dsimp only[tV] at HR1 HR2;have hE:=((uR w).alloc (.cells #[.string x.name,.string x.sort,.slice xa x.kids.length xc,.string y.name,.string y.sort,.slice ya y.kids.length yc] 146)).alloc (.cells #[.string ⟨#[]⟩,.string ⟨#[]⟩,.slice none 0 0,.string ⟨#[]⟩,.string ⟨#[]⟩,.slice none 0 0] 146);have HE:=ah hE;have HB0:=ah (aB (ay w (.cells #[.string x.name,.string x.sort,.slice xa x.kids.length xc,.string y.name,.string y.sort,.slice ya y.kids.length yc] 146)) (.cells #[.string ⟨#[]⟩,.string ⟨#[]⟩,.slice none 0 0,.string ⟨#[]⟩,.string ⟨#[]⟩,.slice none 0 0] 146));have HB1:=ah (alloc_at (w.alloc (.cells #[.string x.name,.string x.sort,.slice xa x.kids.length xc,.string y.name,.string y.sort,.slice ya y.kids.length yc] 146)) (.cells #[.string ⟨#[]⟩,.string ⟨#[]⟩,.slice none 0 0,.string ⟨#[]⟩,.string ⟨#[]⟩,.slice none 0 0] 146) (n:=w.heap.size+1) (by simp));have hz:w.heap.size+2<=((w.alloc (.cells #[.string x.name,.string x.sort,.slice xa x.kids.length xc,.string y.name,.string y.sort,.slice ya y.kids.length yc] 146)).alloc (.cells #[.string ⟨#[]⟩,.string ⟨#[]⟩,.slice none 0 0,.string ⟨#[]⟩,.string ⟨#[]⟩,.slice none 0 0] 146)).heap.size:=by simp
 have HS:=ah hz;obtain⟨x0,x1,x2,x3,x4,x5⟩:=fA HB0.out;clear hE hz h1 h2 htab hsx hsy hox hoy hp hq
 go_enter Tryz.func162,Tryz.ntmps162
 go_wp2_with fail
 generalize ((w.alloc (.cells #[.string x.name,.string x.sort,.slice xa x.kids.length xc,.string y.name,.string y.sort,.slice ya y.kids.length yc] 146)).alloc (.cells #[.string ⟨#[]⟩,.string ⟨#[]⟩,.slice none 0 0,.string ⟨#[]⟩,.string ⟨#[]⟩,.slice none 0 0] 146))=w1 at*;refine(HR1.out _ HE.out).mono ?_;rintro e w3 ⟨r,B,rfl,JM,JO,hw3⟩;obtain⟨pa,pc,hr⟩:=aP.shape JM;subst hr;have hX:=hw3.alloc (tO p pa pc);have aY:=ah (HE.out.trans hX);have rF:=ah (hX.heap HB0.out (fun h=>h));have lH:=ah (hX.heap HB1.out (fun h=>h));have fH:=ah (ay w3 (tO p pa pc));have HT3:=ah (JM.kept ((uR w3).alloc (tO p pa pc)) (fun _ _ h=>h));have Dy:Hid (∀j,B j->w.heap.size+2<=j/\j< (w3.alloc (tO p pa pc)).heap.size):=ah (fun j hj=>⟨Nat.le_trans HS.out (JO j hj).1,aF (JO j hj).2 ((uR w3).alloc (tO p pa pc)).size⟩);have fU:Hid (w.heap.size+2<=w3.heap.size):=ah (Nat.le_trans HS.out hw3.size);clear JM JO hw3 hX HR1 HE HB0 HB1 HS x0 x1 x2 x3 x4 x5;dsimp only;obtain⟨nb,hnb⟩: ∃n,w3.heap.size=n:=⟨_,rfl⟩
 rw[hnb] at fH fU;obtain⟨x0,x1,x2,x3,x4,x5⟩:=fA rF.out
 go_wp2_with fail
 try rw[hnb]
 generalize w3.alloc (tO p pa pc)=w4 at*;clear hnb;refine(HR2.out _ aY.out).mono ?_;rintro e w5 ⟨r,B2,rfl,JQ,JR,hw5⟩;obtain⟨qa,qc,hr⟩:=aP.shape JQ;subst hr;have hX:=hw5.alloc (tO q qa qc);have dA:=ah (aY.out.trans hX);have eY:=ah (hX.heap lH.out (fun h=>h));have Dp:=ah (hX.heap fH.out (fun h=>h));have Yk:=ah (ay w5 (tO q qa qc));have HTP:=ah (HT3.out.kept hX (fun _ _ h=>h));have HTQ:=ah (JQ.kept ((uR w5).alloc (tO q qa qc)) (fun _ _ h=>h));have P5:Hid (∀j,B j->w.heap.size+2<=j/\j< (w5.alloc (tO q qa qc)).heap.size):=ah (fun j hj=>⟨(Dy.out j hj).1,aF (Dy.out j hj).2 hX.size⟩);have aaf:Hid (∀j,B2 j->w.heap.size+2<=j/\j< (w5.alloc (tO q qa qc)).heap.size):=ah (fun j hj=>⟨by have h1:=(JR j hj).1;have h2:=fU.out;have h3:=(Array.getElem?_eq_some_iff.1 fH.out).1;omega,aF (JR j hj).2 ((uR w5).alloc (tO q qa qc)).size⟩);clear JQ JR hw5 hX HR2 aY rF lH fH HT3 Dy x0 x1 x2 x3 x4 x5;dsimp only;obtain⟨Yh,rG⟩: ∃n,w5.heap.size=n:=⟨_,rfl⟩
 rw[rG] at Yk;obtain⟨k0,k1,k2⟩:=ak Dp.out;obtain⟨m0,m1,m2⟩:=ak Yk.out;obtain⟨d0,d1,d2,d3,d4,d5⟩:=fA eY.out;have f2:=fun i=>aA eY.out i
 go_wp2_with fail
 try rw[rG]
 generalize w5.alloc (tO q qa qc)=w6 at*;clear rG;have hr6:=aae eY.out (.string p.name) (.string p.sort) (.slice pa p.kids.length pc) (.string q.name) (.string q.sort) (.slice qa q.kids.length qc);have hu:=adt w6 (w.heap.size+1) (.string p.name) (.string p.sort) (.slice pa p.kids.length pc) (.string q.name) (.string q.sort) (.slice qa q.kids.length qc);obtain⟨e0,e1,e2,e3,e4,e5⟩:=fA hr6;refine bodyPost_ret (v:= .tuple #[.agg #[.string p.name,.string p.sort,.slice pa p.kids.length pc,.string q.name,.string q.sort,.slice qa q.kids.length qc],.int .i64 0]) (by simp[results,Tryz.results162,go_sem,e0,e1,e2,e3,e4,e5]) rfl ?_;exact⟨pa,pc,qa,qc,B,B2,rfl,HTP.out.kept hu (fun j hj e=>by have:=(P5.out j hj).1;omega),HTQ.out.kept hu (fun j hj e=>by have:=(aaf.out j hj).1;omega),fun j hj=>⟨by have:=(P5.out j hj).1;omega,aF (P5.out j hj).2 hu.size⟩,fun j hj=>⟨by have:=(aaf.out j hj).1;omega,aF (aaf.out j hj).2 hu.size⟩,dA.out.trans' hu (fun j hj e=>by omega)⟩
end
theorem kT {W:World} {z:Nat} {t:TypeId} {v0 v1 v2:Value} (h:W.heap[z]?=some (.cells #[v0,v1,v2] t (0,0))) (u0 u1 u2:Value):(((W.setCell ⟨z,0,none⟩ u0).setCell ⟨z,1,none⟩ u1).setCell ⟨z,2,none⟩ u2).heap[z]?=some (.cells #[u0,u1,u2] t (0,0)):=by
 have:=setBlock (setBlock (setBlock h 0 u0) 1 u1) 2 u2;simpa using this
theorem iK (W:World) (z:Nat) (u0 u1 u2:Value):aC (fun k=>k=z) W (((W.setCell ⟨z,0,none⟩ u0).setCell ⟨z,1,none⟩ u1).setCell ⟨z,2,none⟩ u2):=
 (((aC.refl (fun k=>k=z) W).setCell (p:=⟨z,0,none⟩) (.inl rfl) u0).setCell (p:=⟨z,1,none⟩) (.inl rfl) u1).setCell (p:=⟨z,2,none⟩) (.inl rfl) u2
end Go.Proofs.YtlkcjmaiahnodaaGreatDoor
