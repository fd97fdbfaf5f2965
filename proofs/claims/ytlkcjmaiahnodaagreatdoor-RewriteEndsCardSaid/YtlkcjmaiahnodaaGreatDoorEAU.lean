/- The texts N83 N86, one behind the other. -/
import Derived.Test.YtlkcjmaiahnodaaGreatDoorEAR
import Derived.Test.YtlkcjmaiahnodaaGreatDoorEAT
import Derived.Test.YtlkcjmaiahnodaaGreatDoorEAP
set_option maxRecDepth 100000
set_option maxHeartbeats 8000000
set_option linter.unusedVariables false
set_option linter.unusedSimpArgs false
namespace Go.Proofs.YtlkcjmaiahnodaaGreatDoor
open Go.RowKit Go.Hw Go Tm
section
open Go.Sort Go.Proofs Go.ChangeMaps
theorem SE {l:List Rl}: ∀(n:Nat) (t:Tm) (tr:List Rx),(gW l n t tr).2.2≠0->(gW l n t tr).1=bP/\(gW l n t tr).2.1=[]
 |0,t,tr,h=>by
  unfold gW at h⊢;cases hf:jy l t with
  |none=>rw[hf] at h;exact absurd rfl h
  |some y=>exact⟨rfl,rfl⟩
 |n+1,t,tr,h=>by
  unfold gW at h⊢;cases hf:jy l t with
  |none=>rw[hf] at h;exact absurd rfl h
  |some y=>
   rw[hf] at h;simp only at h⊢;by_cases hz:(gK t y.2.1 y.2.2).2=0
   .rw [if_pos hz] at h⊢;exact SE n _ _ h
   .rw [if_neg hz];exact⟨rfl,rfl⟩
theorem FU: ∀(k:Nat) (l:List Rx) (us:List Value),(jC l us).take (k*2)=jC (l.take k) us
 |0,l,us=>by simp[jC]
 |k+1,[],us=>by simp[jC]
 |k+1,d::l,us=>by
  rw[show(k+1)*2=k*2+1+1 by omega];simp only[jC,List.take_succ_cons,FU k l us.tail]
theorem LW: ∀(l:List Rx) (us:List Value),jC l us=jC l (us.take l.length)
 |[],_=>rfl
 |x::l,[]=>by simp[jC]
 |x::l,u::us=>by
  simp only[jC,List.length_cons,List.take_succ_cons,List.headD_cons,List.tail_cons];rw[LW l us]
theorem ajb {R S:Nat->Prop} {w:World} {a:Option Addr} {n cap:Nat} {l:List Rx} (h:lK R S w (.slice a n cap) l) {k:Nat} (hk:k<=l.length):lK R S w (.slice a k cap) (l.take k):=by
 obtain⟨us,hu,h1,h2⟩:=h;have h3:=h1.to rfl k hk;rw[FU,LW] at h3;have hl:(l.take k).length=k:=by rw[List.length_take,Nat.min_eq_left hk]
 rw[hl] at h3;refine⟨us.take k,by rw[List.length_take,List.length_take,hu],by rw[hl];exact h3,fun i hi=>?_⟩;rw[hl] at hi;have e1:ug (us.take k) i=ug us i:=by unfold ug;rw[List.getD_eq_getElem?_getD,List.getElem?_take_of_lt hi,<-List.getD_eq_getElem?_getD]
 have e2:xg (l.take k) i=xg l i:=by unfold xg;rw[List.getD_eq_getElem?_getD,List.getElem?_take_of_lt hi,<-List.getD_eq_getElem?_getD]
 rw[e1,e2];exact h2 i (by omega)
theorem PT {g:Sg} {t:Tm} (hv:h_ ax g=true) (ht:wf ax t=true) (hw:WS g t):gB g t=(dU g t,0):=by
 unfold gB;rw[if_neg (by rw[hv,ht];simp),if_neg (by rw[(GM (zI ht)).1 hw];simp),Jd]
theorem PU {g:Sg} {t:Tm} (hv:h_ ax g=true) (ht:wf ax t=true) (h:(gB g t).2=0):WS g t/\(gB g t).1=dU g t:=by
 unfold gB at h⊢;rw[if_neg (by rw[hv,ht];simp)] at h⊢;by_cases hw:b_ g t=0
 .rw [if_neg (by rw[hw];simp)];exact⟨(GM (zI ht)).2 hw,(Jd g t).symm⟩
 .rw [if_pos hw] at h;exact absurd h hw
theorem ajc {g:Sg} {l:List Rl} (h:SC g l=true):h_ ax g=true/\bY l=true/\VR g l:=by
 unfold SC at h;rw[Bool.and_eq_true,Bool.and_eq_true] at h;obtain⟨⟨h1,h2⟩,h3⟩:=h;refine⟨h1,h2,fun r hr=>?_⟩;rw[List.all_eq_true] at h3;have h4:=h3 r hr;unfold Jc at h4;rw[decide_eq_true_eq] at h4;obtain⟨i,hi,e⟩:=List.getElem_of_mem hr;have e2:Go.Hw.rg l i=r:=by unfold Go.Hw.rg;rw[List.getD_eq_getElem?_getD,List.getElem?_eq_getElem hi];exact e
 have hrr:=Gs (Gq h2 hi);rw[e2] at hrr;have ha:=PU h1 hrr.1 h4.1;have hb:=PU h1 hrr.2.1 h4.2.1;exact⟨ha.1,hb.1,by rw[<-ha.2,<-hb.2,h4.2.2]⟩
theorem ZZ {g:Sg} (h:h_ ax g=true): ∀d∈g.2,d.2.1.length<=1000000:=by
 intro d hd;obtain⟨i,hi,e⟩:=List.getElem_of_mem hd;unfold h_ at h;simp only[Bool.and_eq_true] at h;have h5:=List.all_eq_true.1 h.2.2.2 i (List.mem_range.2 hi);unfold okD at h5;simp only[Bool.and_eq_true,decide_eq_true_eq] at h5;have e2:dg g.2 i=d:=by unfold dg;rw[List.getD_eq_getElem?_getD,List.getElem?_eq_getElem hi];exact e
 rw[e2] at h5;have:=h5.2.2.1;omega
theorem ahB {R S:Nat->Prop} {w:World} {a:Option Addr} {n cap:Nat} {l:List Rx} (h:lK R S w (.slice a n cap) l):l.length<=cap:=by
 obtain⟨us,_,h,_⟩:=h;rcases h.2 with⟨e,h0⟩|⟨ad,c,e,hc,_⟩
 .omega
 .injection e with e1 e2 e3
  omega
theorem Z4 {l:List Rl} {t:Tm} {n:Nat} (hr:bY l=true) (ht:wf ax t=true) (hn:n<=2000):qx l (n:Int) [t]=0:=by
 unfold qx;rw[if_neg (by simp[hr,ht]),if_neg (by omega)]
theorem Xn {l:List Rl} {t:Tm} {n:Nat} (hr:bY l=true) (ht:wf ax t=true) (hn:n<=2000):l_ l t (n:Int)=gW l n t []:=by
 unfold l_;rw[if_pos (Z4 hr ht hn),Int.toNat_natCast]
def Je (base:Nat) (z:Tm) (k:Nat):PG.dK ((Option Addr×Nat)×Nat×(Nat->Prop)):=⟨fun x=> .tuple #[tV z (.slice x.1.1 z.kids.length x.1.2),.int .i64 (k:Int),.int .i64 0],fun x W=>aA x.2.2 W z.kids (.slice x.1.1 z.kids.length x.1.2)/\∀j,x.2.2 j->base<=j/\j<W.heap.size,fun x W W' h hE=>⟨h.1.ext hE,fun j hj=>⟨(h.2 j hj).1,ay (h.2 j hj).2 hE.size⟩⟩,fun x j=>x.2.2 j,fun x W k h e=>(h.2 k e).2⟩
theorem ab9 (g:Sg) (l:List Rl) (t:Tm) (nf:Nat) (gv lv v:Value) (w:World) (hnf:nf<256) (hG:u_ (fun k=>k<w.heap.size) w g gv) (hL:jc (fun k=>k<w.heap.size) w l lv) (hlm:l.length<=maxLen) (hT:bC (fun k=>k<w.heap.size) w t v) (htab:bT w):
  Calls Tryz.prog 12 #[gv,lv,v,.int .u8 (nf:Int)] w fun e w'=>e= .returned (.bool true)/\Ext w w':=by
 have wR:=ae hL;have rV:=ae hT;have HGG:=ae hG;have fB:=ae htab;have HAW:=ae (fun W (hW:Ext w W)=>ZM W (aC htab hW));have V8:=ae (fun W (hW:Ext w W)=>acS l lv W ((hL.ext hW).weaken (fun k hk=>ay hk hW.size)) hlm);have HHV:=ae (fun W (hW:Ext w W)=>acM t v W ((hT.ext hW).weaken (fun k hk=>ay hk hW.size)));obtain⟨la,lc,rfl⟩:=hL.shape;obtain⟨a,cap,rfl,hTL⟩:=hT;obtain⟨sa,sc,oa,oc,rfl,_,_⟩:=hG;have hE:=((uR w).alloc (.cells #[.slice sa g.1.length sc,.slice oa g.2.length oc] 74)).alloc (tO t a cap);have oq:=ae hE;have HG1:=ae (ak (ai w (.cells #[.slice sa g.1.length sc,.slice oa g.2.length oc] 74)) (tO t a cap));have HB1:=ae (alloc_at (w.alloc (.cells #[.slice sa g.1.length sc,.slice oa g.2.length oc] 74)) (tO t a cap) (n:=w.heap.size+1) (by simp));obtain⟨n,hn⟩: ∃n,nf % 61=n:=⟨_,rfl⟩
 have api:n<=60:=by omega
 have hmod:Int.tmod (nf:Int) (61:Int)=(n:Int):=by rw[Int.tmod_eq_emod_of_nonneg (by omega),<-hn];rfl
 have zw:IntKind.i64.wrap (nf:Int)=nf:=IntWalk.i64_in _ (by omega);have zn:IntKind.i64.wrap (n:Int)=n:=IntWalk.i64_in _ (by omega);dsimp only[tV] at HHV⊢;clear hL hTL htab hE hlm hn
 go_enter Tryz.func12,Tryz.ntmps12
 go_wp2_with fail
 generalize ((w.alloc (.cells #[.slice sa g.1.length sc,.slice oa g.2.length oc] 74)).alloc (tO t a cap))=w1 at*;refine(HAW.out _ oq.out).mono ?_;rintro e w2 ⟨rfl,hw⟩;have HE2:=ae (oq.out.trans hw);have HG2:=ae (hw.heap HG1.out (fun h=>h));have HB2:=ae (hw.heap HB1.out (fun h=>h));clear oq HG1 HB1;clear hw HAW
 go_wp2_with fail
 clear hmod zw;refine(V8.out _ HE2.out).mono ?_;rintro e w3 ⟨rfl,hw⟩;have aS:=ae (HE2.out.trans hw);have HG3:=ae (hw.heap HG2.out (fun h=>h));have HB3:=ae (hw.heap HB2.out (fun h=>h));clear HE2 HG2 HB2;clear hw V8;obtain⟨b1,hb1⟩: ∃b,D_ l=b:=⟨_,rfl⟩
 rw[hb1];cases b1 with
 |true=>
  have pK:=aS;clear hb1
  go_wp2_with fail
  go_ret;exact⟨rfl,pK.out⟩
 |false=>
 have hgs:=Qu hb1;have rO:=ae hgs;clear hb1 hgs;obtain⟨x0,x1,x2⟩:=ag HB3.out
 go_wp2_with fail
 refine(HHV.out _ aS.out).mono ?_;rintro e w4 ⟨rfl,hw⟩;have bQ:=ae (aS.out.trans hw);have HG4:=ae (hw.heap HG3.out (fun h=>h));have HB4:=ae (hw.heap HB3.out (fun h=>h));clear aS HG3 HB3;clear hw HHV x0 x1 x2;obtain⟨b2,hb2⟩: ∃b,FI t=b:=⟨_,rfl⟩
 rw[hb2];cases b2 with
 |true=>
  have pK:=bQ;clear hb2
  go_wp2_with fail
  go_ret;exact⟨rfl,pK.out⟩
 |false=>
 have Lc:=ae (And.intro (Qv hb2) (ZY hb2));clear hb2;obtain⟨y0,y1⟩:=aP HG4.out;by_cases hs1:60<g.1.length
 .have t1:decide ((60:Int)< (g.1.length:Int))=true:=dT (by omega);have pK:=bQ;clear hs1
  go_wp2_with fail
  go_ret;exact⟨rfl,pK.out⟩
 have t1:decide ((60:Int)< (g.1.length:Int))=false:=dF (by omega);by_cases hs2:120<g.2.length
 .have t2:decide ((120:Int)< (g.2.length:Int))=true:=dT (by omega);have pK:=bQ;clear hs2
  go_wp2_with fail
  go_ret;exact⟨rfl,pK.out⟩
 have t2:decide ((120:Int)< (g.2.length:Int))=false:=dF (by omega);have jf:=ae (And.intro hs1 hs2);have Nh:=ae (fun W (hW:Ext w W)=>UU g l (.agg #[.slice sa g.1.length sc,.slice oa g.2.length oc]) (.slice la l.length lc) (fun k=>k<w.heap.size) W (HGG.out.ext hW) (fun k hk=>ay hk hW.size) ((wR.out.ext hW).weaken (fun k hk=>ay hk hW.size)) (aC fB.out hW) (by have:=rO.out.1;omega) (fun r hr=>by have:=rO.out.2.1 r hr;omega) (by have:=jf.out.1;omega) (by have:=jf.out.2;omega));have Oo:=ae (fun W (hW:Ext w W)=>Yq g t (.agg #[.slice sa g.1.length sc,.slice oa g.2.length oc]) (.agg #[.string t.name,.string t.sort,.slice a t.kids.length cap]) (fun k=>k<w.heap.size) (fun k=>k<w.heap.size) W (HGG.out.ext hW) (rV.out.ext hW) (by have:=jf.out.1;omega) (by have:=jf.out.2;omega));obtain⟨b3,hb3⟩: ∃b,SC g l=b:=⟨_,rfl⟩
 obtain⟨b4,hb4⟩: ∃b,Dh g t=b:=⟨_,rfl⟩
 rw[hb3] at Nh;rw[hb4] at Oo;clear hs1 hs2
 go_wp2_with fail
 refine(Nh.out _ bQ.out).mono ?_;rintro e w5 ⟨rfl,hw⟩;have dX:=ae (bQ.out.trans hw);have WT:=ae (hw.heap HG4.out (fun h=>h));have fE:=ae (hw.heap HB4.out (fun h=>h));clear bQ HG4 HB4;clear hw Nh y0 y1 t1 t2;cases b3 with
 |false=>
  have pK:=dX;clear hb3 hb4 Oo
  go_wp2_with fail
  go_ret;exact⟨rfl,pK.out⟩
 |true=>
 obtain⟨y0,y1⟩:=aP WT.out;obtain⟨x0,x1,x2⟩:=ag fE.out
 go_wp2_with fail
 refine(Oo.out _ dX.out).mono ?_;rintro e w6 ⟨rfl,hw⟩;have eQ:=ae (dX.out.trans hw);have Oe:=ae (hw.heap WT.out (fun h=>h));have iG:=ae (hw.heap fE.out (fun h=>h));clear dX WT fE;clear hw Oo y0 y1 x0 x1 x2;cases b4 with
 |false=>
  have pK:=eQ;clear hb3 hb4
  go_wp2_with fail
  go_ret;exact⟨rfl,pK.out⟩
 |true=>
 obtain⟨hvs,Rk,hvr⟩:=ajc hb3;obtain⟨_,hwt,hwr⟩:=TA.1 hb4;have ahF:WS g t:=(GM (zI hwt)).2 hwr;have oh:=ae (And.intro hvs (And.intro Rk (And.intro hvr (And.intro hwt ahF))));have rZ:=ae (fun W (hW:Ext w W)=>Gu l t (n:Int) (.slice la l.length lc) (.agg #[.string t.name,.string t.sort,.slice a t.kids.length cap]) W ((wR.out.ext hW).weaken (fun k hk=>ay hk hW.size)) ((rV.out.ext hW).weaken (fun k hk=>ay hk hW.size)) (aC fB.out hW) (by have:=rO.out.1;omega) (fun r hr=>by have:=rO.out.2.1 r hr;omega) rO.out.2.2 (by have:=Lc.out.1;omega) (by omega));have Xo:=ae (fun W (hW:Ext w W)=>acQ l t (n:Int) (.slice la l.length lc) (.agg #[.string t.name,.string t.sort,.slice a t.kids.length cap]) W ((wR.out.ext hW).weaken (fun k hk=>ay hk hW.size)) ((rV.out.ext hW).weaken (fun k hk=>ay hk hW.size)) (aC fB.out hW) (by have:=rO.out.1;omega) (fun r hr=>by have:=rO.out.2.1 r hr;omega) rO.out.2.2 (by have:=Lc.out.1;omega) (by omega));rw[Xn Rk hwt (by omega)] at rZ Xo;obtain⟨Z,hZ⟩: ∃Z,gW l n t []=Z:=⟨_,rfl⟩
 rw[hZ] at rZ Xo;have hrs:=SA (l:=l) n t [] hwt (by simp) (by simp;omega);have hre:=SE (l:=l) n t [];have hrp:=fun x PV=>SG (l:=l) (n:=n) (t:=t) (tr:=[]) (x:=x) (PV:=PV) hwt;rw[hZ] at hrs hre;obtain⟨x,tr,en⟩:=Z;have Fa:=ae (And.intro hrs.2.1 hrs.2.2);have HRE:=ae hre;have yN:=ae (fun(h:en=0)=>hrp x tr (by rw[hZ,h]));dsimp only[tV] at rZ Xo Fa HRE yN;clear hb3 hb4 hvs Rk hvr hwt hwr ahF hZ hrs hre hrp;obtain⟨x0,x1,x2⟩:=ag iG.out
 go_wp2_with fail
 refine(rZ.out _ eQ.out).mono ?_;rintro e w7 ⟨r,rfl,hTx,hw7⟩;obtain⟨xa,xc,hr⟩:=hTx.shape;subst hr;have hw:=hw7.alloc (tO x xa xc);have xK:=ae (ai w7 (tO x xa xc));have ahG:Hid (aA (fun k=>k< (w7.alloc (tO x xa xc)).heap.size) (w7.alloc (tO x xa xc)) x.kids (.slice xa x.kids.length xc)):=ae ((hTx.ext ((uR w7).alloc (tO x xa xc))).weaken (fun k hk=>ay hk.2 ((uR w7).alloc (tO x xa xc)).size));have jg:=ae (eQ.out.trans hw);have mD:=ae (hw.heap Oe.out (fun h=>h));have eP:=ae (hw.heap iG.out (fun h=>h));clear eQ Oe iG;obtain⟨xb,hxb⟩: ∃n,w7.heap.size=n:=⟨_,rfl⟩
 rw[hxb] at xK;clear hw hw7 hTx rZ x0 x1 x2
 go_upto_region 7 with fail
 try rw[hxb]
 clear hxb;generalize w7.alloc (tO x xa xc)=w8 at*;obtain⟨x0,x1,x2⟩:=ag eP.out
 go_wp2_with fail
 refine(Xo.out _ jg.out).mono ?_;rintro e w9 ⟨tv,rfl,yJ,hw⟩;obtain⟨ta,tc,htv⟩:=yJ.shape;subst htv;have ahH:=ae ((ahG.out.ext hw).weaken (fun k hk=>(ay hk hw.size:k<w9.heap.size)));have Z5:Hid (lK (fun k=>k<w9.heap.size) (fun k=>k<w9.heap.size) w9 (.slice ta tr.length tc) tr):=ae (yJ.weaken (fun k hk=>hk.2) (fun k hk=>hk.2));have kY:=ae (jg.out.trans hw);have HG9:=ae (hw.heap mD.out (fun h=>h));have l9:=ae (hw.heap eP.out (fun h=>h));have O0:=ae (hw.heap xK.out (fun h=>h));clear jg mD eP xK;clear hw yJ Xo ahG x0 x1 x2;dsimp only;by_cases hen:en=0
 rotate_left
 .have u1:(en==0)=false:=beq_eq_false_iff_ne.2 hen;have u2:decide (en=0)=false:=dF hen;have u3:(en !=0)=true:=bne_iff_ne.2 hen;have u4:(en==en)=true:=beq_self_eq_true _;have u5:decide (en=en)=true:=dT rfl;obtain⟨e1,e2⟩:=HRE.out hen;subst e1 e2;have HZE:=ae (fun W=>afO bP xa xc W);dsimp only[tV] at HZE;clear hen HRE yN;obtain⟨x0,x1,x2⟩:=ag O0.out
  go_wp2_with fail
  refine(HZE.out _).mono ?_;rintro e wz ⟨rfl,hwz⟩;have hb:(decide (bP.name=ah)&&decide (bP.sort=ah)&&decide (bP.kids.length=0))=true:=by decide
  rw[hb];have pK:=ae (kY.out.trans hwz);clear hb hwz HZE x0 x1 x2
  go_wp2_with fail
  go_ret;exact⟨rfl,pK.out⟩
 subst hen;obtain⟨s,hs,hrep,hfn,hsl,hwx⟩:=yN.out rfl;obtain rfl:tr=s:=by rw[hs];rfl
 have hsz:=jY hwx;have UW:=hrep 0;rw[Nat.zero_add] at UW;have HRR:=ae UW;have Af:=ae (And.intro hfn (And.intro hsl (And.intro hwx hsz)));have je:=ae (And.intro (Xp hwx) hsz);have cO:=ae (⟨by have:=hsl;omega,fun x hx=>by have:=Fa.out.1 x hx;omega⟩:tr.length<=1000000/\∀x∈tr,x.2.length<=1000000);clear HRE yN Fa hs hrep hfn hwx UW;have hrg:wu l t tr=(x,tr.length,0):=by unfold wu;rw[if_pos ⟨oh.out.2.1,oh.out.2.2.2.1⟩,if_neg (by omega)];exact HRR.out
 have hrc:=PN l t tr (.slice la l.length lc) (.agg #[.string t.name,.string t.sort,.slice a t.kids.length cap]) (.slice ta tr.length tc) w9 ((wR.out.ext kY.out).weaken (fun k hk=>ay hk kY.out.size)) ((rV.out.ext kY.out).weaken (fun k hk=>ay hk kY.out.size)) Z5.out (aC fB.out kY.out) (by have:=rO.out.1;omega) (fun r hr=>by have:=rO.out.2.1 r hr;omega) rO.out.2.2 (by have:=Lc.out.1;omega) cO.out.1 cO.out.2;rw[hrg] at hrc;have FD:=ae hrc;dsimp only[tV] at FD;clear hrg hrc hsl hsz;obtain⟨x0,x1,x2⟩:=ag l9.out
 go_wp2_with fail
 refine FD.out.mono ?_;rintro e wa ⟨r,rfl,hTy,lJ⟩;obtain⟨ya,yc,hr⟩:=hTy.shape;subst hr;have hw:=lJ.alloc (tO x ya yc);have HYb:=ae (ai wa (tO x ya yc));have ahK:Hid (aA (fun k=>k< (wa.alloc (tO x ya yc)).heap.size) (wa.alloc (tO x ya yc)) x.kids (.slice ya x.kids.length yc)):=ae ((hTy.ext ((uR wa).alloc (tO x ya yc))).weaken (fun k hk=>ay hk.2 ((uR wa).alloc (tO x ya yc)).size));have Z7:=ae ((ahH.out.ext hw).weaken (fun k hk=>(ay hk hw.size:k< (wa.alloc (tO x ya yc)).heap.size)));have ahL:=ae ((Z5.out.ext hw).weaken (fun k hk=>(ay hk hw.size:k< (wa.alloc (tO x ya yc)).heap.size)) (fun k hk=>(ay hk hw.size:k< (wa.alloc (tO x ya yc)).heap.size)));have Sj:=ae (kY.out.trans hw);have HGb:=ae (hw.heap HG9.out (fun h=>h));have HBb:=ae (hw.heap l9.out (fun h=>h));have HXb:=ae (hw.heap O0.out (fun h=>h));clear kY HG9 l9 O0;obtain⟨yb,hyb⟩: ∃n,wa.heap.size=n:=⟨_,rfl⟩
 rw[hyb] at HYb;clear hw lJ hTy FD ahH Z5 x0 x1 x2;dsimp only;have t4:((tr.length:Int) !=(tr.length:Int))=false:=by simp
 have t5:((tr.length:Int)==(tr.length:Int))=true:=beq_self_eq_true _;have t6:decide ((tr.length:Int)=(tr.length:Int))=true:=dT rfl;have t7:decide ((n:Int)< (tr.length:Int))=false:=dF (by have:=Af.out.2.1;omega);have t8:tr.length<=n:=Af.out.2.1;have t9:decide (n<tr.length)=false:=dF (by omega)
 go_upto_region 11 with fail
 try rw[hyb]
 clear hyb;generalize wa.alloc (tO x ya yc)=wb at*;have hX:=(uR wb).alloc (tO x xa xc);have qV:=ae (AU [x] (.slice (some ⟨wb.heap.size,0,none⟩) 1 1) (fun k=>k< (wb.alloc (tO x xa xc)).heap.size) (wb.alloc (tO x xa xc)) (jH (ai wb (tO x xa xc)) (by simp) ((Z7.out.ext hX).weaken (fun k hk=>ay hk hX.size))) (fun k hk=>hk) (by simp));rw[je.out.1] at qV;obtain⟨x0,x1,x2⟩:=ag HXb.out;have ahN:=ae (Sj.out.trans hX);have ahO:=ae (hX.heap HGb.out (fun h=>h));have ahP:=ae (hX.heap HBb.out (fun h=>h));have ahQ:=ae (hX.heap HXb.out (fun h=>h));have ahR:=ae (hX.heap HYb.out (fun h=>h));have abN:=ae ((Z7.out.ext hX).weaken (fun k hk=>(ay hk hX.size:k< (wb.alloc (tO x xa xc)).heap.size)));have abO:=ae ((ahK.out.ext hX).weaken (fun k hk=>(ay hk hX.size:k< (wb.alloc (tO x xa xc)).heap.size)));have abP:=ae ((ahL.out.ext hX).weaken (fun k hk=>(ay hk hX.size:k< (wb.alloc (tO x xa xc)).heap.size)) (fun k hk=>(ay hk hX.size:k< (wb.alloc (tO x xa xc)).heap.size)));clear Sj HGb HBb HXb HYb Z7 ahK ahL;clear hX
 go_wp2_with fail
 generalize wb.alloc (tO x xa xc)=wca at*;clear x0 x1 x2;refine qV.out.mono ?_;rintro e wc ⟨rfl,hw⟩;have HEc:=ae (ahN.out.trans hw);have HGc:=ae (hw.heap ahO.out (fun h=>h));have HBc:=ae (hw.heap ahP.out (fun h=>h));have HXc:=ae (hw.heap ahQ.out (fun h=>h));have HYc:=ae (hw.heap ahR.out (fun h=>h));have ahT:=ae ((abN.out.ext hw).weaken (fun k hk=>(ay hk hw.size:k<wc.heap.size)));have Z8:=ae ((abO.out.ext hw).weaken (fun k hk=>(ay hk hw.size:k<wc.heap.size)));have ahU:=ae ((abP.out.ext hw).weaken (fun k hk=>(ay hk hw.size:k<wc.heap.size)) (fun k hk=>(ay hk hw.size:k<wc.heap.size)));clear ahN ahO ahP ahQ ahR abN abO abP;clear hw qV;have hX:=(uR wc).alloc (tO x ya yc);have qV:=ae (AU [x] (.slice (some ⟨wc.heap.size,0,none⟩) 1 1) (fun k=>k< (wc.alloc (tO x ya yc)).heap.size) (wc.alloc (tO x ya yc)) (jH (ai wc (tO x ya yc)) (by simp) ((Z8.out.ext hX).weaken (fun k hk=>ay hk hX.size))) (fun k hk=>hk) (by simp));rw[je.out.1] at qV;obtain⟨x0,x1,x2⟩:=ag HYc.out;have ahV:=ae (HEc.out.trans hX);have ahW:=ae (hX.heap HGc.out (fun h=>h));have ahX:=ae (hX.heap HBc.out (fun h=>h));have ahY:=ae (hX.heap HXc.out (fun h=>h));have ahZ:=ae (hX.heap HYc.out (fun h=>h));have abQ:=ae ((ahT.out.ext hX).weaken (fun k hk=>(ay hk hX.size:k< (wc.alloc (tO x ya yc)).heap.size)));have abR:=ae ((Z8.out.ext hX).weaken (fun k hk=>(ay hk hX.size:k< (wc.alloc (tO x ya yc)).heap.size)));have abS:=ae ((ahU.out.ext hX).weaken (fun k hk=>(ay hk hX.size:k< (wc.alloc (tO x ya yc)).heap.size)) (fun k hk=>(ay hk hX.size:k< (wc.alloc (tO x ya yc)).heap.size)));clear HEc HGc HBc HXc HYc ahT Z8 ahU;clear hX
 go_wp2_with fail
 generalize wc.alloc (tO x ya yc)=wda at*;clear x0 x1 x2;refine qV.out.mono ?_;rintro e wd ⟨rfl,hw⟩;have HEd:=ae (ahV.out.trans hw);have HGd:=ae (hw.heap ahW.out (fun h=>h));have HBd:=ae (hw.heap ahX.out (fun h=>h));have HXd:=ae (hw.heap ahY.out (fun h=>h));have HYd:=ae (hw.heap ahZ.out (fun h=>h));have Z9:=ae ((abQ.out.ext hw).weaken (fun k hk=>(ay hk hw.size:k<wd.heap.size)));have ah1:=ae ((abR.out.ext hw).weaken (fun k hk=>(ay hk hw.size:k<wd.heap.size)));have ah2:=ae ((abS.out.ext hw).weaken (fun k hk=>(ay hk hw.size:k<wd.heap.size)) (fun k hk=>(ay hk hw.size:k<wd.heap.size)));clear ahV ahW ahX ahY ahZ abQ abR abS;clear hw qV;have rX:=ae (zM x x (.agg #[.string x.name,.string x.sort,.slice xa x.kids.length xc]) (.agg #[.string x.name,.string x.sort,.slice ya x.kids.length yc]) _ _ wd ⟨xa,xc,rfl,Z9.out⟩ ⟨ya,yc,rfl,ah1.out⟩ (by have:=je.out.2;omega));obtain⟨x0,x1,x2⟩:=ag HXd.out;obtain⟨y0,y1,y2⟩:=ag HYd.out
 go_wp2_with fail
 refine rX.out.mono ?_;rintro e we ⟨he,hw⟩;obtain rfl:e= .returned (.bool true):=by simpa using he
 have Xq:=ae (HEd.out.trans hw);have HGe:=ae (hw.heap HGd.out (fun h=>h));have HBe:=ae (hw.heap HBd.out (fun h=>h));have HXe:=ae (hw.heap HXd.out (fun h=>h));have Z_:=ae ((Z9.out.ext hw).weaken (fun k hk=>(ay hk hw.size:k<we.heap.size)));have ah4:=ae ((ah2.out.ext hw).weaken (fun k hk=>(ay hk hw.size:k<we.heap.size)) (fun k hk=>(ay hk hw.size:k<we.heap.size)));clear HEd HGd HBd HXd Z9 ah2;clear hw rX he x0 x1 x2 y0 y1 y2 HYd ah1 t4 t5 t6 t7 t8 t9;have hst:=QC l x (.slice la l.length lc) (.agg #[.string x.name,.string x.sort,.slice xa x.kids.length xc]) we ((wR.out.ext Xq.out).weaken (fun k hk=>ay hk Xq.out.size)) ⟨xa,xc,rfl,Z_.out⟩ (aC fB.out Xq.out) (by have:=rO.out.1;omega) (fun r hr=>by have:=rO.out.2.1 r hr;omega) (by have:=je.out.2;omega) (fun _=>⟨60,rO.out.2.2 oh.out.2.1,by have:=je.out.2;omega⟩);rw[show stepG l x=(bP,(0,[]),12) by unfold stepG Aq;rw[if_pos (by rw[oh.out.2.1,Af.out.2.2.1];rfl),Af.out.1]] at hst;have HST:=ae hst
 skip
 clear hst;obtain⟨x0,x1,x2⟩:=ag HXe.out
 go_wp2_with fail
 refine HST.out.mono ?_;rintro e wf' ⟨⟨r,pv,rfl,hTn,hPn⟩,hwf⟩;dsimp only at hTn hPn⊢;obtain⟨na,nc,hr⟩:=hTn.shape;subst hr;obtain⟨qa,qc,hr⟩:=az.shape hPn;subst hr;have hw:=hwf.trans (((uR wf').alloc (tO bP na nc)).alloc (.cells #[.int .i64 ((0:Nat):Int),.slice qa ([]:List Nat).length qc] 65));have Xr:=ae (Xq.out.trans hw);have HGf:=ae (hw.heap HGe.out (fun h=>h));have HBf:=ae (hw.heap HBe.out (fun h=>h));have HXf:=ae (hw.heap HXe.out (fun h=>h));have aab:=ae ((Z_.out.ext hw).weaken (fun k hk=>(ay hk hw.size:k< ((wf'.alloc (tO bP na nc)).alloc (.cells #[.int .i64 ((0:Nat):Int),.slice qa ([]:List Nat).length qc] 65)).heap.size)));have ah8:=ae ((ah4.out.ext hw).weaken (fun k hk=>(ay hk hw.size:k< ((wf'.alloc (tO bP na nc)).alloc (.cells #[.int .i64 ((0:Nat):Int),.slice qa ([]:List Nat).length qc] 65)).heap.size)) (fun k hk=>(ay hk hw.size:k< ((wf'.alloc (tO bP na nc)).alloc (.cells #[.int .i64 ((0:Nat):Int),.slice qa ([]:List Nat).length qc] 65)).heap.size)));clear Xq HGe HBe HXe Z_ ah4;clear hw hwf hTn hPn HST x0 x1 x2
 go_upto_region 16 with fail
 generalize ((wf'.alloc (tO bP na nc)).alloc (.cells #[.int .i64 ((0:Nat):Int),.slice qa ([]:List Nat).length qc] 65))=wg at*;have hnm:=Gu l x ((0:Nat):Int) (.slice la l.length lc) (.agg #[.string x.name,.string x.sort,.slice xa x.kids.length xc]) wg ((wR.out.ext Xr.out).weaken (fun k hk=>ay hk Xr.out.size)) ⟨xa,xc,rfl,aab.out⟩ (aC fB.out Xr.out) (by have:=rO.out.1;omega) (fun r hr=>by have:=rO.out.2.1 r hr;omega) rO.out.2.2 (by have:=je.out.2;omega) (by omega);rw[Xn oh.out.2.1 Af.out.2.2.1 (by omega),UX Af.out.1] at hnm;have rZ:=ae hnm;dsimp only[tV,List.length_nil] at rZ;clear hnm;obtain⟨x0,x1,x2⟩:=ag HXf.out
 go_wp2_with fail
 refine rZ.out.mono ?_;rintro e wh ⟨r,rfl,hTz,hwh⟩;obtain⟨za,zc,hr⟩:=hTz.shape;subst hr;have hw:=hwh.alloc (tO x za zc);have HZi:=ae (ai wh (tO x za zc));have aac:Hid (aA (fun k=>k< (wh.alloc (tO x za zc)).heap.size) (wh.alloc (tO x za zc)) x.kids (.slice za x.kids.length zc)):=ae ((hTz.ext ((uR wh).alloc (tO x za zc))).weaken (fun k hk=>ay hk.2 ((uR wh).alloc (tO x za zc)).size));have HEi:=ae (Xr.out.trans hw);have HGi:=ae (hw.heap HGf.out (fun h=>h));have HBi:=ae (hw.heap HBf.out (fun h=>h));have HXi:=ae (hw.heap HXf.out (fun h=>h));have ah_:=ae ((aab.out.ext hw).weaken (fun k hk=>(ay hk hw.size:k< (wh.alloc (tO x za zc)).heap.size)));have ah':=ae ((ah8.out.ext hw).weaken (fun k hk=>(ay hk hw.size:k< (wh.alloc (tO x za zc)).heap.size)) (fun k hk=>(ay hk hw.size:k< (wh.alloc (tO x za zc)).heap.size)));clear Xr HGf HBf HXf aab ah8;obtain⟨zb,hzb⟩: ∃n,wh.heap.size=n:=⟨_,rfl⟩
 rw[hzb] at HZi;clear hw hwh hTz rZ x0 x1 x2;dsimp only
 go_upto_region 17 with fail
 try rw[hzb]
 clear hzb;generalize wh.alloc (tO x za zc)=wi at*;have hX:=(uR wi).alloc (tO x za zc);have qV:=ae (AU [x] (.slice (some ⟨wi.heap.size,0,none⟩) 1 1) (fun k=>k< (wi.alloc (tO x za zc)).heap.size) (wi.alloc (tO x za zc)) (jH (ai wi (tO x za zc)) (by simp) ((aac.out.ext hX).weaken (fun k hk=>ay hk hX.size))) (fun k hk=>hk) (by simp));rw[je.out.1] at qV;obtain⟨x0,x1,x2⟩:=ag HZi.out;have aia:=ae (HEi.out.trans hX);have aib:=ae (hX.heap HGi.out (fun h=>h));have aic:=ae (hX.heap HBi.out (fun h=>h));have aid:=ae (hX.heap HXi.out (fun h=>h));have aie:=ae (hX.heap HZi.out (fun h=>h));have abU:=ae ((ah_.out.ext hX).weaken (fun k hk=>(ay hk hX.size:k< (wi.alloc (tO x za zc)).heap.size)));have abV:=ae ((aac.out.ext hX).weaken (fun k hk=>(ay hk hX.size:k< (wi.alloc (tO x za zc)).heap.size)));have abW:=ae ((ah'.out.ext hX).weaken (fun k hk=>(ay hk hX.size:k< (wi.alloc (tO x za zc)).heap.size)) (fun k hk=>(ay hk hX.size:k< (wi.alloc (tO x za zc)).heap.size)));clear HEi HGi HBi HXi HZi ah_ aac ah';clear hX
 go_wp2_with fail
 generalize wi.alloc (tO x za zc)=wja at*;clear x0 x1 x2;refine qV.out.mono ?_;rintro e wj ⟨rfl,hw⟩;have HEj:=ae (aia.out.trans hw);have HGj:=ae (hw.heap aib.out (fun h=>h));have HBj:=ae (hw.heap aic.out (fun h=>h));have HXj:=ae (hw.heap aid.out (fun h=>h));have HZj:=ae (hw.heap aie.out (fun h=>h));have aif:=ae ((abU.out.ext hw).weaken (fun k hk=>(ay hk hw.size:k<wj.heap.size)));have aih:=ae ((abV.out.ext hw).weaken (fun k hk=>(ay hk hw.size:k<wj.heap.size)));have aii:=ae ((abW.out.ext hw).weaken (fun k hk=>(ay hk hw.size:k<wj.heap.size)) (fun k hk=>(ay hk hw.size:k<wj.heap.size)));clear aia aib aic aid aie abU abV abW;clear hw qV;have rX:=ae (zM x x (.agg #[.string x.name,.string x.sort,.slice xa x.kids.length xc]) (.agg #[.string x.name,.string x.sort,.slice za x.kids.length zc]) _ _ wj ⟨xa,xc,rfl,aif.out⟩ ⟨za,zc,rfl,aih.out⟩ (by have:=je.out.2;omega));obtain⟨x0,x1,x2⟩:=ag HXj.out;obtain⟨y0,y1,y2⟩:=ag HZj.out
 go_wp2_with fail
 refine rX.out.mono ?_;rintro e wk ⟨he,hw⟩;obtain rfl:e= .returned (.bool true):=by simpa using he
 have Xt:=ae (HEj.out.trans hw);have HGk:=ae (hw.heap HGj.out (fun h=>h));have HBk:=ae (hw.heap HBj.out (fun h=>h));have ail:=ae ((aii.out.ext hw).weaken (fun k hk=>(ay hk hw.size:k<wk.heap.size)) (fun k hk=>(ay hk hw.size:k<wk.heap.size)));clear HEj HGj HBj aii;clear hw rX he x0 x1 x2 y0 y1 y2 HZj aih HXj aif;have hps:=fun(u:Tm) (uv:Value) (hu:u.size<=100000) W (hW:Ext w W) (hR:bC (fun k=>k<W.heap.size) W u uv)=>ac8 g u (.agg #[.slice sa g.1.length sc,.slice oa g.2.length oc]) uv (fun k=>k<w.heap.size) W (HGG.out.ext hW) (fun k hk=>ay hk hW.size) hR (aC fB.out hW) (by omega) (by have:=jf.out.1;omega) (by have:=jf.out.2;omega) (ZZ oh.out.1);have Dl:=ae hps;have hp1:=hps t (.agg #[.string t.name,.string t.sort,.slice a t.kids.length cap]) (by have:=Lc.out.1;omega) wk Xt.out ((rV.out.ext Xt.out).weaken (fun k hk=>ay hk Xt.out.size));rw[PT oh.out.1 oh.out.2.2.2.1 oh.out.2.2.2.2] at hp1;obtain⟨sn,hsn⟩: ∃s,dU g t=s:=⟨_,rfl⟩
 rw[hsn] at hp1;have oW:=ae hp1;have gU:=ae hsn;dsimp only[tV] at oW;clear hps hp1 hsn;obtain⟨y0,y1⟩:=aP HGk.out;obtain⟨x0,x1,x2⟩:=ag HBk.out
 go_wp2_with fail
 refine oW.out.mono ?_;rintro e wl ⟨rfl,hw⟩;have HEl:=ae (Xt.out.trans hw);have HGl:=ae (hw.heap HGk.out (fun h=>h));have HBl:=ae (hw.heap HBk.out (fun h=>h));have ain:=ae ((ail.out.ext hw).weaken (fun k hk=>(ay hk hw.size:k<wl.heap.size)) (fun k hk=>(ay hk hw.size:k<wl.heap.size)));clear Xt HGk HBk ail;clear hw oW x0 x1 x2 y0 y1;dsimp only;have zk:IntKind.i64.wrap ((tr.length:Int)+1)=(tr.length:Int)+1:=IntWalk.i64_in _ (by have:=cO.out.1;omega)
 go_wp2_with fail
 go_loopg [187] (tr.length+1) (fun gk iv wr=> ∃k:Nat,iv= .int .i64 (k:Int)/\gk=tr.length+1-k/\k<=tr.length+1/\Hid (Ext wl wr))
 case atStart=>exact⟨0,rfl,rfl,Nat.zero_le _,ae (aj.refl _ _)⟩
 case round=>
  obtain⟨k,rfl,rfl,hk,HQ⟩:=hrel;by_cases hlt:k<tr.length+1
  rotate_left
  .obtain rfl:k=tr.length+1:=by omega
   have z2:decide (((tr.length+1:Nat):Int)< (tr.length:Int)+1)=false:=dF (by omega);have pK:=ae (HEl.out.trans HQ.out);clear hlt
   go_wp2_with fail
   go_ret;exact⟨rfl,pK.out⟩
  obtain⟨u,hu⟩:=PW HRR.out k (by omega);rw[Nat.zero_add] at hu;have huw:wf ax u=true:=by
   have h:=Xu (l:=l) (tr:=tr.take k) (t:=t) (n:=0) oh.out.2.2.2.1 (by rw[hu]);rw[hu] at h;exact h
  have hus:=Xv (PX oh.out.1) oh.out.2.1 oh.out.2.2.1 oh.out.2.2.2.1 oh.out.2.2.2.2 hu;have hso:gB g u=(sn,0):=by rw[PT oh.out.1 huw hus.1,hus.2,gU.out]
  have hrg:wu l t (tr.take k)=(u,k,0):=by unfold wu;rw[if_pos ⟨oh.out.2.1,oh.out.2.2.2.1⟩,if_neg (by rw[List.length_take];have:=Af.out.2.1;omega)];exact hu
  have hEw:=HEl.out.trans HQ.out;have hap: ∀W,Ext wr W->Calls Tryz.prog 47 #[(.slice la l.length lc),(.agg #[.string t.name,.string t.sort,.slice a t.kids.length cap]),.slice ta k tc] W fun e w'=> ∃r,e= .returned (.tuple #[tV u r,.int .i64 (k:Int),.int .i64 0])/\aA (fun j=>W.heap.size<=j/\j<w'.heap.size) w' u.kids r/\Ext W w':=fun W hW=>by
   have hE2:=hEw.trans hW;have hrx:=ajb ((ain.out.ext (HQ.out.trans hW)).weaken (fun k hk=>(ay hk (HQ.out.trans hW).size:k<W.heap.size)) (fun k hk=>(ay hk (HQ.out.trans hW).size:k<W.heap.size))) (k:=k) (by omega);have h:=PN l t (tr.take k) (.slice la l.length lc) (.agg #[.string t.name,.string t.sort,.slice a t.kids.length cap]) (.slice ta k tc) W ((wR.out.ext hE2).weaken (fun k hk=>ay hk hE2.size)) ((rV.out.ext hE2).weaken (fun k hk=>ay hk hE2.size)) hrx (aC fB.out hE2) (by have:=rO.out.1;omega) (fun r hr=>by have:=rO.out.2.1 r hr;omega) rO.out.2.2 (by have:=Lc.out.1;omega) (by rw[List.length_take];have:=cO.out.1;omega) (fun x hx=>cO.out.2 x (List.mem_of_mem_take hx));rw[hrg] at h;exact h
  have yG:=ae hap;have HUU:=ae (And.intro (Xp huw) (And.intro (jY huw) hso));have oq:=ae hEw;have z0:(0:Int)<=(k:Int):=by omega
  have z2:decide ((k:Int)< (tr.length:Int)+1)=true:=dT (by omega);have z3: ¬(k:Int)<0:=by omega
  obtain⟨_,_,hcp⟩: ∃x y:Nat,k<=tc:=⟨0,0,by have h:=ahB ain.out;omega⟩
  have z4:(k:Int)<=(tc:Int):=by omega
  have z5:((k:Int)).toNat=k:=by omega
  have n0:=af (HQ.out.heap HBl.out (fun h=>h)) 0 (.string t.name) rfl;have n1:=af (HQ.out.heap HBl.out (fun h=>h)) 1 (.string t.sort) rfl;have n2:=af (HQ.out.heap HBl.out (fun h=>h)) 2 (.slice a t.kids.length cap) rfl;clear hu huw hus hso hrg hEw hap
  go_upto_region 23 with fail
  have m0:=fun x:XW wr=>x.ext.cell n0 (fun h=>h);have m1:=fun x:XW wr=>x.ext.cell n1 (fun h=>h);have m2:=fun x:XW wr=>x.ext.cell n2 (fun h=>h);clear n0 n1 n2;refine PG.bW (α:=(Option Addr×Nat)×Nat×(Nat->Prop)) 11 [8,9] 13 [(11,1),(12,1),(13,2)] [[],[],[],[],[2,3],[0,1,2,3,4],[0,1,2,3,4,5],[0,1,2,3,4,5,6],[0,1,2,3,4,5,6],[0,1,2,3,4,5,6],[],[0,1,2,3,4,5,6,7,10],[0,1,2,3,4,5,6,7,8,10,11],[0,1,2,3,4,5,6,7,8,9,10,11,12]]
   [none,none,none,none,none,some (Je wr.heap.size u k),none,none,none,none,some (yQ wr.heap.size zO)]
   [false,false,false,false,false,true,false,false,false,false,true] (by kernel_rfl) (by kernel_rfl) rfl (fun _ _ d _ _ h=>by cases d<;>exact h) ?_
  simp only[List.take_succ_cons,List.take_zero,gG,List.getElem?_cons_zero,List.getElem?_cons_succ]
  iterate 5(refine PG.aX rfl (fun K hK=>?_);go_simp;refine hK _ ?_;clear hK K)
  refine PG.aK _ rfl (by go_simp) (fun W hW hG K hK=>?_) (fun K z5 hK=>?_)
  .go_simp;refine(yG.out W hW).mono ?_;rintro e w' ⟨r,rfl,hT,hE⟩;obtain⟨a',c',hr⟩:=hT.shape;subst hr;exact hK ((a',c'),0,fun j=>W.heap.size<=j/\j<w'.heap.size) w' hE ⟨hT,fun j hj=>⟨Nat.le_trans hW.size hj.1,hj.2⟩⟩ (fun k e=>e.1)
  refine hK _ ?_;clear hK K;dsimp only[Je,yQ]
  iterate 4(refine PG.aX rfl (fun K hK=>?_);go_simp;refine hK _ ?_;clear hK K)
  refine PG.aK _ rfl (by go_simp) (fun W hW hG K hK=>?_) (fun K z10 hK=>?_)
  .go_simp;exact hK ((none,0),W.heap.size,fun _=>False) _ ((uR W).alloc _) ⟨hW.size,ai _ _⟩ (fun k e=>by rw[e];exact Nat.le_refl _)
  refine hK _ ?_;clear hK K;dsimp only[Je,yQ];refine PG.jo (fun w8 hW hG jW=>?_);have g6:=hG _ (List.mem_append_left _ (List.mem_append_right _ (List.mem_singleton.2 rfl)));have g10:=hG _ (List.mem_append_right _ (List.mem_singleton.2 rfl));unfold PG.vz PI.vz at jW;simp only[List.nil_append,List.singleton_append,List.cons_append,List.pairwise_cons] at jW;have GK:=jW.1 _ (List.mem_cons_self ..);dsimp only[Je,yQ] at g6 g10 GK;clear hG jW m0 m1 m2;obtain⟨l0,l1,l2⟩:=ag g10.2;have fl:=fun i=>au g10.2 i;have G6:=ae g6;have wV:=ae g10;have Xm:=ae hW;have GL:=ae GK;clear g6 g10 hW GK;refine kN (fun K hK _=>?_) trivial;rw[if_pos (by rfl)];go_simp;refine hK _ _ trivial ?_;clear hK K;refine kN (fun K hK _=>?_) trivial;rw[if_pos (by rfl)];go_simp;refine hK _ _ trivial ?_;clear hK K;refine iE ?_;intro K hK;go_simp;refine hK _ _ ?_;clear hK K;simp only[cu];obtain⟨⟨ua,uc⟩,zn,B6⟩:=z5;obtain⟨zq,bn,B10⟩:=z10;dsimp only at G6 wV GL l0 l1 l2 fl⊢;have Lp:=aJ wV.out.2 (.string u.name) (.string u.sort) (.slice ua u.kids.length uc);have Jb:=aI w8 bn (.string u.name) (.string u.sort) (.slice ua u.kids.length uc);clear l0 l1 l2 fl;generalize ((w8.setCell ⟨bn,0,none⟩ (.string u.name)).setCell ⟨bn,1,none⟩ (.string u.sort)).setCell ⟨bn,2,none⟩ (.slice ua u.kids.length uc)=wA at*;have hbn:=wV.out.1;have yj:Ext wr wA:=Xm.out.trans' Jb (fun j hj e=>by omega);have kG:=ae (oq.out.trans yj);have HGA:=ae (yj.heap (HQ.out.heap HGl.out (fun h=>h)) (fun h=>h));have Fz:=ae Lp;have HQA:=ae (HQ.out.trans yj);have aad:Hid (aA (fun k=>k<wA.heap.size) wA u.kids (.slice ua u.kids.length uc)):=ae ((G6.out.1.kept Jb (fun j hj e=>GL.out j hj e)).weaken (fun j hj=>ay (G6.out.2 j hj).2 Jb.size));clear Lp Jb G6 wV GL Xm hbn yj oq yG;have hX:=(uR wA).alloc (tO u ua uc);have qV:=ae (AU [u] (.slice (some ⟨wA.heap.size,0,none⟩) 1 1) (fun k=>k< (wA.alloc (tO u ua uc)).heap.size) (wA.alloc (tO u ua uc)) (jH (ai wA (tO u ua uc)) (by simp) ((aad.out.ext hX).weaken (fun k hk=>ay hk hX.size))) (fun k hk=>hk) (by simp));rw[HUU.out.1] at qV;obtain⟨x0,x1,x2⟩:=ag Fz.out;have HQB:=ae (HQA.out.trans hX);have xX:=ae (kG.out.trans hX);have HGB:=ae (hX.heap HGA.out (fun h=>h));have wJ:=ae (hX.heap Fz.out (fun h=>h));have aiq:=ae ((aad.out.ext hX).weaken (fun k hk=>(ay hk hX.size:k< (wA.alloc (tO u ua uc)).heap.size)));clear kG HGA Fz aad;clear hX HQA
  go_wp2_with fail
  generalize wA.alloc (tO u ua uc)=wB at*;clear x0 x1 x2;refine qV.out.mono ?_;rintro e wC ⟨rfl,hw⟩;have HQC:=ae (HQB.out.trans hw);have HEC:=ae (xX.out.trans hw);have HGC:=ae (hw.heap HGB.out (fun h=>h));have BN:=ae (hw.heap wJ.out (fun h=>h));have air:=ae ((aiq.out.ext hw).weaken (fun k hk=>(ay hk hw.size:k<wC.heap.size)));clear xX HGB wJ aiq;clear hw qV HQB;have hp1:=Dl.out u (.agg #[.string u.name,.string u.sort,.slice ua u.kids.length uc]) (by have:=HUU.out.2.1;omega) wC HEC.out ⟨ua,uc,rfl,air.out⟩;rw[HUU.out.2.2] at hp1;have oW:=ae hp1;clear hp1;obtain⟨y0,y1⟩:=aP HGC.out;obtain⟨x0,x1,x2⟩:=ag BN.out
  go_wp2_with fail
  refine oW.out.mono ?_;rintro e wD ⟨rfl,hw⟩;have HQD:=ae (HQC.out.trans hw);have c1:(ByteArray.toList sn==ByteArray.toList sn)=true:=beq_self_eq_true _;have c2:(ByteArray.toList sn !=ByteArray.toList sn)=false:=by simp
  clear hw oW x0 x1 x2 y0 y1 HQC HEC HGC BN air;have hxl:=cO.out.1
  go_wp2_with fail
  go_roundg (tr.length+1- (k+1))
  case measure=>omega
  case rel=>exact⟨k+1,by go_num,rfl,by omega,HQD⟩
end
end Go.Proofs.YtlkcjmaiahnodaaGreatDoor
