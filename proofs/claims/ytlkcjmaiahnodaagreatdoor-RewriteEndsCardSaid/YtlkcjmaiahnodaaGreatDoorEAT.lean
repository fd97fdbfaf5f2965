/- The texts N66 NR N67 N80 N85 N81 N82, one behind the other. -/
import Derived.Test.YtlkcjmaiahnodaaGreatDoorEAS
import Derived.Test.YtlkcjmaiahnodaaGreatDoorEAP
import Derived.Test.YtlkcjmaiahnodaaGreatDoorEAE
import Derived.Test.YtlkcjmaiahnodaaGreatDoorEAR
import Derived.Test.YtlkcjmaiahnodaaGreatDoorEAH
import Derived.Test.YtlkcjmaiahnodaaGreatDoorEAN
import Derived.Test.YtlkcjmaiahnodaaGreatDoorEAO
set_option linter.unusedVariables false
set_option linter.unusedSimpArgs false
set_option maxRecDepth 100000
set_option maxHeartbeats 8000000
namespace Go.Proofs.YtlkcjmaiahnodaaGreatDoor
open Go.RowKit Go.Hw Go Tm
section
open Go.Sort Go.Proofs Go.ChangeMaps
def oZ (l:List Rl):List Rx->Tm->Nat->Tm×Nat×Int
 |[],t,n=>(t,n,0)
 |x::tr,t,n=>if(nS l t x).2=0 then oZ l tr (nS l t x).1 (n+1) else(bP,n,(nS l t x).2)
def wu (l:List Rl) (t:Tm) (tr:List Rx):Tm×Nat×Int:=if bY l=true/\wf ax t=true then(if 2000<tr.length then(bP,0,4) else oZ l tr t 0) else(bP,0,1)
theorem LZ {l:List Rl} {t:Tm} {x:Rx} (h:(nS l t x).2=0): ∃(i:Nat) (p:List Nat) (u:Tm),x=nG i p/\uj t p/\i<l.length/\jL (rg l i) (uJ t p)=some u/\(gK t p u).2=0/\nS l t x=gK t p u:=by
 unfold nS at h⊢;by_cases hc:x.1<0\/(l.length:Int)<=x.1
 .rw [if_pos hc] at h;cases h
 .rw [if_neg hc] at h⊢;cases hs:jh t x.2 with
  |none=>rw[hs] at h;cases h
  |some u=>
   rw[hs] at h;simp only at h⊢;cases ha:jL (rg l x.1.toNat) u with
   |none=>rw[ha] at h;cases h
   |some z=>
    rw[ha] at h;simp only at h⊢;obtain⟨q,hq,hp,hu⟩:=JM hs;have hq2:x.2.map Int.toNat=q:=by rw[hq,AV]
    rw[hq2] at h⊢;refine⟨x.1.toNat,q,z,?_,hp,by omega,by rw[<-hu];exact ha,h,rfl⟩;unfold nG;exact Prod.ext (by simp only;omega) hq
theorem Xw {l:List Rl} {t:Tm} {x:Rx} (h:(nS l t x).2=0):wf ax (nS l t x).1=true:=by
 obtain⟨i,p,u,_,_,_,_,h1,h2⟩:=LZ h;rw[h2];have:=rM h1;rw[this.1];exact this.2
theorem Xu {l:List Rl}: ∀{tr:List Rx} {t:Tm} {n:Nat},wf ax t=true->(oZ l tr t n).2.2=0->wf ax (oZ l tr t n).1=true
 |[],t,n,h,_=>h
 |x::tr,t,n,h,h0=>by
  unfold oZ at h0⊢;by_cases hz:(nS l t x).2=0
  .rw [if_pos hz] at h0⊢;exact Xu (Xw hz) h0
  .rw [if_neg hz] at h0;exact absurd h0 hz
theorem PW {l:List Rl}: ∀{tr:List Rx} {t u:Tm} {n m:Nat},oZ l tr t n=(u,m,0)->∀k,k<=tr.length->∃v,oZ l (tr.take k) t n=(v,n+k,0)
 |tr,t,u,n,m,h,0,_=>⟨t,by rw[List.take_zero];rfl⟩
 |[],t,u,n,m,h,k+1,hk=>absurd hk (Nat.not_succ_le_zero _)
 |x::tr,t,u,n,m,h,k+1,hk=>by
  rw[List.take_succ_cons];unfold oZ at h⊢;by_cases hz:(nS l t x).2=0
  .rw [if_pos hz] at h⊢;obtain⟨v,hv⟩:=PW h k (by simpa using hk);exact⟨v,by rw[hv,Nat.add_assoc,Nat.add_comm 1 k]⟩
  .rw [if_neg hz] at h;injection h with _ h
   injection h with _ h
   exact absurd h hz
theorem SG {l:List Rl}: ∀{n:Nat} {t:Tm} {tr:List Rx} {x:Tm} {PV:List Rx},wf ax t=true->gW l n t tr=(x,PV,0)->∃s,PV=tr++s/\(∀k,oZ l s t k=(x,k+s.length,0))/\jy l x=none/\s.length<=n/\wf ax x=true
 |0,t,tr,x,PV,ht,h=>by
  unfold gW at h;cases hf:jy l t with
  |none=>
   rw[hf] at h;injection h with h1 h2
   injection h2 with h2 _
   subst h1;exact⟨[],by simp[h2],fun k=>rfl,hf,Nat.le_refl _,ht⟩
  |some y=>
   rw[hf] at h;injection h with _ h
   injection h with _ h
   cases h
 |n+1,t,tr,x,PV,ht,h=>by
  unfold gW at h;cases hf:jy l t with
  |none=>
   rw[hf] at h;injection h with h1 h2
   injection h2 with h2 _
   subst h1;exact⟨[],by simp[h2],fun k=>rfl,hf,Nat.zero_le _,ht⟩
  |some y=>
   obtain⟨i,p,u⟩:=y;rw[hf] at h;simp only at h;by_cases hz:(gK t p u).2=0
   .rw [if_pos hz] at h;have hp:=rM hz;have hw:wf ax (gK t p u).1=true:=by rw[hp.1];exact hp.2
    obtain⟨s,h1,h2,h3,h4,h5⟩:=SG hw h;refine⟨nG i p::s,by rw[h1,List.append_assoc];rfl,fun k=>?_,h3,by simpa using h4,h5⟩;unfold oZ;rw[acP hf,if_pos hz,h2,List.length_cons]
    congr 2
    omega
   .rw [if_neg hz] at h;injection h with _ h
    injection h with _ h
    exact absurd h hz
theorem UX {l:List Rl} {x:Tm} (h:jy l x=none) (n:Nat) (tr:List Rx):gW l n x tr=(x,tr,0):=by
 cases n with
 |zero=>unfold gW;rw[h]
 |succ n=>unfold gW;rw[h]
def VR (g:Sg) (l:List Rl):Prop:= ∀r∈l,WS g r.1/\WS g r.2/\dU g r.1=dU g r.2
theorem ac9 {l:List Rl} {i:Nat} (h:i<l.length):rg l i∈l:=by unfold Go.Hw.rg;rw[List.getD_eq_getElem?_getD,List.getElem?_eq_getElem h];exact List.getElem_mem h
theorem aiw {g:Sg} (hg:wY g) {l:List Rl} (hr:bY l=true) (hv:VR g l) {t:Tm} {x:Rx} (ht:wf ax t=true) (hw:WS g t) (h:(nS l t x).2=0):WS g (nS l t x).1/\dU g (nS l t x).1=dU g t:=by
 obtain⟨i,p,u,_,hp,hi,ha,h1,h2⟩:=LZ h;rw[h2,(rM h1).1];obtain⟨k1,k2,k3,k4⟩:=Gs (Gq hr hi);obtain⟨w1,w2,w3⟩:=hv _ (ac9 hi);have hu:=aix hg k1 k4 k3 w1 w2 w3 (SH p t hp hw) ha;exact Xx hu.1 p t hp (zI ht) hw hu.2
theorem Xv {g:Sg} (hg:wY g) {l:List Rl} (hr:bY l=true) (hv:VR g l): ∀{tr:List Rx} {t u:Tm} {n m:Nat},wf ax t=true->WS g t->oZ l tr t n=(u,m,0)->WS g u/\dU g u=dU g t
 |[],t,u,n,m,_,hw,h=>by
  unfold oZ at h;injection h with h1 _
  subst h1;exact⟨hw,rfl⟩
 |x::tr,t,u,n,m,ht,hw,h=>by
  unfold oZ at h;by_cases hz:(nS l t x).2=0
  .rw [if_pos hz] at h;obtain⟨h1,h2⟩:=aiw hg hr hv ht hw hz;obtain⟨h3,h4⟩:=Xv hg hr hv (Xw hz) h1 h;exact⟨h3,h4.trans h2⟩
  .rw [if_neg hz] at h;injection h with _ h
   injection h with _ h
   exact absurd h hz
theorem Xp {t:Tm} (h:wf ax t=true):pY [t]=false:=by
 obtain⟨h1,h2,h3,_⟩:=vM.1 h;unfold pY yO;show decide (kH t 80 1100<0)=false;rw[WL t 80 1100 (by omega) (by omega) (fun x hx=>by
  obtain⟨g1,g2,g3⟩:=h3 x hx;have k1:=(aaF g1).2;refine⟨by omega,?_,by omega⟩;rcases g3 with g3|g3
  .rw [g3];decide
  .have:=(aaF g3.1).2;omega)]
 exact dF (by omega)
theorem SA {l:List Rl}: ∀(n:Nat) (t:Tm) (tr:List Rx),wf ax t=true->(∀x∈tr,x.2.length<=1000)->tr.length+n<=5000->((gW l n t tr).2.2=0/\wf ax (gW l n t tr).1=true\/(gW l n t tr).2.2≠0/\(gW l n t tr).1=bP)/\(∀x∈(gW l n t tr).2.1,x.2.length<=1000)/\(gW l n t tr).2.1.length<=5000
 |0,t,tr,ht,hp,hl=>by
  unfold gW;cases hf:jy l t with
  |none=>exact⟨.inl ⟨rfl,ht⟩,hp,hl⟩
  |some y=>exact⟨.inr ⟨by simp,rfl⟩,by simp,by simp⟩
 |n+1,t,tr,ht,hp,hl=>by
  unfold gW;cases hf:jy l t with
  |none=>exact⟨.inl ⟨rfl,ht⟩,hp,by simp only;omega⟩
  |some y=>
   obtain⟨i,p,u⟩:=y;simp only;have hok:=(zG l t i p u hf).1;have hpl:=zH p t hok;have hsz:=jY ht;by_cases hz:(gK t p u).2=0
   .rw [if_pos hz];have hp0:=rM hz;refine SA n _ _ (by rw[hp0.1];exact hp0.2) (fun x hx=>?_) (by simp;omega);rcases List.mem_append.1 hx with hx|hx
    .exact hp x hx
    .rw [List.mem_singleton] at hx;subst hx;simp[nG];omega
   .rw [if_neg hz];exact⟨.inr ⟨hz,rfl⟩,by simp,by simp⟩
theorem Qu {l:List Rl} (h:D_ l=false):l.length<=110/\(∀r∈l,r.1.size<=1100/\r.2.size<=1100)/\(bY l=true->∀r∈l,r.2.size<=60):=by
 unfold D_ at h;simp only[Bool.or_eq_false_iff,decide_eq_false_iff_not] at h;have hg: ∀r∈l,uB r=false:=fun r hr=>by
  cases hgr:uB r with
  |false=>rfl
  |true=>
   have:l.any uB=true:=List.any_eq_true.2 ⟨r,hr,hgr⟩;rw[h.2] at this;cases this
 refine⟨by omega,fun r hr=>?_,fun hrt r hr=>?_⟩
 .have:=hg r hr;unfold uB at this;simp only[Bool.or_eq_false_iff] at this;exact⟨rJ this.1.1.1,rJ this.1.1.2⟩
 .have:=hg r hr;unfold uB at this;simp only[Bool.or_eq_false_iff] at this;obtain⟨i,hi,e⟩:=List.getElem_of_mem hr;have e2:Go.Hw.rg l i=r:=by unfold Go.Hw.rg;rw[List.getD_eq_getElem?_getD,List.getElem?_eq_getElem hi];exact e
  have hrr:=Gs (Gq hrt hi);rw[e2] at hrr;have hf:=uY hrr.2.1;have h2:=this.2;rw[hf,Bool.true_and,decide_eq_false_iff_not] at h2;omega
theorem Qv {t:Tm} (h:FI t=false):t.size<=1100:=by
 unfold FI at h;simp only[Bool.or_eq_false_iff] at h;exact rJ h.1
theorem ZY {t:Tm} (h:FI t=false) (hw:wf ax t=true):t.size<=300:=by
 unfold FI at h;simp only[Bool.or_eq_false_iff] at h;have h2:=h.2;rw[uY hw,Bool.true_and,decide_eq_false_iff_not] at h2;omega
theorem ahw {t:Tm} (h:wf ax t=true) (p:List Int):nY t p=match jh t p with
  |none=>(bP,2)
  |some u=>(u,0):=by
 unfold nY;rw[h];cases jh t p<;>rfl
theorem PN (l:List Rl) (t:Tm) (tr:List Rx) (lv v xv:Value) (w:World) (hL:jc (fun k=>k<w.heap.size) w l lv) (hT:bC (fun k=>k<w.heap.size) w t v) (hX:lK (fun k=>k<w.heap.size) (fun k=>k<w.heap.size) w xv tr) (htab:bT w) (hll:l.length<=1000000) (hls: ∀r∈l,r.1.size<=100000/\r.2.size<=100000) (hrs:bY l=true->∀r∈l,r.2.size<=60) (hsz:t.size<=100000) (hxl:tr.length<=1000000) (hxp: ∀x∈tr,x.2.length<=1000000):
  Calls Tryz.prog 47 #[lv,v,xv] w fun e w'=> ∃r,e= .returned (.tuple #[tV (wu l t tr).1 r,.int .i64 ((wu l t tr).2.1:Int),.int .i64 (wu l t tr).2.2])/\aA (fun k=>w.heap.size<=k/\k<w'.heap.size) w' (wu l t tr).1.kids r/\Ext w w':=by
 obtain⟨Z,hZ⟩: ∃Z,wu l t tr=Z:=⟨_,rfl⟩
 rw[hZ];have iH:=ae hZ;have wR:=ae hL;have HAS:=ae htab;have FK:=ae (And.intro hls hrs);have Ic:=ae hX;have HXP:=ae (And.intro hxl hxp);have oH:=ae (fun W (hW:Ext w W)=>Ew l lv W ((hL.ext hW).weaken (fun k hk=>ay hk hW.size)) (aC htab hW) hll hls);have uf:=ae (fun W (hW:Ext w W)=>wZ t v W (aC htab hW) ((hT.ext hW).weaken (fun k hk=>ay hk hW.size)) (by omega));have sZ:=ae (fun W (hW:Ext w W)=>yF t v (fun k=>k<w.heap.size) W (hT.ext hW) (fun k hk=>ay hk hW.size) hsz);obtain⟨la,lc,rfl⟩:=hL.shape;obtain⟨xa,xc,rfl⟩:=hX.shape;obtain⟨a,cap,rfl,hTL⟩:=hT;have Hf:=((uR w).alloc (tO t a cap)).alloc zO;have oq:=ae Hf;have JY:=ae (ak (ai w (tO t a cap)) zO);have nT:=ae (alloc_at (w.alloc (tO t a cap)) zO (n:=w.heap.size+1) (by simp));have hz2:w.heap.size+2<=((w.alloc (tO t a cap)).alloc zO).heap.size:=by simp
 have mG:=ae hz2;dsimp only[tV] at uf sZ⊢;clear hL htab hls hrs hTL Hf hz2 hZ hX hxl hxp
 go_enter Tryz.func47,Tryz.ntmps47
 go_wp2_with fail
 generalize ((w.alloc (tO t a cap)).alloc zO)=w1 at*;refine(oH.out _ oq.out).mono ?_;rintro e w2 ⟨rfl,hw2⟩;have HE2:=ae (oq.out.trans hw2);have zy:=ae (hw2.heap JY.out (fun h=>h));have oP:=ae (hw2.heap nT.out (fun h=>h));have HS2:=ae (Nat.le_trans mG.out hw2.size);clear hw2 oH oq JY nT mG;obtain⟨b1,hb1⟩: ∃b,bY l=b:=⟨_,rfl⟩
 rw[hb1];cases b1 with
 |false=>
  obtain rfl:Z=(bP,0,1):=by rw[<-iH.out];unfold wu;rw[if_neg (by rw[hb1];simp)]
  clear hb1;have f2:=fun i=>au oP.out i;obtain⟨d0,d1,d2⟩:=ag oP.out
  go_wp2_with fail
  have hr3:=aJ oP.out (.string ⟨#[]⟩) (.string ⟨#[]⟩) (.slice none 0 0);have hu:=aI w2 (w.heap.size+1) (.string ⟨#[]⟩) (.string ⟨#[]⟩) (.slice none 0 0);obtain⟨e0,e1,e2⟩:=ag hr3;refine bodyPost_ret (v:= .tuple #[.agg #[.string ⟨#[]⟩,.string ⟨#[]⟩,.slice none 0 0],.int .i64 (0),.int .i64 (1)]) (by simp[results,Tryz.results47,go_sem,e0,e1,e2]) rfl ?_;have hue:=HE2.out.trans' hu (fun j hj e=>by omega);exact⟨.slice none 0 0,rfl,aA.nil _ _,hue⟩
 |true=>
  have Ah:=ae hb1;have Y6:=ae (FK.out.2 hb1);clear hb1;obtain⟨x0,x1,x2⟩:=ag zy.out
  go_wp2_with fail
  refine(uf.out _ HE2.out).mono ?_;rintro e w3 ⟨rfl,hw3⟩;have aS:=ae (HE2.out.trans hw3);have wo:=ae (hw3.heap zy.out (fun h=>h));have jS:=ae (hw3.heap oP.out (fun h=>h));have gV:=ae (Nat.le_trans HS2.out hw3.size);clear hw3 uf HE2 zy oP HS2 x0 x1 x2;obtain⟨b2,hb2⟩: ∃b,wf ax t=b:=⟨_,rfl⟩
  rw[hb2];cases b2 with
  |false=>
   obtain rfl:Z=(bP,0,1):=by rw[<-iH.out];unfold wu;rw[if_neg (by rw[hb2];simp)]
   clear hb2;have f2:=fun i=>au jS.out i;obtain⟨d0,d1,d2⟩:=ag jS.out
   go_wp2_with fail
   have hr3:=aJ jS.out (.string ⟨#[]⟩) (.string ⟨#[]⟩) (.slice none 0 0);have hu:=aI w3 (w.heap.size+1) (.string ⟨#[]⟩) (.string ⟨#[]⟩) (.slice none 0 0);obtain⟨e0,e1,e2⟩:=ag hr3;refine bodyPost_ret (v:= .tuple #[.agg #[.string ⟨#[]⟩,.string ⟨#[]⟩,.slice none 0 0],.int .i64 (0),.int .i64 (1)]) (by simp[results,Tryz.results47,go_sem,e0,e1,e2]) rfl ?_;have hue:=aS.out.trans' hu (fun j hj e=>by omega);exact⟨.slice none 0 0,rfl,aA.nil _ _,hue⟩
  |true=>
   have lH:=ae hb2;have hz:Z=if 2000<tr.length then(bP,0,4) else oZ l tr t 0:=by rw[<-iH.out];unfold wu;rw[if_pos ⟨Ah.out,hb2⟩]
   by_cases hbig:2000<tr.length
   .have t1:decide ((2000:Int)< (tr.length:Int))=true:=dT (by omega);rw[if_pos hbig] at hz;subst hz;clear hbig hb2;have f2:=fun i=>au jS.out i;obtain⟨d0,d1,d2⟩:=ag jS.out
    go_wp2_with fail
    have hr3:=aJ jS.out (.string ⟨#[]⟩) (.string ⟨#[]⟩) (.slice none 0 0);have hu:=aI w3 (w.heap.size+1) (.string ⟨#[]⟩) (.string ⟨#[]⟩) (.slice none 0 0);obtain⟨e0,e1,e2⟩:=ag hr3;refine bodyPost_ret (v:= .tuple #[.agg #[.string ⟨#[]⟩,.string ⟨#[]⟩,.slice none 0 0],.int .i64 (0),.int .i64 (4)]) (by simp[results,Tryz.results47,go_sem,e0,e1,e2]) rfl ?_;have hue:=aS.out.trans' hu (fun j hj e=>by omega);exact⟨.slice none 0 0,rfl,aA.nil _ _,hue⟩
   rw[if_neg hbig] at hz;have RV:=ae hz.symm;have t1:decide ((2000:Int)< (tr.length:Int))=false:=dF (by omega);have f1:=fun i=>au wo.out i;obtain⟨x0,x1,x2⟩:=ag wo.out;clear hbig hb2 hz iH
   go_wp2_with fail
   refine(sZ.out _ aS.out).mono ?_;rintro e w4 ⟨r4,B4,rfl,OZ,hb4,hw4⟩;obtain⟨ya,yc,jB⟩:=aG.shape OZ;subst jB;have bQ:=ae (aS.out.trans hw4);have JZ:=ae (hw4.heap wo.out (fun h=>h));have kZ:=ae (hw4.heap jS.out (fun h=>h));have gQ:Hid (w.heap.size+2<=w4.heap.size):=ae (Nat.le_trans gV.out hw4.size);have HT4:=ae (OZ.read);have HB4:Hid (∀j,B4 j->w.heap.size+2<=j/\j<w4.heap.size):=ae (fun j hj=>⟨Nat.le_trans gV.out (hb4 j hj).1,(hb4 j hj).2⟩);dsimp only[tV];clear OZ hb4 hw4 sZ x0 x1 x2 f1 aS wo jS gV t1;have f1:=fun i=>au JZ.out i;obtain⟨x0,x1,x2⟩:=ag JZ.out
   go_upto_region 6 with fail
   have pJ:=ae (aJ JZ.out (.string t.name) (.string t.sort) (.slice ya t.kids.length yc));have gY:=ae (aI w4 w.heap.size (.string t.name) (.string t.sort) (.slice ya t.kids.length yc));have dX:=ae (bQ.out.trans' gY.out (fun j hj e=>by omega));have jm:=ae (gY.out.heap kZ.out (by omega));have ql:=ae ((HT4.out.kept gY.out (fun j hj e=>by have:=(HB4.out j hj).1;omega)).weaken (fun j hj=>(⟨by have:=(HB4.out j hj).1;omega,ay (HB4.out j hj).2 gY.out.size⟩:w.heap.size+2<=j/\j<_)));have qi:=ae (Nat.le_trans gQ.out gY.out.size);clear x0 x1 x2 f1;generalize (((w4.setCell ⟨w.heap.size,0,none⟩ (.string t.name)).setCell ⟨w.heap.size,1,none⟩ (.string t.sort)).setCell ⟨w.heap.size,2,none⟩ (.slice ya t.kids.length yc))=w5 at*;clear HT4 HB4 JZ kZ bQ gY gQ
   go_wp2_with fail
   go_loopg [35] tr.length (fun gk iv wr=> ∃(k:Nat) (cur:Tm) (ca:Option Addr) (cc:Nat),iv= .int .i64 (k:Int)/\gk=tr.length-k/\k<=tr.length/\Hid (wr.heap[w.heap.size]?=some (tO cur ca cc))/\Hid (wr.heap[w.heap.size+1]?=some zO)/\Hid (aA (fun j=>w.heap.size+2<=j/\j<wr.heap.size) wr cur.kids (.slice ca cur.kids.length cc))/\Hid (Ext w wr)/\Hid (w.heap.size+2<=wr.heap.size)/\Hid (wf ax cur=true)/\Hid (oZ l (tr.drop k) cur k=Z))
   case atStart=>exact⟨0,t,ya,yc,rfl,rfl,Nat.zero_le _,pJ,jm,ql,dX,qi,lH,RV⟩
   case round=>
    clear pJ jm ql dX qi lH RV;obtain⟨k,cur,ca,cc,rfl,rfl,hk,HB0,HB1,FB,HE,HS,HW,Lj⟩:=hrel;by_cases hlt:k<tr.length
    rotate_left
    .obtain rfl:k=tr.length:=by omega
     obtain rfl:Z=(cur,tr.length,0):=by rw[<-Lj.out,List.drop_length];rfl
     have z2:decide ((tr.length:Int)< (tr.length:Int))=false:=dF (by omega);clear hlt Lj;obtain⟨x0,x1,x2⟩:=ag HB0.out;have f2:=fun i=>au HB1.out i;obtain⟨d0,d1,d2⟩:=ag HB1.out
     go_wp2_with fail
     have hr3:=aJ HB1.out (.string cur.name) (.string cur.sort) (.slice ca cur.kids.length cc);have hu:=aI wr (w.heap.size+1) (.string cur.name) (.string cur.sort) (.slice ca cur.kids.length cc);obtain⟨e0,e1,e2⟩:=ag hr3;refine bodyPost_ret (v:= .tuple #[.agg #[.string cur.name,.string cur.sort,.slice ca cur.kids.length cc],.int .i64 (tr.length),.int .i64 (0)]) (by simp[results,Tryz.results47,go_sem,e0,e1,e2]) rfl ?_;have hue:=HE.out.trans' hu (fun j hj e=>by omega);exact⟨.slice ca cur.kids.length cc,rfl,(FB.out.kept hu (fun j hj e=>by omega)).weaken (fun j hj=>⟨by omega,ay hj.2 hu.size⟩),hue⟩
    obtain⟨g,off,hga,hxg,hat⟩:=(Ic.out.ext HE.out).at_ (by omega);subst hga;obtain⟨pa,pc,q0,q1,hpx⟩:=hat k hlt;have hmem:=ahx hlt;have UQ:=HXP.out.2 _ hmem;have hrg:=Lj.out;rw[ac7 tr k hlt] at hrg
    conv at hrg=>lhs;unfold oZ
    obtain⟨⟨xi,xp⟩,hx⟩: ∃x,xg tr k=x:=⟨_,rfl⟩
    rw[hx] at q0 q1 hpx UQ hrg;obtain⟨D,hD⟩: ∃D,nS l cur (xi,xp)=D:=⟨_,rfl⟩
    rw[hD] at hrg;unfold nS at hD;dsimp only at q0 q1 hpx UQ hD;have LU:=ae hrg.symm;have HD:=ae hD;have pG:=ae UQ;obtain⟨z0,z1,z2,z2'⟩:=bz hlt;clear hat hmem hrg hx hD UQ Lj hxg;have hX1:=(uR wr).alloc (.cells #[.int .i64 xi,.slice pa xp.length pc] 65);have oq:=ae (HE.out.trans hX1);have yP:=ae hX1;have JY:=ae (hX1.heap HB0.out (fun h=>h));have nT:=ae (hX1.heap HB1.out (fun h=>h));have HR1:=ae (ai wr (.cells #[.int .i64 xi,.slice pa xp.length pc] 65));have HPX:=ae hpx;have pq:Hid (wr.heap.size< (wr.alloc (.cells #[.int .i64 xi,.slice pa xp.length pc] 65)).heap.size):=ae (by simp);clear hX1 hpx;obtain⟨rb,hrb⟩: ∃n,wr.heap.size=n:=⟨_,rfl⟩
    rw[hrb] at HR1
    go_upto_region 9 with fail
    try rw[hrb]
    clear q0 q1;generalize wr.alloc (.cells #[.int .i64 xi,.slice pa xp.length pc] 65)=w1 at*;obtain⟨m0,m1⟩:=aP HR1.out;by_cases hlo:xi<0
    .have t1:decide (xi<0)=true:=dT hlo;obtain rfl:D=(bP,2):=by have h:=HD.out;rw[if_pos (.inl hlo)] at h;exact h.symm
     obtain rfl:Z=(bP,k,2):=by rw[LU.out];rfl
     clear hlo;have f2:=fun i=>au nT.out i;obtain⟨d0,d1,d2⟩:=ag nT.out
     go_wp2_with fail
     have hr3:=aJ nT.out (.string ⟨#[]⟩) (.string ⟨#[]⟩) (.slice none 0 0);have hu:=aI w1 (w.heap.size+1) (.string ⟨#[]⟩) (.string ⟨#[]⟩) (.slice none 0 0);obtain⟨e0,e1,e2⟩:=ag hr3;refine bodyPost_ret (v:= .tuple #[.agg #[.string ⟨#[]⟩,.string ⟨#[]⟩,.slice none 0 0],.int .i64 ((k:Int)),.int .i64 (2)]) (by simp[results,Tryz.results47,go_sem,e0,e1,e2]) rfl ?_;have hue:=oq.out.trans' hu (fun j hj e=>by omega);exact⟨.slice none 0 0,rfl,aA.nil _ _,hue⟩
    have t1:decide (xi<0)=false:=dF hlo;by_cases hhi:(l.length:Int)<=xi
    .have t2:decide ((l.length:Int)<=xi)=true:=dT hhi;obtain rfl:D=(bP,2):=by have h:=HD.out;rw[if_pos (.inr hhi)] at h;exact h.symm
     obtain rfl:Z=(bP,k,2):=by rw[LU.out];rfl
     clear hhi;have f2:=fun i=>au nT.out i;obtain⟨d0,d1,d2⟩:=ag nT.out
     go_wp2_with fail
     have hr3:=aJ nT.out (.string ⟨#[]⟩) (.string ⟨#[]⟩) (.slice none 0 0);have hu:=aI w1 (w.heap.size+1) (.string ⟨#[]⟩) (.string ⟨#[]⟩) (.slice none 0 0);obtain⟨e0,e1,e2⟩:=ag hr3;refine bodyPost_ret (v:= .tuple #[.agg #[.string ⟨#[]⟩,.string ⟨#[]⟩,.slice none 0 0],.int .i64 ((k:Int)),.int .i64 (2)]) (by simp[results,Tryz.results47,go_sem,e0,e1,e2]) rfl ?_;have hue:=oq.out.trans' hu (fun j hj e=>by omega);exact⟨.slice none 0 0,rfl,aA.nil _ _,hue⟩
    have t2:decide ((l.length:Int)<=xi)=false:=dF hhi;have hD2:=HD.out;rw[if_neg (by omega)] at hD2;obtain⟨i,rfl⟩: ∃i:Nat,xi=(i:Int):=⟨xi.toNat,by omega⟩
    have hil:i<l.length:=by omega
    rw[Int.toNat_natCast] at hD2;have hcs:=jY HW.out;have hAT:=alY cur xp (tV cur (.slice ca cur.kids.length cc)) (.slice pa xp.length pc) (fun j=>w.heap.size+2<=j/\j<wr.heap.size) (fun k=>k<w.heap.size) w1 ⟨ca,cc,rfl,FB.out.ext yP.out⟩ (fun k hk=>ay hk.2 yP.out.size) (az.kept HPX.out yP.out (fun _ _ h=>h)) (aC HAS.out oq.out) (by omega) pG.out;rw[ahw HW.out] at hAT;obtain⟨o,ho⟩: ∃o,jh cur xp=o:=⟨_,rfl⟩
    rw[ho] at hAT hD2;have HO:=ae ho;have HD2:=ae hD2;have HAT:=ae hAT;dsimp only[tV] at HAT;obtain⟨x0,x1,x2⟩:=ag JY.out;clear HD hD2 hAT ho hlo hhi hcs;cases o with
    |none=>
     dsimp only at HAT
     go_wp2_with fail
     refine HAT.out.mono ?_;rintro e w2 ⟨r,rfl,yf,hw2⟩;obtain⟨ua,uc,hr⟩:=yf.shape;subst hr;have hX:=hw2.alloc (tO bP ua uc);have aS:=ae (oq.out.trans hX);have jS:=ae (hX.heap nT.out (fun h=>h));have hd:(bP,(2:Int))=D:=HD2.out;subst hd;obtain rfl:Z=(bP,k,2):=by rw[LU.out];rfl
     clear yf hw2 hX HAT HD2 HO x0 x1 x2 m0 m1;have f2:=fun i=>au jS.out i;obtain⟨d0,d1,d2⟩:=ag jS.out
     go_wp2_with fail
     have hr3:=aJ jS.out (.string ⟨#[]⟩) (.string ⟨#[]⟩) (.slice none 0 0);have hu:=aI (w2.alloc (tO bP ua uc)) (w.heap.size+1) (.string ⟨#[]⟩) (.string ⟨#[]⟩) (.slice none 0 0);obtain⟨e0,e1,e2⟩:=ag hr3;refine bodyPost_ret (v:= .tuple #[.agg #[.string ⟨#[]⟩,.string ⟨#[]⟩,.slice none 0 0],.int .i64 ((k:Int)),.int .i64 (2)]) (by simp[results,Tryz.results47,go_sem,e0,e1,e2]) rfl ?_;have hue:=aS.out.trans' hu (fun j hj e=>by omega);exact⟨.slice none 0 0,rfl,aA.nil _ _,hue⟩
    |some u=>
     dsimp only at HAT
     go_wp2_with fail
     refine HAT.out.mono ?_;rintro e w2 ⟨r,rfl,yf,hw2⟩;obtain⟨ua,uc,hr⟩:=yf.shape;subst hr
     try dsimp only at yf⊢
     have hX:=hw2.alloc (tO u ua uc);have HE2:=ae (oq.out.trans hX);have Ec:=ae (yP.out.trans hX);have zy:=ae (hX.heap JY.out (fun h=>h));have oP:=ae (hX.heap nT.out (fun h=>h));have HR2:=ae (hX.heap HR1.out (fun h=>h));have dY:=ae (ai w2 (tO u ua uc));have ahy:Hid (aA (fun k=>w1.heap.size<=k/\k< (w2.alloc (tO u ua uc)).heap.size) (w2.alloc (tO u ua uc)) u.kids (.slice ua u.kids.length uc)):=ae ((yf.ext ((uR w2).alloc (tO u ua uc))).weaken (fun k hk=>⟨hk.1,ay hk.2 ((uR w2).alloc (tO u ua uc)).size⟩));have HSU:Hid (w1.heap.size<=w2.heap.size):=ae hw2.size;obtain⟨ub,hub⟩: ∃n,w2.heap.size=n:=⟨_,rfl⟩
     rw[hub] at dY HSU;clear yf hw2 hX HAT x0 x1 x2 m0 m1;obtain⟨g2,lU,hga,_,hat⟩:=(wR.out.ext HE2.out).at_ (by omega);subst hga;obtain⟨Nv,xc2,ya,yc,q0,q1,q2,q3,q4,q5,hx,hy⟩:=hat i hil;have PO:=FK.out.1 _ (oD hil);obtain⟨q,hq,hok,hue⟩:=JM HO.out;have hwf:=vM.1 HW.out;have hsu:u.size<=1000:=by rw[hue];exact Nat.le_trans (Bh q cur hok) hwf.1
     have hlen:xp.length=q.length:=by rw[hq,List.length_map]
     have hmap:xp.map (Value.int .i64)=q.map (fun i:Nat=>Value.int .i64 (i:Int)):=by rw[hq,List.map_map];rfl
     have hD3:=HD2.out
     try dsimp only at hD3
     rw[show xp.map Int.toNat=q by rw[hq,AV]] at hD3;have VI:Hid (az (fun k=>k<w.heap.size) wr 1 (.slice pa xp.length pc) q.length (q.map fun i:Nat=>Value.int .i64 (i:Int))):=ae (by rw[<-hlen,<-hmap];exact HPX.out);have hzs: ∀z,jL (Go.Hw.rg l i) u=some z->z.size<=100000:=fun z h=>by
      have h1:=PQ h;have h2:=Nat.mul_le_mul (Y6.out _ (oD hil)) hsu;omega
     obtain⟨⟨x,y⟩,hxy⟩: ∃r,Go.Hw.rg l i=r:=⟨_,rfl⟩
     rw[hxy] at q0 q1 q2 q3 q4 q5 hx hy PO hD3 hzs;dsimp only at q0 q1 q2 q3 q4 q5 hx hy PO;have hap: ∀W,Ext (w2.alloc (tO u ua uc)) W->Calls Tryz.prog 119 #[.agg #[.string x.name,.string x.sort,.slice Nv x.kids.length xc2,.string y.name,.string y.sort,.slice ya y.kids.length yc],.agg #[.string u.name,.string u.sort,.slice ua u.kids.length uc]] W fun e w'=> ∃r,e= .returned (.tuple #[tV ((jL (x,y) u).getD default) r,.bool (jL (x,y) u).isSome])/\aA (fun k=>W.heap.size<=k/\k<w'.heap.size) w' ((jL (x,y) u).getD default).kids r/\Ext W w':=fun W hW=>by
      have hE:=HE2.out.trans hW;have h:=QR x y u (.agg #[.string x.name,.string x.sort,.slice Nv x.kids.length xc2,.string y.name,.string y.sort,.slice ya y.kids.length yc]) (.agg #[.string u.name,.string u.sort,.slice ua u.kids.length uc]) Nv ya xc2 yc (fun k=>k<w.heap.size) (fun k=>w1.heap.size<=k/\k< (w2.alloc (tO u ua uc)).heap.size) W (hx.ext hW) (hy.ext hW) rfl ⟨ua,uc,rfl,ahy.out.ext hW⟩ (fun k hk=>ay hk hE.size) (fun k hk=>ay hk.2 hW.size) PO.1 PO.2 (by omega);refine h.mono ?_;rintro e w' ⟨r0,rfl,⟨r,B,rfl,hTl,hb⟩,hE2⟩;exact⟨r,rfl,(hTl.read).weaken hb,hE2⟩
     obtain⟨o2,ho2⟩: ∃o,jL (x,y) u=o:=⟨_,rfl⟩
     rw[ho2] at hap hD3 hzs;obtain⟨z,hz⟩: ∃z,o2.getD default=z:=⟨_,rfl⟩
     obtain⟨b,hb⟩: ∃b,o2.isSome=b:=⟨_,rfl⟩
     rw[hz,hb] at hap;have HD3:Hid (D=if b=true then gK cur q z else(bP,12)):=ae (by
      rw[<-hD3,<-hz,<-hb];cases o2<;>rfl)
     have Wi:Hid (b=true->z.size<=100000):=ae (fun h=>hzs z (by
      rw[<-hz];rw[<-hb] at h;cases o2 with
      |none=>cases h
      |some z=>rfl))
     have yG:=ae hap;have fK:=ae (And.intro hok (And.intro hwf.1 hlen));have z0':(0:Int)<=(i:Int):=by omega
     have z1':(i:Int)< (l.length:Int):=by omega
     have z3':decide ((i:Int)< (l.length:Int))=true:=dT z1';have z4':decide (i<l.length)=true:=dT hil;have v00:=af HR2.out 0 (.int .i64 (i:Int)) rfl;obtain⟨n0,n1,n2⟩:=ag dY.out;clear hat PO hq hok hue hwf hsu hlen hmap hD3 hxy hap ho2 hz hb hzs HD2 HO hil hx hy
     go_upto_region 14 with fail
     try rw[hub]
     clear hub;generalize w2.alloc (tO u ua uc)=w4 at*;have x0:=fun x:XW w4=>x.ext.cell q0 (fun h=>h);have x1:=fun x:XW w4=>x.ext.cell q1 (fun h=>h);have x2:=fun x:XW w4=>x.ext.cell q2 (fun h=>h);have x3:=fun x:XW w4=>x.ext.cell q3 (fun h=>h);have x4:=fun x:XW w4=>x.ext.cell q4 (fun h=>h);have x5:=fun x:XW w4=>x.ext.cell q5 (fun h=>h);have m0:=fun x:XW w4=>x.ext.cell n0 (fun h=>h);have m1:=fun x:XW w4=>x.ext.cell n1 (fun h=>h);have m2:=fun x:XW w4=>x.ext.cell n2 (fun h=>h);have v0:=fun x:XW w4=>x.ext.cell v00 (fun h=>h);clear q0 q1 q2 q3 q4 q5 n0 n1 n2 v00;refine PG.bW (α:=(Option Addr×Nat)×Nat×(Nat->Prop)) 11 [9] 12 [(11,1),(12,2)] [[],[],[1],[0,1,2],[0,1,2,3],[],[0,1,2,3,4,5],[0,1,2,3,4,5,6],[0,1,2,3,4,5,6,7],[0,1,2,3,4,5,6,7],[],[0,1,2,3,4,5,6,7,8,10],[0,1,2,3,4,5,6,7,8,9,10,11]]
      [none,none,none,none,none,none,some (II w4.heap.size z b),none,none,none,some (yQ w4.heap.size zO)]
      [false,false,false,false,false,false,true,false,false,false,true] (by kernel_rfl) (by kernel_rfl) rfl (fun _ _ d _ _ h=>by cases d<;>exact h) ?_
     simp only[List.take_succ_cons,List.take_zero,gG,List.getElem?_cons_zero,List.getElem?_cons_succ]
     iterate 6(refine PG.aX rfl (fun K hK=>?_);go_simp;refine hK _ ?_;clear hK K)
     refine PG.aK _ rfl (by go_simp) (fun W hW hG K hK=>?_) (fun K z6 hK=>?_)
     .go_simp;refine(yG.out W hW).mono ?_;rintro e w' ⟨r,rfl,hT,hE⟩;obtain⟨a',c',hr⟩:=hT.shape;subst hr;exact hK ((a',c'),0,fun j=>W.heap.size<=j/\j<w'.heap.size) w' hE ⟨hT,fun j hj=>⟨Nat.le_trans hW.size hj.1,hj.2⟩⟩ (fun k e=>e.1)
     refine hK _ ?_;clear hK K;dsimp only[II,yQ]
     iterate 3(refine PG.aX rfl (fun K hK=>?_);go_simp;refine hK _ ?_;clear hK K)
     refine PG.aK _ rfl (by go_simp) (fun W hW hG K hK=>?_) (fun K z10 hK=>?_)
     .go_simp;exact hK ((none,0),W.heap.size,fun _=>False) _ ((uR W).alloc _) ⟨hW.size,ai _ _⟩ (fun k e=>by rw[e];exact Nat.le_refl _)
     refine hK _ ?_;clear hK K;dsimp only[II,yQ];refine PG.jo (fun w8 hW hG jW=>?_);have g6:=hG _ (List.mem_append_left _ (List.mem_append_right _ (List.mem_singleton.2 rfl)));have g10:=hG _ (List.mem_append_right _ (List.mem_singleton.2 rfl));unfold PG.vz PI.vz at jW;simp only[List.nil_append,List.singleton_append,List.cons_append,List.pairwise_cons] at jW;have GK:=jW.1 _ (List.mem_cons_self ..);dsimp only[II,yQ] at g6 g10 GK;clear hG jW x0 x1 x2 x3 x4 x5 m0 m1 m2 v0;obtain⟨l0,l1,l2⟩:=ag g10.2;have fl:=fun i=>au g10.2 i;have G6:=ae g6;have wV:=ae g10;have Xm:=ae hW;have GL:=ae GK;clear g6 g10 hW GK;refine kN (fun K hK _=>?_) trivial;rw[if_pos (by rfl)];go_simp;refine hK _ _ trivial ?_;clear hK K;refine iE ?_;intro K hK;go_simp;refine hK _ _ ?_;clear hK K;simp only[cu];obtain⟨⟨za,zc⟩,zn,B6⟩:=z6;obtain⟨zq,bn,B10⟩:=z10;dsimp only at G6 wV GL l0 l1 l2 fl⊢;have Lp:=aJ wV.out.2 (.string z.name) (.string z.sort) (.slice za z.kids.length zc);have Jb:=aI w8 bn (.string z.name) (.string z.sort) (.slice za z.kids.length zc);clear l0 l1 l2 fl;generalize ((w8.setCell ⟨bn,0,none⟩ (.string z.name)).setCell ⟨bn,1,none⟩ (.string z.sort)).setCell ⟨bn,2,none⟩ (.slice za z.kids.length zc)=w9 at*;have hbn:=wV.out.1;have hs4:=Ec.out.size;have yj:Ext w4 w9:=Xm.out.trans' Jb (fun j hj e=>by omega);have kY:=ae (HE2.out.trans yj);have PR:=ae (Ec.out.trans yj);have Gt:=ae (yj.heap zy.out (fun h=>h));have tJ:=ae (yj.heap oP.out (fun h=>h));have HR9:=ae (yj.heap HR2.out (fun h=>h));have HZ9:=ae Lp;have HZL:Hid (aA (fun k=>w4.heap.size<=k/\k<w9.heap.size) w9 z.kids (.slice za z.kids.length zc)):=ae ((G6.out.1.kept Jb (fun j hj e=>GL.out j hj e)).weaken (fun j hj=>⟨(G6.out.2 j hj).1,ay (G6.out.2 j hj).2 Jb.size⟩));have BC:Hid (wr.heap.size<=w4.heap.size):=ae (by omega);clear Lp Jb G6 wV GL Xm hbn hs4 yj HE2 Ec zy oP HR2 dY ahy yG HSU oq yP JY nT HR1 hrb;cases b with
     |false=>
      obtain rfl:D=(bP,12):=by rw[HD3.out];rfl
      obtain rfl:Z=(bP,k,12):=by rw[LU.out];rfl
      have f2:=fun i=>au tJ.out i;obtain⟨d0,d1,d2⟩:=ag tJ.out
      go_wp2_with fail
      have hr3:=aJ tJ.out (.string ⟨#[]⟩) (.string ⟨#[]⟩) (.slice none 0 0);have hu:=aI w9 (w.heap.size+1) (.string ⟨#[]⟩) (.string ⟨#[]⟩) (.slice none 0 0);obtain⟨e0,e1,e2⟩:=ag hr3;refine bodyPost_ret (v:= .tuple #[.agg #[.string ⟨#[]⟩,.string ⟨#[]⟩,.slice none 0 0],.int .i64 ((k:Int)),.int .i64 (12)]) (by simp[results,Tryz.results47,go_sem,e0,e1,e2]) rfl ?_;have hue:=kY.out.trans' hu (fun j hj e=>by omega);exact⟨.slice none 0 0,rfl,aA.nil _ _,hue⟩
     |true=>
      have hD4:gK cur q z=D:=by rw[HD3.out];rfl
      have hzl:=Wi.out rfl;have hgz:D.2=0->wf ax D.1=true:=fun h=>by
       rw[<-hD4] at h⊢;have:=rM h;rw[this.1];exact this.2
      have hcs:=jY HW.out;have hpt:=MJ cur z q (tV cur (.slice ca cur.kids.length cc)) (tV z (.slice za z.kids.length zc)) (.slice pa xp.length pc) (fun j=>w.heap.size+2<=j/\j<wr.heap.size) (fun k=>w4.heap.size<=k/\k<w9.heap.size) (fun k=>k<w.heap.size) w9 ⟨ca,cc,rfl,FB.out.ext PR.out⟩ ⟨za,zc,rfl,HZL.out⟩ (fun k hk=>ay hk.2 PR.out.size) (fun k hk=>hk.2) (az.kept VI.out PR.out (fun _ _ h=>h)) fK.out.1 (aC HAS.out kY.out) (by omega) hzl (by have:=zH q cur fK.out.1;omega);rw[hD4] at hpt;have yu:=ae hpt;have HGZ:=ae hgz;obtain⟨nx,en⟩:=D;dsimp only[tV] at yu HGZ;obtain⟨x0,x1,x2⟩:=ag Gt.out;obtain⟨m0,m1⟩:=aP HR9.out;obtain⟨n0,n1,n2⟩:=ag HZ9.out;clear hD4 hzl hgz hcs hpt HD3 Wi
      go_wp2_with fail
      refine yu.out.mono ?_;rintro e wa ⟨r,rfl,hTl,lJ⟩;obtain⟨na,nc,hr⟩:=hTl.shape;subst hr;have hX:=lJ.alloc (tO nx na nc);have HEa:=ae (kY.out.trans hX);have HQa:=ae (PR.out.trans hX);have ZV:=ae (hX.heap Gt.out (fun h=>h));have UR:=ae (hX.heap tJ.out (fun h=>h));have HNa:=ae (ai wa (tO nx na nc));have WU:Hid (aA (fun j=>w.heap.size+2<=j/\j< (wa.alloc (tO nx na nc)).heap.size) (wa.alloc (tO nx na nc)) nx.kids (.slice na nx.kids.length nc)):=ae ((hTl.ext ((uR wa).alloc (tO nx na nc))).weaken (fun j hj=>by
       have h1:=((uR wa).alloc (tO nx na nc)).size;have h2:=lJ.size;have h3:=BC.out;have h4:=PR.out.size;have h5:=HS.out;rcases hj with hj|hj
       .exact ⟨by omega,by omega⟩
       .exact ⟨by omega,by omega⟩))
      have gU:Hid (w.heap.size+2<=wa.heap.size):=ae (Nat.le_trans HS.out (Nat.le_trans PR.out.size lJ.size));obtain⟨nb,hnb⟩: ∃n,wa.heap.size=n:=⟨_,rfl⟩
      rw[hnb] at HNa gU;clear hTl lJ hX yu x0 x1 x2 m0 m1 n0 n1 n2 kY PR Gt tJ HR9 HZ9 HZL;by_cases hen:en=0
      rotate_left
      .have u1:(en==0)=false:=beq_eq_false_iff_ne.2 hen;have u2:decide (en=0)=false:=dF hen;have u3:(en !=0)=true:=bne_iff_ne.2 hen;obtain rfl:Z=(bP,k,en):=by rw[LU.out];exact if_neg hen
       clear hen LU HGZ hnb;have f2:=fun i=>au UR.out i;obtain⟨d0,d1,d2⟩:=ag UR.out
       go_wp2_with fail
       have hr3:=aJ UR.out (.string ⟨#[]⟩) (.string ⟨#[]⟩) (.slice none 0 0);have hu:=aI (wa.alloc (tO nx na nc)) (w.heap.size+1) (.string ⟨#[]⟩) (.string ⟨#[]⟩) (.slice none 0 0);obtain⟨e0,e1,e2⟩:=ag hr3;refine bodyPost_ret (v:= .tuple #[.agg #[.string ⟨#[]⟩,.string ⟨#[]⟩,.slice none 0 0],.int .i64 ((k:Int)),.int .i64 (en)]) (by simp[results,Tryz.results47,go_sem,e0,e1,e2]) rfl ?_;have hue:=HEa.out.trans' hu (fun j hj e=>by omega);exact⟨.slice none 0 0,rfl,aA.nil _ _,hue⟩
      subst hen;have HWN:=ae (HGZ.out rfl);have jD:Hid (oZ l (tr.drop (k+1)) nx (k+1)=Z):=ae (by rw[LU.out];rfl);clear HGZ LU
      go_upto_region 20 with fail
      try rw[hnb]
      generalize wa.alloc (tO nx na nc)=wb at*;clear hnb;have HQ8:=ae (aJ ZV.out (.string nx.name) (.string nx.sort) (.slice na nx.kids.length nc));have dG:=ae (aI wb w.heap.size (.string nx.name) (.string nx.sort) (.slice na nx.kids.length nc));have bV:=ae (HEa.out.trans' dG.out (fun j hj e=>by omega));have JK:=ae (dG.out.heap UR.out (by omega));have HT8:=ae ((WU.out.kept dG.out (fun j hj e=>by omega)).weaken (fun j hj=>(⟨hj.1,ay hj.2 dG.out.size⟩:w.heap.size+2<=j/\j<_)));have ji:Hid (w.heap.size+2<=_):=ae (Nat.le_trans HS.out (Nat.le_trans HQa.out.size dG.out.size));have f7:=fun i=>au ZV.out i;obtain⟨n0,n1,n2⟩:=ag HNa.out;obtain⟨x0,x1,x2⟩:=ag ZV.out;have hxl:=HXP.out.1
      go_wp2_with fail
      go_roundg (tr.length- (k+1))
      case measure=>omega
      case rel=>exact⟨k+1,nx,na,nc,by go_num,rfl,by omega,HQ8,JK,HT8,bV,ji,HWN,jD⟩
end
end Go.Proofs.YtlkcjmaiahnodaaGreatDoor
