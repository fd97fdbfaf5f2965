/- The texts N27 N28 N29 N30 N32 N33 N34 N35 N36 N37, one behind the other. -/
import Derived.Test.YtlkcjmaiahnodaaGreatDoorEAL
import Derived.Test.YtlkcjmaiahnodaaGreatDoorEAB
import Derived.Test.YtlkcjmaiahnodaaGreatDoorEAE
import Derived.Test.YtlkcjmaiahnodaaGreatDoorEAC
import Derived.Test.YtlkcjmaiahnodaaGreatDoorEAD
set_option linter.unusedVariables false
set_option linter.unusedSimpArgs false
set_option maxRecDepth 100000
set_option maxHeartbeats 8000000
namespace Go.Proofs.YtlkcjmaiahnodaaGreatDoor
open Go.RowKit Go.Hw Go Tm
section
open Go.Sort Go.Proofs Go.ChangeMaps
def vZ (W:World) (k:Nat):Prop:= ∃cs fz,W.heap[k]?=some (.cells cs 24 fz)
def FwP (q:Nat) (w w':World) (j:Int):Prop:=aj (fun k=>k=q) w w'/\w'.heap[q]?=some (.cells #[.int .i64 j] 3 (0,0))
def lh (B:List Bd) (n:By):Nat:=B.findIdx fun b=>!blt b.1 n
theorem xY {B:List Bd} {t:Nat} (h:t<B.length):Go.Hw.bg B t=B[t]:=by unfold Go.Hw.bg;rw[List.getD_eq_getElem?_getD,List.getElem?_eq_getElem h];rfl
theorem Rt (B:List Bd) (n:By):lh B n<=B.length:=List.findIdx_le_length
theorem Rw {B:List Bd} {n:By} (h:AscK (Prod.fst:Bd->By) B):(∀t,t<lh B n->blt (Go.Hw.bg B t).1 n=true)/\(∀t,lh B n<=t->t<B.length->blt (Go.Hw.bg B t).1 n=false):=by
 have hle:=Rt B n;refine⟨fun t ht=>?_,fun t ht htl=>?_⟩
 .rw [xY (by omega)];have:=List.not_of_lt_findIdx (show t<lh B n from ht);simpa using this
 .rw [xY htl];have h0:lh B n<B.length:=by omega
  have h1:(!blt B[lh B n].1 n)=true:=List.findIdx_getElem (p:=fun x:Bd=>!blt x.1 n) (w:=h0);have h2:blt B[lh B n].1 n=false:=by simpa using h1
  rcases Nat.eq_or_lt_of_le ht with e|e
  .have:B[t]=B[lh B n]:=by congr 1;omega
   rw[this];exact h2
  .rw [Bool.eq_false_iff];intro h3;have:=mP (List.pairwise_iff_getElem.1 h (lh B n) t h0 htl e) h3;rw[h2] at this;cases this
theorem OC {B:List Bd} {n:By} (h:AscK (Prod.fst:Bd->By) B):(lh B n<B.length/\(Go.Hw.bg B (lh B n)).1=n)<->(bK B n).isSome=true:=by
 constructor
 .rintro ⟨h1,h2⟩;rw[xY h1] at h2;have:=(Ry (OD h) (List.getElem_mem h1)).1;rw[h2] at this;rw[this];rfl
 .intro hs;obtain⟨T,hT⟩:=Option.isSome_iff_exists.1 hs;obtain⟨b,hb,h1,_⟩:=DY hT;obtain⟨p,hp,rfl⟩:=List.mem_iff_getElem.1 hb;have h2:=Rw (n:=n) h;have h3:lh B n=p:=by
   rcases Nat.lt_trichotomy (lh B n) p with e|e|e
   .have h4:=h2.2 _ (Nat.le_refl _) (by omega);rw[xY (by omega)] at h4;have:=List.pairwise_iff_getElem.1 h _ p (by omega) hp e;rw[h1] at this;rw[this] at h4;cases h4
   .exact e
   .have h4:=h2.1 p e;rw[xY hp,h1,fU] at h4;cases h4
  rw[h3];exact⟨hp,by rw[xY hp];exact h1⟩
theorem KY {B:List Bd} {n:By} (h:AscK (Prod.fst:Bd->By) B) (hs:(bK B n).isSome=true):lh B n<B.length/\bK B n=some (Go.Hw.bg B (lh B n)).2.2/\v_ B n=some (Go.Hw.bg B (lh B n)).2.1:=by
 obtain⟨h1,h2⟩:=(OC h).2 hs;have:=Ry (OD h) (List.getElem_mem h1);rw[<-xY h1,h2] at this;exact⟨h1,this.1,this.2⟩
theorem YR (a b:By):(dM a b<0)<->blt a b=true:=by
 unfold dM;by_cases h:blt a b=true
 .rw [if_pos h];simp[h]
 .rw [if_neg h];split<;>simp[h]
theorem Rz (x:Bd) (xa:Option Addr) (xc:Nat) (nm:By) (w:World):Calls Tryz.prog 95 #[(.agg #[.string x.1,.string x.2.1,.string x.2.2.name,.string x.2.2.sort,.slice xa x.2.2.kids.length xc]),.string nm] w fun e w'=>e= .returned (.int .i64 (dM x.1 nm))/\Ext w w':=by
 have HE:=ae ((uR w).alloc (.cells #[.string x.1,.string x.2.1,.string x.2.2.name,.string x.2.2.sort,.slice xa x.2.2.kids.length xc] 93));have hb:=ai w (.cells #[.string x.1,.string x.2.1,.string x.2.2.name,.string x.2.2.sort,.slice xa x.2.2.kids.length xc] 93);have c0:=af hb 0 (.string x.1) rfl;have hc: ∀W,Calls Tryz.prog 99 #[.string x.1,.string nm] W fun e w'=>e= .returned (.int .i64 (dM x.1 nm))/\w'=W:=fun W=>by rw[<-RD];exact Tryz.strings_Compare x.1 nm W
 have HC:=ae hc;obtain⟨r,hr⟩: ∃r,dM x.1 nm=r:=⟨_,rfl⟩
 rw[hr] at HC⊢;clear hb hc hr
 go_enter Tryz.func95,Tryz.ntmps95
 go_wp2_with fail
 refine(HC.out _).mono ?_;rintro e w4 ⟨rfl,rfl⟩
 go_wp2_with fail
 go_ret;exact⟨rfl,HE.out⟩
theorem aa2 (B:List Bd) (v:Value) (nm:By) (R S:Nat->Prop) (w:World) (h:lC R S w v B) (ha:AscK (Prod.fst:Bd->By) B) (hl:B.length<=1000000):Calls Tryz.prog 94 #[v,.string nm,.func (.func 95) #[] #[]] w fun e w'=>e= .returned (.tuple #[.int .i64 (lh B nm:Nat),.bool (bK B nm).isSome])/\Ext w w':=by
 have H:=ae h;obtain⟨a,c,rfl⟩:=h.shape;obtain⟨X,hX⟩: ∃X,lh B nm=X:=⟨_,rfl⟩
 obtain⟨Y,hY⟩: ∃Y,(bK B nm).isSome=Y:=⟨_,rfl⟩
 have hlow:=Rw (n:=nm) ha;have hmem:=OC (n:=nm) ha;have hle:=Rt B nm;rw[hX] at hlow hmem hle;rw[hY] at hmem;rw[hX,hY];have HL:=ae hlow;have HM:=ae hmem;have ND:=ae hle;have heg: ∀args W,(callFunc 95 args).run Tryz.prog W= .ok (.enter 95 args) W:=enters_of Tryz.func95 (by kernel_rfl) rfl;clear h ha hX hY hlow hmem hle
 go_enter Tryz.func94,Tryz.ntmps94
 go_wp2_with fail
 go_loopg [9,10] B.length (fun gk s9 s10 wr=> ∃lo hi:Nat,s9= .int .i64 (lo:Int)/\s10= .int .i64 (hi:Int)/\lo<=hi/\hi<=B.length/\hi-lo<=gk/\Hid (lo<=X/\X<=hi)/\Hid (Ext w wr))
 case atStart=>exact⟨0,B.length,rfl,rfl,Nat.zero_le _,Nat.le_refl _,by omega,ae ⟨Nat.zero_le _,ND.out⟩,ae (aj.refl _ _)⟩
 case round=>
  obtain⟨lo,hi,rfl,rfl,hlh,hin,hg,HI,HE⟩:=hrel;by_cases hlt:lo<hi
  .obtain ⟨m,hm⟩: ∃m:Nat,(lo+hi) / 2=m:=⟨_,rfl⟩
   have hml:lo<=m/\m<hi:=by omega
   obtain⟨g,off,hga,_,hat⟩:=(H.out.ext HE.out).at_ (by omega);subst hga;obtain⟨xa,xc,p0,p1,p2,p3,p4,aY⟩:=hat m (by omega);have z0:(0:Int)<=(m:Int):=by omega
   have z1:(m:Int)< (B.length:Int):=by omega
   have z3:((lo:Int)+(hi:Int)) / 2=(m:Int):=by omega
   have z2:decide ((lo:Int)< (hi:Int))=true:=dT (by omega);have z2':decide (lo<hi)=true:=dT hlt;have HO:=ae (fun W=>Rz (Go.Hw.bg B m) xa xc nm W);have hx1:blt (Go.Hw.bg B m).1 nm=true->m<X:=fun e=>by
    rcases Nat.lt_or_ge m X with e2|e2
    .exact e2
    .rw [HL.out.2 m e2 (by omega)] at e;cases e
   have hx2:blt (Go.Hw.bg B m).1 nm=false->X<=m:=fun e=>by
    rcases Nat.lt_or_ge m X with e2|e2
    .rw [HL.out.1 m e2] at e;cases e
    .exact e2
   have hbn:=YR (Go.Hw.bg B m).1 nm;obtain⟨x,hx⟩: ∃x,Go.Hw.bg B m=x:=⟨_,rfl⟩
   rw[hx] at p0 p1 p2 p3 p4 HO hx1 hx2 hbn;obtain⟨r,hr⟩: ∃r,dM x.1 nm=r:=⟨_,rfl⟩
   rw[hr] at HO hbn;have jr:=ae hm;have BH:=ae hml;by_cases hr0:r<0
   .have HX1:=ae (hx1 (hbn.1 hr0));have z4:decide (r<0)=true:=dT hr0;clear hx1 hx2 hbn hr hx hat aY hm hml
    go_wp2_with fail
    refine(HO.out _).mono ?_;rintro e w4 ⟨rfl,hw4⟩;have bQ:=ae (HE.out.trans hw4);clear hw4 HO p0 p1 p2 p3 p4
    go_wp2_with fail
    go_roundg (hi- (m+1))
    case measure=>have:=BH.out;omega
    case rel=>exact⟨m+1,hi,by go_num,rfl,by have:=BH.out;omega,hin,Nat.le_refl _,ae ⟨HX1.out,HI.out.2⟩,bQ⟩
   .have BF:=ae (hx2 (by
     cases hb:blt x.1 nm with
     |true=>exact absurd (hbn.2 hb) hr0
     |false=>rfl))
    have z4:decide (r<0)=false:=dF hr0;clear hx1 hx2 hbn hr hx hat aY hm hml
    go_wp2_with fail
    refine(HO.out _).mono ?_;rintro e w4 ⟨rfl,hw4⟩;have bQ:=ae (HE.out.trans hw4);clear hw4 HO p0 p1 p2 p3 p4
    go_wp2_with fail
    go_roundg (m-lo)
    case measure=>have:=BH.out;omega
    case rel=>exact⟨lo,m,rfl,rfl,by have:=BH.out;omega,by have:=BH.out;omega,Nat.le_refl _,ae ⟨HI.out.1,BF.out⟩,bQ⟩
  .obtain rfl:hi=lo:=by omega
   obtain rfl:hi=X:=by have:=HI.out;omega
   have z2:decide ((hi:Int)< (hi:Int))=false:=dF (by omega);by_cases hlt2:hi<B.length
   .obtain ⟨g,off,hga,_,hat⟩:=(H.out.ext HE.out).at_ (by omega);subst hga;obtain⟨xa,xc,p0,p1,p2,p3,p4,aY⟩:=hat hi hlt2;have z0:(0:Int)<=(hi:Int):=by omega
    have z1:(hi:Int)< (B.length:Int):=by omega
    have z5:decide ((hi:Int)< (B.length:Int))=true:=dT z1;have z5':decide (hi<B.length)=true:=dT hlt2;have HO:=ae (fun W=>Rz (Go.Hw.bg B hi) xa xc nm W);have hy:decide (dM (Go.Hw.bg B hi).1 nm=0)=Y:=by
     rw[Bool.eq_iff_iff,decide_eq_true_eq,vJ,<-HM.out];exact⟨fun e=>⟨hlt2,e⟩,fun e=>e.2⟩
    obtain⟨x,hx⟩: ∃x,Go.Hw.bg B hi=x:=⟨_,rfl⟩
    rw[hx] at p0 p1 p2 p3 p4 HO hy;obtain⟨r,hr⟩: ∃r,dM x.1 nm=r:=⟨_,rfl⟩
    rw[hr] at HO hy;have hy2:(r==0)=Y:=by rw[<-hy];rfl
    have HY:=ae hy;clear hr hx hat aY hy hlt2
    go_wp2_with fail
    refine(HO.out _).mono ?_;rintro e w4 ⟨rfl,hw4⟩;have bQ:=ae (HE.out.trans hw4);clear hw4 HO p0 p1 p2 p3 p4
    go_wp2_with fail
    go_ret2
    exact⟨by first|rfl|(rw[HY.out]),bQ.out⟩
   .have z5:decide ((hi:Int)< (B.length:Int))=false:=dF (by omega);have z5':decide (hi<B.length)=false:=dF hlt2;obtain rfl:Y=false:=by
     rw[Bool.eq_false_iff];intro e;exact hlt2 (HM.out.2 e).1
    clear hlt2
    go_wp2_with fail
    go_ret2
    exact⟨rfl,HE.out⟩
theorem acE (nm:By->Bool) (B:List Bd) (k:Nat):nD nm B k=(nm (Go.Hw.bg B k).1&&nm (Go.Hw.bg B k).2.1&&(decide (k=0)||blt (Go.Hw.bg B (k-1)).1 (Go.Hw.bg B k).1)&&wf nm (Go.Hw.bg B k).2.2&&(decide ((Go.Hw.bg B k).2.2.sort=ah)||(decide ((Go.Hw.bg B k).2.2.sort=(Go.Hw.bg B k).2.1)&&!decide ((Go.Hw.bg B k).2.2.name=(Go.Hw.bg B k).1)))):=rfl
theorem acF {nm:By->Bool} {B:List Bd} {k:Nat} (hk:k<B.length) (h:nD nm B k=false):pX nm B=false:=by
 cases hv:pX nm B with
 |false=>rfl
 |true=>rw[(RF hv).2 k hk] at h;cases h
theorem YS {nm:By->Bool} {B:List Bd} (hl:B.length<=1000) (h: ∀j,j<B.length->nD nm B j=true):pX nm B=true:=by
 unfold pX;rw[Bool.and_eq_true,decide_eq_true_eq,List.all_eq_true];exact⟨hl,fun i hi=>h i (List.mem_range.1 hi)⟩
theorem MG (a b:By):binOp .geq 9 (.string a) (.string b)=pure (.bool !(blt a b)):=by
 rw[<-Hm];simp[binOp,Op.stringOp]
theorem acH (B:List Bd) (v:Value) (w:World) (htab:bT w) (hT:lC (fun k=>k<w.heap.size) (fun k=>k<w.heap.size) w v B) (hl:B.length<=1000000) (hs: ∀b∈B,(b.2.2.size:Int)<=1000000000000):Calls Tryz.prog 31 #[v] w fun e w'=>e= .returned (.bool (pX ax B))/\Ext w w':=by
 have HT:=ae hT;have fB:=ae htab;have dw:=ae hs;obtain⟨a,cap,rfl⟩:=hT.shape;obtain⟨V,hV⟩: ∃V,pX ax B=V:=⟨_,rfl⟩
 have HVV:=ae hV.symm;rw[hV];clear hT htab hs hV;by_cases hb:1000<B.length
 .have HV:Hid (V=false):=ae (by rw[HVV.out];unfold pX;rw[dF (by omega)];rfl);have z1:(1000:Int)< (B.length:Int):=by omega
  have z1':decide ((1000:Int)< (B.length:Int))=true:=dT z1;have H8:Hid (Ext w w):=ae (aj.refl _ _);clear hb
  go_enter Tryz.func31,Tryz.ntmps31
  go_wp2_with fail
  all_goals go_ret
  all_goals (rw[HV.out];exact⟨rfl,H8.out⟩)
 have z1: ¬(1000:Int)< (B.length:Int):=by omega
 have z1':decide ((1000:Int)< (B.length:Int))=false:=dF z1
 go_enter Tryz.func31,Tryz.ntmps31
 go_wp2_with fail
 clear z1 z1'
 go_loopg [10] B.length (fun gk iv wr=> ∃k:Nat,iv= .int .i64 (k:Int)/\gk=B.length-k/\k<=B.length/\Hid (∀j,j<k->nD ax B j=true)/\Hid (Ext w wr))
 case atStart=>exact⟨0,rfl,rfl,Nat.zero_le _,ae (fun j h=>absurd h (Nat.not_lt_zero _)),ae (aj.refl _ _)⟩
 case round=>
  obtain⟨k,rfl,rfl,hk,HC,HE⟩:=hrel;by_cases hlt:k<B.length
  .obtain ⟨g,off,hga,_,hat⟩:=(HT.out.ext HE.out).at_ (by omega);subst hga;obtain⟨xa,xc,p0,p1,p2,p3,p4,aY⟩:=hat k hlt;obtain⟨z0,z1,z2,z2'⟩:=bz hlt;have hno:nD ax B k=false->V=false:=fun h=>by rw[HVV.out];exact acF hlt h
   have hyes:nD ax B k=true->∀j,j<k+1->nD ax B j=true:=fun h j hj=>by
    rcases Nat.lt_succ_iff_lt_or_eq.1 hj with h5|h5
    .exact HC.out j h5
    .rw [h5];exact h
   have tH:=ae hno;have qK:=ae hyes;have hok:=acE ax B k;have YT:((Go.Hw.bg B k).2.2.size:Int)<=1000000000000:=dw.out _ (adq hlt);have aa4:0<k->∃y,(Go.Hw.bg B (k-1)).1=y/\wr.cell? ⟨g,off+(k-1)*5,none⟩=some (.string y):=fun h0=>by
    obtain⟨_,_,q0,_⟩:=hat (k-1) (by omega);exact⟨_,rfl,q0⟩
   have aiY:=ae aa4;obtain⟨x,hx⟩: ∃x,Go.Hw.bg B k=x:=⟨_,rfl⟩
   rw[hx] at p0 p1 p2 p3 p4 aY hok YT;have lF:=(uR wr).alloc (.cells #[.string x.1,.string x.2.1,.string x.2.2.name,.string x.2.2.sort,.slice xa x.2.2.kids.length xc] 93);have wL:=ae lF;have hB4:=ai wr (.cells #[.string x.1,.string x.2.1,.string x.2.2.name,.string x.2.2.sort,.slice xa x.2.2.kids.length xc] 93);have HB4:=ae hB4;have bQ:=ae (HE.out.trans lF);have lG:=ae (fun W (hW:Ext (wr.alloc (.cells #[.string x.1,.string x.2.1,.string x.2.2.name,.string x.2.2.sort,.slice xa x.2.2.kids.length xc] 93)) W)=>uF x.1 W (aC fB.out (bQ.out.trans hW)));have fV:=ae (fun W (hW:Ext (wr.alloc (.cells #[.string x.1,.string x.2.1,.string x.2.2.name,.string x.2.2.sort,.slice xa x.2.2.kids.length xc] 93)) W)=>uF x.2.1 W (aC fB.out (bQ.out.trans hW)));have sG:=ae (fun W (hW:Ext (wr.alloc (.cells #[.string x.1,.string x.2.1,.string x.2.2.name,.string x.2.2.sort,.slice xa x.2.2.kids.length xc] 93)) W)=>xn x.2.2 (tV x.2.2 (.slice xa x.2.2.kids.length xc)) W (aC fB.out (bQ.out.trans hW)) (bC.weaken ⟨xa,xc,rfl,((aY.ext lF).ext hW)⟩ (fun j hj=>ay hj (bQ.out.trans hW).size)) YT);dsimp only[tV] at sG;have nR:=ae hok;clear aY hno hyes hok YT aa4 lF hat
   go_wp2_with fail
   generalize hw4:wr.alloc (.cells #[.string x.1,.string x.2.1,.string x.2.2.name,.string x.2.2.sort,.slice xa x.2.2.kids.length xc] 93)=w4 at*;have p0:=af hB4 0 (.string x.1) rfl;have p1:=af hB4 1 (.string x.2.1) rfl;have p2:=af hB4 2 (.string x.2.2.name) rfl;have p3:=af hB4 3 (.string x.2.2.sort) rfl;have p4:=af hB4 4 (.slice xa x.2.2.kids.length xc) rfl;have EX:=fun x:XW w4=>x.ext.cell p0 (fun h=>h);have Ns:=fun x:XW w4=>x.ext.cell p1 (fun h=>h);have Nu:=fun x:XW w4=>x.ext.cell p2 (fun h=>h);have xp3:=fun x:XW w4=>x.ext.cell p3 (fun h=>h);have xp4:=fun x:XW w4=>x.ext.cell p4 (fun h=>h);have sD:=uR w4;clear p0 p1 p2 p3 p4 hB4;obtain⟨n1,hn1⟩: ∃b,ax x.1=b:=⟨_,rfl⟩
   obtain⟨n2,hn2⟩: ∃b,ax x.2.1=b:=⟨_,rfl⟩
   rw[hn1] at lG nR;rw[hn2] at fV nR;clear hn1 hn2;cases n1
   .have HV:=ae (tH.out (by rw[nR.out];simp))
    go_wp2_with fail
    refine aW w4 (by assumption) (by kernel_rfl) (by kernel_rfl) ?_
    repeat (first|go_big_quiet_skip|(go_big_quiet_want;go_big_quiet_op;first|go_big_quiet_on|(apply Exists.intro;refine⟨fun x=>?_,?_⟩;(first|(go_at_call 79;with_reducible exact XW.call (lG.out x.val x.ext))|(go_at_call 79;with_reducible exact XW.call (fV.out x.val x.ext))|(go_at_call 78;exact XW.call (sG.out x.val x.ext)));go_big_quiet_on)))
    refine wpQuiet_nil ?_;rintro w8 ⟨⟨_,dD⟩,rfl⟩
    try dsimp only
    have H8:=ae (bQ.out.trans dD)
    go_wp2_with fail
    all_goals go_ret
    all_goals (rw[HV.out];exact⟨rfl,H8.out⟩)
   cases n2
   .have HV:=ae (tH.out (by rw[nR.out];simp))
    go_wp2_with fail
    refine aW w4 (by assumption) (by kernel_rfl) (by kernel_rfl) ?_
    repeat (first|go_big_quiet_skip|(go_big_quiet_want;go_big_quiet_op;first|go_big_quiet_on|(apply Exists.intro;refine⟨fun x=>?_,?_⟩;(first|(go_at_call 79;with_reducible exact XW.call (lG.out x.val x.ext))|(go_at_call 79;with_reducible exact XW.call (fV.out x.val x.ext))|(go_at_call 78;exact XW.call (sG.out x.val x.ext)));go_big_quiet_on)))
    refine wpQuiet_nil ?_;rintro w8 ⟨⟨_,dD⟩,rfl⟩
    try dsimp only
    have H8:=ae (bQ.out.trans dD)
    go_wp2_with fail
    all_goals go_ret
    all_goals (rw[HV.out];exact⟨rfl,H8.out⟩)
   by_cases h0:k=0
   .subst h0;have lq:Hid (nD ax B 0=(true&&true&&true&&wf ax x.2.2&&(decide (x.2.2.sort=ah)||(decide (x.2.2.sort=x.2.1)&&!decide (x.2.2.name=x.1))))):=ae (by rw[nR.out];simp);clear nR;obtain⟨f,hf⟩: ∃f,wf ax x.2.2=f:=⟨_,rfl⟩
    rw[hf] at sG lq;clear hf;cases f
    .have HV:=ae (tH.out (by rw[lq.out];simp))
     go_wp2_with fail
     refine aW w4 (by assumption) (by kernel_rfl) (by kernel_rfl) ?_
     repeat (first|go_big_quiet_skip|(go_big_quiet_want;go_big_quiet_op;first|go_big_quiet_on|(apply Exists.intro;refine⟨fun x=>?_,?_⟩;(first|(go_at_call 79;with_reducible exact XW.call (lG.out x.val x.ext))|(go_at_call 79;with_reducible exact XW.call (fV.out x.val x.ext))|(go_at_call 78;exact XW.call (sG.out x.val x.ext)));go_big_quiet_on)))
     refine wpQuiet_nil ?_;rintro w8 ⟨⟨_,dD⟩,rfl⟩
     try dsimp only
     have H8:=ae (bQ.out.trans dD)
     go_wp2_with fail
     all_goals go_ret
     all_goals (rw[HV.out];exact⟨rfl,H8.out⟩)
    go_wp2_with fail
    refine aW w4 (by assumption) (by kernel_rfl) (by kernel_rfl) ?_
    repeat (first|go_big_quiet_skip|(go_big_quiet_want;go_big_quiet_op;first|go_big_quiet_on|(apply Exists.intro;refine⟨fun x=>?_,?_⟩;(first|(go_at_call 79;with_reducible exact XW.call (lG.out x.val x.ext))|(go_at_call 79;with_reducible exact XW.call (fV.out x.val x.ext))|(go_at_call 78;exact XW.call (sG.out x.val x.ext)));go_big_quiet_on)))
    refine wpQuiet_nil ?_;rintro w8 ⟨⟨_,dD⟩,rfl⟩
    try dsimp only
    have H8:=ae (bQ.out.trans dD);have kE:=ae (dD.heap HB4.out (fun h=>h));clear sG lG fV HB4 bQ;clear EX Ns Nu xp3 xp4;have u0:=af kE.out 0 (.string x.1) rfl;have u1:=af kE.out 1 (.string x.2.1) rfl;have u2:=af kE.out 2 (.string x.2.2.name) rfl;have u3:=af kE.out 3 (.string x.2.2.sort) rfl;have u4:=af kE.out 4 (.slice xa x.2.2.kids.length xc) rfl;have qj:=ae (fun W=>kX x.2.2.name x.2.2.sort xa x.2.2.kids.length xc W);have s1:=nK x.2.2.sort x.2.1;have s2:=nK x.2.2.name x.1;obtain⟨d0,hd0⟩: ∃d,decide (x.2.2.sort=ah)=d:=⟨_,rfl⟩
    obtain⟨d1,hd1⟩: ∃d,decide (x.2.2.sort=x.2.1)=d:=⟨_,rfl⟩
    obtain⟨d2,hd2⟩: ∃d,decide (x.2.2.name=x.1)=d:=⟨_,rfl⟩
    rw[hd0] at qj lq;rw[hd1] at s1 lq;rw[hd2] at s2 lq;clear hd0 hd1 hd2
    go_wp2_with fail
    refine(qj.out _).mono ?_;rintro e w9 ⟨rfl,kF⟩;have H9:=ae (H8.out.trans kF);have l9:=ae (kF.heap kE.out (fun h=>h));clear kF qj u0 u1 u2 u3 u4;have u0:=af l9.out 0 (.string x.1) rfl;have u1:=af l9.out 1 (.string x.2.1) rfl;have u2:=af l9.out 2 (.string x.2.2.name) rfl;have u3:=af l9.out 3 (.string x.2.2.sort) rfl;have u4:=af l9.out 4 (.slice xa x.2.2.kids.length xc) rfl;cases d0
    rotate_left
    .have pz:=ae (qK.out (by rw[lq.out];simp))
     go_wp2_with fail
     go_roundg (B.length- (0+1))
     case measure=>omega
     case rel=>exact⟨0+1,by go_num,rfl,by omega,pz,H9⟩
    cases d1
    .have HV:=ae (tH.out (by rw[lq.out];simp));have H8:=H9
     go_wp2_with fail
     all_goals go_ret
     all_goals (rw[HV.out];exact⟨rfl,H8.out⟩)
    cases d2
    .have pz:=ae (qK.out (by rw[lq.out];simp))
     go_wp2_with fail
     go_roundg (B.length- (0+1))
     case measure=>omega
     case rel=>exact⟨0+1,by go_num,rfl,by omega,pz,H9⟩
    have HV:=ae (tH.out (by rw[lq.out];simp));have H8:=H9
    go_wp2_with fail
    all_goals go_ret
    all_goals (rw[HV.out];exact⟨rfl,H8.out⟩)
   .have zk:(0:Int)< (k:Int):=by omega
    have zk':decide ((0:Int)< (k:Int))=true:=dT zk;have zk2:(0:Int)<=(k:Int)-1:=by omega
    have zk3:(k:Int)-1< (B.length:Int):=by omega
    obtain⟨m,rfl⟩: ∃m,k=m+1:=⟨k-1,by omega⟩
    obtain⟨y,hy,hyc⟩:=aiY.out (by omega);rw[Nat.add_sub_cancel] at hyc hy;have zk4:((m+1:Nat):Int)-1=(m:Int):=by omega
    have y0:=fun X:XW w4=>X.ext.cell (wL.out.cell hyc (fun h=>h)) (fun h=>h);have hgq:=MG y x.1;have lq:Hid (nD ax B (m+1)=(true&&true&&blt y x.1&&wf ax x.2.2&&(decide (x.2.2.sort=ah)||(decide (x.2.2.sort=x.2.1)&&!decide (x.2.2.name=x.1))))):=ae (by rw[nR.out,<-hy];simp);clear nR;obtain⟨g1,hg1⟩: ∃b,blt y x.1=b:=⟨_,rfl⟩
    rw[hg1] at hgq lq;clear hg1 hy hyc h0;cases g1
    .have HV:=ae (tH.out (by rw[lq.out];simp))
     go_wp2_with fail
     refine aW w4 (by assumption) (by kernel_rfl) (by kernel_rfl) ?_
     repeat (first|go_big_quiet_skip|(go_big_quiet_want;go_big_quiet_op;first|go_big_quiet_on|(apply Exists.intro;refine⟨fun x=>?_,?_⟩;(first|(go_at_call 79;with_reducible exact XW.call (lG.out x.val x.ext))|(go_at_call 79;with_reducible exact XW.call (fV.out x.val x.ext))|(go_at_call 78;exact XW.call (sG.out x.val x.ext)));go_big_quiet_on)))
     refine wpQuiet_nil ?_;rintro w8 ⟨⟨_,dD⟩,rfl⟩
     try dsimp only
     have H8:=ae (bQ.out.trans dD)
     go_wp2_with fail
     all_goals go_ret
     all_goals (rw[HV.out];exact⟨rfl,H8.out⟩)
    obtain⟨f,hf⟩: ∃f,wf ax x.2.2=f:=⟨_,rfl⟩
    rw[hf] at sG lq;clear hf;cases f
    .have HV:=ae (tH.out (by rw[lq.out];simp))
     go_wp2_with fail
     refine aW w4 (by assumption) (by kernel_rfl) (by kernel_rfl) ?_
     repeat (first|go_big_quiet_skip|(go_big_quiet_want;go_big_quiet_op;first|go_big_quiet_on|(apply Exists.intro;refine⟨fun x=>?_,?_⟩;(first|(go_at_call 79;with_reducible exact XW.call (lG.out x.val x.ext))|(go_at_call 79;with_reducible exact XW.call (fV.out x.val x.ext))|(go_at_call 78;exact XW.call (sG.out x.val x.ext)));go_big_quiet_on)))
     refine wpQuiet_nil ?_;rintro w8 ⟨⟨_,dD⟩,rfl⟩
     try dsimp only
     have H8:=ae (bQ.out.trans dD)
     go_wp2_with fail
     all_goals go_ret
     all_goals (rw[HV.out];exact⟨rfl,H8.out⟩)
    go_wp2_with fail
    refine aW w4 (by assumption) (by kernel_rfl) (by kernel_rfl) ?_
    repeat (first|go_big_quiet_skip|(go_big_quiet_want;go_big_quiet_op;first|go_big_quiet_on|(apply Exists.intro;refine⟨fun x=>?_,?_⟩;(first|(go_at_call 79;with_reducible exact XW.call (lG.out x.val x.ext))|(go_at_call 79;with_reducible exact XW.call (fV.out x.val x.ext))|(go_at_call 78;exact XW.call (sG.out x.val x.ext)));go_big_quiet_on)))
    refine wpQuiet_nil ?_;rintro w8 ⟨⟨_,dD⟩,rfl⟩
    try dsimp only
    have H8:=ae (bQ.out.trans dD);have kE:=ae (dD.heap HB4.out (fun h=>h));clear sG lG fV HB4 bQ;clear y0 hgq;clear EX Ns Nu xp3 xp4;have u0:=af kE.out 0 (.string x.1) rfl;have u1:=af kE.out 1 (.string x.2.1) rfl;have u2:=af kE.out 2 (.string x.2.2.name) rfl;have u3:=af kE.out 3 (.string x.2.2.sort) rfl;have u4:=af kE.out 4 (.slice xa x.2.2.kids.length xc) rfl;have qj:=ae (fun W=>kX x.2.2.name x.2.2.sort xa x.2.2.kids.length xc W);have s1:=nK x.2.2.sort x.2.1;have s2:=nK x.2.2.name x.1;obtain⟨d0,hd0⟩: ∃d,decide (x.2.2.sort=ah)=d:=⟨_,rfl⟩
    obtain⟨d1,hd1⟩: ∃d,decide (x.2.2.sort=x.2.1)=d:=⟨_,rfl⟩
    obtain⟨d2,hd2⟩: ∃d,decide (x.2.2.name=x.1)=d:=⟨_,rfl⟩
    rw[hd0] at qj lq;rw[hd1] at s1 lq;rw[hd2] at s2 lq;clear hd0 hd1 hd2
    go_wp2_with fail
    refine(qj.out _).mono ?_;rintro e w9 ⟨rfl,kF⟩;have H9:=ae (H8.out.trans kF);have l9:=ae (kF.heap kE.out (fun h=>h));clear kF qj u0 u1 u2 u3 u4;have u0:=af l9.out 0 (.string x.1) rfl;have u1:=af l9.out 1 (.string x.2.1) rfl;have u2:=af l9.out 2 (.string x.2.2.name) rfl;have u3:=af l9.out 3 (.string x.2.2.sort) rfl;have u4:=af l9.out 4 (.slice xa x.2.2.kids.length xc) rfl;cases d0
    rotate_left
    .have pz:=ae (qK.out (by rw[lq.out];simp))
     go_wp2_with fail
     go_roundg (B.length- ((m+1)+1))
     case measure=>omega
     case rel=>exact⟨(m+1)+1,by go_num,rfl,by omega,pz,H9⟩
    cases d1
    .have HV:=ae (tH.out (by rw[lq.out];simp));have H8:=H9
     go_wp2_with fail
     all_goals go_ret
     all_goals (rw[HV.out];exact⟨rfl,H8.out⟩)
    cases d2
    .have pz:=ae (qK.out (by rw[lq.out];simp))
     go_wp2_with fail
     go_roundg (B.length- ((m+1)+1))
     case measure=>omega
     case rel=>exact⟨(m+1)+1,by go_num,rfl,by omega,pz,H9⟩
    have HV:=ae (tH.out (by rw[lq.out];simp));have H8:=H9
    go_wp2_with fail
    all_goals go_ret
    all_goals (rw[HV.out];exact⟨rfl,H8.out⟩)
  .obtain rfl:k=B.length:=by omega
   have z2:decide ((B.length:Int)< (B.length:Int))=false:=dF (by omega);have HV:Hid (V=true):=ae (by rw[HVV.out];exact YS (by omega) HC.out);have H8:=HE
   go_wp2_with fail
   all_goals go_ret
   all_goals (rw[HV.out];exact⟨rfl,H8.out⟩)
theorem Qr (L:List Tm) (k:Nat) (h:k<L.length):depths (L.take (k+1))=max (depths (L.take k)) (tg L k).depth:=by
 have:L.take (k+1)=L.take k++[tg L k]:=by
  rw[List.take_add_one]
  congr 1
  unfold tg;rw[List.getD_eq_getElem?_getD,List.getElem?_eq_getElem h];rfl
 rw[this,MH];simp[depths]
theorem JE: ∀(t:Tm) (v:Value) (S:Nat->Prop) (w:World),bC S w t v->t.size<=1000000->
  Calls Tryz.prog 108 #[v] w fun e w'=>e= .returned (.int .i64 (t.size:Nat))/\Ext w w':=by
 refine Tm.ind (fun n s L ih=>?_);intro v S w hT hsz;obtain⟨a,cap,rfl,hT⟩:=hT;dsimp only[tV,Tm.name,Tm.sort,Tm.kids] at hT⊢;have cO:=ae hT;have HIH:=ae ih;have iU:sizes L+1<=1000000:=by rw[size_eq] at hsz;simp only[Tm.kids] at hsz;omega
 have oM:=ae iU;have mr:L.length<=1000000:=by have h1:=bf L;omega
 have HZ:=ae ((uR w).alloc (.cells #[.string n,.string s,.slice a L.length cap] 24));have HB:=ae (ai w (.cells #[.string n,.string s,.slice a L.length cap] 24));clear ih hT hsz iU;obtain⟨Z,l7⟩: ∃Z,(Tm.mk n s L).size=Z:=⟨_,rfl⟩
 rw[l7];have HV:Hid (Z=sizes L+1):=ae (by rw[<-l7,size_eq];rfl);clear l7
 go_enter Tryz.func108,Tryz.ntmps108
 go_wp2_with fail
 generalize w.alloc (.cells #[.string n,.string s,.slice a L.length cap] 24)=w1 at*
 go_loopg [3,4] L.length (fun gk nv iv wr=> ∃k:Nat,nv= .int .i64 ((sizes (L.take k)+1:Nat):Int)/\iv= .int .i64 (k:Int)/\gk=L.length-k/\k<=L.length/\Hid (Ext w1 wr))
 case atStart=>exact⟨0,rfl,rfl,rfl,Nat.zero_le _,ae (aj.refl _ _)⟩
 case round=>
  obtain⟨k,rfl,rfl,rfl,hk,HE⟩:=hrel;have hst:=jd L k;have lQ:=ae (HE.out.heap HB.out (fun h=>h));obtain⟨b0,b1,b2⟩:=ag lQ.out;by_cases hlt:k<L.length
  .obtain ⟨g,off,hga,_,hat⟩:=(cO.out.ext (HZ.out.trans HE.out)).at_ (by omega);subst hga;obtain⟨xa,xc,q0,q1,q2,aY⟩:=hat k hlt;rw[<-Nat.add_assoc] at q1 q2;obtain⟨z0,z1,z2,z2'⟩:=bz hlt;have a_:=ae (HIH.out (tg L k) (ed L k hlt) _ S wr ⟨xa,xc,rfl,aY⟩ (by have h1:=oM.out;have h2:=ku (ed L k hlt);omega));dsimp only[tV] at a_;have hsx:=kR L k hlt;have hsl2:=jd L (k+1);obtain⟨N,hN⟩: ∃N,sizes (L.take k)=N:=⟨_,rfl⟩
   obtain⟨x,hx⟩: ∃x,tg L k=x:=⟨_,rfl⟩
   rw[hx] at q0 q1 q2 a_ hsx;rw[hN] at hsx hst⊢;have ry:=ae hsx;have hsb:=oM.out;have z5:((N+1:Nat):Int)+(x.size:Int)=((N+x.size+1:Nat):Int):=by omega
   have z6:(N+x.size+1:Nat)<=1000000:=by omega
   have HN:=ae hN;clear hat aY hx hsx hst hsl2 hsb hN
   go_wp2_with fail
   refine a_.out.mono ?_;rintro e w4 ⟨rfl,hw4⟩;have bQ:=ae (HE.out.trans hw4);clear hw4 a_ b0 b1 b2 q0 q1 q2
   go_wp2_with fail
   go_roundg (L.length- (k+1))
   case measure=>omega
   case rel=>exact⟨k+1,by rw[ry.out];go_num,by go_num,rfl,by omega,bQ⟩
  .obtain rfl:k=L.length:=by omega
   have z2:decide ((L.length:Int)< (L.length:Int))=false:=dF (by omega);rw[List.take_length,<-HV.out]
   go_wp2_with fail
   go_ret;exact⟨rfl,(HZ.out.trans HE.out)⟩
theorem acI (t:Tm) (v:Value) (w:World) (htab:bT w) (hR:bC (fun k=>k<w.heap.size) w t v) (hsz:(t.size:Int)<=1000000000000):Calls Tryz.prog 154 #[v] w fun e w'=>e= .returned (.int .i64 (EU t:Nat))/\Ext w w':=by
 have HR:=ae hR;obtain⟨a,cap,rfl,hT⟩:=hR;dsimp only[tV];have HZ:=ae ((uR w).alloc (tO t a cap));have hb:=ai w (tO t a cap);have HF:=ae (fun W (hW:Ext w W)=>Vl t _ W (aC htab hW) ((HR.out.ext hW).weaken (fun k hk=>ay hk hW.size)) hsz);dsimp only[tV] at HF;obtain⟨c0,c1,c2⟩:=ag hb;clear hT hb;generalize wG t=X at*;generalize EU t=Y at*
 go_enter Tryz.func154,Tryz.ntmps154
 go_wp2_with fail
 refine(HF.out _ HZ.out).mono ?_;rintro e w4 ⟨rfl,hw4⟩;have H4:=ae (HZ.out.ext hw4);clear hw4 c0 c1 c2
 go_wp2_with fail
 go_ret;exact⟨rfl,H4.out⟩
theorem AO {P:Program} {ops:Array Oper} {rest:List Oper} {o:Oper} {a:Act} {w w':World} {Q:Exit->Act->World->Prop} {v:Value} (hgd:o.guard=none)
  (hr:(execOp a.eval o).run P w= .ok (.value v) w') (h:wpList P ops Q rest (a.put o.dst v) w'):wpList P ops Q (o::rest) a w:=
 wpList_plain hgd fun _ hK=>by
  unfold Oper.wp;rw[hr];exact hK _ _ h
theorem OE {Bs:List Bd} {n s:By} {T:Tm} (h:bK Bs n=some T):fJ Bs n s=T:=by unfold fJ;rw[h];rfl
theorem OG {Bs:List Bd} {n s:By} (h:bK Bs n=none):fJ Bs n s=vr n s:=by unfold fJ;rw[h];rfl
theorem OH (Bs:List Bd) (vB:Value) (bs:Nat) (n s:By) (L:List Tm) (a:Option Addr) (cap:Nat) (R S T:Nat->Prop) (w:World) (hL:L=[]) (hT:aA T w L (.slice a L.length cap)) (hB:w.heap[bs]?=some (.cells #[vB] 27 (0,0))) (h:lC R S w vB Bs) (hS: ∀k,S k->k<w.heap.size) (OI: ∀k,T k->k<w.heap.size) (ha:AscK (Prod.fst:Bd->By) Bs) (hl:Bs.length<=1000000):
  Calls Tryz.prog 151 #[.agg #[.string n,.string s,.slice a L.length cap],.pointer (some ⟨bs,0,none⟩)] w fun e w'=> ∃ra rc,e= .returned (tV (fJ Bs n s) (.slice ra (fJ Bs n s).kids.length rc))/\aA (fun k=>k<w.heap.size) w' (fJ Bs n s).kids (.slice ra (fJ Bs n s).kids.length rc)/\Ext w w':=by
 obtain⟨Q,hQ⟩: ∃Q,fJ Bs n s=Q:=⟨_,rfl⟩
 rw[hQ];have HQ:=ae hQ;clear hQ;have hbl:bs<w.heap.size:=(Array.getElem?_eq_some_iff.1 hB).1;have hZ:=((uR w).alloc (.cells #[.string n,.string s,.slice a L.length cap] 24)).alloc zO;have HB2:=ae (ak (ai w (.cells #[.string n,.string s,.slice a L.length cap] 24)) zO);have HB3:=ae (alloc_at (w.alloc (.cells #[.string n,.string s,.slice a L.length cap] 24)) zO (n:=w.heap.size+1) (by simp));have KZ:=ae (hZ.heap hB (fun h=>h));have HH:=ae h;have cO:=ae (hT.weaken OI);have Hu:=ae hL;have jf:=ae hS;have HAS:=ae ha;have HZ:=ae hZ;have WA:=ae (fun W (hW:Ext w W)=>aa2 Bs vB n R S W (h.ext hW) ha hl);obtain⟨ba,bc,rfl⟩:=h.shape;obtain⟨x0,x1,x2⟩:=ag HB2.out;have y0:=af KZ.out 0 (.slice ba Bs.length bc) rfl;obtain⟨F,hF⟩: ∃F,(bK Bs n).isSome=F:=⟨_,rfl⟩
 have HF:=ae hF;rw[hF] at WA;clear h hB hT hL hS OI ha hZ hF
 go_enter Tryz.func151,Tryz.ntmps151
 go_wp2_with fail
 generalize ((w.alloc (.cells #[.string n,.string s,.slice a L.length cap] 24)).alloc zO)=w1 at*;refine(WA.out _ HZ.out).mono ?_;rintro e w4 ⟨rfl,hw4⟩;have bQ:=ae (HZ.out.trans hw4);have dO:=ae (hw4.heap HB2.out (fun h=>h));have zg:=ae (hw4.heap HB3.out (fun h=>h));have amA:=ae (hw4.heap KZ.out (fun h=>h));have y0:=af amA.out 0 (.slice ba Bs.length bc) rfl;have f2:=fun i=>au zg.out i;obtain⟨d0,d1,d2⟩:=ag zg.out;obtain⟨x0,x1,x2⟩:=ag dO.out;clear hw4 WA;cases F with
 |true=>
  obtain⟨hlt,hbg,_⟩:=KY (n:=n) HAS.out HF.out;have hq:Q=(Go.Hw.bg Bs (lh Bs n)).2.2:=by rw[<-HQ.out];exact OE hbg
  obtain⟨g,off,hga,_,hat⟩:=(HH.out.ext bQ.out).at_ (by omega);subst hga;obtain⟨ra,rc,p0,p1,p2,p3,p4,aY⟩:=hat _ hlt;have HK:=ae (aY.weaken jf.out);obtain⟨m,hm⟩: ∃m,lh Bs n=m:=⟨_,rfl⟩
  rw[hm] at p0 p1 p2 p3 p4 hlt HK hq
  try rw[hm]
  have z0:(0:Int)<=(m:Int):=by omega
  have z1:(m:Int)< (Bs.length:Int):=by omega
  obtain⟨x,hx⟩: ∃x,Go.Hw.bg Bs m=x:=⟨_,rfl⟩
  rw[hx] at p0 p1 p2 p3 p4 HK hq;obtain⟨x1,x2,q⟩:=x;simp only at p0 p1 p2 p3 p4 HK hq;subst hq;clear hat aY hbg hx hm p0 p1 HQ
  go_wp2_with fail
  have hr3:=aJ zg.out (.string Q.name) (.string Q.sort) (.slice ra Q.kids.length rc);have hu:=aI w4 (w.heap.size+1) (.string Q.name) (.string Q.sort) (.slice ra Q.kids.length rc);obtain⟨e0,e1,e2⟩:=ag hr3;refine bodyPost_ret (v:= .agg #[.string Q.name,.string Q.sort,.slice ra Q.kids.length rc]) (by simp[results,Tryz.results151,go_sem,e0,e1,e2]) rfl ⟨ra,rc,rfl,HK.out.kept hu (fun j hj e=>by omega),bQ.out.trans' hu (fun j hj e=>by omega)⟩
 |false=>
  have hn:bK Bs n=none:=by have:=HF.out;cases hb:bK Bs n with
   |none=>rfl
   |some T=>rw[hb] at this;cases this
  obtain rfl:Q=vr n s:=by rw[<-HQ.out];exact OG hn
  have HK:=ae (cO.out.ext bQ.out);have hll:=Hu.out;subst hll;clear hn HQ
  go_wp2_with fail
  have hr3:=aJ zg.out (.string n) (.string s) (.slice a 0 cap);have hu:=aI w4 (w.heap.size+1) (.string n) (.string s) (.slice a 0 cap);obtain⟨e0,e1,e2⟩:=ag hr3;refine bodyPost_ret (v:= .agg #[.string n,.string s,.slice a 0 cap]) (by simp[results,Tryz.results151,go_sem,e0,e1,e2]) rfl ⟨a,cap,rfl,HK.out.kept hu (fun j hj e=>by omega),bQ.out.trans' hu (fun j hj e=>by omega)⟩
theorem acJ (Bs:List Bd) (vB:Value) (bs vb:Nat) (n s:By) (L:List Tm) (a:Option Addr) (cap:Nat) (R S T:Nat->Prop) (w:World) (htab:bT w) (hL:L=[]) (hT:aA T w L (.slice a L.length cap)) (hB:w.heap[bs]?=some (.cells #[vB] 27 (0,0))) (hV:w.heap[vb]?=some (.cells #[.func (.func 151) #[] #[.pointer (some ⟨bs,0,none⟩)]] 90 (0,0))) (h:lC R S w vB Bs) (hS: ∀k,S k->k<w.heap.size) (OI: ∀k,T k->k<w.heap.size) (ha:AscK (Prod.fst:Bd->By) Bs) (hl:Bs.length<=1000000) (hw:wf ax (fJ Bs n s)=true):
  Calls Tryz.prog 153 #[.agg #[.string n,.string s,.slice a L.length cap],.pointer (some ⟨vb,0,none⟩)] w fun e w'=>e= .returned (.tuple #[.int .i64 ((fJ Bs n s).size:Nat),.int .i64 ((fJ Bs n s).depth:Nat)])/\Ext w w':=by
 have hE:=(uR w).alloc (.cells #[.string n,.string s,.slice a L.length cap] 24);have HE:=ae hE;have HB2:=ae (ai w (.cells #[.string n,.string s,.slice a L.length cap] 24));have WC:=ae (OH Bs vB bs n s L a cap R S T (w.alloc (.cells #[.string n,.string s,.slice a L.length cap] 24)) hL (hT.ext hE) (hE.heap hB (fun h=>h)) (h.ext hE) (fun k hk=>ay (hS k hk) hE.size) (fun k hk=>ay (OI k hk) hE.size) ha hl);have y0:=af (hE.heap hV (fun h=>h)) 0 (.func (.func 151) #[] #[.pointer (some ⟨bs,0,none⟩)]) rfl;have amB:=jY hw;have hsf:wG (fJ Bs n s)=(fJ Bs n s).size:=by unfold wG;rw[if_pos hw]
 have hdf:EU (fJ Bs n s)=(fJ Bs n s).depth:=by unfold EU;rw[if_pos hw]
 have dw:=ae (fun v W h1 h2=>Nc (fJ Bs n s) v W h1 h2 (by omega));have HDP:=ae (fun v W h1 h2=>acI (fJ Bs n s) v W h1 h2 (by omega));rw[hsf] at dw;rw[hdf] at HDP;have fB:=ae htab;obtain⟨x0,x1,x2⟩:=ag HB2.out;have heg: ∀args W,(callFunc 151 args).run Tryz.prog W= .ok (.enter 151 args) W:=enters_of Tryz.func151 (by kernel_rfl) rfl;obtain⟨q,hq⟩: ∃q,fJ Bs n s=q:=⟨_,rfl⟩
 rw[hq] at WC dw HDP⊢;clear hE htab hL hT hB hV h hS OI ha hw amB hsf hdf hq
 go_enter Tryz.func153,Tryz.ntmps153
 go_wp2_with fail
 generalize w.alloc (.cells #[.string n,.string s,.slice a L.length cap] 24)=w1 at*;refine WC.out.mono ?_;rintro e w4 ⟨ra,rc,rfl,hk,hw4⟩;have nV:=hw4.alloc (tO q ra rc);have dX:=ae (HE.out.trans nV);have fE:=ae (ai w4 (tO q ra rc));have HK:=ae (hk.ext ((uR w4).alloc (tO q ra rc)));dsimp only[tV];have Uf:=nV.size;clear x0 x1 x2 y0 WC;obtain⟨x0,x1,x2⟩:=ag fE.out;clear hk hw4 nV
 go_wp2_with fail
 generalize hw5:w4.alloc (tO q ra rc)=w5 at*;have uM:=ae (fun W (hW:Ext w5 W)=>dw.out (tV q (.slice ra q.kids.length rc)) W (aC fB.out (dX.out.trans hW)) ⟨ra,rc,rfl,(HK.out.ext hW).weaken (fun k hk=>ay hk (Nat.le_trans Uf hW.size))⟩);have afq:=ae (fun W (hW:Ext w5 W)=>HDP.out (tV q (.slice ra q.kids.length rc)) W (aC fB.out (dX.out.trans hW)) ⟨ra,rc,rfl,(HK.out.ext hW).weaken (fun k hk=>ay hk (Nat.le_trans Uf hW.size))⟩);dsimp only[tV] at uM afq;have sD:=uR w5;have xx0:=fun X:XW w5=>X.ext.cell x0 (fun h=>h);have xx1:=fun X:XW w5=>X.ext.cell x1 (fun h=>h);have xx2:=fun X:XW w5=>X.ext.cell x2 (fun h=>h);clear x0 x1 x2 dw HDP Uf;refine aW w5 (by assumption) (by kernel_rfl) (by kernel_rfl) ?_
 repeat (first|go_big_quiet_skip|(go_big_quiet_want;go_big_quiet_op;first|go_big_quiet_on|(apply Exists.intro;refine⟨fun x=>?_,?_⟩;(first|(go_at_call 145;exact XW.call (uM.out x.val x.ext))|(go_at_call 154;exact XW.call (afq.out x.val x.ext)));go_big_quiet_on)))
 refine wpQuiet_nil ?_;rintro w8 ⟨⟨_,dD⟩,rfl⟩
 try dsimp only
 have bV:=ae (dX.out.trans dD)
 go_wp2_with fail
 go_ret2
 exact⟨rfl,bV.out⟩
theorem afr (Bs:List Bd) (vB:Value) (bs vb:Nat) (R S0:Nat->Prop) (w0:World) (HB:Hid (w0.heap[bs]?=some (.cells #[vB] 27 (0,0)))) (HV:Hid (w0.heap[vb]?=some (.cells #[.func (.func 151) #[] #[.pointer (some ⟨bs,0,none⟩)]] 90 (0,0)))) (HBn:Hid (lC R S0 w0 vB Bs)) (E5:Hid (∀k,S0 k->k<w0.heap.size)) (HAS:Hid (AscK (Prod.fst:Bd->By) Bs)) (vC:Hid (Bs.length<=1000000)) (fB:Hid (bT w0)):
  ∀(t:Tm) (v:Value) (S:Nat->Prop) (w:World),Ext w0 w->bC S w t v->(∀k,S k->k<w.heap.size)->t.size<=100000->uh t->(∀f∈fD t,wf ax (fJ Bs f.1 f.2)=true)->
  Calls Tryz.prog 152 #[v,.func (.func 153) #[] #[.pointer (some ⟨vb,0,none⟩)]] w fun e w'=>e= .returned (.tuple #[.int .i64 ((min (wO Bs t).size 1001:Nat):Int),.int .i64 ((min (wO Bs t).depth 61:Nat):Int)])/\Ext w w':=by
 refine Tm.ind (fun n s L ih=>?_);intro v S w hw0 hT hS hsz K_ hok;obtain⟨Z,l7⟩: ∃Z,wO Bs (.mk n s L)=Z:=⟨_,rfl⟩
 rw[l7];have iH:=ae l7;clear l7;obtain⟨PS,hPS⟩: ∃P,min Z.size 1001=P:=⟨_,rfl⟩
 obtain⟨PD,hPD⟩: ∃P,min Z.depth 61=P:=⟨_,rfl⟩
 rw[hPS,hPD];have vK:=ae (And.intro hPS hPD);clear hPS hPD;obtain⟨a,cap,rfl,hT⟩:=hT;dsimp only[tV,Tm.name,Tm.sort,Tm.kids] at hT⊢;have cO:=ae hT;have HIH:=ae ih;have jf:=ae hS;have HW0:=ae hw0;have fK:=ae hok;have La:=ae K_;have iU:sizes L+1<=100000:=by rw[size_eq] at hsz;simp only[Tm.kids] at hsz;omega
 have oM:=ae iU;have mr:L.length<=100000:=by have h1:=bf L;omega
 have pg:=ae (fun W=>kX n s a L.length cap W);have HZ:=ae ((uR w).alloc (.cells #[.string n,.string s,.slice a L.length cap] 24));have HB2:=ae (ai w (.cells #[.string n,.string s,.slice a L.length cap] 24));have heg: ∀args W,(callFunc 153 args).run Tryz.prog W= .ok (.enter 153 args) W:=enters_of Tryz.func153 (by kernel_rfl) rfl;obtain⟨x0,x1,x2⟩:=ag HB2.out;clear ih hT hS hsz iU hw0 hok K_;by_cases hs0:s=ah
 rotate_left
 .rw [dF hs0] at pg;obtain rfl:Z=fJ Bs n s:=by rw[<-iH.out];exact o_ _ hs0 L
  have DW:=ae (fK.out (n,s) (qQ hs0 L));have Hu:Hid (L=[]):=ae (La.out (.mk n s L) (fO _) hs0);have hq1:=(vM.1 DW.out).1;have hq2:=(vM.1 DW.out).2.1;have hp0:=vK.out;rw[Nat.min_eq_left (by simp only at hq1;omega),Nat.min_eq_left (by simp only at hq2;omega)] at hp0;obtain⟨hp1,hp2⟩:=hp0;obtain⟨q,hq⟩: ∃q,fJ Bs n s=q:=⟨_,rfl⟩
  have RG:=ae hq;rw[hq] at hp1 hp2;subst hp1;subst hp2;clear hs0 hq hq1 hq2 vK
  go_enter Tryz.func152,Tryz.ntmps152
  go_wp2_with fail
  generalize w.alloc (.cells #[.string n,.string s,.slice a L.length cap] 24)=w1 at*;refine(pg.out _).mono ?_;rintro e w3 ⟨rfl,hw3⟩;have aS:=ae (HZ.out.trans hw3);have nP:=ae (hw3.heap HB2.out (fun h=>h));clear hw3 pg x0 x1 x2;obtain⟨x0,x1,x2⟩:=ag nP.out;have jP:=ae (acJ Bs vB bs vb n s L a cap R S0 S w3 (aC fB.out (HW0.out.trans aS.out)) Hu.out (cO.out.ext aS.out) ((HW0.out.trans aS.out).heap HB.out (fun h=>h)) ((HW0.out.trans aS.out).heap HV.out (fun h=>h)) (HBn.out.ext (HW0.out.trans aS.out)) (fun k hk=>ay (E5.out k hk) (HW0.out.trans aS.out).size) (fun k hk=>ay (jf.out k hk) aS.out.size) HAS.out vC.out DW.out);rw[RG.out] at jP;clear DW iH
  go_wp2_with fail
  refine jP.out.mono ?_;rintro e w6 ⟨rfl,hw6⟩;have eQ:=ae (aS.out.trans hw6);clear hw6 jP x0 x1 x2
  go_wp2_with fail
  go_ret2
  exact⟨rfl,eQ.out⟩
 rw[dT hs0] at pg;obtain rfl:Z= .mk n ah (L.map (wO Bs)):=by rw[<-iH.out,hs0];exact rG _ n L
 have Ox:Hid (∀x∈L,∀f∈fD x,wf ax (fJ Bs f.1 f.2)=true):=ae (fun x hx f hf=>fK.out f (by
  rw[hs0,vI];exact List.mem_flatMap.2 ⟨x,hx,hf⟩))
 obtain⟨M,hM⟩: ∃M,L.map (wO Bs)=M:=⟨_,rfl⟩
 have HMM:=ae hM;have Dl:Hid (PS=min (sizes M+1) 1001):=ae (by rw[<-vK.out.1,size_eq,<-hM];rfl);have HPD:Hid (PD=min (depths M+1) 61):=ae (by rw[<-vK.out.2,xA,<-hM];rfl);have BH:Hid (M.length=L.length):=ae (by rw[<-hM,List.length_map]);clear hs0 hM
 go_enter Tryz.func152,Tryz.ntmps152
 go_wp2_with fail
 generalize w.alloc (.cells #[.string n,.string s,.slice a L.length cap] 24)=w1 at*;refine(pg.out _).mono ?_;rintro e w3 ⟨rfl,hw3⟩;have aS:=ae (HZ.out.trans hw3);have nP:=ae (hw3.heap HB2.out (fun h=>h));clear hw3 pg x0 x1 x2;obtain⟨x0,x1,x2⟩:=ag nP.out
 go_wp2_with fail
 clear x0 x1 x2
 go_loopg [6,7,22] L.length (fun gk nv dv iv wr=> ∃k:Nat,nv= .int .i64 ((min (sizes (M.take k)+1) 1001:Nat):Int)/\dv= .int .i64 ((min (depths (M.take k)) 61:Nat):Int)/\iv= .int .i64 (k:Int)/\gk=L.length-k/\k<=L.length/\Hid (Ext w3 wr))
 case atStart=>exact⟨0,by simp[sizes],by simp[depths],rfl,rfl,Nat.zero_le _,ae (aj.refl _ _)⟩
 case round=>
  obtain⟨k,rfl,rfl,rfl,rfl,hk,HE⟩:=hrel;by_cases hlt:k<L.length
  .obtain ⟨g,off,hga,_,hat⟩:=(cO.out.ext (aS.out.trans HE.out)).at_ (by omega);subst hga;obtain⟨xa,xc,q0,q1,q2,aY⟩:=hat k hlt;rw[<-Nat.add_assoc] at q1 q2;obtain⟨z0,z1,z2,z2'⟩:=bz hlt;have a_:=ae (fun W (hW:Ext wr W)=>HIH.out (tg L k) (ed L k hlt) _ S W (HW0.out.trans ((aS.out.trans HE.out).trans hW)) ⟨xa,xc,rfl,aY.ext hW⟩ (fun j hj=>ay (jf.out j hj) ((aS.out.trans HE.out).trans hW).size) (by have h1:=oM.out;have h2:=ku (ed L k hlt);omega) (La.out.kid (ed L k hlt)) (Ox.out _ (ed L k hlt)));dsimp only[tV] at a_;have hsx:=kR M k (by rw[BH.out];exact hlt);have C9:=Qr M k (by rw[BH.out];exact hlt);have hzx:tg M k=wO Bs (tg L k):=by
    rw[<-HMM.out];unfold tg;rw[List.getD_eq_getElem?_getD,List.getD_eq_getElem?_getD,List.getElem?_map,List.getElem?_eq_getElem hlt];rfl
   rw[hzx] at hsx C9;obtain⟨x,hx⟩: ∃x,tg L k=x:=⟨_,rfl⟩
   rw[hx] at q0 q1 q2 a_ hsx C9;obtain⟨XS,hXS⟩: ∃X,(wO Bs x).size=X:=⟨_,rfl⟩
   obtain⟨XD,hXD⟩: ∃X,(wO Bs x).depth=X:=⟨_,rfl⟩
   rw[hXS] at a_ hsx;rw[hXD] at a_ C9;obtain⟨N,hN⟩: ∃N,sizes (M.take k)=N:=⟨_,rfl⟩
   obtain⟨D,hD⟩: ∃D,depths (M.take k)=D:=⟨_,rfl⟩
   rw[hN] at hsx;rw[hD] at C9
   try rw[hN]
   try rw[hD]
   have ry:=ae hsx;have IB:=ae C9;obtain⟨N1,hN1⟩: ∃X,min (N+1) 1001=X:=⟨_,rfl⟩
   obtain⟨D1,hD1⟩: ∃X,min D 61=X:=⟨_,rfl⟩
   obtain⟨X1,hX1⟩: ∃X,min XS 1001=X:=⟨_,rfl⟩
   obtain⟨E1,hE1⟩: ∃X,min XD 61=X:=⟨_,rfl⟩
   rw[hX1,hE1] at a_
   try rw[hN1]
   try rw[hD1]
   have hb1:N1<=1001:=by omega
   have hb2:X1<=1001:=by omega
   have xJ:=ae (And.intro hN1 hX1);have HDD:=ae (And.intro hD1 hE1);obtain⟨P,hP⟩: ∃P:Int,P=min ((N1:Int)+(X1:Int)) 1001:=⟨_,rfl⟩
   obtain⟨Q,hQ⟩: ∃Q:Int,Q=max (D1:Int) (E1:Int):=⟨_,rfl⟩
   have HP:=ae hP;have HQ:=ae hQ;have z7:IntKind.i64.wrap ((N1:Int)+(X1:Int))=(N1:Int)+(X1:Int):=IntWalk.i64_in _ (by omega);have nV:=ae ((uR wr).alloc (tO x xa xc));have kT:=ai wr (tO x xa xc);obtain⟨b0,b1,b2⟩:=ag kT;clear hat aY hx hsx C9 hzx hXS hXD hN hD hN1 hD1 hX1 hE1 hP hQ kT
   go_wp2_with fail
   refine(a_.out _ nV.out).mono ?_;rintro e w5 ⟨rfl,hw5⟩;have dX:=ae (HE.out.trans (nV.out.trans hw5));clear hw5 a_ b0 b1 b2 q0 q1 q2 nV
   go_wp2_with(with_reducible (refine zT (o:=⟨some 35,_,_,_,_,_⟩) ?_))
   refine Stop.go ?_;refine AO rfl (v:= .int .i64 P) (w':=w5) ?_ ?_
   .go_simp;have:=HP.out;omega
   go_wp2_with(with_reducible (refine zT (o:=⟨some 38,_,_,_,_,_⟩) ?_))
   refine Stop.go ?_;refine AO rfl (v:= .int .i64 Q) (w':=w5) ?_ ?_
   .go_simp;have:=HQ.out;omega
   go_wp2_with fail
   go_roundg (L.length- (k+1))
   case measure=>omega
   case rel=>exact⟨k+1,by rw[ry.out];have h1:=HP.out;have h2:=xJ.out;congr 1;omega,by rw[IB.out];have h1:=HQ.out;have h2:=HDD.out;congr 1;omega,by go_num,rfl,by omega,dX⟩
  .obtain rfl:k=L.length:=by omega
   have z2:decide ((L.length:Int)< (L.length:Int))=false:=dF (by omega);have htk:M.take L.length=M:=by rw[<-BH.out,List.take_length]
   rw[htk];have hps:=Dl.out;have V3:=HPD.out;obtain⟨D,hD⟩: ∃D,min (depths M) 61=D:=⟨_,rfl⟩
   obtain⟨N,hN⟩: ∃N,min (sizes M+1) 1001=N:=⟨_,rfl⟩
   rw[hD,hN];obtain⟨Q,hQ⟩: ∃Q:Int,Q=min ((D:Int)+1) 61:=⟨_,rfl⟩
   have HQ:=ae hQ;have OJ:Hid (PS=N):=ae (by omega);have amC:Hid (((PD:Nat):Int)=Q):=ae (by omega);have ao6:D<=61:=by omega
   clear hps V3 hQ hD hN htk
   go_wp2_with(with_reducible (refine zT (o:=⟨some 43,_,_,_,_,_⟩) ?_))
   refine Stop.go ?_;refine AO rfl (v:= .int .i64 Q) (w':=wr) ?_ ?_
   .go_simp;have:=HQ.out;omega
   go_wp2_with fail
   go_ret2
   rw[OJ.out,amC.out];exact⟨rfl,(aS.out.trans HE.out)⟩
end
end Go.Proofs.YtlkcjmaiahnodaaGreatDoor
