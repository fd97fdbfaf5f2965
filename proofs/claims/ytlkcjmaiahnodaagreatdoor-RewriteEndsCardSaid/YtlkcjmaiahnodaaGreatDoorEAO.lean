/- The texts N43 N44 N51 N52 I96 I97 I100 I101 N53 N54 N55, one behind the other. -/
import Derived.Test.YtlkcjmaiahnodaaGreatDoorEAN
import Derived.Test.YtlkcjmaiahnodaaGreatDoorEAM
import Derived.Test.YtlkcjmaiahnodaaGreatDoorEAK
import Derived.Test.YtlkcjmaiahnodaaGreatDoorEAH
import Derived.Test.YtlkcjmaiahnodaaGreatDoorEAI
import Derived.Test.YtlkcjmaiahnodaaGreatDoorEAG
import Derived.Test.YtlkcjmaiahnodaaGreatDoorEAL
import Derived.Test.YtlkcjmaiahnodaaGreatDoorEAE
import Derived.Test.YtlkcjmaiahnodaaGreatDoorEAD
set_option maxRecDepth 100000
set_option maxHeartbeats 8000000
set_option linter.unusedVariables false
set_option linter.unusedSimpArgs false
namespace Go.Proofs.YtlkcjmaiahnodaaGreatDoor
open Go.RowKit Go.Hw Go Tm
section
open Go.Sort Go.Proofs Go.ChangeMaps
mutual
def kH:Tm->Int->Int->Int
 | .mk n s L,d,i=>wP L (d-1) (if d=0\/100<n.size\/100<s.size\/40<L.length then -1 else i-1)
def wP:List Tm->Int->Int->Int
 |[],_,i=>i
 |x::L,d,i=>if 0<=i then wP L d (kH x d i) else i
end
theorem xZ (n s:By) (L:List Tm) (d i:Int):kH (.mk n s L) d i=wP L (d-1) (if d=0\/100<n.size\/100<s.size\/40<L.length then -1 else i-1):=by
 conv=>lhs;unfold kH
theorem EG (d i:Int):wP [] d i=i:=by unfold wP;rfl
theorem AQ (x:Tm) (L:List Tm) (d i:Int):wP (x::L) d i=if 0<=i then wP L d (kH x d i) else i:=by
 conv=>lhs;unfold wP
theorem rH (L:List Tm) (d i:Int) (h:i<0):wP L d i=i:=by
 cases L with
 |nil=>exact EG d i
 |cons x L=>rw[AQ,if_neg (by omega)]
theorem OV: ∀(t:Tm) (d i:Int),(0<=kH t d i->(t.size:Int)+kH t d i<=i)/\(0<=i-> -1<=kH t d i/\kH t d i<=i)/\(i<0->kH t d i=i-1\/kH t d i= -1):=by
 refine Tm.ind (fun n s L ih=>?_);intro d i;have key: ∀(M:List Tm),(∀x∈M,∀(d i:Int),(0<=kH x d i->(x.size:Int)+kH x d i<=i)/\(0<=i-> -1<=kH x d i/\kH x d i<=i)/\(i<0->kH x d i=i-1\/kH x d i= -1))->∀(d i:Int),(0<=wP M d i->(sizes M:Int)+wP M d i<=i)/\(0<=i-> -1<=wP M d i/\wP M d i<=i):=by
  intro M
  induction M with
  |nil=>intro _ d i;rw[EG];exact⟨fun _=>by simp[sizes],fun h=>⟨by omega,Int.le_refl _⟩⟩
  |cons x M OW=>
   intro hx d i;have h1:=hx x (List.mem_cons_self ..) d i;have h2:=OW (fun y hy=>hx y (List.mem_cons_of_mem _ hy)) d (kH x d i);rw[AQ];have hsz:sizes (x::M)=x.size+sizes M:=by rw[sizes]
   by_cases hi:0<=i
   .rw [if_pos hi];have h3:=h1.2.1 hi;by_cases hb:0<=kH x d i
    .have h4:=h2.2 hb;refine⟨fun h=>?_,fun _=>⟨h4.1,by omega⟩⟩;have h5:=h1.1 hb;have h6:=h2.1 h;rw[hsz];omega
    .rw [rH _ _ _ (by omega)];exact⟨fun h=>absurd h hb,fun _=>⟨h3.1,h3.2⟩⟩
   .rw [if_neg hi];exact⟨fun h=>absurd h hi,fun h=>absurd h hi⟩
 rw[xZ];have hk:=key L ih (d-1);by_cases hc:d=0\/100<n.size\/100<s.size\/40<L.length
 .rw [if_pos hc,rH _ _ _ (by omega)];exact⟨fun h=>absurd h (by omega),fun h=>⟨Int.le_refl _,by omega⟩,fun _=> .inr rfl⟩
 .rw [if_neg hc];have h1:=hk (i-1);refine⟨fun h=>?_,fun h=>?_,fun h=>?_⟩
  .have h2:=h1.1 h;rw[size_eq];simp only[Tm.kids];omega
  .by_cases h0:0<=i-1
   .have h2:=h1.2 h0;exact⟨h2.1,by omega⟩
   .rw [rH _ _ _ (by omega)];exact⟨by omega,by omega⟩
  .rw [rH _ _ _ (by omega)];exact .inl rfl
theorem WL: ∀(t:Tm) (d i:Int),(t.size:Int)<=i->(t.depth:Int)<=d->(∀x∈aV t,x.name.size<=100/\x.sort.size<=100/\x.kids.length<=40)->kH t d i=i- (t.size:Int):=by
 refine Tm.ind (fun n s L ih=>?_);intro d i h1 h2 h3;have key: ∀(M:List Tm),(∀x∈M,∀(d i:Int),(x.size:Int)<=i->(x.depth:Int)<=d->(∀y∈aV x,y.name.size<=100/\y.sort.size<=100/\y.kids.length<=40)->kH x d i=i- (x.size:Int))->(∀x∈M,∀y∈aV x,y.name.size<=100/\y.sort.size<=100/\y.kids.length<=40)->∀(d i:Int),(sizes M:Int)<=i->(depths M:Int)<=d->wP M d i=i- (sizes M:Int):=by
  intro M
  induction M with
  |nil=>intro _ _ d i _ _;rw[EG];simp[sizes]
  |cons x M OW=>
   intro hx hs d i h1 h2;have hsz:sizes (x::M)=x.size+sizes M:=by rw[sizes]
   have hdz:depths (x::M)=max x.depth (depths M):=by rw[depths]
   rw[hsz] at h1⊢;rw[hdz] at h2;rw[AQ,if_pos (by omega),hx x (List.mem_cons_self ..) d i (by omega) (by omega) (hs x (List.mem_cons_self ..)),OW (fun y hy=>hx y (List.mem_cons_of_mem _ hy)) (fun y hy=>hs y (List.mem_cons_of_mem _ hy)) d _ (by omega) (by omega)];omega
 have h4:=h3 _ (fO _);simp only[Tm.name,Tm.sort,Tm.kids] at h4;rw[size_eq,xA] at*;simp only[Tm.kids] at*;rw[xZ,if_neg (by omega),key L ih (fun x hx y hy=>h3 y (oC (t:= .mk n s L) hx hy)) (d-1) (i-1) (by omega) (by omega)];omega
theorem acL: ∀(t:Tm) (v:Value) (S:Nat->Prop) (q r:Nat) (w:World) (d i:Int),bC S w t v->¬S q->(∀k,S k->k<w.heap.size)->w.heap[q]?=some (.cells #[.int .i64 i] 3 (0,0))->w.cell? ⟨r,0,none⟩=some (.func (.func 112) #[] #[.pointer (some ⟨q,0,none⟩),.pointer (some ⟨r,0,none⟩)])->r≠q->0<=d->d<=80-> -1000<=i->i<=1100->
  Calls Tryz.prog 112 #[v,.int .i64 d,.pointer (some ⟨q,0,none⟩),.pointer (some ⟨r,0,none⟩)] w fun e w'=>e= .returned (.tuple #[])/\FwP q w w' (kH t d i):=by
 refine Tm.ind (fun n s L ih=>?_);intro v S q r w d i hT hq hS hc hr hrq hd0 hd1 hi0 hi1;obtain⟨a,cap,rfl,hT⟩:=hT;dsimp only[tV,Tm.name,Tm.sort,Tm.kids] at hT⊢;obtain⟨V,hV⟩: ∃V,kH (.mk n s L) d i=V:=⟨_,rfl⟩
 rw[hV];have HV:=ae hV;have cO:=ae hT;have HIH:=ae ih;have HQ:=ae hq;have jf:=ae hS;have hqs:q<w.heap.size:=(Array.getElem?_eq_some_iff.1 hc).1;have RN:=ae hqs;have HRQ:=ae hrq;have HR:=ae hr;have cZ:=ae ((uR w).alloc (.cells #[.string n,.string s,.slice a L.length cap] 24));have HB2:=ae (ai w (.cells #[.string n,.string s,.slice a L.length cap] 24));have HC:=ae (cZ.out.heap hc (fun h=>h));have HZ0:Hid (w.heap.size+1<=(w.alloc (.cells #[.string n,.string s,.slice a L.length cap] 24)).heap.size):=ae (by simp);have c0:=af HC.out 0 (.int .i64 i) rfl;have f0:=fun j=>au HC.out j;clear ih hT hq hS hc hV hrq hr hqs
 go_enter Tryz.func112,Tryz.ntmps112
 go_upto_region 2 with fail
 generalize w.alloc (.cells #[.string n,.string s,.slice a L.length cap] 24)=w1 at*;have hb4:=setBlock HC.out 0 (.int .i64 (i-1));have Le:Hid ((w1.setCell ⟨q,0,none⟩ (.int .i64 (i-1))).heap[q]?=some (.cells #[.int .i64 (i-1)] 3 (0,0))):=ae (by simpa using hb4);have wL:=ae ((aj.refl (fun k=>k=q) w1).setCell (p:=⟨q,0,none⟩) (.inl rfl) (.int .i64 (i-1)));have uk:Hid (aj (fun k=>k=q) w (w1.setCell ⟨q,0,none⟩ (.int .i64 (i-1)))):=ae ((cZ.out.mono (fun _ _ h=>h.elim)).trans wL.out);have dO:=ae (wL.out.heap HB2.out (by have:=RN.out;omega));have gQ:Hid (w.heap.size+1<=(w1.setCell ⟨q,0,none⟩ (.int .i64 (i-1))).heap.size):=ae (Nat.le_trans HZ0.out wL.out.size);generalize (w1.setCell ⟨q,0,none⟩ (.int .i64 (i-1)))=w4 at*;clear hb4 c0 f0 HC HB2 wL HZ0;have c0:=af Le.out 0 (.int .i64 (i-1)) rfl;have f0:=fun j=>au Le.out j;obtain⟨b0,b1,b2⟩:=ag dO.out;by_cases e1:d=0
 .obtain rfl:V= -1:=by rw[<-HV.out,xZ,if_pos (.inl e1),rH _ _ _ (by omega)]
  have t1:(d==0)=true:=by rw[e1];rfl
  have hb5:=setBlock Le.out 0 (.int .i64 (-1));have pJ:Hid ((w4.setCell ⟨q,0,none⟩ (.int .i64 (-1))).heap[q]?=some (.cells #[.int .i64 (-1)] 3 (0,0))):=ae (by simpa using hb5);have fP:=ae ((aj.refl (fun k=>k=q) w4).setCell (p:=⟨q,0,none⟩) (.inl rfl) (.int .i64 (-1)));have gY:Hid (aj (fun k=>k=q) w (w4.setCell ⟨q,0,none⟩ (.int .i64 (-1)))):=ae (uk.out.trans fP.out);have vV:=ae (fP.out.heap dO.out (by have:=RN.out;omega));clear hb5 fP e1
  go_upto_region 5 with fail
  generalize w4.setCell ⟨q,0,none⟩ (.int .i64 (-1))=w5 at*;have c1:=af pJ.out 0 (.int .i64 (-1)) rfl;obtain⟨d0,d1,d2⟩:=ag vV.out
  go_loopg [6] 0 (fun gk iv wr=>iv= .int .i64 0/\w5=wr)
  case atStart=>exact⟨rfl,rfl⟩
  case round=>
   obtain⟨rfl,rfl⟩:=hrel;by_cases hl0:0<L.length
   .have y1:decide ((0:Int)< (L.length:Int))=true:=dT (by omega);have y1':(0:Int)< (L.length:Int):=by omega
    go_wp2_with fail
    go_end0
    exact⟨rfl,gY.out,pJ.out⟩
   .have y1:decide ((0:Int)< (L.length:Int))=false:=dF (by omega);have y1': ¬(0:Int)< (L.length:Int):=by omega
    go_wp2_with fail
    go_end0
    exact⟨rfl,gY.out,pJ.out⟩
 have t1:(d==0)=false:=beq_eq_false_iff_ne.2 e1;by_cases e2:100<n.size
 .obtain rfl:V= -1:=by rw[<-HV.out,xZ,if_pos (.inr (.inl e2)),rH _ _ _ (by omega)]
  have t2:decide ((100:Int)< (n.size:Int))=true:=dT (by omega);have t2':(100:Int)< (n.size:Int):=by omega
  have hb5:=setBlock Le.out 0 (.int .i64 (-1));have pJ:Hid ((w4.setCell ⟨q,0,none⟩ (.int .i64 (-1))).heap[q]?=some (.cells #[.int .i64 (-1)] 3 (0,0))):=ae (by simpa using hb5);have fP:=ae ((aj.refl (fun k=>k=q) w4).setCell (p:=⟨q,0,none⟩) (.inl rfl) (.int .i64 (-1)));have gY:Hid (aj (fun k=>k=q) w (w4.setCell ⟨q,0,none⟩ (.int .i64 (-1)))):=ae (uk.out.trans fP.out);have vV:=ae (fP.out.heap dO.out (by have:=RN.out;omega));clear hb5 fP e2
  go_upto_region 5 with fail
  generalize w4.setCell ⟨q,0,none⟩ (.int .i64 (-1))=w5 at*;have c1:=af pJ.out 0 (.int .i64 (-1)) rfl;obtain⟨d0,d1,d2⟩:=ag vV.out
  go_loopg [6] 0 (fun gk iv wr=>iv= .int .i64 0/\w5=wr)
  case atStart=>exact⟨rfl,rfl⟩
  case round=>
   obtain⟨rfl,rfl⟩:=hrel;by_cases hl0:0<L.length
   .have y1:decide ((0:Int)< (L.length:Int))=true:=dT (by omega);have y1':(0:Int)< (L.length:Int):=by omega
    go_wp2_with fail
    go_end0
    exact⟨rfl,gY.out,pJ.out⟩
   .have y1:decide ((0:Int)< (L.length:Int))=false:=dF (by omega);have y1': ¬(0:Int)< (L.length:Int):=by omega
    go_wp2_with fail
    go_end0
    exact⟨rfl,gY.out,pJ.out⟩
 have t2:decide ((100:Int)< (n.size:Int))=false:=dF (by omega);have t2': ¬(100:Int)< (n.size:Int):=by omega
 by_cases e3:100<s.size
 .obtain rfl:V= -1:=by rw[<-HV.out,xZ,if_pos (.inr (.inr (.inl e3))),rH _ _ _ (by omega)]
  have t3:decide ((100:Int)< (s.size:Int))=true:=dT (by omega);have QG:(100:Int)< (s.size:Int):=by omega
  have hb5:=setBlock Le.out 0 (.int .i64 (-1));have pJ:Hid ((w4.setCell ⟨q,0,none⟩ (.int .i64 (-1))).heap[q]?=some (.cells #[.int .i64 (-1)] 3 (0,0))):=ae (by simpa using hb5);have fP:=ae ((aj.refl (fun k=>k=q) w4).setCell (p:=⟨q,0,none⟩) (.inl rfl) (.int .i64 (-1)));have gY:Hid (aj (fun k=>k=q) w (w4.setCell ⟨q,0,none⟩ (.int .i64 (-1)))):=ae (uk.out.trans fP.out);have vV:=ae (fP.out.heap dO.out (by have:=RN.out;omega));clear hb5 fP e3
  go_upto_region 5 with fail
  generalize w4.setCell ⟨q,0,none⟩ (.int .i64 (-1))=w5 at*;have c1:=af pJ.out 0 (.int .i64 (-1)) rfl;obtain⟨d0,d1,d2⟩:=ag vV.out
  go_loopg [6] 0 (fun gk iv wr=>iv= .int .i64 0/\w5=wr)
  case atStart=>exact⟨rfl,rfl⟩
  case round=>
   obtain⟨rfl,rfl⟩:=hrel;by_cases hl0:0<L.length
   .have y1:decide ((0:Int)< (L.length:Int))=true:=dT (by omega);have y1':(0:Int)< (L.length:Int):=by omega
    go_wp2_with fail
    go_end0
    exact⟨rfl,gY.out,pJ.out⟩
   .have y1:decide ((0:Int)< (L.length:Int))=false:=dF (by omega);have y1': ¬(0:Int)< (L.length:Int):=by omega
    go_wp2_with fail
    go_end0
    exact⟨rfl,gY.out,pJ.out⟩
 have t3:decide ((100:Int)< (s.size:Int))=false:=dF (by omega);have QG: ¬(100:Int)< (s.size:Int):=by omega
 by_cases e4:40<L.length
 .obtain rfl:V= -1:=by rw[<-HV.out,xZ,if_pos (.inr (.inr (.inr e4))),rH _ _ _ (by omega)]
  have t4:decide ((40:Int)< (L.length:Int))=true:=dT (by omega);have t4':(40:Int)< (L.length:Int):=by omega
  have hb5:=setBlock Le.out 0 (.int .i64 (-1));have pJ:Hid ((w4.setCell ⟨q,0,none⟩ (.int .i64 (-1))).heap[q]?=some (.cells #[.int .i64 (-1)] 3 (0,0))):=ae (by simpa using hb5);have fP:=ae ((aj.refl (fun k=>k=q) w4).setCell (p:=⟨q,0,none⟩) (.inl rfl) (.int .i64 (-1)));have gY:Hid (aj (fun k=>k=q) w (w4.setCell ⟨q,0,none⟩ (.int .i64 (-1)))):=ae (uk.out.trans fP.out);have vV:=ae (fP.out.heap dO.out (by have:=RN.out;omega));clear hb5 fP e4
  go_upto_region 5 with fail
  generalize w4.setCell ⟨q,0,none⟩ (.int .i64 (-1))=w5 at*;have c1:=af pJ.out 0 (.int .i64 (-1)) rfl;obtain⟨d0,d1,d2⟩:=ag vV.out
  go_loopg [6] 0 (fun gk iv wr=>iv= .int .i64 0/\w5=wr)
  case atStart=>exact⟨rfl,rfl⟩
  case round=>
   obtain⟨rfl,rfl⟩:=hrel;by_cases hl0:0<L.length
   .have y1:decide ((0:Int)< (L.length:Int))=true:=dT (by omega);have y1':(0:Int)< (L.length:Int):=by omega
    go_wp2_with fail
    go_end0
    exact⟨rfl,gY.out,pJ.out⟩
   .exfalso;omega
 have t4:decide ((40:Int)< (L.length:Int))=false:=dF (by omega);have t4': ¬(40:Int)< (L.length:Int):=by omega
 have zD:Hid (wP L (d-1) (i-1)=V):=ae (by rw[<-HV.out,xZ,if_neg (by omega)]);have ao7:L.length<=40:=by omega
 have HD:=ae (show 0<=d-1/\d-1<=80 by omega);clear e1 e2 e3 e4
 go_upto_region 5 with fail
 clear t1 t2 t2' t3 QG t4 t4' c0 f0 b0 b1 b2
 go_loopg [6] L.length (fun gk iv wr=> ∃(k:Nat) (j:Int),iv= .int .i64 (k:Int)/\gk=L.length-k/\k<=L.length/\ -1001<=j/\j<=1100/\Hid (aj (fun k=>k=q) w wr)/\Hid (wr.heap[q]?=some (.cells #[.int .i64 j] 3 (0,0)))/\Hid (wr.heap[w.heap.size]?=some (.cells #[.string n,.string s,.slice a L.length cap] 24 (0,0)))/\Hid (wP (L.drop k) (d-1) j=V))
 case atStart=>exact⟨0,i-1,rfl,rfl,Nat.zero_le _,by omega,by omega,uk,Le,dO,zD⟩
 case round=>
  clear uk Le dO zD gQ;obtain⟨k,j,rfl,rfl,hk,hj0,hj1,HU,RG,HB,lN⟩:=hrel;have c0:=af RG.out 0 (.int .i64 j) rfl;obtain⟨b0,b1,b2⟩:=ag HB.out;by_cases hlt:k<L.length
  .obtain ⟨z0,z1,z2,z2'⟩:=bz hlt;have hvk:=lN.out;rw[RP L k hlt,AQ] at hvk;by_cases hj:0<=j
   .have z3:decide ((0:Int)<=j)=true:=dT hj;rw[if_pos hj] at hvk;obtain⟨g,off,hga,_,hat⟩:=(cO.out.kept HU.out (fun k hk e=>HQ.out (e▸hk))).at_ (by omega);subst hga;obtain⟨xa,xc,q0,q1,q2,aY⟩:=hat k hlt;rw[<-Nat.add_assoc] at q1 q2;have a_:=ae (fun W (hW:Ext wr W)=>HIH.out (tg L k) (ed L k hlt) _ S q r W (d-1) j ⟨xa,xc,rfl,aY.ext hW⟩ HQ.out (fun k hk=>ay (jf.out k hk) (Nat.le_trans HU.out.size hW.size)) (hW.heap RG.out (fun h=>h)) (hW.cell (HU.out.cell HR.out HRQ.out) (fun h=>h)) HRQ.out HD.out.1 HD.out.2 (by omega) hj1);have r0:=HU.out.cell HR.out HRQ.out;have hle:=(OV (tg L k) (d-1) j).2.1 hj;dsimp only[tV] at a_;obtain⟨x,hx⟩: ∃x,tg L k=x:=⟨_,rfl⟩
    rw[hx] at q0 q1 q2 a_ hvk hle;obtain⟨j2,hj2⟩: ∃j2,kH x (d-1) j=j2:=⟨_,rfl⟩
    rw[hj2] at a_ hvk hle;have jb:=ae hvk;have Di:Hid (Ext wr wr):=ae (aj.refl _ _);have heg: ∀args W,(callFunc 112 args).run Tryz.prog W= .ok (.enter 112 args) W:=enters_of Tryz.func112 (by kernel_rfl) rfl;clear hat aY hx hvk hj2 lN
    go_wp2_with fail
    go_still_tail 8,(by kernel_rfl)
    change wpList _ _ _ _ _ wr.drew
    go_wp2_with fail
    refine(a_.out wr.drew Di.out.drew).mono ?_;rintro e w5 ⟨rfl,hw5,hq5⟩;have dS:Hid (aj (fun k=>k=q) wr w5):=ae (((aj.refl (fun k=>k=q) wr).drewN' 1).trans hw5);have pJ:=ae hq5;clear hw5 hq5 a_ q0 q1 q2 r0 c0 b0 b1 b2
    go_wp2_with fail
    have gY:=ae (HU.out.trans dS.out);have fE:=ae (dS.out.heap HB.out (by have:=RN.out;omega))
    go_roundg (L.length- (k+1))
    case measure=>omega
    case rel=>exact⟨k+1,j2,by go_num,rfl,by omega,by omega,by omega,gY,pJ,fE,jb⟩
   .have z3:decide ((0:Int)<=j)=false:=dF hj;rw[if_neg hj] at hvk;subst hvk;clear HV lN
    go_wp2_with fail
    go_end0
    exact⟨rfl,HU.out,RG.out⟩
  .obtain rfl:k=L.length:=by omega
   have z2:decide ((L.length:Int)< (L.length:Int))=false:=dF (by omega);have hvk:=lN.out;rw[List.drop_length,EG] at hvk;subst hvk;clear HV lN
   go_wp2_with fail
   go_end0
   exact⟨rfl,HU.out,RG.out⟩
def yO (L:List Tm) (i:Int):Int:=L.foldl (fun i t=>kH t 80 i) i
def pY (L:List Tm):Bool:=decide (yO L 1100<0)
def FI (t:Tm):Bool:=pY [t]||(formed ax t&&decide (60<t.size))
theorem Y4 (L:List Tm) (x:Tm) (i:Int):yO (L++[x]) i=kH x 80 (yO L i):=by unfold yO;rw[List.foldl_append];rfl
theorem Lh: ∀(L:List Tm) (i:Int),L.length<=10-> -1000+(L.length:Int)<=i->i<=1100-> -1000<=yO L i/\yO L i<=1100
 |[],i,_,h0,h1=>by simp at h0;exact⟨h0,h1⟩
 |x::L,i,hl,h0,h1=>by
  have h2:=OV x 80 i;rw[List.length_cons] at hl h0;have h3: -1000+(L.length:Int)<=kH x 80 i/\kH x 80 i<=1100:=by
   by_cases hi:0<=i
   .have:=h2.2.1 hi;omega
   .rcases h2.2.2 (by omega) with e|e<;>omega
  exact Lh L _ (by omega) h3.1 h3.2
theorem rJ {t:Tm} (h:pY [t]=false):t.size<=1100:=by
 have h1:=of_decide_eq_false h;unfold yO at h1;have h2:=(OV t 80 1100).1 (by simpa using h1);have h3: ¬kH t 80 1100<0:=by simpa using h1
 omega
theorem AU (L:List Tm) (v:Value) (S:Nat->Prop) (w:World) (hT:aA S w L v) (hS: ∀k,S k->k<w.heap.size) (hl:L.length<=10):
  Calls Tryz.prog 43 #[v] w fun e w'=>e= .returned (.bool (pY L))/\Ext w w':=by
 obtain⟨a,cap,rfl⟩:=hT.shape;obtain⟨V,hV⟩: ∃V,yO L 1100=V:=⟨_,rfl⟩
 have hbv:pY L=decide (V<0):=by unfold pY;rw[hV]
 rw[hbv];have HV:=ae hV;have cO:=ae hT;have jf:=ae hS;have cZ:=ae (((uR w).alloc (.cells #[.int .i64 1100] 3)).alloc (.cells #[.func (.func 112) #[] #[.pointer (some ⟨w.heap.size,0,none⟩),.pointer (some ⟨w.heap.size+1,0,none⟩)]] 158));have HQ0:=ae (ak (ai w (.cells #[.int .i64 1100] 3)) (.cells #[.func (.func 112) #[] #[.pointer (some ⟨w.heap.size,0,none⟩),.pointer (some ⟨w.heap.size+1,0,none⟩)]] 158));have HR0:=ae (alloc_at (w.alloc (.cells #[.int .i64 1100] 3)) (.cells #[.func (.func 112) #[] #[.pointer (some ⟨w.heap.size,0,none⟩),.pointer (some ⟨w.heap.size+1,0,none⟩)]] 158) (n:=w.heap.size+1) (by simp));have HZ0:Hid (w.heap.size+2<=((w.alloc (.cells #[.int .i64 1100] 3)).alloc (.cells #[.func (.func 112) #[] #[.pointer (some ⟨w.heap.size,0,none⟩),.pointer (some ⟨w.heap.size+1,0,none⟩)]] 158)).heap.size):=ae (by simp);have heg: ∀args W,(callFunc 112 args).run Tryz.prog W= .ok (.enter 112 args) W:=enters_of Tryz.func112 (by kernel_rfl) rfl;clear hT hS hV hbv
 go_enter Tryz.func43,Tryz.ntmps43
 go_upto_region 4 with fail
 generalize ((w.alloc (.cells #[.int .i64 1100] 3)).alloc (.cells #[.func (.func 112) #[] #[.pointer (some ⟨w.heap.size,0,none⟩),.pointer (some ⟨w.heap.size+1,0,none⟩)]] 158))=w1 at*
 go_wp2_with fail
 go_loopg [10] L.length (fun gk iv wr=> ∃k:Nat,iv= .int .i64 (k:Int)/\gk=L.length-k/\k<=L.length/\Hid (aj (fun k=>k=w.heap.size) w1 wr)/\Hid (wr.heap[w.heap.size]?=some (.cells #[.int .i64 (yO (L.take k) 1100)] 3 (0,0)))/\Hid (wr.heap[w.heap.size+1]?=some (.cells #[.func (.func 112) #[] #[.pointer (some ⟨w.heap.size,0,none⟩),.pointer (some ⟨w.heap.size+1,0,none⟩)]] 158 (0,0))))
 case atStart=>exact⟨0,rfl,rfl,Nat.zero_le _,ae (aj.refl _ _),HQ0,HR0⟩
 case round=>
  clear HQ0 HR0;obtain⟨k,rfl,rfl,hk,HU,HQ,HR⟩:=hrel;have zX:Hid (Ext w wr):=ae (cZ.out.trans' HU.out (fun j hj e=>by omega));by_cases hlt:k<L.length
  .obtain ⟨g,off,hga,_,hat⟩:=(cO.out.ext zX.out).at_ (by omega);subst hga;obtain⟨xa,xc,q0,q1,q2,aY⟩:=hat k hlt;rw[<-Nat.add_assoc] at q1 q2;obtain⟨z0,z1,z2,z2'⟩:=bz hlt;have hbd:=Lh (L.take k) 1100 (by rw[List.length_take];omega) (by rw[List.length_take];omega) (by omega);have htk:yO (L.take (k+1)) 1100=kH (tg L k) 80 (yO (L.take k) 1100):=by
    rw[<-Y4]
    congr 1
    rw[List.take_add_one]
    congr 1
    unfold tg;rw[List.getD_eq_getElem?_getD,List.getElem?_eq_getElem hlt];rfl
   have mF:=ae htk;obtain⟨x,hx⟩: ∃x,tg L k=x:=⟨_,rfl⟩
   rw[hx] at q0 q1 q2 aY mF;obtain⟨I,hI⟩: ∃I,yO (L.take k) 1100=I:=⟨_,rfl⟩
   rw[hI] at hbd HQ mF;have nM:=(uR wr).alloc (tO x xa xc);have fP:=ae nM;have hSW: ∀j,S j->j<w.heap.size:=jf.out;have HWK:=ae (acL x (tV x (.slice xa x.kids.length xc)) S w.heap.size (w.heap.size+1) (wr.alloc (tO x xa xc)) 80 I ⟨xa,xc,rfl,aY.ext nM⟩ (fun h=>Nat.lt_irrefl _ (hSW _ h)) (fun j hj=>ay (hSW j hj) (Nat.le_trans zX.out.size nM.size)) (nM.heap HQ.out (fun h=>h)) (af (nM.heap HR.out (fun h=>h)) 0 _ rfl) (by omega) (by decide) (by decide) (by omega) (by omega));have r0:=af (nM.heap HR.out (fun h=>h)) 0 (.func (.func 112) #[] #[.pointer (some ⟨w.heap.size,0,none⟩),.pointer (some ⟨w.heap.size+1,0,none⟩)]) rfl;have fE:=ae (ai wr (tO x xa xc));obtain⟨x0,x1,x2⟩:=ag fE.out;have ui:Hid (w.heap.size+2<=w1.heap.size):=HZ0;dsimp only[tV] at HWK;clear hat aY hx hI hbd htk nM hSW
   go_wp2_with fail
   refine HWK.out.mono ?_;rintro e w6 ⟨rfl,hw6,hq6⟩;have pI:Hid (aj (fun k=>k=w.heap.size) w1 w6):=ae (HU.out.trans ((fP.out.mono (fun _ _ h=>h.elim)).trans hw6));have HQ6:Hid (w6.heap[w.heap.size]?=some (.cells #[.int .i64 (yO (L.take (k+1)) 1100)] 3 (0,0))):=ae (by rw[mF.out];exact hq6);have Fp:=ae (hw6.heap (fP.out.heap HR.out (fun h=>h)) (by omega));clear hw6 hq6 HWK q0 q1 q2 r0 x0 x1 x2
   go_wp2_with fail
   go_roundg (L.length- (k+1))
   case measure=>omega
   case rel=>exact⟨k+1,by go_num,rfl,by omega,pI,HQ6,Fp⟩
  .obtain rfl:k=L.length:=by omega
   have z2:decide ((L.length:Int)< (L.length:Int))=false:=dF (by omega);have hq:=HQ.out;rw[List.take_length,HV.out] at hq;have c0:=af hq 0 (.int .i64 V) rfl;clear hq HV
   go_wp2_with fail
   go_ret;exact⟨rfl,zX.out⟩
theorem afO (t:Tm) (a:Option Addr) (cap:Nat) (w:World):Calls Tryz.prog 41 #[tV t (.slice a t.kids.length cap)] w fun e w'=>e= .returned (.bool (decide (t.name=ah)&&decide (t.sort=ah)&&decide (t.kids.length=0)))/\Ext w w':=by
 have HE:=ae ((uR w).alloc (tO t a cap));have hb:=ai w (tO t a cap);obtain⟨y0,y1,y2⟩:=ag hb;have s0:=o9 t.name;have s1:=o9 t.sort;have s2:((t.kids.length:Int)==0)=decide (t.kids.length=0):=by
  rw[Bool.eq_iff_iff,decide_eq_true_eq,beq_iff_eq];omega
 unfold tO at HE;generalize t.kids.length=m at*;generalize decide (t.name=ah)=d0 at*;generalize decide (t.sort=ah)=d1 at*;obtain⟨d2,hd2⟩: ∃b,decide (m=0)=b:=⟨_,rfl⟩
 rw[hd2] at s2⊢;clear hb hd2;dsimp only[tV]
 go_enter Tryz.func41,Tryz.ntmps41
 cases d0
 .go_wp2_with fail
  go_ret;exact⟨rfl,HE.out⟩
 cases d1
 .go_wp2_with fail
  go_ret;exact⟨rfl,HE.out⟩
 go_wp2_with fail
 go_ret;exact⟨by simp,HE.out⟩
theorem acM (t:Tm) (v:Value) (w:World) (hT:bC (fun k=>k<w.heap.size) w t v):
  Calls Tryz.prog 37 #[v] w fun e w'=>e= .returned (.bool (FI t))/\Ext w w':=by
 obtain⟨Z,hZ⟩: ∃Z,FI t=Z:=⟨_,rfl⟩
 rw[hZ];have iH:=ae hZ;have rX:=ae (fun W (hW:Ext w W)=>Ez t 1 1000 v _ W (hT.ext hW) (by decide) (by decide) (by decide));have dw:=ae (fun(hs:t.size<=1000000) W (hW:Ext w W)=>JE t v _ W (hT.ext hW) hs);obtain⟨a,cap,rfl,hTL⟩:=hT;have hE1:=((uR w).alloc (tO t a cap))
 have hE2:=hE1.alloc (tO t a cap);have HE2:=ae hE2;have nZ:=ae (AU [t] _ (fun k=>k< ((w.alloc (tO t a cap)).alloc (tO t a cap)).heap.size) _ (Iz (n:=w.heap.size+1) (alloc_at (w.alloc (tO t a cap)) (tO t a cap) (by simp)) (by simp) ((hTL.ext hE2).weaken (fun k hk=>ay hk hE2.size))) (fun k hk=>hk) (by simp));have HB1:=ae (ai w (tO t a cap));have HB2:=ae (ak (ai w (tO t a cap)) (tO t a cap));have hsf:=rY (nm:=ax) t;obtain⟨sm,hsm⟩: ∃s,small ax 1 1000 t=s:=⟨_,rfl⟩
 rw[hsm] at hsf rX;have CO:=ae hsf;obtain⟨x0,x1,x2⟩:=ag HB1.out;dsimp only[tV] at rX dw⊢;obtain⟨b1,hb1⟩: ∃b,pY [t]=b:=⟨_,rfl⟩
 have HB:=ae hb1;rw[hb1] at nZ;clear hTL hE1 hE2 hsf hsm hZ hb1
 go_enter Tryz.func37,Tryz.ntmps37
 go_wp2_with fail
 generalize (w.alloc (tO t a cap)).alloc (tO t a cap)=w1 at*;refine nZ.out.mono ?_;rintro e w3 ⟨rfl,hw3⟩;have aS:=ae (HE2.out.trans hw3);have HB3:=ae (hw3.heap HB2.out (fun h=>h));clear hw3 nZ HE2 HB2 HB1 x0 x1 x2;cases b1 with
 |true=>
  obtain rfl:Z=true:=by rw[<-iH.out];unfold FI;rw[HB.out];rfl
  go_wp2_with fail
  go_ret;exact⟨rfl,aS.out⟩
 |false=>
  obtain⟨x0,x1,x2⟩:=ag HB3.out
  go_wp2_with fail
  refine(rX.out _ aS.out).mono ?_;rintro e w4 ⟨rfl,hw4⟩;have bQ:=ae (aS.out.trans hw4);have HB4:=ae (hw4.heap HB3.out (fun h=>h));clear hw4 rX aS HB3 x0 x1 x2;by_cases hs:0<=sm
  .have t1:decide ((0:Int)<=sm)=true:=dT hs;have hf:formed ax t=true:=by rw[CO.out];exact t1
   have hsz:=(rJ HB.out)
   have uM:=ae (dw.out (by omega) _ bQ.out);have HZ2:Hid (Z=decide ((60:Int)< (t.size:Int))):=ae (by
    rw[<-iH.out];unfold FI;rw[HB.out,hf,Bool.false_or,Bool.true_and,Bool.eq_iff_iff,decide_eq_true_eq,decide_eq_true_eq];omega)
   obtain⟨x0,x1,x2⟩:=ag HB4.out;obtain⟨sz,hsz2⟩: ∃n,t.size=n:=⟨_,rfl⟩
   rw[hsz2] at uM HZ2;clear hf hsz hsz2 dw
   go_wp2_with fail
   refine uM.out.mono ?_;rintro e w5 ⟨rfl,hw5⟩;have dX:=ae (bQ.out.trans hw5);clear hw5 uM x0 x1 x2;obtain rfl:Z=decide ((60:Int)< (sz:Int)):=HZ2.out
   go_wp2_with fail
   go_ret;exact⟨by first|rfl|simp,dX.out⟩
  .have t1:decide ((0:Int)<=sm)=false:=dF hs;obtain rfl:Z=false:=by rw[<-iH.out];unfold FI;rw[HB.out,CO.out,t1];rfl
   go_wp2_with fail
   go_ret;exact⟨rfl,bQ.out⟩
end
theorem eqV (a b c d:By) (w:World):(Op.equalIn 10000 116 (.agg #[.string a,.string b]) (.agg #[.string c,.string d])).run Tryz.prog w= .ok (decide ((a,b)=(c,d))) w:=by
 have u9:=Tryz.underlying9;have hS:Tryz.prog.underlying 116=some (.struct (Tryz.prog.fieldsOf 116)):=by kernel_rfl
 have hp:Tryz.prog.stoodInHeld 116=false:=by kernel_rfl
 rw[show(10000:Nat)=9999+1 from rfl,run_equalIn_agg w 9999 116 _ _ hS hp];simp only[Program.fieldsOf,Tryz.underlying116];go_simp;have tl: ∀x y:By,x.toList=y.toList<->x=y:=fun x y=>⟨fun e=>jX (by rw[Lib.toList_data,Lib.toList_data] at e;exact e),fun e=>by rw[e]⟩
 by_cases h1:a=c<;>by_cases h2:b=d<;>simp[h1,h2,tl]
def jZ (f:Vd) (l:List Vd):Bool:=l.any fun g=>decide (g=f)
theorem Jz {f:Vd} {l:List Vd}:jZ f l=true<->f∈l:=by
 unfold jZ;rw[List.any_eq_true];exact⟨fun⟨x,h1,h2⟩=>by rw[<-of_decide_eq_true h2];exact h1,fun h=>⟨f,h,dT rfl⟩⟩
theorem ael {f:Vd} {l:List Vd} (h:f∉l):jZ f l=false:=by
 cases e:jZ f l
 .rfl
 .exact absurd (Jz.1 e) h
theorem aem (l:List Vd) (f:Vd) (v:Value) (S:Nat->Prop) (w:World) (hR:bU S w v l) (hl:l.length<=1000000):
  Calls Tryz.prog 237 #[v,.agg #[.string f.1,.string f.2]] w fun e w'=> ∃r:Int,e= .returned (.int .i64 r)/\decide (0<=r)=jZ f l/\Ext w w':=by
 obtain⟨a,cap,rfl⟩:=hR.shape;have HR:=ae hR;have HL:=ae hl;have cZ:=ae ((uR w).alloc (.cells #[.string f.1,.string f.2] 116));have HB0:=ae (ai w (.cells #[.string f.1,.string f.2] 116));obtain⟨c0,c1⟩:=aP HB0.out;have dR:=ae (fun a b W=>eqV f.1 f.2 a b W);clear hR hl
 go_enter Tryz.func237,Tryz.ntmps237
 go_wp2_with fail
 clear c0 c1;generalize w.alloc (.cells #[.string f.1,.string f.2] 116)=w2 at*
 go_loopg [8] l.length (fun gk iv wr=> ∃k:Nat,iv= .int .i64 (k:Int)/\gk=l.length-k/\k<=l.length/\Hid (Ext w2 wr)/\Hid (f∉l.take k))
 case atStart=>exact⟨0,rfl,rfl,Nat.zero_le _,ae (aj.refl _ _),ae (by simp)⟩
 case round=>
  obtain⟨k,rfl,rfl,hk,HE,HM⟩:=hrel;have lQ:=ae (HE.out.heap HB0.out (fun h=>h));by_cases hlt:k<l.length
  .obtain ⟨g,off,hga,hat⟩:=((HR.out.ext cZ.out).ext HE.out).at_ (by omega);subst hga;obtain⟨q0,q1⟩:=hat k hlt;obtain⟨c0,c1⟩:=aP lQ.out;obtain⟨z0,z1,z2,z2'⟩:=bz hlt;have hmem:vg l k∈l:=by unfold vg;rw[List.getD_eq_getElem?_getD,List.getElem?_eq_getElem hlt];exact List.getElem_mem hlt
   have HN:Hid (f≠vg l k->f∉l.take (k+1)):=ae (fun h=>by
    rw[List.take_add_one,List.mem_append];rintro(h1|h1)
    .exact HM.out h1
    .apply h;unfold vg;rw[List.getElem?_eq_getElem hlt] at h1;rw[List.getD_eq_getElem?_getD,List.getElem?_eq_getElem hlt];simpa using h1)
   have HY:Hid (f=vg l k->jZ f l=true):=ae (fun h=>by rw[h];exact Jz.2 hmem);have heq:=fun W=>dR.out (vg l k).1 (vg l k).2 W;have mr:=HL.out;obtain⟨x,hx⟩: ∃x,vg l k=x:=⟨_,rfl⟩
   rw[hx] at q0 q1 HN HY heq;have h3:decide ((f.1,f.2)=(x.1,x.2))=decide (f=x):=rfl;rw[h3] at heq;clear hat hmem hx HM h3;by_cases hfx:f=x
   .rw [dT hfx] at heq;have qh:=ae (HY.out hfx);clear HY HN hfx
    go_wp2_with fail
    go_quiet (fail)
    go_wp2_with fail
    all_goals go_ret
    all_goals exact⟨_,rfl,by rw[qh.out];exact dT z0,cZ.out.trans (by first|exact HE.out|exact HE.out.drewN' _)⟩
   .rw [dF hfx] at heq;have fV:=ae (HN.out hfx);clear HY HN hfx
    go_wp2_with fail
    go_quiet (fail)
    go_wp2_with fail
    go_roundg (l.length- (k+1))
    case measure=>omega
    case rel=>exact⟨k+1,by go_num,rfl,by omega,ae (by first|exact HE.out|exact HE.out.drewN' _),fV⟩
  .obtain rfl:k=l.length:=by omega
   have z2:decide ((l.length:Int)< (l.length:Int))=false:=dF (by omega);have jr:Hid (jZ f l=false):=ae (ael (by have:=HM.out;rw[List.take_length] at this;exact this));clear HM
   go_wp2_with fail
   go_ret;exact⟨_,rfl,by rw[jr.out];rfl,cZ.out.trans HE.out⟩
theorem aen (l:List Vd) (f:Vd) (v:Value) (S:Nat->Prop) (w:World) (hR:bU S w v l) (hl:l.length<=1000000):
  Calls Tryz.prog 215 #[v,.agg #[.string f.1,.string f.2]] w fun e w'=>e= .returned (.bool (jZ f l))/\Ext w w':=by
 have HI:=ae (fun W (hW:Ext w W)=>aem l f v S W (hR.ext hW) hl);obtain⟨a,cap,rfl⟩:=hR.shape;have cZ:=ae ((uR w).alloc (.cells #[.string f.1,.string f.2] 116));have hb:=ai w (.cells #[.string f.1,.string f.2] 116);obtain⟨c0,c1⟩:=aP hb;clear hR hl hb
 go_enter Tryz.func215,Tryz.ntmps215
 go_wp2_with fail
 refine(HI.out _ cZ.out).mono ?_;rintro e w4 ⟨r,rfl,hr,hw4⟩;have H4:=ae (cZ.out.trans hw4);have HRR:=ae hr;clear hw4 hr c0 c1
 go_wp2_with fail
 go_ret;rw[<-HRR.out];exact⟨rfl,H4.out⟩
theorem aiS (l:List Vd) (f:Vd) (lv:Value) (S:Nat->Prop) (bb:Nat) (w:World) (hR:bU S w lv l) (hc:w.cell? ⟨bb,0,none⟩=some lv) (hl:l.length<=1000000):
  Calls Tryz.prog 214 #[.agg #[.string f.1,.string f.2],.pointer (some ⟨bb,0,none⟩)] w fun e w'=>e= .returned (.bool (!jZ f l))/\Ext w w':=by
 have HI:=ae (fun W (hW:Ext w W)=>aen l f lv S W (hR.ext hW) hl);obtain⟨a,cap,rfl⟩:=hR.shape;have cZ:=ae ((uR w).alloc (.cells #[.string f.1,.string f.2] 116));have hb:=ai w (.cells #[.string f.1,.string f.2] 116);obtain⟨c0,c1⟩:=aP hb;have d0:=cZ.out.cell hc (fun h=>h);obtain⟨B,hB⟩: ∃B,jZ f l=B:=⟨_,rfl⟩
 rw[hB] at HI⊢;clear hR hl hb hc hB
 go_enter Tryz.func214,Tryz.ntmps214
 go_wp2_with fail
 refine(HI.out _ cZ.out).mono ?_;rintro e w4 ⟨rfl,hw4⟩;have H4:=ae (cZ.out.trans hw4);clear hw4 c0 c1 d0
 go_wp2_with fail
 go_ret;exact⟨rfl,H4.out⟩
theorem acr (l m:List Vd) (lv v:Value) (S T:Nat->Prop) (bb:Nat) (w:World) (hL:bU S w lv l) (hc:w.cell? ⟨bb,0,none⟩=some lv) (hR:bU T w v m) (hl:l.length<=1000000) (hm:m.length<=1000000):
  Calls Tryz.prog 236 #[v,.func (.func 214) #[] #[.pointer (some ⟨bb,0,none⟩)]] w fun e w'=> ∃r:Int,e= .returned (.int .i64 r)/\decide (0<=r)=(m.any fun f=>!jZ f l)/\Ext w w':=by
 obtain⟨a,cap,rfl⟩:=hR.shape;have HR:=ae hR;have HM0:=ae hm;have HF:=ae (fun f W (hW:Ext w W)=>aiS l f lv S bb W (hL.ext hW) (hW.cell hc (fun h=>h)) hl);obtain⟨p,hp⟩: ∃p:Vd->Bool,(fun f=>!jZ f l)=p:=⟨_,rfl⟩
 have hpf: ∀f,(!jZ f l)=p f:=fun f=>by rw[<-hp]
 have HF:Hid (∀f W,Ext w W->Calls Tryz.prog 214 #[.agg #[.string f.1,.string f.2],.pointer (some ⟨bb,0,none⟩)] W fun e w'=>e= .returned (.bool (p f))/\Ext W w'):=ae (fun f W hW=>by rw[<-hpf f];exact HF.out f W hW);rw[hp];clear hR hL hc hl hm hp hpf
 go_enter Tryz.func236,Tryz.ntmps236
 go_wp2_with fail
 go_loopg [8] m.length (fun gk iv wr=> ∃k:Nat,iv= .int .i64 (k:Int)/\gk=m.length-k/\k<=m.length/\Hid (Ext w wr)/\Hid ((m.take k).any p=false))
 case atStart=>exact⟨0,rfl,rfl,Nat.zero_le _,ae (aj.refl _ _),ae rfl⟩
 case round=>
  obtain⟨k,rfl,rfl,hk,HE,HM⟩:=hrel;by_cases hlt:k<m.length
  .obtain ⟨g,off,hga,hat⟩:=(HR.out.ext HE.out).at_ (by omega);subst hga;obtain⟨q0,q1⟩:=hat k hlt;obtain⟨z0,z1,z2,z2'⟩:=bz hlt;have hmem:vg m k∈m:=by unfold vg;rw[List.getD_eq_getElem?_getD,List.getElem?_eq_getElem hlt];exact List.getElem_mem hlt
   have hsn:m.take (k+1)=m.take k++[vg m k]:=by
    rw[List.take_add_one];unfold vg;rw[List.getD_eq_getElem?_getD,List.getElem?_eq_getElem hlt];rfl
   have HN:Hid (p (vg m k)=false->(m.take (k+1)).any p=false):=ae (fun h=>by
    rw[hsn,List.any_append,HM.out,List.any_cons,List.any_nil,h];rfl)
   have HY:Hid (p (vg m k)=true->m.any p=true):=ae (fun h=>List.any_eq_true.2 ⟨_,hmem,h⟩);have bI:=ae (HF.out (vg m k) wr HE.out);have hlM:=HM0.out;obtain⟨x,hx⟩: ∃x,vg m k=x:=⟨_,rfl⟩
   rw[hx] at q0 q1 HN HY bI;obtain⟨b,hb⟩: ∃b,p x=b:=⟨_,rfl⟩
   rw[hb] at HN HY bI;clear hat hmem hx HM hsn hb
   go_wp2_with fail
   refine bI.out.mono ?_;rintro e w4 ⟨rfl,hw4⟩;have H4:=ae (HE.out.trans hw4);clear hw4 q0 q1 bI HE;cases b
   .have fV:=ae (HN.out rfl);clear HN HY
    go_wp2_with fail
    go_roundg (m.length- (k+1))
    case measure=>omega
    case rel=>exact⟨k+1,by go_num,rfl,by omega,H4,fV⟩
   .have qh:=ae (HY.out rfl);clear HN HY
    go_wp2_with fail
    go_ret;exact⟨_,rfl,by rw[qh.out];exact dT z0,H4.out⟩
  .obtain rfl:k=m.length:=by omega
   have z2:decide ((m.length:Int)< (m.length:Int))=false:=dF (by omega);have jr:Hid (m.any p=false):=ae (by have:=HM.out;rw[List.take_length] at this;exact this);clear HM
   go_wp2_with fail
   go_ret;exact⟨_,rfl,by rw[jr.out];rfl,HE.out⟩
theorem acd (l m:List Vd) (lv v:Value) (S T:Nat->Prop) (bb:Nat) (w:World) (hL:bU S w lv l) (hc:w.cell? ⟨bb,0,none⟩=some lv) (hR:bU T w v m) (hl:l.length<=1000000) (hm:m.length<=1000000):
  Calls Tryz.prog 213 #[v,.func (.func 214) #[] #[.pointer (some ⟨bb,0,none⟩)]] w fun e w'=>e= .returned (.bool (m.any fun f=>!jZ f l))/\Ext w w':=by
 have HI:=ae (acr l m lv v S T bb w hL hc hR hl hm);obtain⟨B,hB⟩: ∃B,(m.any fun f=>!jZ f l)=B:=⟨_,rfl⟩
 rw[hB] at HI⊢;clear hL hc hR hl hm hB
 go_enter Tryz.func213,Tryz.ntmps213
 go_wp2_with fail
 refine HI.out.mono ?_;rintro e w4 ⟨r,rfl,hr,hw4⟩;have H4:=ae hw4;have HRR:=ae hr;clear hw4 hr
 go_wp2_with fail
 go_ret;rw[<-HRR.out];exact⟨rfl,H4.out⟩
def qg (r:Rl):Bool:=wf ax r.1&&wf ax r.2&&decide (r.1.sort=ah)&&!((qy r.2).1.any fun f=>!jZ f (qy r.1).1)
theorem J_ (t:Tm):(qy t).1.length<=t.size:=by
 unfold qy;split
 .have h1:=Cm (vl (aV t)) [];have h2:=U_ t;simp only[List.length_nil] at h1;show(bZ [] (vl (aV t))).1.length<=_;omega
 .simp
theorem acb (x y:Tm) (xa ya:Option Addr) (xc yc:Nat) (w:World) (hx:aA (fun k=>k<w.heap.size) w x.kids (.slice xa x.kids.length xc)) (hy:aA (fun k=>k<w.heap.size) w y.kids (.slice ya y.kids.length yc)) (htab:bT w) (hsx:x.size<=100000) (hsy:y.size<=100000):
  Calls Tryz.prog 170 #[.agg #[.string x.name,.string x.sort,.slice xa x.kids.length xc,.string y.name,.string y.sort,.slice ya y.kids.length yc]] w fun e w'=>e= .returned (.bool (qg (x,y)))/\Ext w w':=by
 have HX:=ae (fun W (hW:Ext w W)=>wZ x _ W (aC htab hW) ⟨xa,xc,rfl,(hx.ext hW).weaken (fun k hk=>ay hk hW.size)⟩ (by omega));have HY:=ae (fun W (hW:Ext w W)=>wZ y _ W (aC htab hW) ⟨ya,yc,rfl,(hy.ext hW).weaken (fun k hk=>ay hk hW.size)⟩ (by omega));have jw:=ae (fun W (hW:Ext w W)=>qY x _ W (aC htab hW) ⟨xa,xc,rfl,(hx.ext hW).weaken (fun k hk=>ay hk hW.size)⟩ (by omega));have G9:=ae (fun W (hW:Ext w W)=>qY y _ W (aC htab hW) ⟨ya,yc,rfl,(hy.ext hW).weaken (fun k hk=>ay hk hW.size)⟩ (by omega));have HLX:Hid ((qy x).1.length<=1000000):=ae (by have:=J_ x;omega);have HLY:Hid ((qy y).1.length<=1000000):=ae (by have:=J_ y;omega);have HZ:Hid (Ext w (w.alloc (.cells #[.string x.name,.string x.sort,.slice xa x.kids.length xc,.string y.name,.string y.sort,.slice ya y.kids.length yc] 146))):=ae ((uR w).alloc _);have HB:=ae (ai w (.cells #[.string x.name,.string x.sort,.slice xa x.kids.length xc,.string y.name,.string y.sort,.slice ya y.kids.length yc] 146));unfold qg;dsimp only[tV] at HX HY jw G9⊢;obtain⟨A,hA⟩: ∃b,wf ax x=b:=⟨_,rfl⟩
 obtain⟨B,hB⟩: ∃b,wf ax y=b:=⟨_,rfl⟩
 obtain⟨VX,hVX⟩: ∃b,qy x=b:=⟨_,rfl⟩
 obtain⟨VY,hVY⟩: ∃b,qy y=b:=⟨_,rfl⟩
 rw[hA] at HX⊢;rw[hB] at HY⊢;rw[hVX] at jw HLX⊢;rw[hVY] at G9 HLY⊢;obtain⟨R,hR⟩: ∃b,(A&&B&&decide (x.sort=ah)&&!(VY.1.any fun f=>!jZ f VX.1))=b:=⟨_,rfl⟩
 rw[hR];have HR:=ae hR;obtain⟨q0,q1,q2,q3,q4,q5⟩:=eG HB.out;clear hA hB hVX hVY hR hx hy htab hsx hsy
 go_enter Tryz.func170,Tryz.ntmps170
 go_wp2_with fail
 refine(HX.out _ HZ.out).mono ?_;rintro e w4 ⟨rfl,hw4⟩;have H4:=ae (HZ.out.trans hw4);have HB4:=ae (hw4.heap HB.out (fun h=>h));clear hw4 q0 q1 q2 q3 q4 q5 HX HB;obtain⟨q0,q1,q2,q3,q4,q5⟩:=eG HB4.out;cases A
 .go_wp2_with fail
  all_goals go_ret
  all_goals (first|exact⟨by rw[<-HR.out];rfl,H4.out⟩|exact⟨by rw[<-HR.out];simp,H4.out⟩)
 .go_wp2_with fail
  refine(HY.out _ H4.out).mono ?_;rintro e w5 ⟨rfl,hw5⟩;have H5:=ae (H4.out.trans hw5);have fE:=ae (hw5.heap HB4.out (fun h=>h));clear hw5 q0 q1 q2 q3 q4 q5 HY HB4;obtain⟨q0,q1,q2,q3,q4,q5⟩:=eG fE.out;cases B
  .go_wp2_with fail
   all_goals go_ret
   all_goals (first|exact⟨by rw[<-HR.out];rfl,H5.out⟩|exact⟨by rw[<-HR.out];simp,H5.out⟩)
  .by_cases hs0:x.sort.size=0
   .have hse:=eU _ hs0;have adx:decide (x.sort=ah)=true:=dT hse;have HR2:Hid ((!(VY.1.any fun f=>!jZ f VX.1))=R):=ae (by rw[<-HR.out,adx];simp);rw[hse] at q1;rw[hse] at jw fE;clear HR adx
    go_wp2_with fail
    refine(jw.out _ H5.out).mono ?_;rintro e w6 ⟨r6,rfl,hF6,hw6⟩;obtain⟨fa,fc,rfl⟩:=bU.shape hF6;have hQ:=(uR w6).alloc (.cells #[.slice fa VX.1.length fc] 111);have H7:=ae ((H5.out.trans hw6).trans hQ);have eP:=ae ((hw6.trans hQ).heap fE.out (fun h=>h));have HF7:=ae (hF6.ext hQ);have MP:=ae (ai w6 (.cells #[.slice fa VX.1.length fc] 111));clear q0 q1 q2 q3 q4 q5 jw fE hF6 hw6 hQ;obtain⟨n6,Ko⟩: ∃n,w6.heap.size=n:=⟨_,rfl⟩
    rw[Ko] at MP;obtain⟨q0,q1,q2,q3,q4,q5⟩:=eG eP.out
    go_wp2_with fail
    try rw[Ko]
    clear Ko;generalize w6.alloc (.cells #[.slice fa VX.1.length fc] 111)=w7 at*;refine(G9.out _ H7.out).mono ?_;rintro e w8 ⟨r8,rfl,hF8,hw8⟩;obtain⟨ga,gc,rfl⟩:=bU.shape hF8;have H8:=ae (H7.out.trans hw8);have QA:=ae (acd VX.1 VY.1 (.slice fa VX.1.length fc) (.slice ga VY.1.length gc) _ _ n6 w8 (HF7.out.ext hw8) (af (hw8.heap MP.out (fun h=>h)) 0 _ rfl) hF8 HLX.out HLY.out);obtain⟨Z,hZ⟩: ∃Z,(VY.1.any fun f=>!jZ f VX.1)=Z:=⟨_,rfl⟩
    rw[hZ] at QA HR2;clear q0 q1 q2 q3 q4 q5 G9 eP hF8 hw8 hZ
    go_wp2_with fail
    refine QA.out.mono ?_;rintro e w9 ⟨rfl,kF⟩;have H9:=ae (H8.out.trans kF);clear kF QA
    go_wp2_with fail
    go_ret;exact⟨by rw[<-HR2.out];rfl,H9.out⟩
   .have hne:x.sort≠ah:=fun e=>hs0 (by rw[e];rfl);obtain⟨e1,e2,e3,e4⟩:=dJ x.sort (Nat.pos_of_ne_zero hs0);have hne2:decide (x.sort=ah)=false:=dF hne;have HR2:Hid (R=false):=ae (by rw[<-HR.out,hne2];simp);clear HR hne2 hne hs0
    go_wp2_with fail
    all_goals go_ret
    all_goals (rw[HR2.out];exact⟨rfl,H5.out⟩)
theorem Yb (x y:Tm) (xa ya:Option Addr) (xc yc:Nat) (w:World) (hx:aA (fun k=>k<w.heap.size) w x.kids (.slice xa x.kids.length xc)) (hy:aA (fun k=>k<w.heap.size) w y.kids (.slice ya y.kids.length yc)) (htab:bT w) (hsx:x.size<=100000) (hsy:y.size<=100000):
  Calls Tryz.prog 169 #[.agg #[.string x.name,.string x.sort,.slice xa x.kids.length xc,.string y.name,.string y.sort,.slice ya y.kids.length yc]] w fun e w'=>e= .returned (.bool (!qg (x,y)))/\Ext w w':=by
 have HX:=ae (fun W (hW:Ext w W)=>acb x y xa ya xc yc W ((hx.ext hW).weaken (fun k hk=>ay hk hW.size)) ((hy.ext hW).weaken (fun k hk=>ay hk hW.size)) (aC htab hW) hsx hsy);have HZ:Hid (Ext w (w.alloc (.cells #[.string x.name,.string x.sort,.slice xa x.kids.length xc,.string y.name,.string y.sort,.slice ya y.kids.length yc] 146))):=ae ((uR w).alloc _);have HB:=ae (ai w (.cells #[.string x.name,.string x.sort,.slice xa x.kids.length xc,.string y.name,.string y.sort,.slice ya y.kids.length yc] 146));obtain⟨R,hR⟩: ∃b,qg (x,y)=b:=⟨_,rfl⟩
 rw[hR] at HX⊢;obtain⟨q0,q1,q2,q3,q4,q5⟩:=eG HB.out;clear hx hy htab hsx hsy hR
 go_enter Tryz.func169,Tryz.ntmps169
 go_wp2_with fail
 refine(HX.out _ HZ.out).mono ?_;rintro e w4 ⟨rfl,hw4⟩;have H4:=ae (HZ.out.trans hw4);clear hw4 q0 q1 q2 q3 q4 q5 HX HB
 go_wp2_with fail
 go_ret;exact⟨rfl,H4.out⟩
theorem Yc (p:Rl->Bool) (J:Nat->World->Prop) (hJ: ∀k W W',J k W->Ext W W'->J k W') (L:List Rl) (v:Value) (S:Nat->Prop) (w:World) (hw:J 0 w) (hl:L.length<=1000000)
  (hR: ∀k W,J k W->jc S W L v) (hf: ∀k,k<L.length->∀xa xc ya yc W,J k W->aA S W (rg L k).1.kids (.slice xa (rg L k).1.kids.length xc)->aA S W (rg L k).2.kids (.slice ya (rg L k).2.kids.length yc)->Calls Tryz.prog 169 #[.agg #[.string (rg L k).1.name,.string (rg L k).1.sort,.slice xa (rg L k).1.kids.length xc,.string (rg L k).2.name,.string (rg L k).2.sort,.slice ya (rg L k).2.kids.length yc]] W fun e W'=>e= .returned (.bool (p (rg L k)))/\J (k+1) W'):
  Calls Tryz.prog 165 #[v,.func (.func 169) #[] #[]] w fun e w'=>e= .returned (.int .i64 (if L.findIdx p<L.length then(L.findIdx p:Int) else -1))/\∃k,k<=L.length/\J k w':=by
 obtain⟨a,cap,rfl⟩:=(hR 0 w hw).shape;have HW:=ae hw;have HR:=ae hR;have HF:=ae hf;obtain⟨X,hX⟩: ∃X:Int,(if L.findIdx p<L.length then(L.findIdx p:Int) else -1)=X:=⟨_,rfl⟩
 rw[hX];have HX:=ae hX;clear hw hR hf hJ hX
 go_enter Tryz.func165,Tryz.ntmps165
 go_wp2_with fail
 go_loopg [8] L.length (fun gk iv wr=> ∃k:Nat,iv= .int .i64 (k:Int)/\gk=L.length-k/\k<=L.length/\Hid (J k wr)/\Hid (∀j,j<k->p (rg L j)=false))
 case atStart=>exact⟨0,rfl,rfl,Nat.zero_le _,HW,ae (fun j h=>absurd h (Nat.not_lt_zero _))⟩
 case round=>
  obtain⟨k,rfl,rfl,hk,HK,HM⟩:=hrel;have hgt: ∀j,(h:j<L.length)->rg L j=L[j]:=fun j h=>by unfold rg;rw[List.getD_eq_getElem?_getD,List.getElem?_eq_getElem h];rfl
  by_cases hlt:k<L.length
  .obtain ⟨g,off,hga,_,hat⟩:=(HR.out k wr HK.out).at_ (by omega);subst hga;obtain⟨xa,xc,ya,yc,q0,q1,q2,q3,q4,q5,hx,hy⟩:=hat k hlt;obtain⟨z0,z1,z2,z2'⟩:=bz hlt;have bI:=ae (HF.out k hlt _ _ _ _ wr HK.out hx hy);have HN:Hid (p (rg L k)=false->∀j,j<k+1->p (rg L j)=false):=ae (fun h j hj=>by
    rcases Nat.lt_succ_iff_lt_or_eq.1 hj with h5|h5
    .exact HM.out j h5
    .rw [h5];exact h)
   have HY:Hid (p (rg L k)=true->L.findIdx p=k):=ae (fun h=>by
    rcases Nat.lt_trichotomy (L.findIdx p) k with e|e|e
    .have h1:L.findIdx p<L.length:=by omega
     have h2:=List.findIdx_getElem (w:=h1);rw[<-hgt _ h1,HM.out _ e] at h2;cases h2
    .exact e
    .have h2:=List.not_of_lt_findIdx e;rw[<-hgt _ hlt] at h2;rw[h2] at h;cases h)
   obtain⟨⟨x,y⟩,hxy⟩: ∃r,rg L k=r:=⟨_,rfl⟩
   rw[hxy] at q0 q1 q2 q3 q4 q5 bI HN HY;dsimp only at q0 q1 q2 q3 q4 q5 bI HN HY;obtain⟨b,hb⟩: ∃b,p (x,y)=b:=⟨_,rfl⟩
   rw[hb] at bI HN HY;clear hat hx hy hxy hb HM hgt
   go_wp2_with fail
   refine bI.out.mono ?_;rintro e w4 ⟨rfl,hw4⟩;have H4:=ae hw4;clear hw4 q0 q1 q2 q3 q4 q5 bI HK;cases b
   .have fV:=ae (HN.out rfl);clear HN HY
    go_wp2_with fail
    go_roundg (L.length- (k+1))
    case measure=>omega
    case rel=>exact⟨k+1,by go_num,rfl,by omega,H4,fV⟩
   .have qh:=ae (HY.out rfl);clear HN HY
    go_wp2_with fail
    go_ret;exact⟨by rw[<-HX.out,qh.out,if_pos hlt];rfl,k+1,by omega,H4.out⟩
  .obtain rfl:k=L.length:=by omega
   have z2:decide ((L.length:Int)< (L.length:Int))=false:=dF (by omega);have HV:Hid (¬L.findIdx p<L.length):=ae (fun h=>by
    have h2:=List.findIdx_getElem (w:=h);rw[<-hgt _ h,HM.out _ h] at h2;cases h2)
   clear hgt
   go_wp2_with fail
   go_ret;exact⟨by rw[<-HX.out,if_neg HV.out];rfl,L.length,Nat.le_refl _,HK.out⟩
theorem Yd (p:Rl->Bool) (J:Nat->World->Prop) (hJ: ∀k W W',J k W->Ext W W'->J k W') (L:List Rl) (v:Value) (S:Nat->Prop) (w:World) (hw:J 0 w) (hl:L.length<=1000000)
  (hR: ∀k W,J k W->jc S W L v) (hf: ∀k,k<L.length->∀xa xc ya yc W,J k W->aA S W (rg L k).1.kids (.slice xa (rg L k).1.kids.length xc)->aA S W (rg L k).2.kids (.slice ya (rg L k).2.kids.length yc)->Calls Tryz.prog 169 #[.agg #[.string (rg L k).1.name,.string (rg L k).1.sort,.slice xa (rg L k).1.kids.length xc,.string (rg L k).2.name,.string (rg L k).2.sort,.slice ya (rg L k).2.kids.length yc]] W fun e W'=>e= .returned (.bool (p (rg L k)))/\J (k+1) W'):
  Calls Tryz.prog 106 #[v,.func (.func 169) #[] #[]] w fun e w'=>e= .returned (.bool (L.any p))/\∃k,k<=L.length/\J k w':=by
 have HI:=ae (Yc p J hJ L v S w hw hl hR hf);have HV:Hid (decide (L.findIdx p<L.length)=L.any p):=ae (by rw[Bool.eq_iff_iff,decide_eq_true_eq,List.findIdx_lt_length,List.any_eq_true]);clear hw hR hf hJ;by_cases h:L.findIdx p<L.length
 .have hv:L.any p=true:=by rw[<-HV.out];exact dT h
  rw[hv];rw[if_pos h] at HI;have z0:(0:Int)<=((L.findIdx p:Nat):Int):=by omega
  generalize L.findIdx p=X at*;clear h hv
  go_enter Tryz.func106,Tryz.ntmps106
  go_wp2_with fail
  refine HI.out.mono ?_;rintro e w4 ⟨rfl,k,hk,hw4⟩;have H4:=ae hw4;clear hw4
  go_wp2_with fail
  go_ret;exact⟨by first|rfl|simp,k,hk,H4.out⟩
 .have hv:L.any p=false:=by rw[<-HV.out];exact dF h
  rw[hv];rw[if_neg h] at HI;clear h hv HV
  go_enter Tryz.func106,Tryz.ntmps106
  go_wp2_with fail
  refine HI.out.mono ?_;rintro e w4 ⟨rfl,k,hk,hw4⟩;have H4:=ae hw4;clear hw4
  go_wp2_with fail
  go_ret;exact⟨by first|rfl|simp,k,hk,H4.out⟩
theorem ace (L:List Rl) (v:Value) (w:World) (hR:jc (fun k=>k<w.heap.size) w L v) (htab:bT w) (hl:L.length<=1000000) (hs: ∀r∈L,r.1.size<=100000/\r.2.size<=100000):Calls Tryz.prog 106 #[v,.func (.func 169) #[] #[]] w fun e w'=>e= .returned (.bool (L.any fun r=>!qg r))/\Ext w w':=
 (Yd (fun r=>!qg r) (fun _ W=>Ext w W) (fun _ _ _ h h2=>h.trans h2) L v (fun k=>k<w.heap.size) w (aj.refl _ _) hl (fun k W h=>hR.ext h) (fun k hk xa xc ya yc W h hx hy=>(Yb (rg L k).1 (rg L k).2 xa ya xc yc W (hx.weaken (fun j hj=>ay hj h.size)) (hy.weaken (fun j hj=>ay hj h.size)) (aC htab h) (hs _ (oD hk)).1 (hs _ (oD hk)).2).mono fun e W' ⟨h1,h2⟩=>⟨h1,h.trans h2⟩)).mono fun e w' ⟨h1,k,_,h2⟩=>⟨h1,h2⟩
def bY (l:List Rl):Bool:=decide (l.length<=100)&&!(l.any fun r=>!qg r)
theorem Ew (L:List Rl) (v:Value) (w:World) (hR:jc (fun k=>k<w.heap.size) w L v) (htab:bT w) (hl:L.length<=1000000) (hs: ∀r∈L,r.1.size<=100000/\r.2.size<=100000):Calls Tryz.prog 115 #[v] w fun e w'=>e= .returned (.bool (bY L))/\Ext w w':=by
 have HC:=ae (ace L v w hR htab hl hs);obtain⟨a,c,rfl⟩:=hR.shape;unfold bY;obtain⟨Z,hZ⟩: ∃Z,(L.any fun r=>!qg r)=Z:=⟨_,rfl⟩
 rw[hZ] at HC⊢;clear hR htab hl hs hZ;by_cases h:L.length<=100
 .have y1:(L.length:Int)<=100:=by omega
  have y1':decide ((L.length:Int)<=100)=true:=dT y1;rw[dT h,Bool.true_and];clear h
  go_enter Tryz.func115,Tryz.ntmps115
  go_wp2_with fail
  refine HC.out.mono ?_;rintro e w4 ⟨rfl,hw4⟩;have H4:=ae hw4;clear hw4 HC
  go_wp2_with fail
  go_ret;exact⟨rfl,H4.out⟩
 .have y1: ¬(L.length:Int)<=100:=by omega
  have y1':decide ((L.length:Int)<=100)=false:=dF y1;rw[dF h,Bool.false_and];clear h HC
  go_enter Tryz.func115,Tryz.ntmps115
  go_wp2_with fail
  go_ret;exact⟨rfl,aj.refl _ _⟩
def Aq (l:List Rl) (t:Tm):Tm×(Nat×List Nat)×Int:=match jy l t with
 |none=>(bP,(0,[]),12)
 |some x=>if(gK t x.2.1 x.2.2).2=0 then((gK t x.2.1 x.2.2).1,(x.1,x.2.1),0) else(bP,(0,[]),(gK t x.2.1 x.2.2).2)
def o8 (n0:Nat) (F:Tm×(Nat×List Nat)×Int) (e:Ending) (w':World):Prop:= ∃r pv,e= .returned (.tuple #[tV F.1 r,.agg #[.int .i64 (F.2.1.1:Int),pv],.int .i64 F.2.2])/\aA (fun k=>n0<=k/\k<w'.heap.size) w' F.1.kids r/\az (fun k=>n0<=k/\k<w'.heap.size) w' 1 pv F.2.1.2.length (F.2.1.2.map (fun i:Nat=>Value.int .i64 (i:Int)))
theorem o8.mk {n0:Nat} {F:Tm×(Nat×List Nat)×Int} {e:Ending} {w':World} (r pv:Value) (h1:e= .returned (.tuple #[tV F.1 r,.agg #[.int .i64 (F.2.1.1:Int),pv],.int .i64 F.2.2])) (h2:aA (fun k=>n0<=k/\k<w'.heap.size) w' F.1.kids r) (h3:az (fun k=>n0<=k/\k<w'.heap.size) w' 1 pv F.2.1.2.length (F.2.1.2.map (fun i:Nat=>Value.int .i64 (i:Int)))):o8 n0 F e w':=⟨r,pv,h1,h2,h3⟩
theorem o8.zero {n0:Nat} {F:Tm×(Nat×List Nat)×Int} {e:Ending} {w':World} {c:Int} (hF:F=(bP,(0,[]),c)) (h:e= .returned (.tuple #[.agg #[.string ⟨#[]⟩,.string ⟨#[]⟩,.slice none 0 0],.agg #[.int .i64 0,.slice none 0 0],.int .i64 c])):o8 n0 F e w':=by
 subst hF;exact⟨_,_,h,aA.nil _ _,az.nil _ _ _⟩
theorem adA (l:List Rl) (t:Tm) (lv v:Value) (w:World) (hL:jc (fun k=>k<w.heap.size) w l lv) (hT:bC (fun k=>k<w.heap.size) w t v) (htab:bT w) (hll:l.length<=1000000) (hls: ∀r∈l,r.1.size<=100000/\r.2.size<=100000) (hsz:t.size<=100000) (hsn: ∃N,(∀r∈l,r.2.size<=N)/\N*t.size<=100000):
  Calls Tryz.prog 126 #[lv,v] w fun e w'=>o8 w.heap.size (Aq l t) e w'/\Ext w w':=by
 have zF:=ae (fun W (hW:Ext w W)=>QB l hll (fun r hr=>⟨by have:=(hls r hr).1;omega,by have:=(hls r hr).2;omega⟩) t v lv (.slice none 0 0) (fun k=>k<w.heap.size) (fun k=>k<w.heap.size) (fun _=>False) [] W (hT.ext hW) (hL.ext hW) (az.nil _ _ _) (fun k hk=>ay hk hW.size) (fun k hk=>ay hk hW.size) (by omega) (by simp;omega));have rV:=ae hT;obtain⟨a,cap,rfl,hT⟩:=hT;obtain⟨la,lc,rfl⟩:=hL.shape;have HAS:=ae htab;have dw:=ae (And.intro hsz hsn);have cZ:=ae ((((uR w).alloc (tO t a cap)).alloc zO).alloc (.cells #[.int .i64 0,.slice none 0 0] 65));have HB0:=ae (ak (ak (ai w (tO t a cap)) zO) (.cells #[.int .i64 0,.slice none 0 0] 65));have HB1:=ae (ak (alloc_at (w.alloc (tO t a cap)) zO (n:=w.heap.size+1) (by simp)) (.cells #[.int .i64 0,.slice none 0 0] 65));have HB2:=ae (alloc_at ((w.alloc (tO t a cap)).alloc zO) (.cells #[.int .i64 0,.slice none 0 0] 65) (n:=w.heap.size+2) (by simp));have hz0:(((w.alloc (tO t a cap)).alloc zO).alloc (.cells #[.int .i64 0,.slice none 0 0] 65)).heap.size=w.heap.size+3:=by simp
 have HZ0:=ae hz0;obtain⟨c0,c1,c2⟩:=ag HB0.out;dsimp only[tV] at zF⊢;obtain⟨F,hF⟩: ∃F,Aq l t=F:=⟨_,rfl⟩
 have HF:=ae hF;rw[hF];clear hL hT htab hll hls hsz hz0 hF
 go_enter Tryz.func126,Tryz.ntmps126
 go_wp2_with fail
 refine(zF.out _ cZ.out).mono ?_;rintro e w4 ⟨⟨⟨pa,pc⟩,ua,uc⟩,B,rfl,hfd,hbd,hw4⟩;obtain⟨o,ho⟩: ∃o,jy l t=o:=⟨_,rfl⟩
 have HO:=ae ho;rw[ho] at hfd⊢;clear ho c0 c1 c2 zF;dsimp only[BA];cases o with
 |none=>
  rw[show(fq none []).length=0 from rfl,show(ft none).name=⟨#[]⟩ from rfl,show(ft none).sort=⟨#[]⟩ from rfl,show(ft none).kids.length=0 from rfl,show((fi none:Nat):Int)=0 from rfl];have oG:=((uR w4).alloc (.cells #[.int .i64 0,.slice pa 0 pc] 65)).alloc (.cells #[.string ⟨#[]⟩,.string ⟨#[]⟩,.slice ua 0 uc] 24);have H5:=ae ((cZ.out.trans hw4).trans oG);have vP:=ae ((hw4.trans oG).heap HB0.out (fun h=>h));have jM:=ae ((hw4.trans oG).heap HB1.out (fun h=>h));have kQ:=ae ((hw4.trans oG).heap HB2.out (fun h=>h));have H7:=ae (ak (ai w4 (.cells #[.int .i64 0,.slice pa 0 pc] 65)) (.cells #[.string ⟨#[]⟩,.string ⟨#[]⟩,.slice ua 0 uc] 24));have H8:=ae (alloc_at (w4.alloc (.cells #[.int .i64 0,.slice pa 0 pc] 65)) (.cells #[.string ⟨#[]⟩,.string ⟨#[]⟩,.slice ua 0 uc] 24) (n:=w4.heap.size+1) (by simp));have gQ:Hid (w.heap.size+3<=w4.heap.size):=ae (by rw[<-HZ0.out];exact hw4.size);have HQ:=ae oG;clear HB0 HB1 HB2;simp only[Option.isSome_none];have nI:Hid (F=(bP,(0,[]),12)):=ae (by rw[<-HF.out];unfold Aq;rw[HO.out]);clear H7 H8 HF;obtain⟨d0,d1,d2⟩:=ag jM.out;have fd:=fun i=>au jM.out i;have gX:=gq ((w4.alloc (.cells #[.int .i64 0,.slice pa 0 pc] 65)).alloc (.cells #[.string ⟨#[]⟩,.string ⟨#[]⟩,.slice ua 0 uc] 24)) (w.heap.size+1) (.string ⟨#[]⟩) (.string ⟨#[]⟩) (.slice none 0 0);have hb2:=gX.heap kQ.out (by omega);obtain⟨r0,r1⟩:=aP hb2;have fr:=fun i=>au hb2 i;clear gX hb2
  go_wp2_with fail
  generalize ((w4.alloc (.cells #[.int .i64 0,.slice pa 0 pc] 65)).alloc (.cells #[.string ⟨#[]⟩,.string ⟨#[]⟩,.slice ua 0 uc] 24))=w5 at*;have hr1:=jU jM.out (.string ⟨#[]⟩) (.string ⟨#[]⟩) (.slice none 0 0);have hu1:=gq w5 (w.heap.size+1) (.string ⟨#[]⟩) (.string ⟨#[]⟩) (.slice none 0 0);have hb2:=hu1.heap kQ.out (by omega);clear d0 d1 d2 fd r0 r1 fr;generalize ((w5.setCell ⟨w.heap.size+1,0,none⟩ (.string ⟨#[]⟩)).setCell ⟨w.heap.size+1,1,none⟩ (.string ⟨#[]⟩)).setCell ⟨w.heap.size+1,2,none⟩ (.slice none 0 0)=wB at*;have hr2:((wB.setCell ⟨w.heap.size+2,0,none⟩ (.int .i64 0)).setCell ⟨w.heap.size+2,1,none⟩ (.slice none 0 0)).heap[w.heap.size+2]?=some (.cells #[.int .i64 0,.slice none 0 0] 65 (0,0)):=by simpa using setBlock (setBlock hb2 0 (.int .i64 0)) 1 (.slice none 0 0)
  have hu2:aj (fun j=>j=w.heap.size+2) wB ((wB.setCell ⟨w.heap.size+2,0,none⟩ (.int .i64 0)).setCell ⟨w.heap.size+2,1,none⟩ (.slice none 0 0)):=((aj.refl (fun j=>j=w.heap.size+2) wB).setCell (p:=⟨w.heap.size+2,0,none⟩) (.inl rfl) _).setCell (p:=⟨w.heap.size+2,1,none⟩) (.inl rfl) _;have hr3:=hu2.heap hr1 (by omega);have hu:aj (fun j=>j=w.heap.size+1\/j=w.heap.size+2) w5 _:=(hu1.mono (fun _ _ h=> .inl h)).trans (hu2.mono (fun _ _ h=> .inr h));obtain⟨e0,e1,e2⟩:=ag hr3;obtain⟨e3,e4⟩:=aP hr2;refine bodyPost_ret (v:= .tuple #[.agg #[.string ⟨#[]⟩,.string ⟨#[]⟩,.slice none 0 0],.agg #[.int .i64 0,.slice none 0 0],.int .i64 12]) (by simp[results,Tryz.results126,go_sem,e0,e1,e2,e3,e4]) rfl ?_;exact⟨o8.zero nI.out rfl,H5.out.trans' hu (fun j hj e=>by omega)⟩
 |some y=>
  obtain⟨i,p,u⟩:=y;have MQ:fq (some (i,p,u)) []=p:=by simp[fq]
  have hft:ft (some (i,p,u))=u:=rfl;have hfi:fi (some (i,p,u))=i:=rfl;rw[MQ,hft,hfi];obtain⟨iP,hpart⟩:=hfd;rw[MQ] at iP;rw[hft] at hpart;dsimp only at iP hpart;have oG:=((uR w4).alloc (.cells #[.int .i64 (i:Int),.slice pa p.length pc] 65)).alloc (tO u ua uc);have H5:=ae ((cZ.out.trans hw4).trans oG);have vP:=ae ((hw4.trans oG).heap HB0.out (fun h=>h));have jM:=ae ((hw4.trans oG).heap HB1.out (fun h=>h));have kQ:=ae ((hw4.trans oG).heap HB2.out (fun h=>h));have H7:=ae (ak (ai w4 (.cells #[.int .i64 (i:Int),.slice pa p.length pc] 65)) (tO u ua uc));have H8:=ae (alloc_at (w4.alloc (.cells #[.int .i64 (i:Int),.slice pa p.length pc] 65)) (tO u ua uc) (n:=w4.heap.size+1) (by simp));have gQ:Hid (w.heap.size+3<=w4.heap.size):=ae (by rw[<-HZ0.out];exact hw4.size);have HQ:=ae oG;clear HB0 HB1 HB2;replace iP:=az.kept iP oG (fun _ _ h=>h);replace hpart:=hpart.kept oG (fun _ _ h=>h);simp only[Option.isSome_some];have hpo:=zG l t i p u HO.out;obtain⟨hts,N,hN,hNt⟩:=dw.out;have Jj:=MR (N:=N) HO.out hN;have hpl:=zH p t hpo.1;have Ey:u.size<=100000:=Nat.le_trans Jj hNt;have yu:=ae (fun W (hW:Ext ((w4.alloc (.cells #[.int .i64 (i:Int),.slice pa p.length pc] 65)).alloc (tO u ua uc)) W)=>MJ t u p (.agg #[.string t.name,.string t.sort,.slice a t.kids.length cap]) (.agg #[.string u.name,.string u.sort,.slice ua u.kids.length uc]) (.slice pa p.length pc) (fun k=>k<W.heap.size) B B W ((rV.out.ext (H5.out.trans hW)).weaken (fun k hk=>ay hk (H5.out.trans hW).size)) ⟨ua,uc,rfl,(hpart.kept hW (fun _ _ h=>h)).read⟩ (fun k hk=>hk) (fun k hk=>ay (hbd k hk).2 (Nat.le_trans HQ.out.size hW.size)) (az.kept iP hW (fun _ _ h=>h)) hpo.1 (aC HAS.out (H5.out.trans hW)) (by omega) Ey (by omega));have Ve:=ae (And.intro iP hbd);have nI:Hid (F=if(gK t p u).2=0 then((gK t p u).1,(i,p),0) else(bP,(0,[]),(gK t p u).2)):=ae (by rw[<-HF.out];unfold Aq;rw[HO.out]);obtain⟨G,hG⟩: ∃G,gK t p u=G:=⟨_,rfl⟩
  have hG2:G.2=0\/G.2=4:=by
   rw[<-hG];unfold gK;split
   .exact .inl rfl
   .exact .inr rfl
  rw[hG] at yu nI;obtain⟨c0,c1,c2⟩:=ag vP.out;obtain⟨m0,m1⟩:=aP H7.out;obtain⟨n0,n1,n2⟩:=ag H8.out;clear iP hpart hbd MQ hft hfi hpo Jj Ey hpl hts hN hNt HF hG dw rV HAS hw4 oG
  go_wp2_with fail
  refine(yu.out _ (aj.refl _ _)).mono ?_;rintro e w6 ⟨r,rfl,hTl,hw6⟩;obtain⟨z,c⟩:=G;dsimp only at hTl hG2 nI⊢;obtain⟨za,zc,hr⟩:=hTl.shape;subst hr;have hQ6:=(uR w6).alloc (tO z za zc);have H9:=ae ((H5.out.trans hw6).trans hQ6);have Tf:=ae ((hw6.trans hQ6).heap jM.out (fun h=>h));have Ti:=ae ((hw6.trans hQ6).heap kQ.out (fun h=>h));have Vf:=ae ((hw6.trans hQ6).heap H7.out (fun h=>h));have H69:=ae (ai w6 (tO z za zc));have adC:Hid (aA (fun k=>w.heap.size+3<=k/\k< (w6.alloc (tO z za zc)).heap.size) (w6.alloc (tO z za zc)) z.kids (.slice za z.kids.length zc)):=ae ((hTl.ext hQ6).weaken (fun k hk=>by
   have h1:=hQ6.size;have h2:=hw6.size;have h3:=HQ.out.size;have h4:=gQ.out;rcases hk with hk|hk
   .omega
   .have h5:=Ve.out.2 k hk;have h6:=HZ0.out;omega))
  have HTZ:=ae adC.out;clear adC;have xx:Hid (w.heap.size+3<=w6.heap.size):=ae (Nat.le_trans gQ.out (Nat.le_trans HQ.out.size hw6.size));have Tj:=ae (And.intro (az.kept Ve.out.1 (hw6.trans hQ6) (fun _ _ h=>h)) (fun k hk=>And.intro (show w.heap.size+3<=k by have:=(Ve.out.2 k hk).1;have:=HZ0.out;omega) (ay (Ve.out.2 k hk).2 (Nat.le_trans HQ.out.size (hw6.trans hQ6).size))));have BC:=ae gQ.out;clear hTl hQ6 hw6 yu c0 c1 c2 m0 m1 n0 n1 n2 H7 H8 vP jM kQ HQ Ve gQ;dsimp only[tV];obtain⟨n6,Ko⟩: ∃n,w6.heap.size=n:=⟨_,rfl⟩
  rw[Ko] at H69 xx;rcases hG2 with rfl|rfl
  .have Kq:Hid (F=(z,(i,p),0)):=ae (by rw[nI.out,if_pos rfl]);obtain⟨k0,k1,k2⟩:=ag H69.out;obtain⟨m0,m1⟩:=aP Vf.out;have jM:=ae Tf.out;have kQ:=ae Ti.out;clear nI Tf Ti;obtain⟨d0,d1,d2⟩:=ag jM.out;have fd:=fun i=>au jM.out i;have gX:=gq (w6.alloc (tO z za zc)) (w.heap.size+1) (.string z.name) (.string z.sort) (.slice za z.kids.length zc);have hb2:=gX.heap kQ.out (by omega);obtain⟨r0,r1⟩:=aP hb2;have fr:=fun i=>au hb2 i;have m2:=gX.cell m0 (by have:=BC.out;show ¬w4.heap.size=w.heap.size+1;omega);have m3:=gX.cell m1 (by have:=BC.out;show ¬w4.heap.size=w.heap.size+1;omega);clear gX hb2
   go_upto_region 7 with fail
   try rw[Ko]
   clear Ko;generalize w6.alloc (tO z za zc)=w8 at*
   go_region
   all_goals
    go_wp2_with fail
    have hr1:=jU jM.out (.string z.name) (.string z.sort) (.slice za z.kids.length zc);have hu1:=gq w8 (w.heap.size+1) (.string z.name) (.string z.sort) (.slice za z.kids.length zc);have hb2:=hu1.heap kQ.out (by omega);clear d0 d1 d2 fd r0 r1 fr k0 k1 k2 m0 m1 m2 m3;generalize ((w8.setCell ⟨w.heap.size+1,0,none⟩ (.string z.name)).setCell ⟨w.heap.size+1,1,none⟩ (.string z.sort)).setCell ⟨w.heap.size+1,2,none⟩ (.slice za z.kids.length zc)=wB at*;have hr2:((wB.setCell ⟨w.heap.size+2,0,none⟩ (.int .i64 (i:Int))).setCell ⟨w.heap.size+2,1,none⟩ (.slice pa p.length pc)).heap[w.heap.size+2]?=some (.cells #[.int .i64 (i:Int),.slice pa p.length pc] 65 (0,0)):=by simpa using setBlock (setBlock hb2 0 (.int .i64 (i:Int))) 1 (.slice pa p.length pc)
    have hu2:aj (fun j=>j=w.heap.size+2) wB ((wB.setCell ⟨w.heap.size+2,0,none⟩ (.int .i64 (i:Int))).setCell ⟨w.heap.size+2,1,none⟩ (.slice pa p.length pc)):=((aj.refl (fun j=>j=w.heap.size+2) wB).setCell (p:=⟨w.heap.size+2,0,none⟩) (.inl rfl) _).setCell (p:=⟨w.heap.size+2,1,none⟩) (.inl rfl) _;have hr3:=hu2.heap hr1 (by omega);have hu:aj (fun j=>j=w.heap.size+1\/j=w.heap.size+2) w8 _:=(hu1.mono (fun _ _ h=> .inl h)).trans (hu2.mono (fun _ _ h=> .inr h));replace hu:=hu.drew;obtain⟨e0,e1,e2⟩:=ag hr3;obtain⟨e3,e4⟩:=aP hr2;refine bodyPost_ret (v:= .tuple #[.agg #[.string z.name,.string z.sort,.slice za z.kids.length zc],.agg #[.int .i64 (i:Int),.slice pa p.length pc],.int .i64 0]) (by simp[results,Tryz.results126,go_sem,e0,e1,e2,e3,e4]) rfl ?_;exact⟨o8.mk (.slice za z.kids.length zc) (.slice pa p.length pc) (by rw[Kq.out]) (by rw[Kq.out];exact(HTZ.out.kept hu (fun j hj e=>by have h1:=hj.1;omega)).weaken (fun k hk=>⟨by have h1:=hk.1;omega,ay hk.2 hu.size⟩)) (by rw[Kq.out];exact az.weaken (az.kept Tj.out.1 hu (fun j hj e=>by have h1:=(Tj.out.2 j hj).1;omega)) (fun k hk=>⟨by have h1:=(Tj.out.2 k hk).1;omega,ay (Tj.out.2 k hk).2 hu.size⟩)),H9.out.trans' hu (fun j hj e=>by omega)⟩
  .have Kq:Hid (F=(bP,(0,[]),4)):=ae (by rw[nI.out,if_neg (by decide)]);have jM:=ae Tf.out;have kQ:=ae Ti.out;clear nI Tf Ti H69 Vf;obtain⟨d0,d1,d2⟩:=ag jM.out;have fd:=fun i=>au jM.out i;have gX:=gq (w6.alloc (tO z za zc)) (w.heap.size+1) (.string ⟨#[]⟩) (.string ⟨#[]⟩) (.slice none 0 0);have hb2:=gX.heap kQ.out (by omega);obtain⟨r0,r1⟩:=aP hb2;have fr:=fun i=>au hb2 i;clear gX hb2
   go_wp2_with fail
   clear Ko;generalize w6.alloc (tO z za zc)=w8 at*;have hr1:=jU jM.out (.string ⟨#[]⟩) (.string ⟨#[]⟩) (.slice none 0 0);have hu1:=gq w8 (w.heap.size+1) (.string ⟨#[]⟩) (.string ⟨#[]⟩) (.slice none 0 0);have hb2:=hu1.heap kQ.out (by omega);clear d0 d1 d2 fd r0 r1 fr;generalize ((w8.setCell ⟨w.heap.size+1,0,none⟩ (.string ⟨#[]⟩)).setCell ⟨w.heap.size+1,1,none⟩ (.string ⟨#[]⟩)).setCell ⟨w.heap.size+1,2,none⟩ (.slice none 0 0)=wB at*;have hr2:((wB.setCell ⟨w.heap.size+2,0,none⟩ (.int .i64 0)).setCell ⟨w.heap.size+2,1,none⟩ (.slice none 0 0)).heap[w.heap.size+2]?=some (.cells #[.int .i64 0,.slice none 0 0] 65 (0,0)):=by simpa using setBlock (setBlock hb2 0 (.int .i64 0)) 1 (.slice none 0 0)
   have hu2:aj (fun j=>j=w.heap.size+2) wB ((wB.setCell ⟨w.heap.size+2,0,none⟩ (.int .i64 0)).setCell ⟨w.heap.size+2,1,none⟩ (.slice none 0 0)):=((aj.refl (fun j=>j=w.heap.size+2) wB).setCell (p:=⟨w.heap.size+2,0,none⟩) (.inl rfl) _).setCell (p:=⟨w.heap.size+2,1,none⟩) (.inl rfl) _;have hr3:=hu2.heap hr1 (by omega);have hu:aj (fun j=>j=w.heap.size+1\/j=w.heap.size+2) w8 _:=(hu1.mono (fun _ _ h=> .inl h)).trans (hu2.mono (fun _ _ h=> .inr h));obtain⟨e0,e1,e2⟩:=ag hr3;obtain⟨e3,e4⟩:=aP hr2;refine bodyPost_ret (v:= .tuple #[.agg #[.string ⟨#[]⟩,.string ⟨#[]⟩,.slice none 0 0],.agg #[.int .i64 0,.slice none 0 0],.int .i64 4]) (by simp[results,Tryz.results126,go_sem,e0,e1,e2,e3,e4]) rfl ?_;exact⟨o8.zero Kq.out rfl,H9.out.trans' hu (fun j hj e=>by omega)⟩
def stepG (l:List Rl) (t:Tm):Tm×(Nat×List Nat)×Int:=if(bY l&&wf ax t)=true then Aq l t else(bP,(0,[]),1)
theorem QC (l:List Rl) (t:Tm) (lv v:Value) (w:World) (hL:jc (fun k=>k<w.heap.size) w l lv) (hT:bC (fun k=>k<w.heap.size) w t v) (htab:bT w) (hll:l.length<=1000000) (hls: ∀r∈l,r.1.size<=100000/\r.2.size<=100000) (hsz:t.size<=100000) (hok:bY l=true/\wf ax t=true->∃N,(∀r∈l,r.2.size<=N)/\N*t.size<=100000):
  Calls Tryz.prog 53 #[lv,v] w fun e w'=>o8 w.heap.size (stepG l t) e w'/\Ext w w':=by
 have oH:=ae (fun W (hW:Ext w W)=>Ew l lv W ((hL.ext hW).weaken (fun k hk=>ay hk hW.size)) (aC htab hW) hll hls);have uf:=ae (fun W (hW:Ext w W)=>wZ t v W (aC htab hW) ((hT.ext hW).weaken (fun k hk=>ay hk hW.size)) (by omega));have HST:=ae (fun(h:bY l=true/\wf ax t=true) W (hW:Ext w W)=>adA l t lv v W ((hL.ext hW).weaken (fun k hk=>ay hk hW.size)) ((hT.ext hW).weaken (fun k hk=>ay hk hW.size)) (aC htab hW) hll hls hsz (hok h));obtain⟨a,cap,rfl,hT⟩:=hT;obtain⟨la,lc,rfl⟩:=hL.shape;have cZ:=ae ((((uR w).alloc (tO t a cap)).alloc zO).alloc (.cells #[.int .i64 0,.slice none 0 0] 65));have HB0:=ae (ak (ak (ai w (tO t a cap)) zO) (.cells #[.int .i64 0,.slice none 0 0] 65));have adD:=ae (ak (alloc_at (w.alloc (tO t a cap)) zO (n:=w.heap.size+1) (by simp)) (.cells #[.int .i64 0,.slice none 0 0] 65));have adE:=ae (alloc_at ((w.alloc (tO t a cap)).alloc zO) (.cells #[.int .i64 0,.slice none 0 0] 65) (n:=w.heap.size+2) (by simp));have hz0:(((w.alloc (tO t a cap)).alloc zO).alloc (.cells #[.int .i64 0,.slice none 0 0] 65)).heap.size=w.heap.size+3:=by simp
 have HZ0:=ae hz0;dsimp only[tV] at uf HST⊢;obtain⟨A,hA⟩: ∃b,bY l=b:=⟨_,rfl⟩
 obtain⟨B,hB⟩: ∃b,wf ax t=b:=⟨_,rfl⟩
 obtain⟨F,hF⟩: ∃F,Aq l t=F:=⟨_,rfl⟩
 have MS:Hid (stepG l t=if(A&&B)=true then F else(bP,(0,[]),1)):=ae (by unfold stepG;rw[hA,hB,hF]);rw[hA] at oH;rw[hB] at uf;rw[hF,hA,hB] at HST;obtain⟨G,hG⟩: ∃G,stepG l t=G:=⟨_,rfl⟩
 rw[hG] at MS⊢;clear hL hT htab hll hls hsz hok hz0 hA hB hF hG
 go_enter Tryz.func53,Tryz.ntmps53
 go_wp2_with fail
 refine(oH.out _ cZ.out).mono ?_;rintro e w4 ⟨rfl,hw4⟩;have H4:=ae (cZ.out.trans hw4);have HB4:=ae (hw4.heap HB0.out (fun h=>h));have Tn:=ae (hw4.heap adD.out (fun h=>h));have Tq:=ae (hw4.heap adE.out (fun h=>h));have hs4:w.heap.size+3<=w4.heap.size:=by rw[<-HZ0.out];exact hw4.size
 have gQ:=ae hs4;clear hw4 hs4 oH HB0 adD adE;cases A
 .have nI:Hid (G=(bP,(0,[]),1)):=ae (by rw[MS.out];rfl);have jM:=ae Tn.out;have kQ:=ae Tq.out;clear MS Tn Tq uf HST;obtain⟨d0,d1,d2⟩:=ag jM.out;have fd:=fun i=>au jM.out i;have gX:=gq w4 (w.heap.size+1) (.string ⟨#[]⟩) (.string ⟨#[]⟩) (.slice none 0 0);have hb2:=gX.heap kQ.out (by omega);obtain⟨r0,r1⟩:=aP hb2;have fr:=fun i=>au hb2 i;clear gX hb2
  go_wp2_with fail
  all_goals
   have HHH:=nI.out;have hr1:=jU jM.out (.string ⟨#[]⟩) (.string ⟨#[]⟩) (.slice none 0 0);have hu1:=gq w4 (w.heap.size+1) (.string ⟨#[]⟩) (.string ⟨#[]⟩) (.slice none 0 0);have hb2:=hu1.heap kQ.out (by omega);clear d0 d1 d2 fd r0 r1 fr;generalize ((w4.setCell ⟨w.heap.size+1,0,none⟩ (.string ⟨#[]⟩)).setCell ⟨w.heap.size+1,1,none⟩ (.string ⟨#[]⟩)).setCell ⟨w.heap.size+1,2,none⟩ (.slice none 0 0)=wB at*;have hr2:((wB.setCell ⟨w.heap.size+2,0,none⟩ (.int .i64 0)).setCell ⟨w.heap.size+2,1,none⟩ (.slice none 0 0)).heap[w.heap.size+2]?=some (.cells #[.int .i64 0,.slice none 0 0] 65 (0,0)):=by simpa using setBlock (setBlock hb2 0 (.int .i64 0)) 1 (.slice none 0 0)
   have hu2:aj (fun j=>j=w.heap.size+2) wB ((wB.setCell ⟨w.heap.size+2,0,none⟩ (.int .i64 0)).setCell ⟨w.heap.size+2,1,none⟩ (.slice none 0 0)):=((aj.refl (fun j=>j=w.heap.size+2) wB).setCell (p:=⟨w.heap.size+2,0,none⟩) (.inl rfl) _).setCell (p:=⟨w.heap.size+2,1,none⟩) (.inl rfl) _;have hr3:=hu2.heap hr1 (by omega);have hu:aj (fun j=>j=w.heap.size+1\/j=w.heap.size+2) w4 _:=(hu1.mono (fun _ _ h=> .inl h)).trans (hu2.mono (fun _ _ h=> .inr h));obtain⟨e0,e1,e2⟩:=ag hr3;obtain⟨e3,e4⟩:=aP hr2;refine bodyPost_ret (v:= .tuple #[.agg #[.string ⟨#[]⟩,.string ⟨#[]⟩,.slice none 0 0],.agg #[.int .i64 0,.slice none 0 0],.int .i64 1]) (by simp[results,Tryz.results53,go_sem,e0,e1,e2,e3,e4]) rfl ?_;exact⟨o8.zero HHH rfl,H4.out.trans' hu (fun j hj e=>by omega)⟩
 .obtain ⟨c0,c1,c2⟩:=ag HB4.out
  go_wp2_with fail
  refine(uf.out _ H4.out).mono ?_;rintro e w5 ⟨rfl,hw5⟩;have H5:=ae (H4.out.trans hw5);have fE:=ae (hw5.heap HB4.out (fun h=>h));have jM:=ae (hw5.heap Tn.out (fun h=>h));have kQ:=ae (hw5.heap Tq.out (fun h=>h));have qi:Hid (w.heap.size+3<=w5.heap.size):=ae (Nat.le_trans gQ.out hw5.size);clear hw5 c0 c1 c2 uf Tn Tq HB4 gQ;cases B
  .have nI:Hid (G=(bP,(0,[]),1)):=ae (by rw[MS.out];rfl);clear MS HST;obtain⟨d0,d1,d2⟩:=ag jM.out;have fd:=fun i=>au jM.out i;have gX:=gq w5 (w.heap.size+1) (.string ⟨#[]⟩) (.string ⟨#[]⟩) (.slice none 0 0);have hb2:=gX.heap kQ.out (by omega);obtain⟨r0,r1⟩:=aP hb2;have fr:=fun i=>au hb2 i;clear gX hb2
   go_wp2_with fail
   all_goals
    have HHH:=nI.out;have hr1:=jU jM.out (.string ⟨#[]⟩) (.string ⟨#[]⟩) (.slice none 0 0);have hu1:=gq w5 (w.heap.size+1) (.string ⟨#[]⟩) (.string ⟨#[]⟩) (.slice none 0 0);have hb2:=hu1.heap kQ.out (by omega);clear d0 d1 d2 fd r0 r1 fr;generalize ((w5.setCell ⟨w.heap.size+1,0,none⟩ (.string ⟨#[]⟩)).setCell ⟨w.heap.size+1,1,none⟩ (.string ⟨#[]⟩)).setCell ⟨w.heap.size+1,2,none⟩ (.slice none 0 0)=wB at*;have hr2:((wB.setCell ⟨w.heap.size+2,0,none⟩ (.int .i64 0)).setCell ⟨w.heap.size+2,1,none⟩ (.slice none 0 0)).heap[w.heap.size+2]?=some (.cells #[.int .i64 0,.slice none 0 0] 65 (0,0)):=by simpa using setBlock (setBlock hb2 0 (.int .i64 0)) 1 (.slice none 0 0)
    have hu2:aj (fun j=>j=w.heap.size+2) wB ((wB.setCell ⟨w.heap.size+2,0,none⟩ (.int .i64 0)).setCell ⟨w.heap.size+2,1,none⟩ (.slice none 0 0)):=((aj.refl (fun j=>j=w.heap.size+2) wB).setCell (p:=⟨w.heap.size+2,0,none⟩) (.inl rfl) _).setCell (p:=⟨w.heap.size+2,1,none⟩) (.inl rfl) _;have hr3:=hu2.heap hr1 (by omega);have hu:aj (fun j=>j=w.heap.size+1\/j=w.heap.size+2) w5 _:=(hu1.mono (fun _ _ h=> .inl h)).trans (hu2.mono (fun _ _ h=> .inr h));obtain⟨e0,e1,e2⟩:=ag hr3;obtain⟨e3,e4⟩:=aP hr2;refine bodyPost_ret (v:= .tuple #[.agg #[.string ⟨#[]⟩,.string ⟨#[]⟩,.slice none 0 0],.agg #[.int .i64 0,.slice none 0 0],.int .i64 1]) (by simp[results,Tryz.results53,go_sem,e0,e1,e2,e3,e4]) rfl ?_;exact⟨o8.zero HHH rfl,H5.out.trans' hu (fun j hj e=>by omega)⟩
  .have nI:Hid (G=F):=ae (by rw[MS.out];rfl);obtain⟨c0,c1,c2⟩:=ag fE.out;clear MS
   go_wp2_with fail
   refine(HST.out (by simp) _ H5.out).mono ?_;rintro e w6 ⟨⟨r,pv,rfl,hTl,hPl⟩,hw6⟩;obtain⟨ra,rc,hr⟩:=hTl.shape;subst hr;obtain⟨pa,pc,hp⟩:=az.shape hPl;subst hp;have H6:=ae (H5.out.trans hw6);have adG:=ae (hw6.heap jM.out (fun h=>h));have adH:=ae (hw6.heap kQ.out (fun h=>h));have cO:=ae (And.intro hTl hPl);have HSW:Hid (w.heap.size+3<=w5.heap.size):=ae qi.out;clear hTl hPl hw6 HST jM kQ c0 c1 c2 fE;have jM:=ae adG.out;have kQ:=ae adH.out;clear adG adH;dsimp only[tV];obtain⟨d0,d1,d2⟩:=ag jM.out;have fd:=fun i=>au jM.out i;have gX:=gq w6 (w.heap.size+1) (.string F.1.name) (.string F.1.sort) (.slice ra F.1.kids.length rc);have hb2:=gX.heap kQ.out (by omega);obtain⟨r0,r1⟩:=aP hb2;have fr:=fun i=>au hb2 i;clear gX hb2
   go_wp2_with fail
   have hr1:=jU jM.out (.string F.1.name) (.string F.1.sort) (.slice ra F.1.kids.length rc);have hu1:=gq w6 (w.heap.size+1) (.string F.1.name) (.string F.1.sort) (.slice ra F.1.kids.length rc);have hb2:=hu1.heap kQ.out (by omega);clear d0 d1 d2 fd r0 r1 fr;generalize ((w6.setCell ⟨w.heap.size+1,0,none⟩ (.string F.1.name)).setCell ⟨w.heap.size+1,1,none⟩ (.string F.1.sort)).setCell ⟨w.heap.size+1,2,none⟩ (.slice ra F.1.kids.length rc)=wB at*;have hr2:((wB.setCell ⟨w.heap.size+2,0,none⟩ (.int .i64 (F.2.1.1:Int))).setCell ⟨w.heap.size+2,1,none⟩ (.slice pa F.2.1.2.length pc)).heap[w.heap.size+2]?=some (.cells #[.int .i64 (F.2.1.1:Int),.slice pa F.2.1.2.length pc] 65 (0,0)):=by simpa using setBlock (setBlock hb2 0 (.int .i64 (F.2.1.1:Int))) 1 (.slice pa F.2.1.2.length pc)
   have hu2:aj (fun j=>j=w.heap.size+2) wB ((wB.setCell ⟨w.heap.size+2,0,none⟩ (.int .i64 (F.2.1.1:Int))).setCell ⟨w.heap.size+2,1,none⟩ (.slice pa F.2.1.2.length pc)):=((aj.refl (fun j=>j=w.heap.size+2) wB).setCell (p:=⟨w.heap.size+2,0,none⟩) (.inl rfl) _).setCell (p:=⟨w.heap.size+2,1,none⟩) (.inl rfl) _;have hr3:=hu2.heap hr1 (by omega);have hu:aj (fun j=>j=w.heap.size+1\/j=w.heap.size+2) w6 _:=(hu1.mono (fun _ _ h=> .inl h)).trans (hu2.mono (fun _ _ h=> .inr h));obtain⟨e0,e1,e2⟩:=ag hr3;obtain⟨e3,e4⟩:=aP hr2;refine bodyPost_ret (v:= .tuple #[.agg #[.string F.1.name,.string F.1.sort,.slice ra F.1.kids.length rc],.agg #[.int .i64 (F.2.1.1:Int),.slice pa F.2.1.2.length pc],.int .i64 F.2.2]) (by simp[results,Tryz.results53,go_sem,e0,e1,e2,e3,e4]) rfl ?_;rw[nI.out];exact⟨o8.mk (.slice ra F.1.kids.length rc) (.slice pa F.2.1.2.length pc) rfl ((cO.out.1.kept hu (fun j hj e=>by have h1:=hj.1;have h2:=HSW.out;omega)).weaken (fun k hk=>⟨by have h1:=hk.1;have h2:=HSW.out;omega,ay hk.2 hu.size⟩)) (az.weaken (az.kept cO.out.2 hu (fun j hj e=>by have h1:=hj.1;have h2:=HSW.out;omega)) (fun k hk=>⟨by have h1:=hk.1;have h2:=HSW.out;omega,ay hk.2 hu.size⟩)),H6.out.trans' hu (fun j hj e=>by omega)⟩
theorem adI (l:List Rl) (t:Tm) (lv v:Value) (w:World) (hL:jc (fun k=>k<w.heap.size) w l lv) (hT:bC (fun k=>k<w.heap.size) w t v) (htab:bT w) (hll:l.length<=1000000) (hls: ∀r∈l,r.1.size<=300/\r.2.size<=300) (hsz:t.size<=300):
  Calls Tryz.prog 53 #[lv,v] w fun e w'=>o8 w.heap.size (stepG l t) e w'/\Ext w w':=
 QC l t lv v w hL hT htab hll (fun r hr=>⟨by have:=(hls r hr).1;omega,by have:=(hls r hr).2;omega⟩) (by omega) (fun _=>⟨300,fun r hr=>(hls r hr).2,by omega⟩)
section
open Go.Sort Go.Proofs Go.ChangeMaps
def RQ (x y:Tm):Bool:=(aO x).all fun f=>jZ f (aO y)
theorem acN (x y:Tm) (vx vy:Value) (S T:Nat->Prop) (w:World) (hX:bC S w x vx) (hY:bC T w y vy) (hwx:wf ax x=true) (hwy:wf ax y=true):
  Calls Tryz.prog 168 #[vx,vy] w fun e w'=>e= .returned (.bool (RQ x y))/\Ext w w':=by
 have jw:=ae (fun W (hW:Ext w W)=>OQ x vx S W (hX.ext hW) hwx);have G9:=ae (fun W (hW:Ext w W)=>OQ y vy T W (hY.ext hW) hwy);obtain⟨Z,hZ⟩: ∃Z,RQ x y=Z:=⟨_,rfl⟩
 rw[hZ];have hkz:Z=(aO x).all fun f=>jZ f (aO y):=hZ.symm;have hlx:=Nat.le_trans (mO hwx) (jY hwx);have hly:=Nat.le_trans (mO hwy) (jY hwy);obtain⟨xa,xc,rfl,hTX⟩:=hX;obtain⟨ya,yc,rfl,hTY⟩:=hY;obtain⟨LX,hLX⟩: ∃L,aO x=L:=⟨_,rfl⟩
 obtain⟨LY,hLY⟩: ∃L,aO y=L:=⟨_,rfl⟩
 rw[hLX] at jw hkz hlx;rw[hLY] at G9 hkz hly;have HKZ:=ae hkz;have HZ:=ae (((uR w).alloc (tO x xa xc)).alloc (tO y ya yc));have H2:=ae (ak (ai w (tO x xa xc)) (tO y ya yc));have H3:=ae (alloc_at (w.alloc (tO x xa xc)) (tO y ya yc) (n:=w.heap.size+1) (by simp));obtain⟨p0,p1,p2⟩:=ag H2.out;dsimp only[tV] at jw G9⊢;clear hTX hTY hwx hwy hZ hkz hLX hLY
 go_enter Tryz.func168,Tryz.ntmps168
 go_wp2_with fail
 generalize ((w.alloc (tO x xa xc)).alloc (tO y ya yc))=wa at*;refine(jw.out _ HZ.out).mono ?_;rintro e w3 ⟨r1,rfl,hr1,hw3⟩;have aS:=ae (HZ.out.trans hw3);have uw:=ae (hw3.heap H3.out (fun h=>h));have nJ:=ae hr1;obtain⟨a1,c1,hp1⟩:=bU.shape hr1;subst hp1;clear hw3 jw p0 p1 p2 H2 H3 hr1 HZ;obtain⟨p0,p1,p2⟩:=ag uw.out
 go_wp2_with fail
 refine(G9.out _ aS.out).mono ?_;rintro e w4 ⟨r2,rfl,hr2,hw4⟩;have bQ:=ae (aS.out.trans hw4);have HF2:=ae hr2;have amF:=ae (bU.ext nJ.out hw4);obtain⟨a2,c2,hp2⟩:=bU.shape hr2;subst hp2;clear hw4 G9 p0 p1 p2 uw hr2 aS nJ
 go_wp2_with fail
 go_loopg [7] LX.length (fun gk iv wr=> ∃k:Nat,iv= .int .i64 (k:Int)/\gk=LX.length-k/\k<=LX.length/\Hid (Ext w4 wr)/\Hid (∀j,j<k->jZ (vg LX j) LY=true))
 case atStart=>exact⟨0,rfl,rfl,Nat.zero_le _,ae (aj.refl _ _),ae (fun j hj=>absurd hj (Nat.not_lt_zero _))⟩
 case round=>
  obtain⟨k,rfl,rfl,hk,HE,HM⟩:=hrel;by_cases hlt:k<LX.length
  .obtain ⟨g,off,hga,hat⟩:=(bU.ext amF.out HE.out).at_ (by omega);obtain⟨q0,q1⟩:=hat k hlt;obtain⟨z0,z1,z2,z2'⟩:=bz hlt;have hmk:=xk hlt;have hnx:jZ (vg LX k) LY=true->∀j,j<k+1->jZ (vg LX j) LY=true:=fun h j hj=>by
    rcases Nat.lt_succ_iff_lt_or_eq.1 hj with h5|h5
    .exact HM.out j h5
    .rw [h5];exact h
   have hno:jZ (vg LX k) LY=false->Z=false:=fun h=>by
    rw[HKZ.out,List.all_eq_false];exact⟨_,hmk,by rw[h];simp⟩
   obtain⟨f,hf⟩: ∃f,vg LX k=f:=⟨_,rfl⟩
   rw[hf] at q0 q1 hnx hno;have pz:=ae hnx;have tH:=ae hno;have HR4:Hid (bU (fun k=>False\/w3.heap.size<=k) w4 (.slice a2 LY.length c2) LY):=HF2;subst hga;have HQ:=ae (And.intro q0 q1);obtain⟨wz,hwz⟩: ∃wz,wz=wr:=⟨_,rfl⟩
   subst hwz;have cZ:=HE;clear hat hf hmk hnx hno HE q0 q1
   go_wp2_with fail
   go_loopg [8,9] LY.length (fun gk fv iv wr=> ∃(m:Nat) (fb:Bool),fv= .bool fb/\iv= .int .i64 (m:Int)/\gk=LY.length-m/\m<=LY.length/\Hid (Ext wz wr)/\Hid (fb=jZ f (LY.take m)))
   case atStart=>exact⟨0,false,rfl,rfl,rfl,Nat.zero_le _,ae (aj.refl _ _),ae rfl⟩
   case round=>
    obtain⟨m,fb,rfl,rfl,rfl,hm,HE,HFB⟩:=hrel;by_cases hlm:m<LY.length
    .obtain ⟨g2,lU,qJ,oO⟩:=(bU.ext (bU.ext HF2.out cZ.out) HE.out).at_ (by omega);subst qJ;obtain⟨r0,r1⟩:=oO m hlm;have q0:=HE.out.cell HQ.out.1 (fun h=>h);have q1:=HE.out.cell HQ.out.2 (fun h=>h);have y0:(0:Int)<=(m:Int):=by omega
     have y1:(m:Int)< (LY.length:Int):=by omega
     have y2:decide ((m:Int)< (LY.length:Int))=true:=dT y1;have y2':decide (m<LY.length)=true:=dT hlm;have htm:jZ f (LY.take (m+1))=(jZ f (LY.take m)||decide (vg LY m=f)):=by
      unfold jZ;rw[EE LY m hlm,List.any_append];simp
     have heq:=fun W=>eqV (vg LY m).1 (vg LY m).2 f.1 f.2 W;have h3:decide (((vg LY m).1,(vg LY m).2)=(f.1,f.2))=decide (vg LY m=f):=rfl;rw[h3] at heq;obtain⟨u,hu⟩: ∃u,vg LY m=u:=⟨_,rfl⟩
     rw[hu] at r0 r1 htm heq;obtain⟨eb,heb⟩: ∃b,decide (u=f)=b:=⟨_,rfl⟩
     rw[heb] at heq htm;have QP:=ae htm;clear oO htm h3 hu heb;cases eb with
     |true=>
      have Y5:Hid (true=jZ f (LY.take (m+1))):=ae (by rw[QP.out];simp)
      go_wp2_with fail
      go_quiet (fail)
      go_wp2_with fail
      go_roundg (LY.length- (m+1))
      case measure=>omega
      case rel=>exact⟨m+1,true,rfl,by go_num,rfl,by omega,ae (HE.out.drewN' _),Y5⟩
     |false=>
      have Y5:Hid (fb=jZ f (LY.take (m+1))):=ae (by rw[QP.out,<-HFB.out];simp)
      go_wp2_with fail
      go_quiet (fail)
      go_wp2_with fail
      go_roundg (LY.length- (m+1))
      case measure=>omega
      case rel=>exact⟨m+1,fb,rfl,by go_num,rfl,by omega,ae (HE.out.drewN' _),Y5⟩
    .obtain rfl:m=LY.length:=by omega
     have y2:decide ((LY.length:Int)< (LY.length:Int))=false:=dF (by omega);have hfb:=HFB.out;rw[List.take_length] at hfb;have dX:=ae (cZ.out.trans HE.out);cases fb with
     |true=>
      have amG:=ae (pz.out hfb.symm);clear hfb
      go_wp2_with fail
      go_roundg (LX.length- (k+1))
      case measure=>omega
      case rel=>exact⟨k+1,by go_num,rfl,by omega,dX,amG⟩
     |false=>
      obtain rfl:Z=false:=tH.out hfb.symm;clear hfb
      go_wp2_with fail
      go_ret;exact⟨rfl,bQ.out.trans dX.out⟩
  .obtain rfl:k=LX.length:=by omega
   have z2:decide ((LX.length:Int)< (LX.length:Int))=false:=dF (by omega);obtain rfl:Z=true:=by
    rw[HKZ.out,List.all_eq_true];intro f hf;obtain⟨j,hj,e⟩:=List.getElem_of_mem hf;have:=HM.out j hj;unfold vg at this;rw[List.getD_eq_getElem?_getD,List.getElem?_eq_getElem hj] at this;rw[<-e];exact this
   go_wp2_with fail
   go_ret;exact⟨rfl,(bQ.out.trans HE.out)⟩
theorem WM (r:Rl):qg r=(wf ax r.1&&wf ax r.2&&decide (r.1.sort=ah)&&RQ r.2 r.1):=by
 unfold qg RQ;cases h1:wf ax r.1 with
 |false=>rfl
 |true=>
  cases h2:wf ax r.2 with
  |false=>rfl
  |true=>
   rw[oU h1,oU h2]
   congr 1
   first|exact(List.all_eq_not_any_not ..).symm|simp[List.all_eq_not_any_not]
theorem OX {L:List Rl} {k:Nat} (hk:k<L.length) (h:qg (rg L k)=false):bY L=false:=by
 unfold bY;have:(L.any fun r=>!qg r)=true:=List.any_eq_true.2 ⟨_,oD hk,by rw[h];rfl⟩;rw[this];simp
theorem WN {L:List Rl} (hl:L.length<=100) (h: ∀j,j<L.length->qg (rg L j)=true):bY L=true:=by
 unfold bY;have:(L.any fun r=>!qg r)=false:=by
  rw[List.any_eq_false];intro r hr;obtain⟨j,hj,e⟩:=List.getElem_of_mem hr;have:=h j hj;unfold Go.Hw.rg at this;rw[List.getD_eq_getElem?_getD,List.getElem?_eq_getElem hj] at this;rw[<-e];simpa using this
 rw[this,dT hl];rfl
theorem Uj (L:List Rl) (v:Value) (S:Nat->Prop) (w:World) (hL:jc S w L v) (hl:L.length<=1000000):Calls Tryz.prog 110 #[v] w fun e w'=>e= .returned (.bool (bY L))/\Ext w w':=by
 have HL:=ae hL;obtain⟨a,cap,rfl⟩:=hL.shape;obtain⟨V,hV⟩: ∃V,bY L=V:=⟨_,rfl⟩
 have HVV:=ae hV.symm;rw[hV];clear hL hV;by_cases hb:100<L.length
 .have HV:Hid (V=false):=ae (by rw[HVV.out];unfold bY;rw[dF (by omega)];rfl);have z1:(100:Int)< (L.length:Int):=by omega
  have z1':decide ((100:Int)< (L.length:Int))=true:=dT z1;have H8:Hid (Ext w w):=ae (aj.refl _ _);clear hb
  go_enter Tryz.func110,Tryz.ntmps110
  go_wp2_with fail
  all_goals go_ret
  all_goals (rw[HV.out];exact⟨rfl,H8.out⟩)
 have z1: ¬(100:Int)< (L.length:Int):=by omega
 have z1':decide ((100:Int)< (L.length:Int))=false:=dF z1
 go_enter Tryz.func110,Tryz.ntmps110
 go_wp2_with fail
 clear z1 z1'
 go_loopg [3] L.length (fun gk iv wr=> ∃k:Nat,iv= .int .i64 (k:Int)/\gk=L.length-k/\k<=L.length/\Hid (∀j,j<k->qg (rg L j)=true)/\Hid (Ext w wr))
 case atStart=>exact⟨0,rfl,rfl,Nat.zero_le _,ae (fun j h=>absurd h (Nat.not_lt_zero _)),ae (aj.refl _ _)⟩
 case round=>
  obtain⟨k,rfl,rfl,hk,HC,HE⟩:=hrel;by_cases hlt:k<L.length
  .obtain ⟨g,off,hga,_,hat⟩:=(HL.out.ext HE.out).at_ (by omega);subst hga;obtain⟨xa,xc,ya,yc,p0,p1,p2,p3,p4,p5,hk1,hk2⟩:=hat k hlt;obtain⟨z0,z1,z2,z2'⟩:=bz hlt;have hno:qg (rg L k)=false->V=false:=fun h=>by rw[HVV.out];exact OX hlt h
   have hyes:qg (rg L k)=true->∀j,j<k+1->qg (rg L j)=true:=fun h j hj=>by
    rcases Nat.lt_succ_iff_lt_or_eq.1 hj with h5|h5
    .exact HC.out j h5
    .rw [h5];exact h
   have tH:=ae hno;have qK:=ae hyes;have hok:=WM (rg L k);obtain⟨⟨x,y⟩,hxy⟩: ∃r,rg L k=r:=⟨_,rfl⟩
   rw[hxy] at p0 p1 p2 p3 p4 p5 hk1 hk2 hok tH qK;simp only at p0 p1 p2 p3 p4 p5 hk1 hk2 hok;have nR:=ae hok;have nJ:=ae (fun W (hW:Ext wr W)=>CJ x (tV x (.slice xa x.kids.length xc)) S W ⟨xa,xc,rfl,hk1.ext hW⟩);have HF2:=ae (fun W (hW:Ext wr W)=>CJ y (tV y (.slice ya y.kids.length yc)) S W ⟨ya,yc,rfl,hk2.ext hW⟩);have OY:=ae (fun(h1:wf ax x=true) (h2:wf ax y=true) W (hW:Ext wr W)=>acN y x (tV y (.slice ya y.kids.length yc)) (tV x (.slice xa x.kids.length xc)) S S W ⟨ya,yc,rfl,hk2.ext hW⟩ ⟨xa,xc,rfl,hk1.ext hW⟩ h2 h1);dsimp only[tV] at nJ HF2 OY;have sD:=uR wr;have EX:=fun x:XW wr=>x.ext.cell p0 (fun h=>h);have Ns:=fun x:XW wr=>x.ext.cell p1 (fun h=>h);have Nu:=fun x:XW wr=>x.ext.cell p2 (fun h=>h);have xp3:=fun x:XW wr=>x.ext.cell p3 (fun h=>h);have xp4:=fun x:XW wr=>x.ext.cell p4 (fun h=>h);have xp5:=fun x:XW wr=>x.ext.cell p5 (fun h=>h);have s0:=o9 x.sort;clear hat hno hyes hok hxy hk1 hk2 p0 p1 p2 p3 p4 p5;obtain⟨n1,hn1⟩: ∃b,wf ax x=b:=⟨_,rfl⟩
   obtain⟨n2,hn2⟩: ∃b,wf ax y=b:=⟨_,rfl⟩
   obtain⟨d0,hd0⟩: ∃b,decide (x.sort=ah)=b:=⟨_,rfl⟩
   rw[hn1] at nJ OY nR;rw[hn2] at HF2 OY nR;rw[hd0] at s0 nR;clear hn1 hn2 hd0;cases n1
   .have RS:=ae True.intro;have HV:=ae (tH.out (by rw[nR.out];simp))
    go_wp2_with fail
    refine aW wr (by assumption) (by kernel_rfl) (by kernel_rfl) ?_
    repeat (first|go_big_quiet_skip|(go_big_quiet_want;go_big_quiet_op;first|go_big_quiet_on|(apply Exists.intro;refine⟨fun x=>?_,?_⟩;(first|(go_at_call 24;with_reducible exact XW.call (nJ.out x.val x.ext))|(go_at_call 24;with_reducible exact XW.call (HF2.out x.val x.ext)));go_big_quiet_on)))
    refine wpQuiet_nil ?_;rintro w8 ⟨⟨_,dD⟩,rfl⟩
    try dsimp only
    have H8:=ae (HE.out.trans dD)
    go_wp2_with fail
    all_goals go_ret
    all_goals (rw[HV.out];exact⟨rfl,H8.out⟩)
   cases n2
   .have RS:=ae True.intro;have HV:=ae (tH.out (by rw[nR.out];simp))
    go_wp2_with fail
    refine aW wr (by assumption) (by kernel_rfl) (by kernel_rfl) ?_
    repeat (first|go_big_quiet_skip|(go_big_quiet_want;go_big_quiet_op;first|go_big_quiet_on|(apply Exists.intro;refine⟨fun x=>?_,?_⟩;(first|(go_at_call 24;with_reducible exact XW.call (nJ.out x.val x.ext))|(go_at_call 24;with_reducible exact XW.call (HF2.out x.val x.ext)));go_big_quiet_on)))
    refine wpQuiet_nil ?_;rintro w8 ⟨⟨_,dD⟩,rfl⟩
    try dsimp only
    have H8:=ae (HE.out.trans dD)
    go_wp2_with fail
    all_goals go_ret
    all_goals (rw[HV.out];exact⟨rfl,H8.out⟩)
   cases d0
   .have RS:=ae True.intro;have HV:=ae (tH.out (by rw[nR.out];simp))
    go_wp2_with fail
    refine aW wr (by assumption) (by kernel_rfl) (by kernel_rfl) ?_
    repeat (first|go_big_quiet_skip|(go_big_quiet_want;go_big_quiet_op;first|go_big_quiet_on|(apply Exists.intro;refine⟨fun x=>?_,?_⟩;(first|(go_at_call 24;with_reducible exact XW.call (nJ.out x.val x.ext))|(go_at_call 24;with_reducible exact XW.call (HF2.out x.val x.ext)));go_big_quiet_on)))
    refine wpQuiet_nil ?_;rintro w8 ⟨⟨_,dD⟩,rfl⟩
    try dsimp only
    have H8:=ae (HE.out.trans dD)
    go_wp2_with fail
    all_goals go_ret
    all_goals (rw[HV.out];exact⟨rfl,H8.out⟩)
   have RS:=ae (OY.out (by simp) (by simp));obtain⟨kn,hkn⟩: ∃b,RQ y x=b:=⟨_,rfl⟩
   rw[hkn] at RS nR;clear OY hkn;cases kn
   .have HV:=ae (tH.out (by rw[nR.out];simp))
    go_wp2_with fail
    refine aW wr (by assumption) (by kernel_rfl) (by kernel_rfl) ?_
    repeat (first|go_big_quiet_skip|(go_big_quiet_want;go_big_quiet_op;first|go_big_quiet_on|(apply Exists.intro;refine⟨fun x=>?_,?_⟩;(first|(go_at_call 24;with_reducible exact XW.call (nJ.out x.val x.ext))|(go_at_call 24;with_reducible exact XW.call (HF2.out x.val x.ext))|(go_at_call 168;exact XW.call (RS.out x.val x.ext)));go_big_quiet_on)))
    refine wpQuiet_nil ?_;rintro w8 ⟨⟨_,dD⟩,rfl⟩
    try dsimp only
    have H8:=ae (HE.out.trans dD)
    go_wp2_with fail
    all_goals go_ret
    all_goals (rw[HV.out];exact⟨rfl,H8.out⟩)
   have pz:=ae (qK.out (by rw[nR.out];simp))
   go_wp2_with fail
   refine aW wr (by assumption) (by kernel_rfl) (by kernel_rfl) ?_
   repeat (first|go_big_quiet_skip|(go_big_quiet_want;go_big_quiet_op;first|go_big_quiet_on|(apply Exists.intro;refine⟨fun x=>?_,?_⟩;(first|(go_at_call 24;with_reducible exact XW.call (nJ.out x.val x.ext))|(go_at_call 24;with_reducible exact XW.call (HF2.out x.val x.ext))|(go_at_call 168;exact XW.call (RS.out x.val x.ext)));go_big_quiet_on)))
   refine wpQuiet_nil ?_;rintro w8 ⟨⟨_,dD⟩,rfl⟩
   try dsimp only
   have H8:=ae (HE.out.trans dD)
   go_wp2_with fail
   go_roundg (L.length- (k+1))
   case measure=>omega
   case rel=>exact⟨k+1,by go_num,rfl,by omega,pz,H8⟩
  .obtain rfl:k=L.length:=by omega
   have z2:decide ((L.length:Int)< (L.length:Int))=false:=dF (by omega);have HV:Hid (V=true):=ae (by rw[HVV.out];exact WN (by omega) HC.out);have H8:=HE
   go_wp2_with fail
   all_goals go_ret
   all_goals (rw[HV.out];exact⟨rfl,H8.out⟩)
def qx (l:List Rl) (fuel:Int) (L:List Tm):Int:=if(!bY l||L.any fun t=>!wf ax t)=true then 1 else if fuel<0\/2000<fuel then 2 else 0
theorem acO (t:Tm) (u:Value) (w:World) (htab:bT w) (hT:bC (fun k=>k<w.heap.size) w t (tV t u)) (hs:(t.size:Int)<=1000000000000):Calls Tryz.prog 212 #[tV t u] w fun e w'=>e= .returned (.bool !(wf ax t))/\Ext w w':=by
 have hE:=(uR w).alloc (.cells #[.string t.name,.string t.sort,u] 24);have HF:=ae (fun W (hW:Ext w W)=>wZ t (tV t u) W (aC htab hW) ((hT.ext hW).weaken (fun k hk=>ay hk hW.size)) hs);obtain⟨a,cap,hu,hTL⟩:=hT;obtain rfl:u= .slice a t.kids.length cap:=by simpa[tV] using hu
 have HE:=ae hE;have hb:=ai w (tO t a cap);obtain⟨x0,x1,x2⟩:=ag hb;dsimp only[tV] at HF⊢;obtain⟨b,hb2⟩: ∃b,wf ax t=b:=⟨_,rfl⟩
 rw[hb2] at HF⊢;clear hE hb hb2 hTL hu
 go_enter Tryz.func212,Tryz.ntmps212
 go_wp2_with fail
 refine(HF.out _ HE.out).mono ?_;rintro e w4 ⟨rfl,hw4⟩;have H4:=ae (HE.out.trans hw4);clear hw4 HF x0 x1 x2
 go_wp2_with fail
 go_ret;exact⟨rfl,H4.out⟩
theorem WO (p:Tm->Bool) (L:List Tm) (v:Value) (S:Nat->Prop) (w:World) (hR:aA S w L v) (hl:L.length<=1000000)
  (hf: ∀t∈L,∀u W,Ext w W->bC S W t (tV t u)->Calls Tryz.prog 212 #[tV t u] W fun e W'=>e= .returned (.bool (p t))/\Ext W W'):
  Calls Tryz.prog 132 #[v,.func (.func 212) #[] #[]] w fun e w'=> ∃r:Int,e= .returned (.int .i64 r)/\decide (0<=r)=L.any p/\Ext w w':=by
 obtain⟨a,cap,rfl⟩:=hR.shape;have HR:=ae hR;have HF:=ae hf;clear hR hf
 go_enter Tryz.func132,Tryz.ntmps132
 go_wp2_with fail
 go_loopg [8] L.length (fun gk iv wr=> ∃k:Nat,iv= .int .i64 (k:Int)/\gk=L.length-k/\k<=L.length/\Hid (Ext w wr)/\Hid ((L.take k).any p=false))
 case atStart=>exact⟨0,rfl,rfl,Nat.zero_le _,ae (aj.refl _ _),ae rfl⟩
 case round=>
  obtain⟨k,rfl,rfl,hk,HE,HM⟩:=hrel;by_cases hlt:k<L.length
  .obtain ⟨g,off,hga,_,hat⟩:=(HR.out.ext HE.out).at_ (by omega);subst hga;obtain⟨xa,xc,q0,q1,q2,aY⟩:=hat k hlt;rw[<-Nat.add_assoc] at q1 q2;obtain⟨z0,z1,z2,z2'⟩:=bz hlt;have hmem:=aiZ hlt;have bI:=ae (HF.out _ hmem _ wr HE.out ⟨xa,xc,rfl,aY⟩);have HN:Hid (p (tg L k)=false->(L.take (k+1)).any p=false):=ae (fun h=>by
    rw[zC L k hlt,List.any_append,HM.out,List.any_cons,List.any_nil,h];rfl)
   have HY:Hid (p (tg L k)=true->L.any p=true):=ae (fun h=>List.any_eq_true.2 ⟨_,hmem,h⟩);obtain⟨x,hx⟩: ∃x,tg L k=x:=⟨_,rfl⟩
   rw[hx] at q0 q1 q2 bI HN HY;dsimp only[tV] at bI;obtain⟨b,hb⟩: ∃b,p x=b:=⟨_,rfl⟩
   rw[hb] at bI HN HY;clear hat hmem hx hb HM aY
   go_wp2_with fail
   refine bI.out.mono ?_;rintro e w4 ⟨rfl,hw4⟩;have H4:=ae (HE.out.trans hw4);clear hw4 q0 q1 q2 bI HE;cases b
   .have fV:=ae (HN.out rfl);clear HN HY
    go_wp2_with fail
    go_roundg (L.length- (k+1))
    case measure=>omega
    case rel=>exact⟨k+1,by go_num,rfl,by omega,H4,fV⟩
   .have qh:=ae (HY.out rfl);clear HN HY
    go_wp2_with fail
    go_ret;exact⟨_,rfl,by rw[qh.out];exact dT z0,H4.out⟩
  .obtain rfl:k=L.length:=by omega
   have z2:decide ((L.length:Int)< (L.length:Int))=false:=dF (by omega);have jr:=HM.out;rw[List.take_length] at jr;have KG:=ae jr;clear jr
   go_wp2_with fail
   go_ret;exact⟨_,rfl,by rw[KG.out];rfl,HE.out⟩
theorem WQ (p:Tm->Bool) (L:List Tm) (v:Value) (S:Nat->Prop) (w:World) (hR:aA S w L v) (hl:L.length<=1000000)
  (hf: ∀t∈L,∀u W,Ext w W->bC S W t (tV t u)->Calls Tryz.prog 212 #[tV t u] W fun e W'=>e= .returned (.bool (p t))/\Ext W W'):
  Calls Tryz.prog 60 #[v,.func (.func 212) #[] #[]] w fun e w'=>e= .returned (.bool (L.any p))/\Ext w w':=by
 have HI:=ae (WO p L v S w hR hl hf);clear hR hf
 go_enter Tryz.func60,Tryz.ntmps60
 go_wp2_with fail
 refine HI.out.mono ?_;rintro e w4 ⟨r,rfl,hr,hw4⟩;have H4:=ae hw4;have HRR:=ae hr;clear hw4 hr
 go_wp2_with fail
 go_ret;rw[<-HRR.out];exact⟨rfl,H4.out⟩
theorem WR (l:List Rl) (fuel:Int) (L:List Tm) (lv tv:Value) (w:World) (htab:bT w) (hL:jc (fun k=>k<w.heap.size) w l lv) (hT:aA (fun k=>k<w.heap.size) w L tv) (hll:l.length<=1000000) (hls: ∀r∈l,r.1.size<=100000/\r.2.size<=100000) (hts: ∀t∈L,(t.size:Int)<=1000000000000) (hb: -9223372036854775808<=fuel/\fuel<=9223372036854775807) (mr:L.length<=1000000):Calls Tryz.prog 166 #[lv,.int .i64 fuel,tv] w fun e w'=>e= .returned (.int .i64 (qx l fuel L))/\Ext w w':=by
 have oH:=ae (fun W (hW:Ext w W)=>Ew l lv W ((hL.ext hW).weaken (fun k hk=>ay hk hW.size)) (aC htab hW) hll hls);have BR:=ae (fun W (hW:Ext w W)=>WQ (fun t=>!wf ax t) L tv (fun k=>k<w.heap.size) W (hT.ext hW) mr (fun t ht u W2 hW2 OI=>acO t u W2 (aC htab (hW.trans hW2)) (OI.weaken (fun k hk=>ay hk (hW.trans hW2).size)) (hts t ht)));obtain⟨la,lc,rfl⟩:=hL.shape;obtain⟨ta,tc,rfl⟩:=hT.shape;obtain⟨Z,hZ⟩: ∃Z,qx l fuel L=Z:=⟨_,rfl⟩
 rw[hZ];have HZ:Hid (Z=if(!bY l||L.any fun t=>!wf ax t)=true then 1 else if fuel<0\/2000<fuel then 2 else 0):=ae hZ.symm;obtain⟨b1,hb1⟩: ∃b,bY l=b:=⟨_,rfl⟩
 obtain⟨b2,hb2⟩: ∃b,(L.any fun t=>!wf ax t)=b:=⟨_,rfl⟩
 rw[hb1] at oH HZ;rw[hb2] at BR HZ;clear hL hT hZ hb1 hb2 mr
 go_enter Tryz.func166,Tryz.ntmps166
 go_wp2_with fail
 refine(oH.out _ (aj.refl _ _)).mono ?_;rintro e w3 ⟨rfl,hw3⟩;have aS:=ae hw3;clear hw3 oH;cases b1 with
 |false=>
  obtain rfl:Z=1:=by rw[HZ.out];simp
  go_wp2_with fail
  go_ret;exact⟨rfl,aS.out⟩
 |true=>
  go_wp2_with fail
  refine(BR.out _ aS.out).mono ?_;rintro e w4 ⟨rfl,hw4⟩;have bQ:=ae (aS.out.trans hw4);clear hw4 BR;cases b2 with
  |true=>
   obtain rfl:Z=1:=by rw[HZ.out];simp
   go_wp2_with fail
   go_ret;exact⟨rfl,bQ.out⟩
  |false=>
   have hz:Z=if fuel<0\/2000<fuel then 2 else 0:=by rw[HZ.out];simp
   have HZ2:=ae hz;clear hz;by_cases h1:fuel<0
   .have t1:decide (fuel<0)=true:=dT h1;obtain rfl:Z=2:=by rw[HZ2.out,if_pos (.inl h1)]
    go_wp2_with fail
    go_ret;exact⟨rfl,bQ.out⟩
   have t1:decide (fuel<0)=false:=dF h1;by_cases h2:2000<fuel
   .have t2:decide (2000<fuel)=true:=dT h2;obtain rfl:Z=2:=by rw[HZ2.out,if_pos (.inr h2)]
    go_wp2_with fail
    go_ret;exact⟨rfl,bQ.out⟩
   have t2:decide (2000<fuel)=false:=dF h2;obtain rfl:Z=0:=by rw[HZ2.out,if_neg (by omega)]
   go_wp2_with fail
   go_ret;exact⟨rfl,bQ.out⟩
def nG (i:Nat) (p:List Nat):Rx:=((i:Int),p.map fun j:Nat=>(j:Int))
def nS (l:List Rl) (t:Tm) (x:Rx):Tm×Int:=
 if x.1<0\/(l.length:Int)<=x.1 then(bP,2) else match jh t x.2 with
  |none=>(bP,2)
  |some u=>match jL (rg l x.1.toNat) u with
   |none=>(bP,12)
   |some z=>gK t (x.2.map Int.toNat) z
theorem Gq {l:List Rl} (h:bY l=true) {i:Nat} (hi:i<l.length):qg (rg l i)=true:=by
 cases hr:qg (rg l i) with
 |true=>rfl
 |false=>rw[OX hi hr] at h;cases h
theorem Gs {r:Rl} (h:qg r=true):wf ax r.1=true/\wf ax r.2=true/\r.1.sort=ah/\∀f∈fD r.2,f∈fD r.1:=by
 rw[WM] at h;simp only[Bool.and_eq_true,decide_eq_true_eq] at h;obtain⟨⟨⟨h1,h2⟩,h3⟩,h4⟩:=h;refine⟨h1,h2,h3,fun f hf=>?_⟩;unfold RQ at h4;rw[List.all_eq_true] at h4;have:=h4 f (((yM h2).2 f).2 hf);exact((yM h1).2 f).1 (Jz.1 this)
theorem RU: ∀{p:List Nat} {t:Tm},uj t p->jh t (p.map fun j:Nat=>(j:Int))=some (uJ t p)
 |[],t,_=>rfl
 |i::p,t,h=>by
  rw[List.map_cons,yC,if_neg (by have:=h.1;omega),Int.toNat_natCast];exact RU h.2
theorem AV (p:List Nat):(p.map fun j:Nat=>(j:Int)).map Int.toNat=p:=by
 rw[List.map_map];have:(Int.toNat∘fun j:Nat=>(j:Int))=id:=by funext j;simp
 rw[this,List.map_id]
theorem acP {l:List Rl} {t:Tm} {i:Nat} {p:List Nat} {u:Tm} (h:jy l t=some (i,p,u)):nS l t (nG i p)=gK t p u:=by
 obtain⟨h1,h2,h3⟩:=zG l t i p u h;unfold nS nG;rw[if_neg (by simp only;omega)];simp only;rw[RU h1,Int.toNat_natCast];simp only[h3];rw[AV]
def gW (l:List Rl):Nat->Tm->List Rx->Tm×List Rx×Int
 |0,t,tr=>match jy l t with
  |none=>(t,tr,0)
  |some _=>(bP,[],6)
 |n+1,t,tr=>match jy l t with
  |none=>(t,tr,0)
  |some x=>if(gK t x.2.1 x.2.2).2=0 then gW l n (gK t x.2.1 x.2.2).1 (tr++[nG x.1 x.2.1]) else(bP,[],(gK t x.2.1 x.2.2).2)
def l_ (l:List Rl) (t:Tm) (fuel:Int):Tm×List Rx×Int:=if qx l fuel [t]=0 then gW l fuel.toNat t [] else(bP,[],qx l fuel [t])
theorem Uk {l:List Rl} {fuel:Int} {t:Tm} (h:qx l fuel [t]=0):bY l=true/\wf ax t=true/\0<=fuel/\fuel<=2000:=by
 unfold qx at h;split at h
 .cases h
 .rename_i h1
  split at h
  .cases h
  .rename_i h2
   have h3:(!bY l||[t].any fun t=>!wf ax t)=false:=by simpa using h1
   simp at h3;exact⟨h3.1,h3.2,by omega,by omega⟩
theorem rM {t u:Tm} {p:List Nat} (h:(gK t p u).2=0):(gK t p u).1=putAt t p u/\wf ax (putAt t p u)=true:=by
 unfold gK at h⊢;split at h
 .rename_i h1;rw[if_pos h1];exact⟨rfl,h1⟩
 .cases h
end
end Go.Proofs.YtlkcjmaiahnodaaGreatDoor
