/- The texts N43 N44 N51 N52 I96 I97 I100 I101 N53 N54 N55, one behind the other. -/
import Derived.Test.YtlkcjmaiahnodaaGreatDoorYAN
import Derived.Test.YtlkcjmaiahnodaaGreatDoorYAM
import Derived.Test.YtlkcjmaiahnodaaGreatDoorYAK
import Derived.Test.YtlkcjmaiahnodaaGreatDoorYAH
import Derived.Test.YtlkcjmaiahnodaaGreatDoorYAI
import Derived.Test.YtlkcjmaiahnodaaGreatDoorYAG
import Derived.Test.YtlkcjmaiahnodaaGreatDoorYAL
import Derived.Test.YtlkcjmaiahnodaaGreatDoorYAE
set_option linter.unusedVariables false
set_option linter.unusedSimpArgs false
set_option maxRecDepth 100000
set_option maxHeartbeats 8000000
namespace Go.Proofs.YtlkcjmaiahnodaaGreatDoor
open Go.RowKit Go.Hw Go Tm
section
open Go.Sort Go.Proofs Go.ChangeMaps
mutual
def lT:Tm->Int->Int->Int
 | .mk n s L,d,i=>xU L (d-1) (if d=0\/100<n.size\/100<s.size\/40<L.length then -1 else i-1)
def xU:List Tm->Int->Int->Int
 |[],_,i=>i
 |x::L,d,i=>if 0<=i then xU L d (lT x d i) else i
end
theorem yV (n s:By) (L:List Tm) (d i:Int):lT (.mk n s L) d i=xU L (d-1) (if d=0\/100<n.size\/100<s.size\/40<L.length then -1 else i-1):=by
 conv=>lhs;unfold lT
theorem Gs (d i:Int):xU [] d i=i:=by unfold xU;rfl
theorem Cm (x:Tm) (L:List Tm) (d i:Int):xU (x::L) d i=if 0<=i then xU L d (lT x d i) else i:=by
 conv=>lhs;unfold xU
theorem tJ (L:List Tm) (d i:Int) (h:i<0):xU L d i=i:=by
 cases L with
 |nil=>exact Gs d i
 |cons x L=>rw[Cm,if_neg (by omega)]
theorem Qu: ∀(t:Tm) (d i:Int),(0<=lT t d i->(t.size:Int)+lT t d i<=i)/\(0<=i-> -1<=lT t d i/\lT t d i<=i)/\(i<0->lT t d i=i-1\/lT t d i= -1):=by
 refine Tm.ind (fun n s L ih=>?_);intro d i;have key: ∀(M:List Tm),(∀x∈M,∀(d i:Int),(0<=lT x d i->(x.size:Int)+lT x d i<=i)/\(0<=i-> -1<=lT x d i/\lT x d i<=i)/\(i<0->lT x d i=i-1\/lT x d i= -1))->∀(d i:Int),(0<=xU M d i->(sizes M:Int)+xU M d i<=i)/\(0<=i-> -1<=xU M d i/\xU M d i<=i):=by
  intro M
  induction M with
  |nil=>intro _ d i;rw[Gs];exact⟨fun _=>by simp[sizes],fun h=>⟨by omega,Int.le_refl _⟩⟩
  |cons x M XR=>
   intro hx d i;have h1:=hx x (List.mem_cons_self ..) d i;have h2:=XR (fun y hy=>hx y (List.mem_cons_of_mem _ hy)) d (lT x d i);rw[Cm];have hsz:sizes (x::M)=x.size+sizes M:=by rw[sizes]
   by_cases hi:0<=i
   .rw [if_pos hi];have h3:=h1.2.1 hi;by_cases hb:0<=lT x d i
    .have h4:=h2.2 hb;refine⟨fun h=>?_,fun _=>⟨h4.1,by omega⟩⟩;have h5:=h1.1 hb;have h6:=h2.1 h;rw[hsz];omega
    .rw [tJ _ _ _ (by omega)];exact⟨fun h=>absurd h hb,fun _=>⟨h3.1,h3.2⟩⟩
   .rw [if_neg hi];exact⟨fun h=>absurd h hi,fun h=>absurd h hi⟩
 rw[yV];have hk:=key L ih (d-1);by_cases hc:d=0\/100<n.size\/100<s.size\/40<L.length
 .rw [if_pos hc,tJ _ _ _ (by omega)];exact⟨fun h=>absurd h (by omega),fun h=>⟨Int.le_refl _,by omega⟩,fun _=> .inr rfl⟩
 .rw [if_neg hc];have h1:=hk (i-1);refine⟨fun h=>?_,fun h=>?_,fun h=>?_⟩
  .have h2:=h1.1 h;rw[size_eq];simp only[Tm.kids];omega
  .by_cases h0:0<=i-1
   .have h2:=h1.2 h0;exact⟨h2.1,by omega⟩
   .rw [tJ _ _ _ (by omega)];exact⟨by omega,by omega⟩
  .rw [tJ _ _ _ (by omega)];exact .inl rfl
theorem XT: ∀(t:Tm) (d i:Int),(t.size:Int)<=i->(t.depth:Int)<=d->(∀x∈bC t,x.name.size<=100/\x.sort.size<=100/\x.kids.length<=40)->lT t d i=i- (t.size:Int):=by
 refine Tm.ind (fun n s L ih=>?_);intro d i h1 h2 h3;have key: ∀(M:List Tm),(∀x∈M,∀(d i:Int),(x.size:Int)<=i->(x.depth:Int)<=d->(∀y∈bC x,y.name.size<=100/\y.sort.size<=100/\y.kids.length<=40)->lT x d i=i- (x.size:Int))->(∀x∈M,∀y∈bC x,y.name.size<=100/\y.sort.size<=100/\y.kids.length<=40)->∀(d i:Int),(sizes M:Int)<=i->(depths M:Int)<=d->xU M d i=i- (sizes M:Int):=by
  intro M
  induction M with
  |nil=>intro _ _ d i _ _;rw[Gs];simp[sizes]
  |cons x M XR=>
   intro hx hs d i h1 h2;have hsz:sizes (x::M)=x.size+sizes M:=by rw[sizes]
   have hdz:depths (x::M)=max x.depth (depths M):=by rw[depths]
   rw[hsz] at h1⊢;rw[hdz] at h2;rw[Cm,if_pos (by omega),hx x (List.mem_cons_self ..) d i (by omega) (by omega) (hs x (List.mem_cons_self ..)),XR (fun y hy=>hx y (List.mem_cons_of_mem _ hy)) (fun y hy=>hs y (List.mem_cons_of_mem _ hy)) d _ (by omega) (by omega)];omega
 have h4:=h3 _ (jJ _);simp only[Tm.name,Tm.sort,Tm.kids] at h4;rw[size_eq,kE] at*;simp only[Tm.kids] at*;rw[yV,if_neg (by omega),key L ih (fun x hx y hy=>h3 y (lq (t:= .mk n s L) hx hy)) (d-1) (i-1) (by omega) (by omega)];omega
theorem ac': ∀(t:Tm) (v:Value) (S:Nat->Prop) (q r:Nat) (w:World) (d i:Int),bQ S w t v->¬S q->(∀k,S k->k<w.heap.size)->w.heap[q]?=some (.cells #[.int .i64 i] 3 (0,0))->w.cell? ⟨r,0,none⟩=some (.func (.func 112) #[] #[.pointer (some ⟨q,0,none⟩),.pointer (some ⟨r,0,none⟩)])->r≠q->0<=d->d<=80-> -1000<=i->i<=1100->
  Calls Tryz.prog 112 #[v,.int .i64 d,.pointer (some ⟨q,0,none⟩),.pointer (some ⟨r,0,none⟩)] w fun e w'=>e= .returned (.tuple #[])/\FwP q w w' (lT t d i):=by
 refine Tm.ind (fun n s L ih=>?_);intro v S q r w d i hT hq hS hc hr hrq hd0 hd1 hi0 hi1;obtain⟨a,cap,rfl,hT⟩:=hT;dsimp only[tV,Tm.name,Tm.sort,Tm.kids] at hT⊢;obtain⟨V,hV⟩: ∃V,lT (.mk n s L) d i=V:=⟨_,rfl⟩
 rw[hV];have HV:=ah hV;have dH:=ah hT;have HIH:=ah ih;have HQ:=ah hq;have iE:=ah hS;have T_:q<w.heap.size:=(Array.getElem?_eq_some_iff.1 hc).1;have Ua:=ah T_;have HRQ:=ah hrq;have HR:=ah hr;have dP:=ah ((uR w).alloc (.cells #[.string n,.string s,.slice a L.length cap] 24));have HB2:=ah (ay w (.cells #[.string n,.string s,.slice a L.length cap] 24));have HC:=ah (dP.out.heap hc (fun h=>h));have HZ0:Hid (w.heap.size+1<=(w.alloc (.cells #[.string n,.string s,.slice a L.length cap] 24)).heap.size):=ah (by simp);have c0:=aj HC.out 0 (.int .i64 i) rfl;have f0:=fun j=>aA HC.out j;clear ih hT hq hS hc hV hrq hr T_
 go_enter Tryz.func112,Tryz.ntmps112
 go_upto_region 2 with fail
 generalize w.alloc (.cells #[.string n,.string s,.slice a L.length cap] 24)=w1 at*;have hb4:=setBlock HC.out 0 (.int .i64 (i-1));have Nc:Hid ((w1.setCell ⟨q,0,none⟩ (.int .i64 (i-1))).heap[q]?=some (.cells #[.int .i64 (i-1)] 3 (0,0))):=ah (by simpa using hb4);have xP:=ah ((aC.refl (fun k=>k=q) w1).setCell (p:=⟨q,0,none⟩) (.inl rfl) (.int .i64 (i-1)));have Dn:Hid (aC (fun k=>k=q) w (w1.setCell ⟨q,0,none⟩ (.int .i64 (i-1)))):=ah ((dP.out.mono (fun _ _ h=>h.elim)).trans xP.out);have gV:=ah (xP.out.heap HB2.out (by have:=Ua.out;omega));have gW:Hid (w.heap.size+1<=(w1.setCell ⟨q,0,none⟩ (.int .i64 (i-1))).heap.size):=ah (Nat.le_trans HZ0.out xP.out.size);generalize (w1.setCell ⟨q,0,none⟩ (.int .i64 (i-1)))=w4 at*;clear hb4 c0 f0 HC HB2 xP HZ0;have c0:=aj Nc.out 0 (.int .i64 (i-1)) rfl;have f0:=fun j=>aA Nc.out j;obtain⟨b0,b1,b2⟩:=ak gV.out;by_cases e1:d=0
 .obtain rfl:V= -1:=by rw[<-HV.out,yV,if_pos (.inl e1),tJ _ _ _ (by omega)]
  have t1:(d==0)=true:=by rw[e1];rfl
  have hb5:=setBlock Nc.out 0 (.int .i64 (-1));have mX:Hid ((w4.setCell ⟨q,0,none⟩ (.int .i64 (-1))).heap[q]?=some (.cells #[.int .i64 (-1)] 3 (0,0))):=ah (by simpa using hb5);have h_:=ah ((aC.refl (fun k=>k=q) w4).setCell (p:=⟨q,0,none⟩) (.inl rfl) (.int .i64 (-1)));have kX:Hid (aC (fun k=>k=q) w (w4.setCell ⟨q,0,none⟩ (.int .i64 (-1)))):=ah (Dn.out.trans h_.out);have oV:=ah (h_.out.heap gV.out (by have:=Ua.out;omega));clear hb5 h_ e1
  go_upto_region 5 with fail
  generalize w4.setCell ⟨q,0,none⟩ (.int .i64 (-1))=w5 at*;have c1:=aj mX.out 0 (.int .i64 (-1)) rfl;obtain⟨d0,d1,d2⟩:=ak oV.out
  go_loopg [6] 0 (fun gk iv wr=>iv= .int .i64 0/\w5=wr)
  case atStart=>exact⟨rfl,rfl⟩
  case round=>
   obtain⟨rfl,rfl⟩:=hrel;by_cases hl0:0<L.length
   .have y1:decide ((0:Int)< (L.length:Int))=true:=dT (by omega);have y1':(0:Int)< (L.length:Int):=by omega
    go_wp2_with fail
    go_end0
    exact⟨rfl,kX.out,mX.out⟩
   .have y1:decide ((0:Int)< (L.length:Int))=false:=dF (by omega);have y1': ¬(0:Int)< (L.length:Int):=by omega
    go_wp2_with fail
    go_end0
    exact⟨rfl,kX.out,mX.out⟩
 have t1:(d==0)=false:=beq_eq_false_iff_ne.2 e1;by_cases e2:100<n.size
 .obtain rfl:V= -1:=by rw[<-HV.out,yV,if_pos (.inr (.inl e2)),tJ _ _ _ (by omega)]
  have t2:decide ((100:Int)< (n.size:Int))=true:=dT (by omega);have t2':(100:Int)< (n.size:Int):=by omega
  have hb5:=setBlock Nc.out 0 (.int .i64 (-1));have mX:Hid ((w4.setCell ⟨q,0,none⟩ (.int .i64 (-1))).heap[q]?=some (.cells #[.int .i64 (-1)] 3 (0,0))):=ah (by simpa using hb5);have h_:=ah ((aC.refl (fun k=>k=q) w4).setCell (p:=⟨q,0,none⟩) (.inl rfl) (.int .i64 (-1)));have kX:Hid (aC (fun k=>k=q) w (w4.setCell ⟨q,0,none⟩ (.int .i64 (-1)))):=ah (Dn.out.trans h_.out);have oV:=ah (h_.out.heap gV.out (by have:=Ua.out;omega));clear hb5 h_ e2
  go_upto_region 5 with fail
  generalize w4.setCell ⟨q,0,none⟩ (.int .i64 (-1))=w5 at*;have c1:=aj mX.out 0 (.int .i64 (-1)) rfl;obtain⟨d0,d1,d2⟩:=ak oV.out
  go_loopg [6] 0 (fun gk iv wr=>iv= .int .i64 0/\w5=wr)
  case atStart=>exact⟨rfl,rfl⟩
  case round=>
   obtain⟨rfl,rfl⟩:=hrel;by_cases hl0:0<L.length
   .have y1:decide ((0:Int)< (L.length:Int))=true:=dT (by omega);have y1':(0:Int)< (L.length:Int):=by omega
    go_wp2_with fail
    go_end0
    exact⟨rfl,kX.out,mX.out⟩
   .have y1:decide ((0:Int)< (L.length:Int))=false:=dF (by omega);have y1': ¬(0:Int)< (L.length:Int):=by omega
    go_wp2_with fail
    go_end0
    exact⟨rfl,kX.out,mX.out⟩
 have t2:decide ((100:Int)< (n.size:Int))=false:=dF (by omega);have t2': ¬(100:Int)< (n.size:Int):=by omega
 by_cases e3:100<s.size
 .obtain rfl:V= -1:=by rw[<-HV.out,yV,if_pos (.inr (.inr (.inl e3))),tJ _ _ _ (by omega)]
  have t3:decide ((100:Int)< (s.size:Int))=true:=dT (by omega);have SA:(100:Int)< (s.size:Int):=by omega
  have hb5:=setBlock Nc.out 0 (.int .i64 (-1));have mX:Hid ((w4.setCell ⟨q,0,none⟩ (.int .i64 (-1))).heap[q]?=some (.cells #[.int .i64 (-1)] 3 (0,0))):=ah (by simpa using hb5);have h_:=ah ((aC.refl (fun k=>k=q) w4).setCell (p:=⟨q,0,none⟩) (.inl rfl) (.int .i64 (-1)));have kX:Hid (aC (fun k=>k=q) w (w4.setCell ⟨q,0,none⟩ (.int .i64 (-1)))):=ah (Dn.out.trans h_.out);have oV:=ah (h_.out.heap gV.out (by have:=Ua.out;omega));clear hb5 h_ e3
  go_upto_region 5 with fail
  generalize w4.setCell ⟨q,0,none⟩ (.int .i64 (-1))=w5 at*;have c1:=aj mX.out 0 (.int .i64 (-1)) rfl;obtain⟨d0,d1,d2⟩:=ak oV.out
  go_loopg [6] 0 (fun gk iv wr=>iv= .int .i64 0/\w5=wr)
  case atStart=>exact⟨rfl,rfl⟩
  case round=>
   obtain⟨rfl,rfl⟩:=hrel;by_cases hl0:0<L.length
   .have y1:decide ((0:Int)< (L.length:Int))=true:=dT (by omega);have y1':(0:Int)< (L.length:Int):=by omega
    go_wp2_with fail
    go_end0
    exact⟨rfl,kX.out,mX.out⟩
   .have y1:decide ((0:Int)< (L.length:Int))=false:=dF (by omega);have y1': ¬(0:Int)< (L.length:Int):=by omega
    go_wp2_with fail
    go_end0
    exact⟨rfl,kX.out,mX.out⟩
 have t3:decide ((100:Int)< (s.size:Int))=false:=dF (by omega);have SA: ¬(100:Int)< (s.size:Int):=by omega
 by_cases e4:40<L.length
 .obtain rfl:V= -1:=by rw[<-HV.out,yV,if_pos (.inr (.inr (.inr e4))),tJ _ _ _ (by omega)]
  have t4:decide ((40:Int)< (L.length:Int))=true:=dT (by omega);have t4':(40:Int)< (L.length:Int):=by omega
  have hb5:=setBlock Nc.out 0 (.int .i64 (-1));have mX:Hid ((w4.setCell ⟨q,0,none⟩ (.int .i64 (-1))).heap[q]?=some (.cells #[.int .i64 (-1)] 3 (0,0))):=ah (by simpa using hb5);have h_:=ah ((aC.refl (fun k=>k=q) w4).setCell (p:=⟨q,0,none⟩) (.inl rfl) (.int .i64 (-1)));have kX:Hid (aC (fun k=>k=q) w (w4.setCell ⟨q,0,none⟩ (.int .i64 (-1)))):=ah (Dn.out.trans h_.out);have oV:=ah (h_.out.heap gV.out (by have:=Ua.out;omega));clear hb5 h_ e4
  go_upto_region 5 with fail
  generalize w4.setCell ⟨q,0,none⟩ (.int .i64 (-1))=w5 at*;have c1:=aj mX.out 0 (.int .i64 (-1)) rfl;obtain⟨d0,d1,d2⟩:=ak oV.out
  go_loopg [6] 0 (fun gk iv wr=>iv= .int .i64 0/\w5=wr)
  case atStart=>exact⟨rfl,rfl⟩
  case round=>
   obtain⟨rfl,rfl⟩:=hrel;by_cases hl0:0<L.length
   .have y1:decide ((0:Int)< (L.length:Int))=true:=dT (by omega);have y1':(0:Int)< (L.length:Int):=by omega
    go_wp2_with fail
    go_end0
    exact⟨rfl,kX.out,mX.out⟩
   .exfalso;omega
 have t4:decide ((40:Int)< (L.length:Int))=false:=dF (by omega);have t4': ¬(40:Int)< (L.length:Int):=by omega
 have xI:Hid (xU L (d-1) (i-1)=V):=ah (by rw[<-HV.out,yV,if_neg (by omega)]);have anU:L.length<=40:=by omega
 have HD:=ah (show 0<=d-1/\d-1<=80 by omega);clear e1 e2 e3 e4
 go_upto_region 5 with fail
 clear t1 t2 t2' t3 SA t4 t4' c0 f0 b0 b1 b2
 go_loopg [6] L.length (fun gk iv wr=> ∃(k:Nat) (j:Int),iv= .int .i64 (k:Int)/\gk=L.length-k/\k<=L.length/\ -1001<=j/\j<=1100/\Hid (aC (fun k=>k=q) w wr)/\Hid (wr.heap[q]?=some (.cells #[.int .i64 j] 3 (0,0)))/\Hid (wr.heap[w.heap.size]?=some (.cells #[.string n,.string s,.slice a L.length cap] 24 (0,0)))/\Hid (xU (L.drop k) (d-1) j=V))
 case atStart=>exact⟨0,i-1,rfl,rfl,Nat.zero_le _,by omega,by omega,Dn,Nc,gV,xI⟩
 case round=>
  clear Dn Nc gV xI gW;obtain⟨k,j,rfl,rfl,hk,hj0,hj1,HU,MZ,HB,jc⟩:=hrel;have c0:=aj MZ.out 0 (.int .i64 j) rfl;obtain⟨b0,b1,b2⟩:=ak HB.out;by_cases hlt:k<L.length
  .obtain ⟨z0,z1,z2,z2'⟩:=bZ hlt;have hvk:=jc.out;rw[Gt L k hlt,Cm] at hvk;by_cases hj:0<=j
   .have z3:decide ((0:Int)<=j)=true:=dT hj;rw[if_pos hj] at hvk;obtain⟨g,off,hga,_,hat⟩:=(dH.out.kept HU.out (fun k hk e=>HQ.out (e▸hk))).at_ (by omega);subst hga;obtain⟨xa,xc,q0,q1,q2,aW⟩:=hat k hlt;rw[<-Nat.add_assoc] at q1 q2;have bf:=ah (fun W (hW:Ext wr W)=>HIH.out (tg L k) (bY L k hlt) _ S q r W (d-1) j ⟨xa,xc,rfl,aW.ext hW⟩ HQ.out (fun k hk=>aF (iE.out k hk) (Nat.le_trans HU.out.size hW.size)) (hW.heap MZ.out (fun h=>h)) (hW.cell (HU.out.cell HR.out HRQ.out) (fun h=>h)) HRQ.out HD.out.1 HD.out.2 (by omega) hj1);have r0:=HU.out.cell HR.out HRQ.out;have hle:=(Qu (tg L k) (d-1) j).2.1 hj;dsimp only[tV] at bf;obtain⟨x,hx⟩: ∃x,tg L k=x:=⟨_,rfl⟩
    rw[hx] at q0 q1 q2 bf hvk hle;obtain⟨j2,hj2⟩: ∃j2,lT x (d-1) j=j2:=⟨_,rfl⟩
    rw[hj2] at bf hvk hle;have nZ:=ah hvk;have MQ:Hid (Ext wr wr):=ah (aC.refl _ _);have heg: ∀args W,(callFunc 112 args).run Tryz.prog W= .ok (.enter 112 args) W:=enters_of Tryz.func112 (by kernel_rfl) rfl;clear hat aW hx hvk hj2 jc
    go_wp2_with fail
    go_still_tail 8,(by kernel_rfl)
    change wpList _ _ _ _ _ wr.drew
    go_wp2_with fail
    refine(bf.out wr.drew MQ.out.drew).mono ?_;rintro e w5 ⟨rfl,hw5,hq5⟩;have dh:Hid (aC (fun k=>k=q) wr w5):=ah (((aC.refl (fun k=>k=q) wr).drewN' 1).trans hw5);have mX:=ah hq5;clear hw5 hq5 bf q0 q1 q2 r0 c0 b0 b1 b2
    go_wp2_with fail
    have kX:=ah (HU.out.trans dh.out);have fC:=ah (dh.out.heap HB.out (by have:=Ua.out;omega))
    go_roundg (L.length- (k+1))
    case measure=>omega
    case rel=>exact⟨k+1,j2,by go_num,rfl,by omega,by omega,by omega,kX,mX,fC,nZ⟩
   .have z3:decide ((0:Int)<=j)=false:=dF hj;rw[if_neg hj] at hvk;subst hvk;clear HV jc
    go_wp2_with fail
    go_end0
    exact⟨rfl,HU.out,MZ.out⟩
  .obtain rfl:k=L.length:=by omega
   have z2:decide ((L.length:Int)< (L.length:Int))=false:=dF (by omega);have hvk:=jc.out;rw[List.drop_length,Gs] at hvk;subst hvk;clear HV jc
   go_wp2_with fail
   go_end0
   exact⟨rfl,HU.out,MZ.out⟩
def zJ (L:List Tm) (i:Int):Int:=L.foldl (fun i t=>lT t 80 i) i
def pR (L:List Tm):Bool:=decide (zJ L 1100<0)
def Nh (t:Tm):Bool:=pR [t]||(formed aJ t&&decide (60<t.size))
theorem ZK (L:List Tm) (x:Tm) (i:Int):zJ (L++[x]) i=lT x 80 (zJ L i):=by unfold zJ;rw[List.foldl_append];rfl
theorem Nj: ∀(L:List Tm) (i:Int),L.length<=10-> -1000+(L.length:Int)<=i->i<=1100-> -1000<=zJ L i/\zJ L i<=1100
 |[],i,_,h0,h1=>by simp at h0;exact⟨h0,h1⟩
 |x::L,i,hl,h0,h1=>by
  have h2:=Qu x 80 i;rw[List.length_cons] at hl h0;have h3: -1000+(L.length:Int)<=lT x 80 i/\lT x 80 i<=1100:=by
   by_cases hi:0<=i
   .have:=h2.2.1 hi;omega
   .rcases h2.2.2 (by omega) with e|e<;>omega
  exact Nj L _ (by omega) h3.1 h3.2
theorem tK {t:Tm} (h:pR [t]=false):t.size<=1100:=by
 have h1:=of_decide_eq_false h;unfold zJ at h1;have h2:=(Qu t 80 1100).1 (by simpa using h1);have h3: ¬lT t 80 1100<0:=by simpa using h1
 omega
theorem Oc (L:List Tm) (v:Value) (S:Nat->Prop) (w:World) (hT:aI S w L v) (hS: ∀k,S k->k<w.heap.size) (hl:L.length<=10):
  Calls Tryz.prog 43 #[v] w fun e w'=>e= .returned (.bool (pR L))/\Ext w w':=by
 obtain⟨a,cap,rfl⟩:=hT.shape;obtain⟨V,hV⟩: ∃V,zJ L 1100=V:=⟨_,rfl⟩
 have hbv:pR L=decide (V<0):=by unfold pR;rw[hV]
 rw[hbv];have HV:=ah hV;have dH:=ah hT;have iE:=ah hS;have dP:=ah (((uR w).alloc (.cells #[.int .i64 1100] 3)).alloc (.cells #[.func (.func 112) #[] #[.pointer (some ⟨w.heap.size,0,none⟩),.pointer (some ⟨w.heap.size+1,0,none⟩)]] 158));have HQ0:=ah (aB (ay w (.cells #[.int .i64 1100] 3)) (.cells #[.func (.func 112) #[] #[.pointer (some ⟨w.heap.size,0,none⟩),.pointer (some ⟨w.heap.size+1,0,none⟩)]] 158));have HR0:=ah (alloc_at (w.alloc (.cells #[.int .i64 1100] 3)) (.cells #[.func (.func 112) #[] #[.pointer (some ⟨w.heap.size,0,none⟩),.pointer (some ⟨w.heap.size+1,0,none⟩)]] 158) (n:=w.heap.size+1) (by simp));have HZ0:Hid (w.heap.size+2<=((w.alloc (.cells #[.int .i64 1100] 3)).alloc (.cells #[.func (.func 112) #[] #[.pointer (some ⟨w.heap.size,0,none⟩),.pointer (some ⟨w.heap.size+1,0,none⟩)]] 158)).heap.size):=ah (by simp);have heg: ∀args W,(callFunc 112 args).run Tryz.prog W= .ok (.enter 112 args) W:=enters_of Tryz.func112 (by kernel_rfl) rfl;clear hT hS hV hbv
 go_enter Tryz.func43,Tryz.ntmps43
 go_upto_region 4 with fail
 generalize ((w.alloc (.cells #[.int .i64 1100] 3)).alloc (.cells #[.func (.func 112) #[] #[.pointer (some ⟨w.heap.size,0,none⟩),.pointer (some ⟨w.heap.size+1,0,none⟩)]] 158))=w1 at*
 go_wp2_with fail
 go_loopg [10] L.length (fun gk iv wr=> ∃k:Nat,iv= .int .i64 (k:Int)/\gk=L.length-k/\k<=L.length/\Hid (aC (fun k=>k=w.heap.size) w1 wr)/\Hid (wr.heap[w.heap.size]?=some (.cells #[.int .i64 (zJ (L.take k) 1100)] 3 (0,0)))/\Hid (wr.heap[w.heap.size+1]?=some (.cells #[.func (.func 112) #[] #[.pointer (some ⟨w.heap.size,0,none⟩),.pointer (some ⟨w.heap.size+1,0,none⟩)]] 158 (0,0))))
 case atStart=>exact⟨0,rfl,rfl,Nat.zero_le _,ah (aC.refl _ _),HQ0,HR0⟩
 case round=>
  clear HQ0 HR0;obtain⟨k,rfl,rfl,hk,HU,HQ,HR⟩:=hrel;have AV:Hid (Ext w wr):=ah (dP.out.trans' HU.out (fun j hj e=>by omega));by_cases hlt:k<L.length
  .obtain ⟨g,off,hga,_,hat⟩:=(dH.out.ext AV.out).at_ (by omega);subst hga;obtain⟨xa,xc,q0,q1,q2,aW⟩:=hat k hlt;rw[<-Nat.add_assoc] at q1 q2;obtain⟨z0,z1,z2,z2'⟩:=bZ hlt;have hbd:=Nj (L.take k) 1100 (by rw[List.length_take];omega) (by rw[List.length_take];omega) (by omega);have htk:zJ (L.take (k+1)) 1100=lT (tg L k) 80 (zJ (L.take k) 1100):=by
    rw[<-ZK]
    congr 1
    rw[List.take_add_one]
    congr 1
    unfold tg;rw[List.getD_eq_getElem?_getD,List.getElem?_eq_getElem hlt];rfl
   have rJ:=ah htk;obtain⟨x,hx⟩: ∃x,tg L k=x:=⟨_,rfl⟩
   rw[hx] at q0 q1 q2 aW rJ;obtain⟨I,hI⟩: ∃I,zJ (L.take k) 1100=I:=⟨_,rfl⟩
   rw[hI] at hbd HQ rJ;have o_:=(uR wr).alloc (tO x xa xc);have h_:=ah o_;have hSW: ∀j,S j->j<w.heap.size:=iE.out;have HWK:=ah (ac' x (tV x (.slice xa x.kids.length xc)) S w.heap.size (w.heap.size+1) (wr.alloc (tO x xa xc)) 80 I ⟨xa,xc,rfl,aW.ext o_⟩ (fun h=>Nat.lt_irrefl _ (hSW _ h)) (fun j hj=>aF (hSW j hj) (Nat.le_trans AV.out.size o_.size)) (o_.heap HQ.out (fun h=>h)) (aj (o_.heap HR.out (fun h=>h)) 0 _ rfl) (by omega) (by decide) (by decide) (by omega) (by omega));have r0:=aj (o_.heap HR.out (fun h=>h)) 0 (.func (.func 112) #[] #[.pointer (some ⟨w.heap.size,0,none⟩),.pointer (some ⟨w.heap.size+1,0,none⟩)]) rfl;have fC:=ah (ay wr (tO x xa xc));obtain⟨x0,x1,x2⟩:=ak fC.out;have sW:Hid (w.heap.size+2<=w1.heap.size):=HZ0;dsimp only[tV] at HWK;clear hat aW hx hI hbd htk o_ hSW
   go_wp2_with fail
   refine HWK.out.mono ?_;rintro e w6 ⟨rfl,hw6,hq6⟩;have uV:Hid (aC (fun k=>k=w.heap.size) w1 w6):=ah (HU.out.trans ((h_.out.mono (fun _ _ h=>h.elim)).trans hw6));have HQ6:Hid (w6.heap[w.heap.size]?=some (.cells #[.int .i64 (zJ (L.take (k+1)) 1100)] 3 (0,0))):=ah (by rw[rJ.out];exact hq6);have GY:=ah (hw6.heap (h_.out.heap HR.out (fun h=>h)) (by omega));clear hw6 hq6 HWK q0 q1 q2 r0 x0 x1 x2
   go_wp2_with fail
   go_roundg (L.length- (k+1))
   case measure=>omega
   case rel=>exact⟨k+1,by go_num,rfl,by omega,uV,HQ6,GY⟩
  .obtain rfl:k=L.length:=by omega
   have z2:decide ((L.length:Int)< (L.length:Int))=false:=dF (by omega);have hq:=HQ.out;rw[List.take_length,HV.out] at hq;have c0:=aj hq 0 (.int .i64 V) rfl;clear hq HV
   go_wp2_with fail
   go_ret;exact⟨rfl,AV.out⟩
theorem afZ (t:Tm) (a:Option Addr) (cap:Nat) (w:World):Calls Tryz.prog 41 #[tV t (.slice a t.kids.length cap)] w fun e w'=>e= .returned (.bool (decide (t.name=au)&&decide (t.sort=au)&&decide (t.kids.length=0)))/\Ext w w':=by
 have HE:=ah ((uR w).alloc (tO t a cap));have hb:=ay w (tO t a cap);obtain⟨y0,y1,y2⟩:=ak hb;have s0:=lg t.name;have s1:=lg t.sort;have s2:((t.kids.length:Int)==0)=decide (t.kids.length=0):=by
  rw[Bool.eq_iff_iff,decide_eq_true_eq,beq_iff_eq];omega
 unfold tO at HE;generalize t.kids.length=m at*;generalize decide (t.name=au)=d0 at*;generalize decide (t.sort=au)=d1 at*;obtain⟨d2,hd2⟩: ∃b,decide (m=0)=b:=⟨_,rfl⟩
 rw[hd2] at s2⊢;clear hb hd2;dsimp only[tV]
 go_enter Tryz.func41,Tryz.ntmps41
 cases d0
 .go_wp2_with fail
  go_ret;exact⟨rfl,HE.out⟩
 cases d1
 .go_wp2_with fail
  go_ret;exact⟨rfl,HE.out⟩
 go_wp2_with fail
 go_ret;exact⟨by simp,HE.out⟩
theorem ada (t:Tm) (v:Value) (w:World) (hT:bQ (fun k=>k<w.heap.size) w t v):
  Calls Tryz.prog 37 #[v] w fun e w'=>e= .returned (.bool (Nh t))/\Ext w w':=by
 obtain⟨Z,hZ⟩: ∃Z,Nh t=Z:=⟨_,rfl⟩
 rw[hZ];have jm:=ah hZ;have sQ:=ah (fun W (hW:Ext w W)=>AA t 1 1000 v _ W (hT.ext hW) (by decide) (by decide) (by decide));have bU:=ah (fun(hs:t.size<=1000000) W (hW:Ext w W)=>Gp t v _ W (hT.ext hW) hs);obtain⟨a,cap,rfl,hTL⟩:=hT;have hE1:=((uR w).alloc (tO t a cap))
 have hE2:=hE1.alloc (tO t a cap);have HE2:=ah hE2;have Fa:=ah (Oc [t] _ (fun k=>k< ((w.alloc (tO t a cap)).alloc (tO t a cap)).heap.size) _ (Jv (n:=w.heap.size+1) (alloc_at (w.alloc (tO t a cap)) (tO t a cap) (by simp)) (by simp) ((hTL.ext hE2).weaken (fun k hk=>aF hk hE2.size))) (fun k hk=>hk) (by simp));have HB1:=ah (ay w (tO t a cap));have HB2:=ah (aB (ay w (tO t a cap)) (tO t a cap));have hsf:=qo (nm:=aJ) t;obtain⟨sm,hsm⟩: ∃s,small aJ 1 1000 t=s:=⟨_,rfl⟩
 rw[hsm] at hsf sQ;have D8:=ah hsf;obtain⟨x0,x1,x2⟩:=ak HB1.out;dsimp only[tV] at sQ bU⊢;obtain⟨b1,hb1⟩: ∃b,pR [t]=b:=⟨_,rfl⟩
 have HB:=ah hb1;rw[hb1] at Fa;clear hTL hE1 hE2 hsf hsm hZ hb1
 go_enter Tryz.func37,Tryz.ntmps37
 go_wp2_with fail
 generalize (w.alloc (tO t a cap)).alloc (tO t a cap)=w1 at*;refine Fa.out.mono ?_;rintro e w3 ⟨rfl,hw3⟩;have aY:=ah (HE2.out.trans hw3);have HB3:=ah (hw3.heap HB2.out (fun h=>h));clear hw3 Fa HE2 HB2 HB1 x0 x1 x2;cases b1 with
 |true=>
  obtain rfl:Z=true:=by rw[<-jm.out];unfold Nh;rw[HB.out];rfl
  go_wp2_with fail
  go_ret;exact⟨rfl,aY.out⟩
 |false=>
  obtain⟨x0,x1,x2⟩:=ak HB3.out
  go_wp2_with fail
  refine(sQ.out _ aY.out).mono ?_;rintro e w4 ⟨rfl,hw4⟩;have bW:=ah (aY.out.trans hw4);have HB4:=ah (hw4.heap HB3.out (fun h=>h));clear hw4 sQ aY HB3 x0 x1 x2;by_cases hs:0<=sm
  .have t1:decide ((0:Int)<=sm)=true:=dT hs;have hf:formed aJ t=true:=by rw[D8.out];exact t1
   have hsz:=(tK HB.out)
   have vZ:=ah (bU.out (by omega) _ bW.out);have HZ2:Hid (Z=decide ((60:Int)< (t.size:Int))):=ah (by
    rw[<-jm.out];unfold Nh;rw[HB.out,hf,Bool.false_or,Bool.true_and,Bool.eq_iff_iff,decide_eq_true_eq,decide_eq_true_eq];omega)
   obtain⟨x0,x1,x2⟩:=ak HB4.out;obtain⟨sz,hsz2⟩: ∃n,t.size=n:=⟨_,rfl⟩
   rw[hsz2] at vZ HZ2;clear hf hsz hsz2 bU
   go_wp2_with fail
   refine vZ.out.mono ?_;rintro e w5 ⟨rfl,hw5⟩;have dA:=ah (bW.out.trans hw5);clear hw5 vZ x0 x1 x2;obtain rfl:Z=decide ((60:Int)< (sz:Int)):=HZ2.out
   go_wp2_with fail
   go_ret;exact⟨by first|rfl|simp,dA.out⟩
  .have t1:decide ((0:Int)<=sm)=false:=dF hs;obtain rfl:Z=false:=by rw[<-jm.out];unfold Nh;rw[HB.out,D8.out,t1];rfl
   go_wp2_with fail
   go_ret;exact⟨rfl,bW.out⟩
end
theorem eqV (a b c d:By) (w:World):(Op.equalIn 10000 116 (.agg #[.string a,.string b]) (.agg #[.string c,.string d])).run Tryz.prog w= .ok (decide ((a,b)=(c,d))) w:=by
 have u9:=Tryz.underlying9;have hS:Tryz.prog.underlying 116=some (.struct (Tryz.prog.fieldsOf 116)):=by kernel_rfl
 have hp:Tryz.prog.stoodInHeld 116=false:=by kernel_rfl
 rw[show(10000:Nat)=9999+1 from rfl,run_equalIn_agg w 9999 116 _ _ hS hp];simp only[Program.fieldsOf,Tryz.underlying116];go_simp;have tl: ∀x y:By,x.toList=y.toList<->x=y:=fun x y=>⟨fun e=>kZ (by rw[Lib.toList_data,Lib.toList_data] at e;exact e),fun e=>by rw[e]⟩
 by_cases h1:a=c<;>by_cases h2:b=d<;>simp[h1,h2,tl]
def lu (f:Vd) (l:List Vd):Bool:=l.any fun g=>decide (g=f)
theorem KF {f:Vd} {l:List Vd}:lu f l=true<->f∈l:=by
 unfold lu;rw[List.any_eq_true];exact⟨fun⟨x,h1,h2⟩=>by rw[<-of_decide_eq_true h2];exact h1,fun h=>⟨f,h,dT rfl⟩⟩
theorem aen {f:Vd} {l:List Vd} (h:f∉l):lu f l=false:=by
 cases e:lu f l
 .rfl
 .exact absurd (KF.1 e) h
theorem aeo (l:List Vd) (f:Vd) (v:Value) (S:Nat->Prop) (w:World) (hR:dL S w v l) (hl:l.length<=1000000):
  Calls Tryz.prog 237 #[v,.agg #[.string f.1,.string f.2]] w fun e w'=> ∃r:Int,e= .returned (.int .i64 r)/\decide (0<=r)=lu f l/\Ext w w':=by
 obtain⟨a,cap,rfl⟩:=hR.shape;have HR:=ah hR;have HL:=ah hl;have dP:=ah ((uR w).alloc (.cells #[.string f.1,.string f.2] 116));have HB0:=ah (ay w (.cells #[.string f.1,.string f.2] 116));obtain⟨c0,c1⟩:=bT HB0.out;have eX:=ah (fun a b W=>eqV f.1 f.2 a b W);clear hR hl
 go_enter Tryz.func237,Tryz.ntmps237
 go_wp2_with fail
 clear c0 c1;generalize w.alloc (.cells #[.string f.1,.string f.2] 116)=w2 at*
 go_loopg [8] l.length (fun gk iv wr=> ∃k:Nat,iv= .int .i64 (k:Int)/\gk=l.length-k/\k<=l.length/\Hid (Ext w2 wr)/\Hid (f∉l.take k))
 case atStart=>exact⟨0,rfl,rfl,Nat.zero_le _,ah (aC.refl _ _),ah (by simp)⟩
 case round=>
  obtain⟨k,rfl,rfl,hk,HE,HM⟩:=hrel;have jL:=ah (HE.out.heap HB0.out (fun h=>h));by_cases hlt:k<l.length
  .obtain ⟨g,off,hga,hat⟩:=((HR.out.ext dP.out).ext HE.out).at_ (by omega);subst hga;obtain⟨q0,q1⟩:=hat k hlt;obtain⟨c0,c1⟩:=bT jL.out;obtain⟨z0,z1,z2,z2'⟩:=bZ hlt;have hmem:vg l k∈l:=by unfold vg;rw[List.getD_eq_getElem?_getD,List.getElem?_eq_getElem hlt];exact List.getElem_mem hlt
   have HN:Hid (f≠vg l k->f∉l.take (k+1)):=ah (fun h=>by
    rw[List.take_add_one,List.mem_append];rintro(h1|h1)
    .exact HM.out h1
    .apply h;unfold vg;rw[List.getElem?_eq_getElem hlt] at h1;rw[List.getD_eq_getElem?_getD,List.getElem?_eq_getElem hlt];simpa using h1)
   have HY:Hid (f=vg l k->lu f l=true):=ah (fun h=>by rw[h];exact KF.2 hmem);have heq:=fun W=>eX.out (vg l k).1 (vg l k).2 W;have j_:=HL.out;obtain⟨x,hx⟩: ∃x,vg l k=x:=⟨_,rfl⟩
   rw[hx] at q0 q1 HN HY heq;have h3:decide ((f.1,f.2)=(x.1,x.2))=decide (f=x):=rfl;rw[h3] at heq;clear hat hmem hx HM h3;by_cases hfx:f=x
   .rw [dT hfx] at heq;have DY:=ah (HY.out hfx);clear HY HN hfx
    go_wp2_with fail
    go_quiet (fail)
    go_wp2_with fail
    all_goals go_ret
    all_goals exact⟨_,rfl,by rw[DY.out];exact dT z0,dP.out.trans (by first|exact HE.out|exact HE.out.drewN' _)⟩
   .rw [dF hfx] at heq;have jV:=ah (HN.out hfx);clear HY HN hfx
    go_wp2_with fail
    go_quiet (fail)
    go_wp2_with fail
    go_roundg (l.length- (k+1))
    case measure=>omega
    case rel=>exact⟨k+1,by go_num,rfl,by omega,ah (by first|exact HE.out|exact HE.out.drewN' _),jV⟩
  .obtain rfl:k=l.length:=by omega
   have z2:decide ((l.length:Int)< (l.length:Int))=false:=dF (by omega);have nI:Hid (lu f l=false):=ah (aen (by have:=HM.out;rw[List.take_length] at this;exact this));clear HM
   go_wp2_with fail
   go_ret;exact⟨_,rfl,by rw[nI.out];rfl,dP.out.trans HE.out⟩
theorem aep (l:List Vd) (f:Vd) (v:Value) (S:Nat->Prop) (w:World) (hR:dL S w v l) (hl:l.length<=1000000):
  Calls Tryz.prog 215 #[v,.agg #[.string f.1,.string f.2]] w fun e w'=>e= .returned (.bool (lu f l))/\Ext w w':=by
 have HI:=ah (fun W (hW:Ext w W)=>aeo l f v S W (hR.ext hW) hl);obtain⟨a,cap,rfl⟩:=hR.shape;have dP:=ah ((uR w).alloc (.cells #[.string f.1,.string f.2] 116));have hb:=ay w (.cells #[.string f.1,.string f.2] 116);obtain⟨c0,c1⟩:=bT hb;clear hR hl hb
 go_enter Tryz.func215,Tryz.ntmps215
 go_wp2_with fail
 refine(HI.out _ dP.out).mono ?_;rintro e w4 ⟨r,rfl,hr,hw4⟩;have H4:=ah (dP.out.trans hw4);have HRR:=ah hr;clear hw4 hr c0 c1
 go_wp2_with fail
 go_ret;rw[<-HRR.out];exact⟨rfl,H4.out⟩
theorem aiB (l:List Vd) (f:Vd) (lv:Value) (S:Nat->Prop) (bb:Nat) (w:World) (hR:dL S w lv l) (hc:w.cell? ⟨bb,0,none⟩=some lv) (hl:l.length<=1000000):
  Calls Tryz.prog 214 #[.agg #[.string f.1,.string f.2],.pointer (some ⟨bb,0,none⟩)] w fun e w'=>e= .returned (.bool (!lu f l))/\Ext w w':=by
 have HI:=ah (fun W (hW:Ext w W)=>aep l f lv S W (hR.ext hW) hl);obtain⟨a,cap,rfl⟩:=hR.shape;have dP:=ah ((uR w).alloc (.cells #[.string f.1,.string f.2] 116));have hb:=ay w (.cells #[.string f.1,.string f.2] 116);obtain⟨c0,c1⟩:=bT hb;have d0:=dP.out.cell hc (fun h=>h);obtain⟨B,hB⟩: ∃B,lu f l=B:=⟨_,rfl⟩
 rw[hB] at HI⊢;clear hR hl hb hc hB
 go_enter Tryz.func214,Tryz.ntmps214
 go_wp2_with fail
 refine(HI.out _ dP.out).mono ?_;rintro e w4 ⟨rfl,hw4⟩;have H4:=ah (dP.out.trans hw4);clear hw4 c0 c1 d0
 go_wp2_with fail
 go_ret;exact⟨rfl,H4.out⟩
theorem acQ (l m:List Vd) (lv v:Value) (S T:Nat->Prop) (bb:Nat) (w:World) (hL:dL S w lv l) (hc:w.cell? ⟨bb,0,none⟩=some lv) (hR:dL T w v m) (hl:l.length<=1000000) (hm:m.length<=1000000):
  Calls Tryz.prog 236 #[v,.func (.func 214) #[] #[.pointer (some ⟨bb,0,none⟩)]] w fun e w'=> ∃r:Int,e= .returned (.int .i64 r)/\decide (0<=r)=(m.any fun f=>!lu f l)/\Ext w w':=by
 obtain⟨a,cap,rfl⟩:=hR.shape;have HR:=ah hR;have HM0:=ah hm;have HF:=ah (fun f W (hW:Ext w W)=>aiB l f lv S bb W (hL.ext hW) (hW.cell hc (fun h=>h)) hl);obtain⟨p,hp⟩: ∃p:Vd->Bool,(fun f=>!lu f l)=p:=⟨_,rfl⟩
 have hpf: ∀f,(!lu f l)=p f:=fun f=>by rw[<-hp]
 have HF:Hid (∀f W,Ext w W->Calls Tryz.prog 214 #[.agg #[.string f.1,.string f.2],.pointer (some ⟨bb,0,none⟩)] W fun e w'=>e= .returned (.bool (p f))/\Ext W w'):=ah (fun f W hW=>by rw[<-hpf f];exact HF.out f W hW);rw[hp];clear hR hL hc hl hm hp hpf
 go_enter Tryz.func236,Tryz.ntmps236
 go_wp2_with fail
 go_loopg [8] m.length (fun gk iv wr=> ∃k:Nat,iv= .int .i64 (k:Int)/\gk=m.length-k/\k<=m.length/\Hid (Ext w wr)/\Hid ((m.take k).any p=false))
 case atStart=>exact⟨0,rfl,rfl,Nat.zero_le _,ah (aC.refl _ _),ah rfl⟩
 case round=>
  obtain⟨k,rfl,rfl,hk,HE,HM⟩:=hrel;by_cases hlt:k<m.length
  .obtain ⟨g,off,hga,hat⟩:=(HR.out.ext HE.out).at_ (by omega);subst hga;obtain⟨q0,q1⟩:=hat k hlt;obtain⟨z0,z1,z2,z2'⟩:=bZ hlt;have hmem:vg m k∈m:=by unfold vg;rw[List.getD_eq_getElem?_getD,List.getElem?_eq_getElem hlt];exact List.getElem_mem hlt
   have hsn:m.take (k+1)=m.take k++[vg m k]:=by
    rw[List.take_add_one];unfold vg;rw[List.getD_eq_getElem?_getD,List.getElem?_eq_getElem hlt];rfl
   have HN:Hid (p (vg m k)=false->(m.take (k+1)).any p=false):=ah (fun h=>by
    rw[hsn,List.any_append,HM.out,List.any_cons,List.any_nil,h];rfl)
   have HY:Hid (p (vg m k)=true->m.any p=true):=ah (fun h=>List.any_eq_true.2 ⟨_,hmem,h⟩);have gB:=ah (HF.out (vg m k) wr HE.out);have hlM:=HM0.out;obtain⟨x,hx⟩: ∃x,vg m k=x:=⟨_,rfl⟩
   rw[hx] at q0 q1 HN HY gB;obtain⟨b,hb⟩: ∃b,p x=b:=⟨_,rfl⟩
   rw[hb] at HN HY gB;clear hat hmem hx HM hsn hb
   go_wp2_with fail
   refine gB.out.mono ?_;rintro e w4 ⟨rfl,hw4⟩;have H4:=ah (HE.out.trans hw4);clear hw4 q0 q1 gB HE;cases b
   .have jV:=ah (HN.out rfl);clear HN HY
    go_wp2_with fail
    go_roundg (m.length- (k+1))
    case measure=>omega
    case rel=>exact⟨k+1,by go_num,rfl,by omega,H4,jV⟩
   .have DY:=ah (HY.out rfl);clear HN HY
    go_wp2_with fail
    go_ret;exact⟨_,rfl,by rw[DY.out];exact dT z0,H4.out⟩
  .obtain rfl:k=m.length:=by omega
   have z2:decide ((m.length:Int)< (m.length:Int))=false:=dF (by omega);have nI:Hid (m.any p=false):=ah (by have:=HM.out;rw[List.take_length] at this;exact this);clear HM
   go_wp2_with fail
   go_ret;exact⟨_,rfl,by rw[nI.out];rfl,HE.out⟩
theorem acE (l m:List Vd) (lv v:Value) (S T:Nat->Prop) (bb:Nat) (w:World) (hL:dL S w lv l) (hc:w.cell? ⟨bb,0,none⟩=some lv) (hR:dL T w v m) (hl:l.length<=1000000) (hm:m.length<=1000000):
  Calls Tryz.prog 213 #[v,.func (.func 214) #[] #[.pointer (some ⟨bb,0,none⟩)]] w fun e w'=>e= .returned (.bool (m.any fun f=>!lu f l))/\Ext w w':=by
 have HI:=ah (acQ l m lv v S T bb w hL hc hR hl hm);obtain⟨B,hB⟩: ∃B,(m.any fun f=>!lu f l)=B:=⟨_,rfl⟩
 rw[hB] at HI⊢;clear hL hc hR hl hm hB
 go_enter Tryz.func213,Tryz.ntmps213
 go_wp2_with fail
 refine HI.out.mono ?_;rintro e w4 ⟨r,rfl,hr,hw4⟩;have H4:=ah hw4;have HRR:=ah hr;clear hw4 hr
 go_wp2_with fail
 go_ret;rw[<-HRR.out];exact⟨rfl,H4.out⟩
def ql (r:Rl):Bool:=wf aJ r.1&&wf aJ r.2&&decide (r.1.sort=au)&&!((rW r.2).1.any fun f=>!lu f (rW r.1).1)
theorem LD (t:Tm):(rW t).1.length<=t.size:=by
 unfold rW;split
 .have h1:=DW (vl (bC t)) [];have h2:=Wu t;simp only[List.length_nil] at h1;show(dO [] (vl (bC t))).1.length<=_;omega
 .simp
theorem acD (x y:Tm) (xa ya:Option Addr) (xc yc:Nat) (w:World) (hx:aI (fun k=>k<w.heap.size) w x.kids (.slice xa x.kids.length xc)) (hy:aI (fun k=>k<w.heap.size) w y.kids (.slice ya y.kids.length yc)) (htab:dN w) (hsx:x.size<=100000) (hsy:y.size<=100000):
  Calls Tryz.prog 170 #[.agg #[.string x.name,.string x.sort,.slice xa x.kids.length xc,.string y.name,.string y.sort,.slice ya y.kids.length yc]] w fun e w'=>e= .returned (.bool (ql (x,y)))/\Ext w w':=by
 have HX:=ah (fun W (hW:Ext w W)=>Au x _ W (aS htab hW) ⟨xa,xc,rfl,(hx.ext hW).weaken (fun k hk=>aF hk hW.size)⟩ (by omega));have HY:=ah (fun W (hW:Ext w W)=>Au y _ W (aS htab hW) ⟨ya,yc,rfl,(hy.ext hW).weaken (fun k hk=>aF hk hW.size)⟩ (by omega));have iO:=ah (fun W (hW:Ext w W)=>sO x _ W (aS htab hW) ⟨xa,xc,rfl,(hx.ext hW).weaken (fun k hk=>aF hk hW.size)⟩ (by omega));have IW:=ah (fun W (hW:Ext w W)=>sO y _ W (aS htab hW) ⟨ya,yc,rfl,(hy.ext hW).weaken (fun k hk=>aF hk hW.size)⟩ (by omega));have HLX:Hid ((rW x).1.length<=1000000):=ah (by have:=LD x;omega);have HLY:Hid ((rW y).1.length<=1000000):=ah (by have:=LD y;omega);have HZ:Hid (Ext w (w.alloc (.cells #[.string x.name,.string x.sort,.slice xa x.kids.length xc,.string y.name,.string y.sort,.slice ya y.kids.length yc] 146))):=ah ((uR w).alloc _);have HB:=ah (ay w (.cells #[.string x.name,.string x.sort,.slice xa x.kids.length xc,.string y.name,.string y.sort,.slice ya y.kids.length yc] 146));unfold ql;dsimp only[tV] at HX HY iO IW⊢;obtain⟨A,hA⟩: ∃b,wf aJ x=b:=⟨_,rfl⟩
 obtain⟨B,hB⟩: ∃b,wf aJ y=b:=⟨_,rfl⟩
 obtain⟨VX,hVX⟩: ∃b,rW x=b:=⟨_,rfl⟩
 obtain⟨VY,hVY⟩: ∃b,rW y=b:=⟨_,rfl⟩
 rw[hA] at HX⊢;rw[hB] at HY⊢;rw[hVX] at iO HLX⊢;rw[hVY] at IW HLY⊢;obtain⟨R,hR⟩: ∃b,(A&&B&&decide (x.sort=au)&&!(VY.1.any fun f=>!lu f VX.1))=b:=⟨_,rfl⟩
 rw[hR];have HR:=ah hR;obtain⟨q0,q1,q2,q3,q4,q5⟩:=fA HB.out;clear hA hB hVX hVY hR hx hy htab hsx hsy
 go_enter Tryz.func170,Tryz.ntmps170
 go_wp2_with fail
 refine(HX.out _ HZ.out).mono ?_;rintro e w4 ⟨rfl,hw4⟩;have H4:=ah (HZ.out.trans hw4);have HB4:=ah (hw4.heap HB.out (fun h=>h));clear hw4 q0 q1 q2 q3 q4 q5 HX HB;obtain⟨q0,q1,q2,q3,q4,q5⟩:=fA HB4.out;cases A
 .go_wp2_with fail
  all_goals go_ret
  all_goals (first|exact⟨by rw[<-HR.out];rfl,H4.out⟩|exact⟨by rw[<-HR.out];simp,H4.out⟩)
 .go_wp2_with fail
  refine(HY.out _ H4.out).mono ?_;rintro e w5 ⟨rfl,hw5⟩;have H5:=ah (H4.out.trans hw5);have fC:=ah (hw5.heap HB4.out (fun h=>h));clear hw5 q0 q1 q2 q3 q4 q5 HY HB4;obtain⟨q0,q1,q2,q3,q4,q5⟩:=fA fC.out;cases B
  .go_wp2_with fail
   all_goals go_ret
   all_goals (first|exact⟨by rw[<-HR.out];rfl,H5.out⟩|exact⟨by rw[<-HR.out];simp,H5.out⟩)
  .by_cases hs0:x.sort.size=0
   .have hse:=jv _ hs0;have adK:decide (x.sort=au)=true:=dT hse;have HR2:Hid ((!(VY.1.any fun f=>!lu f VX.1))=R):=ah (by rw[<-HR.out,adK];simp);rw[hse] at q1;rw[hse] at iO fC;clear HR adK
    go_wp2_with fail
    refine(iO.out _ H5.out).mono ?_;rintro e w6 ⟨r6,rfl,hF6,hw6⟩;obtain⟨fa,fc,rfl⟩:=dL.shape hF6;have hQ:=(uR w6).alloc (.cells #[.slice fa VX.1.length fc] 111);have H7:=ah ((H5.out.trans hw6).trans hQ);have eU:=ah ((hw6.trans hQ).heap fC.out (fun h=>h));have HF7:=ah (hF6.ext hQ);have Oj:=ah (ay w6 (.cells #[.slice fa VX.1.length fc] 111));clear q0 q1 q2 q3 q4 q5 iO fC hF6 hw6 hQ;obtain⟨n6,LG⟩: ∃n,w6.heap.size=n:=⟨_,rfl⟩
    rw[LG] at Oj;obtain⟨q0,q1,q2,q3,q4,q5⟩:=fA eU.out
    go_wp2_with fail
    try rw[LG]
    clear LG;generalize w6.alloc (.cells #[.slice fa VX.1.length fc] 111)=w7 at*;refine(IW.out _ H7.out).mono ?_;rintro e w8 ⟨r8,rfl,hF8,hw8⟩;obtain⟨ga,gc,rfl⟩:=dL.shape hF8;have H8:=ah (H7.out.trans hw8);have Sj:=ah (acE VX.1 VY.1 (.slice fa VX.1.length fc) (.slice ga VY.1.length gc) _ _ n6 w8 (HF7.out.ext hw8) (aj (hw8.heap Oj.out (fun h=>h)) 0 _ rfl) hF8 HLX.out HLY.out);obtain⟨Z,hZ⟩: ∃Z,(VY.1.any fun f=>!lu f VX.1)=Z:=⟨_,rfl⟩
    rw[hZ] at Sj HR2;clear q0 q1 q2 q3 q4 q5 IW eU hF8 hw8 hZ
    go_wp2_with fail
    refine Sj.out.mono ?_;rintro e w9 ⟨rfl,jd⟩;have H9:=ah (H8.out.trans jd);clear jd Sj
    go_wp2_with fail
    go_ret;exact⟨by rw[<-HR2.out];rfl,H9.out⟩
   .have hne:x.sort≠au:=fun e=>hs0 (by rw[e];rfl);obtain⟨e1,e2,e3,e4⟩:=iq x.sort (Nat.pos_of_ne_zero hs0);have hne2:decide (x.sort=au)=false:=dF hne;have HR2:Hid (R=false):=ah (by rw[<-HR.out,hne2];simp);clear HR hne2 hne hs0
    go_wp2_with fail
    all_goals go_ret
    all_goals (rw[HR2.out];exact⟨rfl,H5.out⟩)
theorem YW (x y:Tm) (xa ya:Option Addr) (xc yc:Nat) (w:World) (hx:aI (fun k=>k<w.heap.size) w x.kids (.slice xa x.kids.length xc)) (hy:aI (fun k=>k<w.heap.size) w y.kids (.slice ya y.kids.length yc)) (htab:dN w) (hsx:x.size<=100000) (hsy:y.size<=100000):
  Calls Tryz.prog 169 #[.agg #[.string x.name,.string x.sort,.slice xa x.kids.length xc,.string y.name,.string y.sort,.slice ya y.kids.length yc]] w fun e w'=>e= .returned (.bool (!ql (x,y)))/\Ext w w':=by
 have HX:=ah (fun W (hW:Ext w W)=>acD x y xa ya xc yc W ((hx.ext hW).weaken (fun k hk=>aF hk hW.size)) ((hy.ext hW).weaken (fun k hk=>aF hk hW.size)) (aS htab hW) hsx hsy);have HZ:Hid (Ext w (w.alloc (.cells #[.string x.name,.string x.sort,.slice xa x.kids.length xc,.string y.name,.string y.sort,.slice ya y.kids.length yc] 146))):=ah ((uR w).alloc _);have HB:=ah (ay w (.cells #[.string x.name,.string x.sort,.slice xa x.kids.length xc,.string y.name,.string y.sort,.slice ya y.kids.length yc] 146));obtain⟨R,hR⟩: ∃b,ql (x,y)=b:=⟨_,rfl⟩
 rw[hR] at HX⊢;obtain⟨q0,q1,q2,q3,q4,q5⟩:=fA HB.out;clear hx hy htab hsx hsy hR
 go_enter Tryz.func169,Tryz.ntmps169
 go_wp2_with fail
 refine(HX.out _ HZ.out).mono ?_;rintro e w4 ⟨rfl,hw4⟩;have H4:=ah (HZ.out.trans hw4);clear hw4 q0 q1 q2 q3 q4 q5 HX HB
 go_wp2_with fail
 go_ret;exact⟨rfl,H4.out⟩
theorem YX (p:Rl->Bool) (J:Nat->World->Prop) (hJ: ∀k W W',J k W->Ext W W'->J k W') (L:List Rl) (v:Value) (S:Nat->Prop) (w:World) (hw:J 0 w) (hl:L.length<=1000000)
  (hR: ∀k W,J k W->jq S W L v) (hf: ∀k,k<L.length->∀xa xc ya yc W,J k W->aI S W (rg L k).1.kids (.slice xa (rg L k).1.kids.length xc)->aI S W (rg L k).2.kids (.slice ya (rg L k).2.kids.length yc)->Calls Tryz.prog 169 #[.agg #[.string (rg L k).1.name,.string (rg L k).1.sort,.slice xa (rg L k).1.kids.length xc,.string (rg L k).2.name,.string (rg L k).2.sort,.slice ya (rg L k).2.kids.length yc]] W fun e W'=>e= .returned (.bool (p (rg L k)))/\J (k+1) W'):
  Calls Tryz.prog 165 #[v,.func (.func 169) #[] #[]] w fun e w'=>e= .returned (.int .i64 (if L.findIdx p<L.length then(L.findIdx p:Int) else -1))/\∃k,k<=L.length/\J k w':=by
 obtain⟨a,cap,rfl⟩:=(hR 0 w hw).shape;have HW:=ah hw;have HR:=ah hR;have HF:=ah hf;obtain⟨X,hX⟩: ∃X:Int,(if L.findIdx p<L.length then(L.findIdx p:Int) else -1)=X:=⟨_,rfl⟩
 rw[hX];have HX:=ah hX;clear hw hR hf hJ hX
 go_enter Tryz.func165,Tryz.ntmps165
 go_wp2_with fail
 go_loopg [8] L.length (fun gk iv wr=> ∃k:Nat,iv= .int .i64 (k:Int)/\gk=L.length-k/\k<=L.length/\Hid (J k wr)/\Hid (∀j,j<k->p (rg L j)=false))
 case atStart=>exact⟨0,rfl,rfl,Nat.zero_le _,HW,ah (fun j h=>absurd h (Nat.not_lt_zero _))⟩
 case round=>
  obtain⟨k,rfl,rfl,hk,HK,HM⟩:=hrel;have hgt: ∀j,(h:j<L.length)->rg L j=L[j]:=fun j h=>by unfold rg;rw[List.getD_eq_getElem?_getD,List.getElem?_eq_getElem h];rfl
  by_cases hlt:k<L.length
  .obtain ⟨g,off,hga,_,hat⟩:=(HR.out k wr HK.out).at_ (by omega);subst hga;obtain⟨xa,xc,ya,yc,q0,q1,q2,q3,q4,q5,hx,hy⟩:=hat k hlt;obtain⟨z0,z1,z2,z2'⟩:=bZ hlt;have gB:=ah (HF.out k hlt _ _ _ _ wr HK.out hx hy);have HN:Hid (p (rg L k)=false->∀j,j<k+1->p (rg L j)=false):=ah (fun h j hj=>by
    rcases Nat.lt_succ_iff_lt_or_eq.1 hj with h5|h5
    .exact HM.out j h5
    .rw [h5];exact h)
   have HY:Hid (p (rg L k)=true->L.findIdx p=k):=ah (fun h=>by
    rcases Nat.lt_trichotomy (L.findIdx p) k with e|e|e
    .have h1:L.findIdx p<L.length:=by omega
     have h2:=List.findIdx_getElem (w:=h1);rw[<-hgt _ h1,HM.out _ e] at h2;cases h2
    .exact e
    .have h2:=List.not_of_lt_findIdx e;rw[<-hgt _ hlt] at h2;rw[h2] at h;cases h)
   obtain⟨⟨x,y⟩,hxy⟩: ∃r,rg L k=r:=⟨_,rfl⟩
   rw[hxy] at q0 q1 q2 q3 q4 q5 gB HN HY;dsimp only at q0 q1 q2 q3 q4 q5 gB HN HY;obtain⟨b,hb⟩: ∃b,p (x,y)=b:=⟨_,rfl⟩
   rw[hb] at gB HN HY;clear hat hx hy hxy hb HM hgt
   go_wp2_with fail
   refine gB.out.mono ?_;rintro e w4 ⟨rfl,hw4⟩;have H4:=ah hw4;clear hw4 q0 q1 q2 q3 q4 q5 gB HK;cases b
   .have jV:=ah (HN.out rfl);clear HN HY
    go_wp2_with fail
    go_roundg (L.length- (k+1))
    case measure=>omega
    case rel=>exact⟨k+1,by go_num,rfl,by omega,H4,jV⟩
   .have DY:=ah (HY.out rfl);clear HN HY
    go_wp2_with fail
    go_ret;exact⟨by rw[<-HX.out,DY.out,if_pos hlt];rfl,k+1,by omega,H4.out⟩
  .obtain rfl:k=L.length:=by omega
   have z2:decide ((L.length:Int)< (L.length:Int))=false:=dF (by omega);have HV:Hid (¬L.findIdx p<L.length):=ah (fun h=>by
    have h2:=List.findIdx_getElem (w:=h);rw[<-hgt _ h,HM.out _ h] at h2;cases h2)
   clear hgt
   go_wp2_with fail
   go_ret;exact⟨by rw[<-HX.out,if_neg HV.out];rfl,L.length,Nat.le_refl _,HK.out⟩
theorem YZ (p:Rl->Bool) (J:Nat->World->Prop) (hJ: ∀k W W',J k W->Ext W W'->J k W') (L:List Rl) (v:Value) (S:Nat->Prop) (w:World) (hw:J 0 w) (hl:L.length<=1000000)
  (hR: ∀k W,J k W->jq S W L v) (hf: ∀k,k<L.length->∀xa xc ya yc W,J k W->aI S W (rg L k).1.kids (.slice xa (rg L k).1.kids.length xc)->aI S W (rg L k).2.kids (.slice ya (rg L k).2.kids.length yc)->Calls Tryz.prog 169 #[.agg #[.string (rg L k).1.name,.string (rg L k).1.sort,.slice xa (rg L k).1.kids.length xc,.string (rg L k).2.name,.string (rg L k).2.sort,.slice ya (rg L k).2.kids.length yc]] W fun e W'=>e= .returned (.bool (p (rg L k)))/\J (k+1) W'):
  Calls Tryz.prog 106 #[v,.func (.func 169) #[] #[]] w fun e w'=>e= .returned (.bool (L.any p))/\∃k,k<=L.length/\J k w':=by
 have HI:=ah (YX p J hJ L v S w hw hl hR hf);have HV:Hid (decide (L.findIdx p<L.length)=L.any p):=ah (by rw[Bool.eq_iff_iff,decide_eq_true_eq,List.findIdx_lt_length,List.any_eq_true]);clear hw hR hf hJ;by_cases h:L.findIdx p<L.length
 .have hv:L.any p=true:=by rw[<-HV.out];exact dT h
  rw[hv];rw[if_pos h] at HI;have z0:(0:Int)<=((L.findIdx p:Nat):Int):=by omega
  generalize L.findIdx p=X at*;clear h hv
  go_enter Tryz.func106,Tryz.ntmps106
  go_wp2_with fail
  refine HI.out.mono ?_;rintro e w4 ⟨rfl,k,hk,hw4⟩;have H4:=ah hw4;clear hw4
  go_wp2_with fail
  go_ret;exact⟨by first|rfl|simp,k,hk,H4.out⟩
 .have hv:L.any p=false:=by rw[<-HV.out];exact dF h
  rw[hv];rw[if_neg h] at HI;clear h hv HV
  go_enter Tryz.func106,Tryz.ntmps106
  go_wp2_with fail
  refine HI.out.mono ?_;rintro e w4 ⟨rfl,k,hk,hw4⟩;have H4:=ah hw4;clear hw4
  go_wp2_with fail
  go_ret;exact⟨by first|rfl|simp,k,hk,H4.out⟩
theorem acF (L:List Rl) (v:Value) (w:World) (hR:jq (fun k=>k<w.heap.size) w L v) (htab:dN w) (hl:L.length<=1000000) (hs: ∀r∈L,r.1.size<=100000/\r.2.size<=100000):Calls Tryz.prog 106 #[v,.func (.func 169) #[] #[]] w fun e w'=>e= .returned (.bool (L.any fun r=>!ql r))/\Ext w w':=
 (YZ (fun r=>!ql r) (fun _ W=>Ext w W) (fun _ _ _ h h2=>h.trans h2) L v (fun k=>k<w.heap.size) w (aC.refl _ _) hl (fun k W h=>hR.ext h) (fun k hk xa xc ya yc W h hx hy=>(YW (rg L k).1 (rg L k).2 xa ya xc yc W (hx.weaken (fun j hj=>aF hj h.size)) (hy.weaken (fun j hj=>aF hj h.size)) (aS htab h) (hs _ (tZ hk)).1 (hs _ (tZ hk)).2).mono fun e W' ⟨h1,h2⟩=>⟨h1,h.trans h2⟩)).mono fun e w' ⟨h1,k,_,h2⟩=>⟨h1,h2⟩
def dX (l:List Rl):Bool:=decide (l.length<=100)&&!(l.any fun r=>!ql r)
theorem Kt (L:List Rl) (v:Value) (w:World) (hR:jq (fun k=>k<w.heap.size) w L v) (htab:dN w) (hl:L.length<=1000000) (hs: ∀r∈L,r.1.size<=100000/\r.2.size<=100000):Calls Tryz.prog 115 #[v] w fun e w'=>e= .returned (.bool (dX L))/\Ext w w':=by
 have HC:=ah (acF L v w hR htab hl hs);obtain⟨a,c,rfl⟩:=hR.shape;unfold dX;obtain⟨Z,hZ⟩: ∃Z,(L.any fun r=>!ql r)=Z:=⟨_,rfl⟩
 rw[hZ] at HC⊢;clear hR htab hl hs hZ;by_cases h:L.length<=100
 .have y1:(L.length:Int)<=100:=by omega
  have y1':decide ((L.length:Int)<=100)=true:=dT y1;rw[dT h,Bool.true_and];clear h
  go_enter Tryz.func115,Tryz.ntmps115
  go_wp2_with fail
  refine HC.out.mono ?_;rintro e w4 ⟨rfl,hw4⟩;have H4:=ah hw4;clear hw4 HC
  go_wp2_with fail
  go_ret;exact⟨rfl,H4.out⟩
 .have y1: ¬(L.length:Int)<=100:=by omega
  have y1':decide ((L.length:Int)<=100)=false:=dF y1;rw[dF h,Bool.false_and];clear h HC
  go_enter Tryz.func115,Tryz.ntmps115
  go_wp2_with fail
  go_ret;exact⟨rfl,aC.refl _ _⟩
def Gi (l:List Rl) (t:Tm):Tm×(Nat×List Nat)×Int:=match iw l t with
 |none=>(cZ,(0,[]),12)
 |some x=>if(gJ t x.2.1 x.2.2).2=0 then((gJ t x.2.1 x.2.2).1,(x.1,x.2.1),0) else(cZ,(0,[]),(gJ t x.2.1 x.2.2).2)
def rX (n0:Nat) (F:Tm×(Nat×List Nat)×Int) (e:Ending) (w':World):Prop:= ∃r pv,e= .returned (.tuple #[tV F.1 r,.agg #[.int .i64 (F.2.1.1:Int),pv],.int .i64 F.2.2])/\aI (fun k=>n0<=k/\k<w'.heap.size) w' F.1.kids r/\aG (fun k=>n0<=k/\k<w'.heap.size) w' 1 pv F.2.1.2.length (F.2.1.2.map (fun i:Nat=>Value.int .i64 (i:Int)))
theorem rX.mk {n0:Nat} {F:Tm×(Nat×List Nat)×Int} {e:Ending} {w':World} (r pv:Value) (h1:e= .returned (.tuple #[tV F.1 r,.agg #[.int .i64 (F.2.1.1:Int),pv],.int .i64 F.2.2])) (h2:aI (fun k=>n0<=k/\k<w'.heap.size) w' F.1.kids r) (h3:aG (fun k=>n0<=k/\k<w'.heap.size) w' 1 pv F.2.1.2.length (F.2.1.2.map (fun i:Nat=>Value.int .i64 (i:Int)))):rX n0 F e w':=⟨r,pv,h1,h2,h3⟩
theorem rX.zero {n0:Nat} {F:Tm×(Nat×List Nat)×Int} {e:Ending} {w':World} {c:Int} (hF:F=(cZ,(0,[]),c)) (h:e= .returned (.tuple #[.agg #[.string ⟨#[]⟩,.string ⟨#[]⟩,.slice none 0 0],.agg #[.int .i64 0,.slice none 0 0],.int .i64 c])):rX n0 F e w':=by
 subst hF;exact⟨_,_,h,aI.nil _ _,aG.nil _ _ _⟩
theorem adN (l:List Rl) (t:Tm) (lv v:Value) (w:World) (hL:jq (fun k=>k<w.heap.size) w l lv) (hT:bQ (fun k=>k<w.heap.size) w t v) (htab:dN w) (hll:l.length<=1000000) (hls: ∀r∈l,r.1.size<=300/\r.2.size<=300) (hsz:t.size<=300):
  Calls Tryz.prog 126 #[lv,v] w fun e w'=>rX w.heap.size (Gi l t) e w'/\Ext w w':=by
 have vG:=ah (fun W (hW:Ext w W)=>Sl l hll (fun r hr=>⟨by have:=(hls r hr).1;omega,by have:=(hls r hr).2;omega⟩) t v lv (.slice none 0 0) (fun k=>k<w.heap.size) (fun k=>k<w.heap.size) (fun _=>False) [] W (hT.ext hW) (hL.ext hW) (aG.nil _ _ _) (fun k hk=>aF hk hW.size) (fun k hk=>aF hk hW.size) (by omega) (by simp;omega));have t_:=ah hT;obtain⟨a,cap,rfl,hT⟩:=hT;obtain⟨la,lc,rfl⟩:=hL.shape;have HAS:=ah htab;have bU:=ah (And.intro hls hsz);have dP:=ah ((((uR w).alloc (tO t a cap)).alloc zO).alloc (.cells #[.int .i64 0,.slice none 0 0] 65));have HB0:=ah (aB (aB (ay w (tO t a cap)) zO) (.cells #[.int .i64 0,.slice none 0 0] 65));have HB1:=ah (aB (alloc_at (w.alloc (tO t a cap)) zO (n:=w.heap.size+1) (by simp)) (.cells #[.int .i64 0,.slice none 0 0] 65));have HB2:=ah (alloc_at ((w.alloc (tO t a cap)).alloc zO) (.cells #[.int .i64 0,.slice none 0 0] 65) (n:=w.heap.size+2) (by simp));have hz0:(((w.alloc (tO t a cap)).alloc zO).alloc (.cells #[.int .i64 0,.slice none 0 0] 65)).heap.size=w.heap.size+3:=by simp
 have HZ0:=ah hz0;obtain⟨c0,c1,c2⟩:=ak HB0.out;dsimp only[tV] at vG⊢;obtain⟨F,hF⟩: ∃F,Gi l t=F:=⟨_,rfl⟩
 have HF:=ah hF;rw[hF];clear hL hT htab hll hls hsz hz0 hF
 go_enter Tryz.func126,Tryz.ntmps126
 go_wp2_with fail
 refine(vG.out _ dP.out).mono ?_;rintro e w4 ⟨⟨⟨pa,pc⟩,ua,uc⟩,B,rfl,hfd,hbd,hw4⟩;obtain⟨o,ho⟩: ∃o,iw l t=o:=⟨_,rfl⟩
 have HO:=ah ho;rw[ho] at hfd⊢;clear ho c0 c1 c2 vG;dsimp only[Dh];cases o with
 |none=>
  rw[show(fq none []).length=0 from rfl,show(ft none).name=⟨#[]⟩ from rfl,show(ft none).sort=⟨#[]⟩ from rfl,show(ft none).kids.length=0 from rfl,show((fi none:Nat):Int)=0 from rfl];have mG:=((uR w4).alloc (.cells #[.int .i64 0,.slice pa 0 pc] 65)).alloc (.cells #[.string ⟨#[]⟩,.string ⟨#[]⟩,.slice ua 0 uc] 24);have H5:=ah ((dP.out.trans hw4).trans mG);have qm:=ah ((hw4.trans mG).heap HB0.out (fun h=>h));have kK:=ah ((hw4.trans mG).heap HB1.out (fun h=>h));have ku:=ah ((hw4.trans mG).heap HB2.out (fun h=>h));have H7:=ah (aB (ay w4 (.cells #[.int .i64 0,.slice pa 0 pc] 65)) (.cells #[.string ⟨#[]⟩,.string ⟨#[]⟩,.slice ua 0 uc] 24));have H8:=ah (alloc_at (w4.alloc (.cells #[.int .i64 0,.slice pa 0 pc] 65)) (.cells #[.string ⟨#[]⟩,.string ⟨#[]⟩,.slice ua 0 uc] 24) (n:=w4.heap.size+1) (by simp));have gW:Hid (w.heap.size+3<=w4.heap.size):=ah (by rw[<-HZ0.out];exact hw4.size);have HQ:=ah mG;clear HB0 HB1 HB2;simp only[Option.isSome_none];have oZ:Hid (F=(cZ,(0,[]),12)):=ah (by rw[<-HF.out];unfold Gi;rw[HO.out]);clear H7 H8 HF;obtain⟨d0,d1,d2⟩:=ak kK.out;have fd:=fun i=>aA kK.out i;have je:=iK ((w4.alloc (.cells #[.int .i64 0,.slice pa 0 pc] 65)).alloc (.cells #[.string ⟨#[]⟩,.string ⟨#[]⟩,.slice ua 0 uc] 24)) (w.heap.size+1) (.string ⟨#[]⟩) (.string ⟨#[]⟩) (.slice none 0 0);have hb2:=je.heap ku.out (by omega);obtain⟨r0,r1⟩:=bT hb2;have fr:=fun i=>aA hb2 i;clear je hb2
  go_wp2_with fail
  generalize ((w4.alloc (.cells #[.int .i64 0,.slice pa 0 pc] 65)).alloc (.cells #[.string ⟨#[]⟩,.string ⟨#[]⟩,.slice ua 0 uc] 24))=w5 at*;have hr1:=kT kK.out (.string ⟨#[]⟩) (.string ⟨#[]⟩) (.slice none 0 0);have hu1:=iK w5 (w.heap.size+1) (.string ⟨#[]⟩) (.string ⟨#[]⟩) (.slice none 0 0);have hb2:=hu1.heap ku.out (by omega);clear d0 d1 d2 fd r0 r1 fr;generalize ((w5.setCell ⟨w.heap.size+1,0,none⟩ (.string ⟨#[]⟩)).setCell ⟨w.heap.size+1,1,none⟩ (.string ⟨#[]⟩)).setCell ⟨w.heap.size+1,2,none⟩ (.slice none 0 0)=wB at*;have hr2:((wB.setCell ⟨w.heap.size+2,0,none⟩ (.int .i64 0)).setCell ⟨w.heap.size+2,1,none⟩ (.slice none 0 0)).heap[w.heap.size+2]?=some (.cells #[.int .i64 0,.slice none 0 0] 65 (0,0)):=by simpa using setBlock (setBlock hb2 0 (.int .i64 0)) 1 (.slice none 0 0)
  have hu2:aC (fun j=>j=w.heap.size+2) wB ((wB.setCell ⟨w.heap.size+2,0,none⟩ (.int .i64 0)).setCell ⟨w.heap.size+2,1,none⟩ (.slice none 0 0)):=((aC.refl (fun j=>j=w.heap.size+2) wB).setCell (p:=⟨w.heap.size+2,0,none⟩) (.inl rfl) _).setCell (p:=⟨w.heap.size+2,1,none⟩) (.inl rfl) _;have hr3:=hu2.heap hr1 (by omega);have hu:aC (fun j=>j=w.heap.size+1\/j=w.heap.size+2) w5 _:=(hu1.mono (fun _ _ h=> .inl h)).trans (hu2.mono (fun _ _ h=> .inr h));obtain⟨e0,e1,e2⟩:=ak hr3;obtain⟨e3,e4⟩:=bT hr2;refine bodyPost_ret (v:= .tuple #[.agg #[.string ⟨#[]⟩,.string ⟨#[]⟩,.slice none 0 0],.agg #[.int .i64 0,.slice none 0 0],.int .i64 12]) (by simp[results,Tryz.results126,go_sem,e0,e1,e2,e3,e4]) rfl ?_;exact⟨rX.zero oZ.out rfl,H5.out.trans' hu (fun j hj e=>by omega)⟩
 |some y=>
  obtain⟨i,p,u⟩:=y;have DZ:fq (some (i,p,u)) []=p:=by simp[fq]
  have hft:ft (some (i,p,u))=u:=rfl;have hfi:fi (some (i,p,u))=i:=rfl;rw[DZ,hft,hfi];obtain⟨jw,hpart⟩:=hfd;rw[DZ] at jw;rw[hft] at hpart;dsimp only at jw hpart;have mG:=((uR w4).alloc (.cells #[.int .i64 (i:Int),.slice pa p.length pc] 65)).alloc (tO u ua uc);have H5:=ah ((dP.out.trans hw4).trans mG);have qm:=ah ((hw4.trans mG).heap HB0.out (fun h=>h));have kK:=ah ((hw4.trans mG).heap HB1.out (fun h=>h));have ku:=ah ((hw4.trans mG).heap HB2.out (fun h=>h));have H7:=ah (aB (ay w4 (.cells #[.int .i64 (i:Int),.slice pa p.length pc] 65)) (tO u ua uc));have H8:=ah (alloc_at (w4.alloc (.cells #[.int .i64 (i:Int),.slice pa p.length pc] 65)) (tO u ua uc) (n:=w4.heap.size+1) (by simp));have gW:Hid (w.heap.size+3<=w4.heap.size):=ah (by rw[<-HZ0.out];exact hw4.size);have HQ:=ah mG;clear HB0 HB1 HB2;replace jw:=aG.kept jw mG (fun _ _ h=>h);replace hpart:=hpart.kept mG (fun _ _ h=>h);simp only[Option.isSome_some];have hpo:=yh l t i p u HO.out;have Ku:=Ol (N:=300) HO.out (fun r hr=>(bU.out.1 r hr).2);have hpl:=Aw p t hpo.1;have hts:=bU.out.2;have Gj:u.size<=100000:=Nat.le_trans (Nat.le_trans Ku (Nat.mul_le_mul_left 300 hts)) (by decide);have uf:=ah (fun W (hW:Ext ((w4.alloc (.cells #[.int .i64 (i:Int),.slice pa p.length pc] 65)).alloc (tO u ua uc)) W)=>UK t u p (.agg #[.string t.name,.string t.sort,.slice a t.kids.length cap]) (.agg #[.string u.name,.string u.sort,.slice ua u.kids.length uc]) (.slice pa p.length pc) (fun k=>k<W.heap.size) B B W ((t_.out.ext (H5.out.trans hW)).weaken (fun k hk=>aF hk (H5.out.trans hW).size)) ⟨ua,uc,rfl,(hpart.kept hW (fun _ _ h=>h)).read⟩ (fun k hk=>hk) (fun k hk=>aF (hbd k hk).2 (Nat.le_trans HQ.out.size hW.size)) (aG.kept jw hW (fun _ _ h=>h)) hpo.1 (aS HAS.out (H5.out.trans hW)) (by omega) Gj (by omega));have Wy:=ah (And.intro jw hbd);have oZ:Hid (F=if(gJ t p u).2=0 then((gJ t p u).1,(i,p),0) else(cZ,(0,[]),(gJ t p u).2)):=ah (by rw[<-HF.out];unfold Gi;rw[HO.out]);obtain⟨G,hG⟩: ∃G,gJ t p u=G:=⟨_,rfl⟩
  have hG2:G.2=0\/G.2=4:=by
   rw[<-hG];unfold gJ;split
   .exact .inl rfl
   .exact .inr rfl
  rw[hG] at uf oZ;obtain⟨c0,c1,c2⟩:=ak qm.out;obtain⟨m0,m1⟩:=bT H7.out;obtain⟨n0,n1,n2⟩:=ak H8.out;clear jw hpart hbd DZ hft hfi hpo Ku Gj hpl hts HF hG bU t_ HAS hw4 mG
  go_wp2_with fail
  refine(uf.out _ (aC.refl _ _)).mono ?_;rintro e w6 ⟨r,rfl,hTl,hw6⟩;obtain⟨z,c⟩:=G;dsimp only at hTl hG2 oZ⊢;obtain⟨za,zc,hr⟩:=hTl.shape;subst hr;have hQ6:=(uR w6).alloc (tO z za zc);have H9:=ah ((H5.out.trans hw6).trans hQ6);have UL:=ah ((hw6.trans hQ6).heap kK.out (fun h=>h));have UM:=ah ((hw6.trans hQ6).heap ku.out (fun h=>h));have WA:=ah ((hw6.trans hQ6).heap H7.out (fun h=>h));have H69:=ah (ay w6 (tO z za zc));have adP:Hid (aI (fun k=>w.heap.size+3<=k/\k< (w6.alloc (tO z za zc)).heap.size) (w6.alloc (tO z za zc)) z.kids (.slice za z.kids.length zc)):=ah ((hTl.ext hQ6).weaken (fun k hk=>by
   have h1:=hQ6.size;have h2:=hw6.size;have h3:=HQ.out.size;have h4:=gW.out;rcases hk with hk|hk
   .omega
   .have h5:=Wy.out.2 k hk;have h6:=HZ0.out;omega))
  have HTZ:=ah adP.out;clear adP;have wQ:Hid (w.heap.size+3<=w6.heap.size):=ah (Nat.le_trans gW.out (Nat.le_trans HQ.out.size hw6.size));have UN:=ah (And.intro (aG.kept Wy.out.1 (hw6.trans hQ6) (fun _ _ h=>h)) (fun k hk=>And.intro (show w.heap.size+3<=k by have:=(Wy.out.2 k hk).1;have:=HZ0.out;omega) (aF (Wy.out.2 k hk).2 (Nat.le_trans HQ.out.size (hw6.trans hQ6).size))));have Az:=ah gW.out;clear hTl hQ6 hw6 uf c0 c1 c2 m0 m1 n0 n1 n2 H7 H8 qm kK ku HQ Wy gW;dsimp only[tV];obtain⟨n6,LG⟩: ∃n,w6.heap.size=n:=⟨_,rfl⟩
  rw[LG] at H69 wQ;rcases hG2 with rfl|rfl
  .have LH:Hid (F=(z,(i,p),0)):=ah (by rw[oZ.out,if_pos rfl]);obtain⟨k0,k1,k2⟩:=ak H69.out;obtain⟨m0,m1⟩:=bT WA.out;have kK:=ah UL.out;have ku:=ah UM.out;clear oZ UL UM;obtain⟨d0,d1,d2⟩:=ak kK.out;have fd:=fun i=>aA kK.out i;have je:=iK (w6.alloc (tO z za zc)) (w.heap.size+1) (.string z.name) (.string z.sort) (.slice za z.kids.length zc);have hb2:=je.heap ku.out (by omega);obtain⟨r0,r1⟩:=bT hb2;have fr:=fun i=>aA hb2 i;have m2:=je.cell m0 (by have:=Az.out;show ¬w4.heap.size=w.heap.size+1;omega);have m3:=je.cell m1 (by have:=Az.out;show ¬w4.heap.size=w.heap.size+1;omega);clear je hb2
   go_upto_region 7 with fail
   try rw[LG]
   clear LG;generalize w6.alloc (tO z za zc)=w8 at*
   go_region
   all_goals
    go_wp2_with fail
    have hr1:=kT kK.out (.string z.name) (.string z.sort) (.slice za z.kids.length zc);have hu1:=iK w8 (w.heap.size+1) (.string z.name) (.string z.sort) (.slice za z.kids.length zc);have hb2:=hu1.heap ku.out (by omega);clear d0 d1 d2 fd r0 r1 fr k0 k1 k2 m0 m1 m2 m3;generalize ((w8.setCell ⟨w.heap.size+1,0,none⟩ (.string z.name)).setCell ⟨w.heap.size+1,1,none⟩ (.string z.sort)).setCell ⟨w.heap.size+1,2,none⟩ (.slice za z.kids.length zc)=wB at*;have hr2:((wB.setCell ⟨w.heap.size+2,0,none⟩ (.int .i64 (i:Int))).setCell ⟨w.heap.size+2,1,none⟩ (.slice pa p.length pc)).heap[w.heap.size+2]?=some (.cells #[.int .i64 (i:Int),.slice pa p.length pc] 65 (0,0)):=by simpa using setBlock (setBlock hb2 0 (.int .i64 (i:Int))) 1 (.slice pa p.length pc)
    have hu2:aC (fun j=>j=w.heap.size+2) wB ((wB.setCell ⟨w.heap.size+2,0,none⟩ (.int .i64 (i:Int))).setCell ⟨w.heap.size+2,1,none⟩ (.slice pa p.length pc)):=((aC.refl (fun j=>j=w.heap.size+2) wB).setCell (p:=⟨w.heap.size+2,0,none⟩) (.inl rfl) _).setCell (p:=⟨w.heap.size+2,1,none⟩) (.inl rfl) _;have hr3:=hu2.heap hr1 (by omega);have hu:aC (fun j=>j=w.heap.size+1\/j=w.heap.size+2) w8 _:=(hu1.mono (fun _ _ h=> .inl h)).trans (hu2.mono (fun _ _ h=> .inr h));replace hu:=hu.drew;obtain⟨e0,e1,e2⟩:=ak hr3;obtain⟨e3,e4⟩:=bT hr2;refine bodyPost_ret (v:= .tuple #[.agg #[.string z.name,.string z.sort,.slice za z.kids.length zc],.agg #[.int .i64 (i:Int),.slice pa p.length pc],.int .i64 0]) (by simp[results,Tryz.results126,go_sem,e0,e1,e2,e3,e4]) rfl ?_;exact⟨rX.mk (.slice za z.kids.length zc) (.slice pa p.length pc) (by rw[LH.out]) (by rw[LH.out];exact(HTZ.out.kept hu (fun j hj e=>by have h1:=hj.1;omega)).weaken (fun k hk=>⟨by have h1:=hk.1;omega,aF hk.2 hu.size⟩)) (by rw[LH.out];exact aG.weaken (aG.kept UN.out.1 hu (fun j hj e=>by have h1:=(UN.out.2 j hj).1;omega)) (fun k hk=>⟨by have h1:=(UN.out.2 k hk).1;omega,aF (UN.out.2 k hk).2 hu.size⟩)),H9.out.trans' hu (fun j hj e=>by omega)⟩
  .have LH:Hid (F=(cZ,(0,[]),4)):=ah (by rw[oZ.out,if_neg (by decide)]);have kK:=ah UL.out;have ku:=ah UM.out;clear oZ UL UM H69 WA;obtain⟨d0,d1,d2⟩:=ak kK.out;have fd:=fun i=>aA kK.out i;have je:=iK (w6.alloc (tO z za zc)) (w.heap.size+1) (.string ⟨#[]⟩) (.string ⟨#[]⟩) (.slice none 0 0);have hb2:=je.heap ku.out (by omega);obtain⟨r0,r1⟩:=bT hb2;have fr:=fun i=>aA hb2 i;clear je hb2
   go_wp2_with fail
   clear LG;generalize w6.alloc (tO z za zc)=w8 at*;have hr1:=kT kK.out (.string ⟨#[]⟩) (.string ⟨#[]⟩) (.slice none 0 0);have hu1:=iK w8 (w.heap.size+1) (.string ⟨#[]⟩) (.string ⟨#[]⟩) (.slice none 0 0);have hb2:=hu1.heap ku.out (by omega);clear d0 d1 d2 fd r0 r1 fr;generalize ((w8.setCell ⟨w.heap.size+1,0,none⟩ (.string ⟨#[]⟩)).setCell ⟨w.heap.size+1,1,none⟩ (.string ⟨#[]⟩)).setCell ⟨w.heap.size+1,2,none⟩ (.slice none 0 0)=wB at*;have hr2:((wB.setCell ⟨w.heap.size+2,0,none⟩ (.int .i64 0)).setCell ⟨w.heap.size+2,1,none⟩ (.slice none 0 0)).heap[w.heap.size+2]?=some (.cells #[.int .i64 0,.slice none 0 0] 65 (0,0)):=by simpa using setBlock (setBlock hb2 0 (.int .i64 0)) 1 (.slice none 0 0)
   have hu2:aC (fun j=>j=w.heap.size+2) wB ((wB.setCell ⟨w.heap.size+2,0,none⟩ (.int .i64 0)).setCell ⟨w.heap.size+2,1,none⟩ (.slice none 0 0)):=((aC.refl (fun j=>j=w.heap.size+2) wB).setCell (p:=⟨w.heap.size+2,0,none⟩) (.inl rfl) _).setCell (p:=⟨w.heap.size+2,1,none⟩) (.inl rfl) _;have hr3:=hu2.heap hr1 (by omega);have hu:aC (fun j=>j=w.heap.size+1\/j=w.heap.size+2) w8 _:=(hu1.mono (fun _ _ h=> .inl h)).trans (hu2.mono (fun _ _ h=> .inr h));obtain⟨e0,e1,e2⟩:=ak hr3;obtain⟨e3,e4⟩:=bT hr2;refine bodyPost_ret (v:= .tuple #[.agg #[.string ⟨#[]⟩,.string ⟨#[]⟩,.slice none 0 0],.agg #[.int .i64 0,.slice none 0 0],.int .i64 4]) (by simp[results,Tryz.results126,go_sem,e0,e1,e2,e3,e4]) rfl ?_;exact⟨rX.zero LH.out rfl,H9.out.trans' hu (fun j hj e=>by omega)⟩
def stepG (l:List Rl) (t:Tm):Tm×(Nat×List Nat)×Int:=if(dX l&&wf aJ t)=true then Gi l t else(cZ,(0,[]),1)
theorem adQ (l:List Rl) (t:Tm) (lv v:Value) (w:World) (hL:jq (fun k=>k<w.heap.size) w l lv) (hT:bQ (fun k=>k<w.heap.size) w t v) (htab:dN w) (hll:l.length<=1000000) (hls: ∀r∈l,r.1.size<=300/\r.2.size<=300) (hsz:t.size<=300):
  Calls Tryz.prog 53 #[lv,v] w fun e w'=>rX w.heap.size (stepG l t) e w'/\Ext w w':=by
 have nD:=ah (fun W (hW:Ext w W)=>Kt l lv W ((hL.ext hW).weaken (fun k hk=>aF hk hW.size)) (aS htab hW) hll (fun r hr=>⟨by have:=(hls r hr).1;omega,by have:=(hls r hr).2;omega⟩));have zi:=ah (fun W (hW:Ext w W)=>Au t v W (aS htab hW) ((hT.ext hW).weaken (fun k hk=>aF hk hW.size)) (by omega));have HST:=ah (fun W (hW:Ext w W)=>adN l t lv v W ((hL.ext hW).weaken (fun k hk=>aF hk hW.size)) ((hT.ext hW).weaken (fun k hk=>aF hk hW.size)) (aS htab hW) hll hls hsz);obtain⟨a,cap,rfl,hT⟩:=hT;obtain⟨la,lc,rfl⟩:=hL.shape;have dP:=ah ((((uR w).alloc (tO t a cap)).alloc zO).alloc (.cells #[.int .i64 0,.slice none 0 0] 65));have HB0:=ah (aB (aB (ay w (tO t a cap)) zO) (.cells #[.int .i64 0,.slice none 0 0] 65));have adR:=ah (aB (alloc_at (w.alloc (tO t a cap)) zO (n:=w.heap.size+1) (by simp)) (.cells #[.int .i64 0,.slice none 0 0] 65));have adS:=ah (alloc_at ((w.alloc (tO t a cap)).alloc zO) (.cells #[.int .i64 0,.slice none 0 0] 65) (n:=w.heap.size+2) (by simp));have hz0:(((w.alloc (tO t a cap)).alloc zO).alloc (.cells #[.int .i64 0,.slice none 0 0] 65)).heap.size=w.heap.size+3:=by simp
 have HZ0:=ah hz0;dsimp only[tV] at zi HST⊢;obtain⟨A,hA⟩: ∃b,dX l=b:=⟨_,rfl⟩
 obtain⟨B,hB⟩: ∃b,wf aJ t=b:=⟨_,rfl⟩
 obtain⟨F,hF⟩: ∃F,Gi l t=F:=⟨_,rfl⟩
 have Om:Hid (stepG l t=if(A&&B)=true then F else(cZ,(0,[]),1)):=ah (by unfold stepG;rw[hA,hB,hF]);rw[hA] at nD;rw[hB] at zi;rw[hF] at HST;obtain⟨G,hG⟩: ∃G,stepG l t=G:=⟨_,rfl⟩
 rw[hG] at Om⊢;clear hL hT htab hll hls hsz hz0 hA hB hF hG
 go_enter Tryz.func53,Tryz.ntmps53
 go_wp2_with fail
 refine(nD.out _ dP.out).mono ?_;rintro e w4 ⟨rfl,hw4⟩;have H4:=ah (dP.out.trans hw4);have HB4:=ah (hw4.heap HB0.out (fun h=>h));have UO:=ah (hw4.heap adR.out (fun h=>h));have UQ:=ah (hw4.heap adS.out (fun h=>h));have hs4:w.heap.size+3<=w4.heap.size:=by rw[<-HZ0.out];exact hw4.size
 have gW:=ah hs4;clear hw4 hs4 nD HB0 adR adS;cases A
 .have oZ:Hid (G=(cZ,(0,[]),1)):=ah (by rw[Om.out];rfl);have kK:=ah UO.out;have ku:=ah UQ.out;clear Om UO UQ zi HST;obtain⟨d0,d1,d2⟩:=ak kK.out;have fd:=fun i=>aA kK.out i;have je:=iK w4 (w.heap.size+1) (.string ⟨#[]⟩) (.string ⟨#[]⟩) (.slice none 0 0);have hb2:=je.heap ku.out (by omega);obtain⟨r0,r1⟩:=bT hb2;have fr:=fun i=>aA hb2 i;clear je hb2
  go_wp2_with fail
  all_goals
   have HHH:=oZ.out;have hr1:=kT kK.out (.string ⟨#[]⟩) (.string ⟨#[]⟩) (.slice none 0 0);have hu1:=iK w4 (w.heap.size+1) (.string ⟨#[]⟩) (.string ⟨#[]⟩) (.slice none 0 0);have hb2:=hu1.heap ku.out (by omega);clear d0 d1 d2 fd r0 r1 fr;generalize ((w4.setCell ⟨w.heap.size+1,0,none⟩ (.string ⟨#[]⟩)).setCell ⟨w.heap.size+1,1,none⟩ (.string ⟨#[]⟩)).setCell ⟨w.heap.size+1,2,none⟩ (.slice none 0 0)=wB at*;have hr2:((wB.setCell ⟨w.heap.size+2,0,none⟩ (.int .i64 0)).setCell ⟨w.heap.size+2,1,none⟩ (.slice none 0 0)).heap[w.heap.size+2]?=some (.cells #[.int .i64 0,.slice none 0 0] 65 (0,0)):=by simpa using setBlock (setBlock hb2 0 (.int .i64 0)) 1 (.slice none 0 0)
   have hu2:aC (fun j=>j=w.heap.size+2) wB ((wB.setCell ⟨w.heap.size+2,0,none⟩ (.int .i64 0)).setCell ⟨w.heap.size+2,1,none⟩ (.slice none 0 0)):=((aC.refl (fun j=>j=w.heap.size+2) wB).setCell (p:=⟨w.heap.size+2,0,none⟩) (.inl rfl) _).setCell (p:=⟨w.heap.size+2,1,none⟩) (.inl rfl) _;have hr3:=hu2.heap hr1 (by omega);have hu:aC (fun j=>j=w.heap.size+1\/j=w.heap.size+2) w4 _:=(hu1.mono (fun _ _ h=> .inl h)).trans (hu2.mono (fun _ _ h=> .inr h));obtain⟨e0,e1,e2⟩:=ak hr3;obtain⟨e3,e4⟩:=bT hr2;refine bodyPost_ret (v:= .tuple #[.agg #[.string ⟨#[]⟩,.string ⟨#[]⟩,.slice none 0 0],.agg #[.int .i64 0,.slice none 0 0],.int .i64 1]) (by simp[results,Tryz.results53,go_sem,e0,e1,e2,e3,e4]) rfl ?_;exact⟨rX.zero HHH rfl,H4.out.trans' hu (fun j hj e=>by omega)⟩
 .obtain ⟨c0,c1,c2⟩:=ak HB4.out
  go_wp2_with fail
  refine(zi.out _ H4.out).mono ?_;rintro e w5 ⟨rfl,hw5⟩;have H5:=ah (H4.out.trans hw5);have fC:=ah (hw5.heap HB4.out (fun h=>h));have kK:=ah (hw5.heap UO.out (fun h=>h));have ku:=ah (hw5.heap UQ.out (fun h=>h));have nO:Hid (w.heap.size+3<=w5.heap.size):=ah (Nat.le_trans gW.out hw5.size);clear hw5 c0 c1 c2 zi UO UQ HB4 gW;cases B
  .have oZ:Hid (G=(cZ,(0,[]),1)):=ah (by rw[Om.out];rfl);clear Om HST;obtain⟨d0,d1,d2⟩:=ak kK.out;have fd:=fun i=>aA kK.out i;have je:=iK w5 (w.heap.size+1) (.string ⟨#[]⟩) (.string ⟨#[]⟩) (.slice none 0 0);have hb2:=je.heap ku.out (by omega);obtain⟨r0,r1⟩:=bT hb2;have fr:=fun i=>aA hb2 i;clear je hb2
   go_wp2_with fail
   all_goals
    have HHH:=oZ.out;have hr1:=kT kK.out (.string ⟨#[]⟩) (.string ⟨#[]⟩) (.slice none 0 0);have hu1:=iK w5 (w.heap.size+1) (.string ⟨#[]⟩) (.string ⟨#[]⟩) (.slice none 0 0);have hb2:=hu1.heap ku.out (by omega);clear d0 d1 d2 fd r0 r1 fr;generalize ((w5.setCell ⟨w.heap.size+1,0,none⟩ (.string ⟨#[]⟩)).setCell ⟨w.heap.size+1,1,none⟩ (.string ⟨#[]⟩)).setCell ⟨w.heap.size+1,2,none⟩ (.slice none 0 0)=wB at*;have hr2:((wB.setCell ⟨w.heap.size+2,0,none⟩ (.int .i64 0)).setCell ⟨w.heap.size+2,1,none⟩ (.slice none 0 0)).heap[w.heap.size+2]?=some (.cells #[.int .i64 0,.slice none 0 0] 65 (0,0)):=by simpa using setBlock (setBlock hb2 0 (.int .i64 0)) 1 (.slice none 0 0)
    have hu2:aC (fun j=>j=w.heap.size+2) wB ((wB.setCell ⟨w.heap.size+2,0,none⟩ (.int .i64 0)).setCell ⟨w.heap.size+2,1,none⟩ (.slice none 0 0)):=((aC.refl (fun j=>j=w.heap.size+2) wB).setCell (p:=⟨w.heap.size+2,0,none⟩) (.inl rfl) _).setCell (p:=⟨w.heap.size+2,1,none⟩) (.inl rfl) _;have hr3:=hu2.heap hr1 (by omega);have hu:aC (fun j=>j=w.heap.size+1\/j=w.heap.size+2) w5 _:=(hu1.mono (fun _ _ h=> .inl h)).trans (hu2.mono (fun _ _ h=> .inr h));obtain⟨e0,e1,e2⟩:=ak hr3;obtain⟨e3,e4⟩:=bT hr2;refine bodyPost_ret (v:= .tuple #[.agg #[.string ⟨#[]⟩,.string ⟨#[]⟩,.slice none 0 0],.agg #[.int .i64 0,.slice none 0 0],.int .i64 1]) (by simp[results,Tryz.results53,go_sem,e0,e1,e2,e3,e4]) rfl ?_;exact⟨rX.zero HHH rfl,H5.out.trans' hu (fun j hj e=>by omega)⟩
  .have oZ:Hid (G=F):=ah (by rw[Om.out];rfl);obtain⟨c0,c1,c2⟩:=ak fC.out;clear Om
   go_wp2_with fail
   refine(HST.out _ H5.out).mono ?_;rintro e w6 ⟨⟨r,pv,rfl,hTl,hPl⟩,hw6⟩;obtain⟨ra,rc,hr⟩:=hTl.shape;subst hr;obtain⟨pa,pc,hp⟩:=aG.shape hPl;subst hp;have H6:=ah (H5.out.trans hw6);have adU:=ah (hw6.heap kK.out (fun h=>h));have adW:=ah (hw6.heap ku.out (fun h=>h));have dH:=ah (And.intro hTl hPl);have HSW:Hid (w.heap.size+3<=w5.heap.size):=ah nO.out;clear hTl hPl hw6 HST kK ku c0 c1 c2 fC;have kK:=ah adU.out;have ku:=ah adW.out;clear adU adW;dsimp only[tV];obtain⟨d0,d1,d2⟩:=ak kK.out;have fd:=fun i=>aA kK.out i;have je:=iK w6 (w.heap.size+1) (.string F.1.name) (.string F.1.sort) (.slice ra F.1.kids.length rc);have hb2:=je.heap ku.out (by omega);obtain⟨r0,r1⟩:=bT hb2;have fr:=fun i=>aA hb2 i;clear je hb2
   go_wp2_with fail
   have hr1:=kT kK.out (.string F.1.name) (.string F.1.sort) (.slice ra F.1.kids.length rc);have hu1:=iK w6 (w.heap.size+1) (.string F.1.name) (.string F.1.sort) (.slice ra F.1.kids.length rc);have hb2:=hu1.heap ku.out (by omega);clear d0 d1 d2 fd r0 r1 fr;generalize ((w6.setCell ⟨w.heap.size+1,0,none⟩ (.string F.1.name)).setCell ⟨w.heap.size+1,1,none⟩ (.string F.1.sort)).setCell ⟨w.heap.size+1,2,none⟩ (.slice ra F.1.kids.length rc)=wB at*;have hr2:((wB.setCell ⟨w.heap.size+2,0,none⟩ (.int .i64 (F.2.1.1:Int))).setCell ⟨w.heap.size+2,1,none⟩ (.slice pa F.2.1.2.length pc)).heap[w.heap.size+2]?=some (.cells #[.int .i64 (F.2.1.1:Int),.slice pa F.2.1.2.length pc] 65 (0,0)):=by simpa using setBlock (setBlock hb2 0 (.int .i64 (F.2.1.1:Int))) 1 (.slice pa F.2.1.2.length pc)
   have hu2:aC (fun j=>j=w.heap.size+2) wB ((wB.setCell ⟨w.heap.size+2,0,none⟩ (.int .i64 (F.2.1.1:Int))).setCell ⟨w.heap.size+2,1,none⟩ (.slice pa F.2.1.2.length pc)):=((aC.refl (fun j=>j=w.heap.size+2) wB).setCell (p:=⟨w.heap.size+2,0,none⟩) (.inl rfl) _).setCell (p:=⟨w.heap.size+2,1,none⟩) (.inl rfl) _;have hr3:=hu2.heap hr1 (by omega);have hu:aC (fun j=>j=w.heap.size+1\/j=w.heap.size+2) w6 _:=(hu1.mono (fun _ _ h=> .inl h)).trans (hu2.mono (fun _ _ h=> .inr h));obtain⟨e0,e1,e2⟩:=ak hr3;obtain⟨e3,e4⟩:=bT hr2;refine bodyPost_ret (v:= .tuple #[.agg #[.string F.1.name,.string F.1.sort,.slice ra F.1.kids.length rc],.agg #[.int .i64 (F.2.1.1:Int),.slice pa F.2.1.2.length pc],.int .i64 F.2.2]) (by simp[results,Tryz.results53,go_sem,e0,e1,e2,e3,e4]) rfl ?_;rw[oZ.out];exact⟨rX.mk (.slice ra F.1.kids.length rc) (.slice pa F.2.1.2.length pc) rfl ((dH.out.1.kept hu (fun j hj e=>by have h1:=hj.1;have h2:=HSW.out;omega)).weaken (fun k hk=>⟨by have h1:=hk.1;have h2:=HSW.out;omega,aF hk.2 hu.size⟩)) (aG.weaken (aG.kept dH.out.2 hu (fun j hj e=>by have h1:=hj.1;have h2:=HSW.out;omega)) (fun k hk=>⟨by have h1:=hk.1;have h2:=HSW.out;omega,aF hk.2 hu.size⟩)),H6.out.trans' hu (fun j hj e=>by omega)⟩
section
open Go.Sort Go.Proofs Go.ChangeMaps
def Ub (x y:Tm):Bool:=(aV x).all fun f=>lu f (aV y)
theorem adb (x y:Tm) (vx vy:Value) (S T:Nat->Prop) (w:World) (hX:bQ S w x vx) (hY:bQ T w y vy) (hwx:wf aJ x=true) (hwy:wf aJ y=true):
  Calls Tryz.prog 168 #[vx,vy] w fun e w'=>e= .returned (.bool (Ub x y))/\Ext w w':=by
 have iO:=ah (fun W (hW:Ext w W)=>Qm x vx S W (hX.ext hW) hwx);have IW:=ah (fun W (hW:Ext w W)=>Qm y vy T W (hY.ext hW) hwy);obtain⟨Z,hZ⟩: ∃Z,Ub x y=Z:=⟨_,rfl⟩
 rw[hZ];have hkz:Z=(aV x).all fun f=>lu f (aV y):=hZ.symm;have hlx:=Nat.le_trans (ou hwx) (qG hwx);have hly:=Nat.le_trans (ou hwy) (qG hwy);obtain⟨xa,xc,rfl,hTX⟩:=hX;obtain⟨ya,yc,rfl,hTY⟩:=hY;obtain⟨LX,hLX⟩: ∃L,aV x=L:=⟨_,rfl⟩
 obtain⟨LY,hLY⟩: ∃L,aV y=L:=⟨_,rfl⟩
 rw[hLX] at iO hkz hlx;rw[hLY] at IW hkz hly;have HKZ:=ah hkz;have HZ:=ah (((uR w).alloc (tO x xa xc)).alloc (tO y ya yc));have H2:=ah (aB (ay w (tO x xa xc)) (tO y ya yc));have H3:=ah (alloc_at (w.alloc (tO x xa xc)) (tO y ya yc) (n:=w.heap.size+1) (by simp));obtain⟨p0,p1,p2⟩:=ak H2.out;dsimp only[tV] at iO IW⊢;clear hTX hTY hwx hwy hZ hkz hLX hLY
 go_enter Tryz.func168,Tryz.ntmps168
 go_wp2_with fail
 generalize ((w.alloc (tO x xa xc)).alloc (tO y ya yc))=wa at*;refine(iO.out _ HZ.out).mono ?_;rintro e w3 ⟨r1,rfl,hr1,hw3⟩;have aY:=ah (HZ.out.trans hw3);have vM:=ah (hw3.heap H3.out (fun h=>h));have qN:=ah hr1;obtain⟨a1,c1,hp1⟩:=dL.shape hr1;subst hp1;clear hw3 iO p0 p1 p2 H2 H3 hr1 HZ;obtain⟨p0,p1,p2⟩:=ak vM.out
 go_wp2_with fail
 refine(IW.out _ aY.out).mono ?_;rintro e w4 ⟨r2,rfl,hr2,hw4⟩;have bW:=ah (aY.out.trans hw4);have HF2:=ah hr2;have alq:=ah (dL.ext qN.out hw4);obtain⟨a2,c2,hp2⟩:=dL.shape hr2;subst hp2;clear hw4 IW p0 p1 p2 vM hr2 aY qN
 go_wp2_with fail
 go_loopg [7] LX.length (fun gk iv wr=> ∃k:Nat,iv= .int .i64 (k:Int)/\gk=LX.length-k/\k<=LX.length/\Hid (Ext w4 wr)/\Hid (∀j,j<k->lu (vg LX j) LY=true))
 case atStart=>exact⟨0,rfl,rfl,Nat.zero_le _,ah (aC.refl _ _),ah (fun j hj=>absurd hj (Nat.not_lt_zero _))⟩
 case round=>
  obtain⟨k,rfl,rfl,hk,HE,HM⟩:=hrel;by_cases hlt:k<LX.length
  .obtain ⟨g,off,hga,hat⟩:=(dL.ext alq.out HE.out).at_ (by omega);obtain⟨q0,q1⟩:=hat k hlt;obtain⟨z0,z1,z2,z2'⟩:=bZ hlt;have hmk:=yu hlt;have hnx:lu (vg LX k) LY=true->∀j,j<k+1->lu (vg LX j) LY=true:=fun h j hj=>by
    rcases Nat.lt_succ_iff_lt_or_eq.1 hj with h5|h5
    .exact HM.out j h5
    .rw [h5];exact h
   have hno:lu (vg LX k) LY=false->Z=false:=fun h=>by
    rw[HKZ.out,List.all_eq_false];exact⟨_,hmk,by rw[h];simp⟩
   obtain⟨f,hf⟩: ∃f,vg LX k=f:=⟨_,rfl⟩
   rw[hf] at q0 q1 hnx hno;have qK:=ah hnx;have qh:=ah hno;have HR4:Hid (dL (fun k=>False\/w3.heap.size<=k) w4 (.slice a2 LY.length c2) LY):=HF2;subst hga;have HQ:=ah (And.intro q0 q1);obtain⟨wz,hwz⟩: ∃wz,wz=wr:=⟨_,rfl⟩
   subst hwz;have dP:=HE;clear hat hf hmk hnx hno HE q0 q1
   go_wp2_with fail
   go_loopg [8,9] LY.length (fun gk fv iv wr=> ∃(m:Nat) (fb:Bool),fv= .bool fb/\iv= .int .i64 (m:Int)/\gk=LY.length-m/\m<=LY.length/\Hid (Ext wz wr)/\Hid (fb=lu f (LY.take m)))
   case atStart=>exact⟨0,false,rfl,rfl,rfl,Nat.zero_le _,ah (aC.refl _ _),ah rfl⟩
   case round=>
    obtain⟨m,fb,rfl,rfl,rfl,hm,HE,HFB⟩:=hrel;by_cases hlm:m<LY.length
    .obtain ⟨g2,off2,BH,yF⟩:=(dL.ext (dL.ext HF2.out dP.out) HE.out).at_ (by omega);subst BH;obtain⟨r0,r1⟩:=yF m hlm;have q0:=HE.out.cell HQ.out.1 (fun h=>h);have q1:=HE.out.cell HQ.out.2 (fun h=>h);have y0:(0:Int)<=(m:Int):=by omega
     have y1:(m:Int)< (LY.length:Int):=by omega
     have y2:decide ((m:Int)< (LY.length:Int))=true:=dT y1;have y2':decide (m<LY.length)=true:=dT hlm;have htm:lu f (LY.take (m+1))=(lu f (LY.take m)||decide (vg LY m=f)):=by
      unfold lu;rw[Gm LY m hlm,List.any_append];simp
     have heq:=fun W=>eqV (vg LY m).1 (vg LY m).2 f.1 f.2 W;have h3:decide (((vg LY m).1,(vg LY m).2)=(f.1,f.2))=decide (vg LY m=f):=rfl;rw[h3] at heq;obtain⟨u,hu⟩: ∃u,vg LY m=u:=⟨_,rfl⟩
     rw[hu] at r0 r1 htm heq;obtain⟨eb,heb⟩: ∃b,decide (u=f)=b:=⟨_,rfl⟩
     rw[heb] at heq htm;have Dk:=ah htm;clear yF htm h3 hu heb;cases eb with
     |true=>
      have ZL:Hid (true=lu f (LY.take (m+1))):=ah (by rw[Dk.out];simp)
      go_wp2_with fail
      go_quiet (fail)
      go_wp2_with fail
      go_roundg (LY.length- (m+1))
      case measure=>omega
      case rel=>exact⟨m+1,true,rfl,by go_num,rfl,by omega,ah (HE.out.drewN' _),ZL⟩
     |false=>
      have ZL:Hid (fb=lu f (LY.take (m+1))):=ah (by rw[Dk.out,<-HFB.out];simp)
      go_wp2_with fail
      go_quiet (fail)
      go_wp2_with fail
      go_roundg (LY.length- (m+1))
      case measure=>omega
      case rel=>exact⟨m+1,fb,rfl,by go_num,rfl,by omega,ah (HE.out.drewN' _),ZL⟩
    .obtain rfl:m=LY.length:=by omega
     have y2:decide ((LY.length:Int)< (LY.length:Int))=false:=dF (by omega);have hfb:=HFB.out;rw[List.take_length] at hfb;have dA:=ah (dP.out.trans HE.out);cases fb with
     |true=>
      have alr:=ah (qK.out hfb.symm);clear hfb
      go_wp2_with fail
      go_roundg (LX.length- (k+1))
      case measure=>omega
      case rel=>exact⟨k+1,by go_num,rfl,by omega,dA,alr⟩
     |false=>
      obtain rfl:Z=false:=qh.out hfb.symm;clear hfb
      go_wp2_with fail
      go_ret;exact⟨rfl,bW.out.trans dA.out⟩
  .obtain rfl:k=LX.length:=by omega
   have z2:decide ((LX.length:Int)< (LX.length:Int))=false:=dF (by omega);obtain rfl:Z=true:=by
    rw[HKZ.out,List.all_eq_true];intro f hf;obtain⟨j,hj,e⟩:=List.getElem_of_mem hf;have:=HM.out j hj;unfold vg at this;rw[List.getD_eq_getElem?_getD,List.getElem?_eq_getElem hj] at this;rw[<-e];exact this
   go_wp2_with fail
   go_ret;exact⟨rfl,(bW.out.trans HE.out)⟩
theorem XU (r:Rl):ql r=(wf aJ r.1&&wf aJ r.2&&decide (r.1.sort=au)&&Ub r.2 r.1):=by
 unfold ql Ub;cases h1:wf aJ r.1 with
 |false=>rfl
 |true=>
  cases h2:wf aJ r.2 with
  |false=>rfl
  |true=>
   rw[qA h1,qA h2]
   congr 1
   first|exact(List.all_eq_not_any_not ..).symm|simp[List.all_eq_not_any_not]
theorem Qv {L:List Rl} {k:Nat} (hk:k<L.length) (h:ql (rg L k)=false):dX L=false:=by
 unfold dX;have:(L.any fun r=>!ql r)=true:=List.any_eq_true.2 ⟨_,tZ hk,by rw[h];rfl⟩;rw[this];simp
theorem XV {L:List Rl} (hl:L.length<=100) (h: ∀j,j<L.length->ql (rg L j)=true):dX L=true:=by
 unfold dX;have:(L.any fun r=>!ql r)=false:=by
  rw[List.any_eq_false];intro r hr;obtain⟨j,hj,e⟩:=List.getElem_of_mem hr;have:=h j hj;unfold Go.Hw.rg at this;rw[List.getD_eq_getElem?_getD,List.getElem?_eq_getElem hj] at this;rw[<-e];simpa using this
 rw[this,dT hl];rfl
theorem Vs (L:List Rl) (v:Value) (S:Nat->Prop) (w:World) (hL:jq S w L v) (hl:L.length<=1000000):Calls Tryz.prog 110 #[v] w fun e w'=>e= .returned (.bool (dX L))/\Ext w w':=by
 have HL:=ah hL;obtain⟨a,cap,rfl⟩:=hL.shape;obtain⟨V,hV⟩: ∃V,dX L=V:=⟨_,rfl⟩
 have HVV:=ah hV.symm;rw[hV];clear hL hV;by_cases hb:100<L.length
 .have HV:Hid (V=false):=ah (by rw[HVV.out];unfold dX;rw[dF (by omega)];rfl);have z1:(100:Int)< (L.length:Int):=by omega
  have z1':decide ((100:Int)< (L.length:Int))=true:=dT z1;have H8:Hid (Ext w w):=ah (aC.refl _ _);clear hb
  go_enter Tryz.func110,Tryz.ntmps110
  go_wp2_with fail
  all_goals go_ret
  all_goals (rw[HV.out];exact⟨rfl,H8.out⟩)
 have z1: ¬(100:Int)< (L.length:Int):=by omega
 have z1':decide ((100:Int)< (L.length:Int))=false:=dF z1
 go_enter Tryz.func110,Tryz.ntmps110
 go_wp2_with fail
 clear z1 z1'
 go_loopg [3] L.length (fun gk iv wr=> ∃k:Nat,iv= .int .i64 (k:Int)/\gk=L.length-k/\k<=L.length/\Hid (∀j,j<k->ql (rg L j)=true)/\Hid (Ext w wr))
 case atStart=>exact⟨0,rfl,rfl,Nat.zero_le _,ah (fun j h=>absurd h (Nat.not_lt_zero _)),ah (aC.refl _ _)⟩
 case round=>
  obtain⟨k,rfl,rfl,hk,HC,HE⟩:=hrel;by_cases hlt:k<L.length
  .obtain ⟨g,off,hga,_,hat⟩:=(HL.out.ext HE.out).at_ (by omega);subst hga;obtain⟨xa,xc,ya,yc,p0,p1,p2,p3,p4,p5,hk1,hk2⟩:=hat k hlt;obtain⟨z0,z1,z2,z2'⟩:=bZ hlt;have hno:ql (rg L k)=false->V=false:=fun h=>by rw[HVV.out];exact Qv hlt h
   have hyes:ql (rg L k)=true->∀j,j<k+1->ql (rg L j)=true:=fun h j hj=>by
    rcases Nat.lt_succ_iff_lt_or_eq.1 hj with h5|h5
    .exact HC.out j h5
    .rw [h5];exact h
   have qh:=ah hno;have Aa:=ah hyes;have hok:=XU (rg L k);obtain⟨⟨x,y⟩,hxy⟩: ∃r,rg L k=r:=⟨_,rfl⟩
   rw[hxy] at p0 p1 p2 p3 p4 p5 hk1 hk2 hok qh Aa;simp only at p0 p1 p2 p3 p4 p5 hk1 hk2 hok;have pO:=ah hok;have qN:=ah (fun W (hW:Ext wr W)=>D7 x (tV x (.slice xa x.kids.length xc)) S W ⟨xa,xc,rfl,hk1.ext hW⟩);have HF2:=ah (fun W (hW:Ext wr W)=>D7 y (tV y (.slice ya y.kids.length yc)) S W ⟨ya,yc,rfl,hk2.ext hW⟩);have Qw:=ah (fun(h1:wf aJ x=true) (h2:wf aJ y=true) W (hW:Ext wr W)=>adb y x (tV y (.slice ya y.kids.length yc)) (tV x (.slice xa x.kids.length xc)) S S W ⟨ya,yc,rfl,hk2.ext hW⟩ ⟨xa,xc,rfl,hk1.ext hW⟩ h2 h1);dsimp only[tV] at qN HF2 Qw;have Kz:=uR wr;have OC:=fun x:XW wr=>x.ext.cell p0 (fun h=>h);have OD:=fun x:XW wr=>x.ext.cell p1 (fun h=>h);have OE:=fun x:XW wr=>x.ext.cell p2 (fun h=>h);have xp3:=fun x:XW wr=>x.ext.cell p3 (fun h=>h);have xp4:=fun x:XW wr=>x.ext.cell p4 (fun h=>h);have xp5:=fun x:XW wr=>x.ext.cell p5 (fun h=>h);have s0:=lg x.sort;clear hat hno hyes hok hxy hk1 hk2 p0 p1 p2 p3 p4 p5;obtain⟨n1,hn1⟩: ∃b,wf aJ x=b:=⟨_,rfl⟩
   obtain⟨n2,hn2⟩: ∃b,wf aJ y=b:=⟨_,rfl⟩
   obtain⟨d0,hd0⟩: ∃b,decide (x.sort=au)=b:=⟨_,rfl⟩
   rw[hn1] at qN Qw pO;rw[hn2] at HF2 Qw pO;rw[hd0] at s0 pO;clear hn1 hn2 hd0;cases n1
   .have Uc:=ah True.intro;have HV:=ah (qh.out (by rw[pO.out];simp))
    go_wp2_with fail
    refine dw wr (by assumption) (by kernel_rfl) (by kernel_rfl) ?_
    repeat (first|go_big_quiet_skip|(go_big_quiet_want;go_big_quiet_op;first|go_big_quiet_on|(apply Exists.intro;refine⟨fun x=>?_,?_⟩;(first|(go_at_call 24;with_reducible exact XW.call (qN.out x.val x.ext))|(go_at_call 24;with_reducible exact XW.call (HF2.out x.val x.ext)));go_big_quiet_on)))
    refine wpQuiet_nil ?_;rintro w8 ⟨⟨_,gu⟩,rfl⟩
    try dsimp only
    have H8:=ah (HE.out.trans gu)
    go_wp2_with fail
    all_goals go_ret
    all_goals (rw[HV.out];exact⟨rfl,H8.out⟩)
   cases n2
   .have Uc:=ah True.intro;have HV:=ah (qh.out (by rw[pO.out];simp))
    go_wp2_with fail
    refine dw wr (by assumption) (by kernel_rfl) (by kernel_rfl) ?_
    repeat (first|go_big_quiet_skip|(go_big_quiet_want;go_big_quiet_op;first|go_big_quiet_on|(apply Exists.intro;refine⟨fun x=>?_,?_⟩;(first|(go_at_call 24;with_reducible exact XW.call (qN.out x.val x.ext))|(go_at_call 24;with_reducible exact XW.call (HF2.out x.val x.ext)));go_big_quiet_on)))
    refine wpQuiet_nil ?_;rintro w8 ⟨⟨_,gu⟩,rfl⟩
    try dsimp only
    have H8:=ah (HE.out.trans gu)
    go_wp2_with fail
    all_goals go_ret
    all_goals (rw[HV.out];exact⟨rfl,H8.out⟩)
   cases d0
   .have Uc:=ah True.intro;have HV:=ah (qh.out (by rw[pO.out];simp))
    go_wp2_with fail
    refine dw wr (by assumption) (by kernel_rfl) (by kernel_rfl) ?_
    repeat (first|go_big_quiet_skip|(go_big_quiet_want;go_big_quiet_op;first|go_big_quiet_on|(apply Exists.intro;refine⟨fun x=>?_,?_⟩;(first|(go_at_call 24;with_reducible exact XW.call (qN.out x.val x.ext))|(go_at_call 24;with_reducible exact XW.call (HF2.out x.val x.ext)));go_big_quiet_on)))
    refine wpQuiet_nil ?_;rintro w8 ⟨⟨_,gu⟩,rfl⟩
    try dsimp only
    have H8:=ah (HE.out.trans gu)
    go_wp2_with fail
    all_goals go_ret
    all_goals (rw[HV.out];exact⟨rfl,H8.out⟩)
   have Uc:=ah (Qw.out (by simp) (by simp));obtain⟨kn,hkn⟩: ∃b,Ub y x=b:=⟨_,rfl⟩
   rw[hkn] at Uc pO;clear Qw hkn;cases kn
   .have HV:=ah (qh.out (by rw[pO.out];simp))
    go_wp2_with fail
    refine dw wr (by assumption) (by kernel_rfl) (by kernel_rfl) ?_
    repeat (first|go_big_quiet_skip|(go_big_quiet_want;go_big_quiet_op;first|go_big_quiet_on|(apply Exists.intro;refine⟨fun x=>?_,?_⟩;(first|(go_at_call 24;with_reducible exact XW.call (qN.out x.val x.ext))|(go_at_call 24;with_reducible exact XW.call (HF2.out x.val x.ext))|(go_at_call 168;exact XW.call (Uc.out x.val x.ext)));go_big_quiet_on)))
    refine wpQuiet_nil ?_;rintro w8 ⟨⟨_,gu⟩,rfl⟩
    try dsimp only
    have H8:=ah (HE.out.trans gu)
    go_wp2_with fail
    all_goals go_ret
    all_goals (rw[HV.out];exact⟨rfl,H8.out⟩)
   have qK:=ah (Aa.out (by rw[pO.out];simp))
   go_wp2_with fail
   refine dw wr (by assumption) (by kernel_rfl) (by kernel_rfl) ?_
   repeat (first|go_big_quiet_skip|(go_big_quiet_want;go_big_quiet_op;first|go_big_quiet_on|(apply Exists.intro;refine⟨fun x=>?_,?_⟩;(first|(go_at_call 24;with_reducible exact XW.call (qN.out x.val x.ext))|(go_at_call 24;with_reducible exact XW.call (HF2.out x.val x.ext))|(go_at_call 168;exact XW.call (Uc.out x.val x.ext)));go_big_quiet_on)))
   refine wpQuiet_nil ?_;rintro w8 ⟨⟨_,gu⟩,rfl⟩
   try dsimp only
   have H8:=ah (HE.out.trans gu)
   go_wp2_with fail
   go_roundg (L.length- (k+1))
   case measure=>omega
   case rel=>exact⟨k+1,by go_num,rfl,by omega,qK,H8⟩
  .obtain rfl:k=L.length:=by omega
   have z2:decide ((L.length:Int)< (L.length:Int))=false:=dF (by omega);have HV:Hid (V=true):=ah (by rw[HVV.out];exact XV (by omega) HC.out);have H8:=HE
   go_wp2_with fail
   all_goals go_ret
   all_goals (rw[HV.out];exact⟨rfl,H8.out⟩)
def qB (l:List Rl) (fuel:Int) (L:List Tm):Int:=if(!dX l||L.any fun t=>!wf aJ t)=true then 1 else if fuel<0\/2000<fuel then 2 else 0
theorem ade (t:Tm) (u:Value) (w:World) (htab:dN w) (hT:bQ (fun k=>k<w.heap.size) w t (tV t u)) (hs:(t.size:Int)<=1000000000000):Calls Tryz.prog 212 #[tV t u] w fun e w'=>e= .returned (.bool !(wf aJ t))/\Ext w w':=by
 have hE:=(uR w).alloc (.cells #[.string t.name,.string t.sort,u] 24);have HF:=ah (fun W (hW:Ext w W)=>Au t (tV t u) W (aS htab hW) ((hT.ext hW).weaken (fun k hk=>aF hk hW.size)) hs);obtain⟨a,cap,hu,hTL⟩:=hT;obtain rfl:u= .slice a t.kids.length cap:=by simpa[tV] using hu
 have HE:=ah hE;have hb:=ay w (tO t a cap);obtain⟨x0,x1,x2⟩:=ak hb;dsimp only[tV] at HF⊢;obtain⟨b,hb2⟩: ∃b,wf aJ t=b:=⟨_,rfl⟩
 rw[hb2] at HF⊢;clear hE hb hb2 hTL hu
 go_enter Tryz.func212,Tryz.ntmps212
 go_wp2_with fail
 refine(HF.out _ HE.out).mono ?_;rintro e w4 ⟨rfl,hw4⟩;have H4:=ah (HE.out.trans hw4);clear hw4 HF x0 x1 x2
 go_wp2_with fail
 go_ret;exact⟨rfl,H4.out⟩
theorem adf (t:Tm) (u:Value) (w:World) (S:Nat->Prop) (hT:bQ S w t (tV t u)):Calls Tryz.prog 111 #[tV t u] w fun e w'=>e= .returned (.bool !(wf aJ t))/\Ext w w':=by
 have hE:=(uR w).alloc (.cells #[.string t.name,.string t.sort,u] 24);have HF:=ah (fun W (hW:Ext w W)=>D7 t (tV t u) S W (hT.ext hW));obtain⟨a,cap,hu,hTL⟩:=hT;obtain rfl:u= .slice a t.kids.length cap:=by simpa[tV] using hu
 have HE:=ah hE;have hb:=ay w (tO t a cap);obtain⟨x0,x1,x2⟩:=ak hb;dsimp only[tV] at HF⊢;obtain⟨b,hb2⟩: ∃b,wf aJ t=b:=⟨_,rfl⟩
 rw[hb2] at HF⊢;clear hE hb hb2 hTL hu
 go_enter Tryz.func111,Tryz.ntmps111
 go_wp2_with fail
 refine(HF.out _ HE.out).mono ?_;rintro e w4 ⟨rfl,hw4⟩;have H4:=ah (HE.out.trans hw4);clear hw4 HF x0 x1 x2
 go_wp2_with fail
 go_ret;exact⟨rfl,H4.out⟩
theorem XY (p:Tm->Bool) (L:List Tm) (v:Value) (S:Nat->Prop) (w:World) (hR:aI S w L v) (hl:L.length<=1000000)
  (hf: ∀t∈L,∀u W,Ext w W->bQ S W t (tV t u)->Calls Tryz.prog 212 #[tV t u] W fun e W'=>e= .returned (.bool (p t))/\Ext W W'):
  Calls Tryz.prog 132 #[v,.func (.func 212) #[] #[]] w fun e w'=> ∃r:Int,e= .returned (.int .i64 r)/\decide (0<=r)=L.any p/\Ext w w':=by
 obtain⟨a,cap,rfl⟩:=hR.shape;have HR:=ah hR;have HF:=ah hf;clear hR hf
 go_enter Tryz.func132,Tryz.ntmps132
 go_wp2_with fail
 go_loopg [8] L.length (fun gk iv wr=> ∃k:Nat,iv= .int .i64 (k:Int)/\gk=L.length-k/\k<=L.length/\Hid (Ext w wr)/\Hid ((L.take k).any p=false))
 case atStart=>exact⟨0,rfl,rfl,Nat.zero_le _,ah (aC.refl _ _),ah rfl⟩
 case round=>
  obtain⟨k,rfl,rfl,hk,HE,HM⟩:=hrel;by_cases hlt:k<L.length
  .obtain ⟨g,off,hga,_,hat⟩:=(HR.out.ext HE.out).at_ (by omega);subst hga;obtain⟨xa,xc,q0,q1,q2,aW⟩:=hat k hlt;rw[<-Nat.add_assoc] at q1 q2;obtain⟨z0,z1,z2,z2'⟩:=bZ hlt;have hmem:=Vt hlt;have gB:=ah (HF.out _ hmem _ wr HE.out ⟨xa,xc,rfl,aW⟩);have HN:Hid (p (tg L k)=false->(L.take (k+1)).any p=false):=ah (fun h=>by
    rw[xZ L k hlt,List.any_append,HM.out,List.any_cons,List.any_nil,h];rfl)
   have HY:Hid (p (tg L k)=true->L.any p=true):=ah (fun h=>List.any_eq_true.2 ⟨_,hmem,h⟩);obtain⟨x,hx⟩: ∃x,tg L k=x:=⟨_,rfl⟩
   rw[hx] at q0 q1 q2 gB HN HY;dsimp only[tV] at gB;obtain⟨b,hb⟩: ∃b,p x=b:=⟨_,rfl⟩
   rw[hb] at gB HN HY;clear hat hmem hx hb HM aW
   go_wp2_with fail
   refine gB.out.mono ?_;rintro e w4 ⟨rfl,hw4⟩;have H4:=ah (HE.out.trans hw4);clear hw4 q0 q1 q2 gB HE;cases b
   .have jV:=ah (HN.out rfl);clear HN HY
    go_wp2_with fail
    go_roundg (L.length- (k+1))
    case measure=>omega
    case rel=>exact⟨k+1,by go_num,rfl,by omega,H4,jV⟩
   .have DY:=ah (HY.out rfl);clear HN HY
    go_wp2_with fail
    go_ret;exact⟨_,rfl,by rw[DY.out];exact dT z0,H4.out⟩
  .obtain rfl:k=L.length:=by omega
   have z2:decide ((L.length:Int)< (L.length:Int))=false:=dF (by omega);have nI:=HM.out;rw[List.take_length] at nI;have L9:=ah nI;clear nI
   go_wp2_with fail
   go_ret;exact⟨_,rfl,by rw[L9.out];rfl,HE.out⟩
theorem XZ (p:Tm->Bool) (L:List Tm) (v:Value) (S:Nat->Prop) (w:World) (hR:aI S w L v) (hl:L.length<=1000000)
  (hf: ∀t∈L,∀u W,Ext w W->bQ S W t (tV t u)->Calls Tryz.prog 212 #[tV t u] W fun e W'=>e= .returned (.bool (p t))/\Ext W W'):
  Calls Tryz.prog 60 #[v,.func (.func 212) #[] #[]] w fun e w'=>e= .returned (.bool (L.any p))/\Ext w w':=by
 have HI:=ah (XY p L v S w hR hl hf);clear hR hf
 go_enter Tryz.func60,Tryz.ntmps60
 go_wp2_with fail
 refine HI.out.mono ?_;rintro e w4 ⟨r,rfl,hr,hw4⟩;have H4:=ah hw4;have HRR:=ah hr;clear hw4 hr
 go_wp2_with fail
 go_ret;rw[<-HRR.out];exact⟨rfl,H4.out⟩
theorem X0 (p:Tm->Bool) (L:List Tm) (v:Value) (S:Nat->Prop) (w:World) (hR:aI S w L v) (hl:L.length<=1000000)
  (hf: ∀t∈L,∀u W,Ext w W->bQ S W t (tV t u)->Calls Tryz.prog 111 #[tV t u] W fun e W'=>e= .returned (.bool (p t))/\Ext W W'):
  Calls Tryz.prog 132 #[v,.func (.func 111) #[] #[]] w fun e w'=> ∃r:Int,e= .returned (.int .i64 r)/\decide (0<=r)=L.any p/\Ext w w':=by
 obtain⟨a,cap,rfl⟩:=hR.shape;have HR:=ah hR;have HF:=ah hf;clear hR hf
 go_enter Tryz.func132,Tryz.ntmps132
 go_wp2_with fail
 go_loopg [8] L.length (fun gk iv wr=> ∃k:Nat,iv= .int .i64 (k:Int)/\gk=L.length-k/\k<=L.length/\Hid (Ext w wr)/\Hid ((L.take k).any p=false))
 case atStart=>exact⟨0,rfl,rfl,Nat.zero_le _,ah (aC.refl _ _),ah rfl⟩
 case round=>
  obtain⟨k,rfl,rfl,hk,HE,HM⟩:=hrel;by_cases hlt:k<L.length
  .obtain ⟨g,off,hga,_,hat⟩:=(HR.out.ext HE.out).at_ (by omega);subst hga;obtain⟨xa,xc,q0,q1,q2,aW⟩:=hat k hlt;rw[<-Nat.add_assoc] at q1 q2;obtain⟨z0,z1,z2,z2'⟩:=bZ hlt;have hmem:=Vt hlt;have gB:=ah (HF.out _ hmem _ wr HE.out ⟨xa,xc,rfl,aW⟩);have HN:Hid (p (tg L k)=false->(L.take (k+1)).any p=false):=ah (fun h=>by
    rw[xZ L k hlt,List.any_append,HM.out,List.any_cons,List.any_nil,h];rfl)
   have HY:Hid (p (tg L k)=true->L.any p=true):=ah (fun h=>List.any_eq_true.2 ⟨_,hmem,h⟩);obtain⟨x,hx⟩: ∃x,tg L k=x:=⟨_,rfl⟩
   rw[hx] at q0 q1 q2 gB HN HY;dsimp only[tV] at gB;obtain⟨b,hb⟩: ∃b,p x=b:=⟨_,rfl⟩
   rw[hb] at gB HN HY;clear hat hmem hx hb HM aW
   go_wp2_with fail
   refine gB.out.mono ?_;rintro e w4 ⟨rfl,hw4⟩;have H4:=ah (HE.out.trans hw4);clear hw4 q0 q1 q2 gB HE;cases b
   .have jV:=ah (HN.out rfl);clear HN HY
    go_wp2_with fail
    go_roundg (L.length- (k+1))
    case measure=>omega
    case rel=>exact⟨k+1,by go_num,rfl,by omega,H4,jV⟩
   .have DY:=ah (HY.out rfl);clear HN HY
    go_wp2_with fail
    go_ret;exact⟨_,rfl,by rw[DY.out];exact dT z0,H4.out⟩
  .obtain rfl:k=L.length:=by omega
   have z2:decide ((L.length:Int)< (L.length:Int))=false:=dF (by omega);have nI:=HM.out;rw[List.take_length] at nI;have L9:=ah nI;clear nI
   go_wp2_with fail
   go_ret;exact⟨_,rfl,by rw[L9.out];rfl,HE.out⟩
theorem X3 (p:Tm->Bool) (L:List Tm) (v:Value) (S:Nat->Prop) (w:World) (hR:aI S w L v) (hl:L.length<=1000000)
  (hf: ∀t∈L,∀u W,Ext w W->bQ S W t (tV t u)->Calls Tryz.prog 111 #[tV t u] W fun e W'=>e= .returned (.bool (p t))/\Ext W W'):
  Calls Tryz.prog 60 #[v,.func (.func 111) #[] #[]] w fun e w'=>e= .returned (.bool (L.any p))/\Ext w w':=by
 have HI:=ah (X0 p L v S w hR hl hf);clear hR hf
 go_enter Tryz.func60,Tryz.ntmps60
 go_wp2_with fail
 refine HI.out.mono ?_;rintro e w4 ⟨r,rfl,hr,hw4⟩;have H4:=ah hw4;have HRR:=ah hr;clear hw4 hr
 go_wp2_with fail
 go_ret;rw[<-HRR.out];exact⟨rfl,H4.out⟩
theorem X4 (l:List Rl) (fuel:Int) (L:List Tm) (lv tv:Value) (w:World) (htab:dN w) (hL:jq (fun k=>k<w.heap.size) w l lv) (hT:aI (fun k=>k<w.heap.size) w L tv) (hll:l.length<=1000000) (hls: ∀r∈l,r.1.size<=100000/\r.2.size<=100000) (hts: ∀t∈L,(t.size:Int)<=1000000000000) (hb: -9223372036854775808<=fuel/\fuel<=9223372036854775807) (j_:L.length<=1000000):Calls Tryz.prog 166 #[lv,.int .i64 fuel,tv] w fun e w'=>e= .returned (.int .i64 (qB l fuel L))/\Ext w w':=by
 have nD:=ah (fun W (hW:Ext w W)=>Kt l lv W ((hL.ext hW).weaken (fun k hk=>aF hk hW.size)) (aS htab hW) hll hls);have Qx:=ah (fun W (hW:Ext w W)=>XZ (fun t=>!wf aJ t) L tv (fun k=>k<w.heap.size) W (hT.ext hW) j_ (fun t ht u W2 hW2 JB=>ade t u W2 (aS htab (hW.trans hW2)) (JB.weaken (fun k hk=>aF hk (hW.trans hW2).size)) (hts t ht)));obtain⟨la,lc,rfl⟩:=hL.shape;obtain⟨ta,tc,rfl⟩:=hT.shape;obtain⟨Z,hZ⟩: ∃Z,qB l fuel L=Z:=⟨_,rfl⟩
 rw[hZ];have HZ:Hid (Z=if(!dX l||L.any fun t=>!wf aJ t)=true then 1 else if fuel<0\/2000<fuel then 2 else 0):=ah hZ.symm;obtain⟨b1,hb1⟩: ∃b,dX l=b:=⟨_,rfl⟩
 obtain⟨b2,hb2⟩: ∃b,(L.any fun t=>!wf aJ t)=b:=⟨_,rfl⟩
 rw[hb1] at nD HZ;rw[hb2] at Qx HZ;clear hL hT hZ hb1 hb2 j_
 go_enter Tryz.func166,Tryz.ntmps166
 go_wp2_with fail
 refine(nD.out _ (aC.refl _ _)).mono ?_;rintro e w3 ⟨rfl,hw3⟩;have aY:=ah hw3;clear hw3 nD;cases b1 with
 |false=>
  obtain rfl:Z=1:=by rw[HZ.out];simp
  go_wp2_with fail
  go_ret;exact⟨rfl,aY.out⟩
 |true=>
  go_wp2_with fail
  refine(Qx.out _ aY.out).mono ?_;rintro e w4 ⟨rfl,hw4⟩;have bW:=ah (aY.out.trans hw4);clear hw4 Qx;cases b2 with
  |true=>
   obtain rfl:Z=1:=by rw[HZ.out];simp
   go_wp2_with fail
   go_ret;exact⟨rfl,bW.out⟩
  |false=>
   have hz:Z=if fuel<0\/2000<fuel then 2 else 0:=by rw[HZ.out];simp
   have HZ2:=ah hz;clear hz;by_cases h1:fuel<0
   .have t1:decide (fuel<0)=true:=dT h1;obtain rfl:Z=2:=by rw[HZ2.out,if_pos (.inl h1)]
    go_wp2_with fail
    go_ret;exact⟨rfl,bW.out⟩
   have t1:decide (fuel<0)=false:=dF h1;by_cases h2:2000<fuel
   .have t2:decide (2000<fuel)=true:=dT h2;obtain rfl:Z=2:=by rw[HZ2.out,if_pos (.inr h2)]
    go_wp2_with fail
    go_ret;exact⟨rfl,bW.out⟩
   have t2:decide (2000<fuel)=false:=dF h2;obtain rfl:Z=0:=by rw[HZ2.out,if_neg (by omega)]
   go_wp2_with fail
   go_ret;exact⟨rfl,bW.out⟩
theorem adg (l:List Rl) (fuel:Int) (L:List Tm) (lv tv:Value) (S T:Nat->Prop) (w:World) (hL:jq S w l lv) (hT:aI T w L tv) (hll:l.length<=1000000) (hb: -9223372036854775808<=fuel/\fuel<=9223372036854775807) (j_:L.length<=1000000):Calls Tryz.prog 40 #[lv,.int .i64 fuel,tv] w fun e w'=>e= .returned (.int .i64 (qB l fuel L))/\Ext w w':=by
 have nD:=ah (fun W (hW:Ext w W)=>Vs l lv S W (hL.ext hW) hll);have Qx:=ah (fun W (hW:Ext w W)=>X3 (fun t=>!wf aJ t) L tv T W (hT.ext hW) j_ (fun t ht u W2 hW2 JB=>adf t u W2 T JB));obtain⟨la,lc,rfl⟩:=hL.shape;obtain⟨ta,tc,rfl⟩:=hT.shape;obtain⟨Z,hZ⟩: ∃Z,qB l fuel L=Z:=⟨_,rfl⟩
 rw[hZ];have HZ:Hid (Z=if(!dX l||L.any fun t=>!wf aJ t)=true then 1 else if fuel<0\/2000<fuel then 2 else 0):=ah hZ.symm;obtain⟨b1,hb1⟩: ∃b,dX l=b:=⟨_,rfl⟩
 obtain⟨b2,hb2⟩: ∃b,(L.any fun t=>!wf aJ t)=b:=⟨_,rfl⟩
 rw[hb1] at nD HZ;rw[hb2] at Qx HZ;clear hL hT hZ hb1 hb2 j_
 go_enter Tryz.func40,Tryz.ntmps40
 go_wp2_with fail
 refine(nD.out _ (aC.refl _ _)).mono ?_;rintro e w3 ⟨rfl,hw3⟩;have aY:=ah hw3;clear hw3 nD;cases b1 with
 |false=>
  obtain rfl:Z=1:=by rw[HZ.out];simp
  go_wp2_with fail
  go_ret;exact⟨rfl,aY.out⟩
 |true=>
  go_wp2_with fail
  refine(Qx.out _ aY.out).mono ?_;rintro e w4 ⟨rfl,hw4⟩;have bW:=ah (aY.out.trans hw4);clear hw4 Qx;cases b2 with
  |true=>
   obtain rfl:Z=1:=by rw[HZ.out];simp
   go_wp2_with fail
   go_ret;exact⟨rfl,bW.out⟩
  |false=>
   have hz:Z=if fuel<0\/2000<fuel then 2 else 0:=by rw[HZ.out];simp
   have HZ2:=ah hz;clear hz;by_cases h1:fuel<0
   .have t1:decide (fuel<0)=true:=dT h1;obtain rfl:Z=2:=by rw[HZ2.out,if_pos (.inl h1)]
    go_wp2_with fail
    go_ret;exact⟨rfl,bW.out⟩
   have t1:decide (fuel<0)=false:=dF h1;by_cases h2:2000<fuel
   .have t2:decide (2000<fuel)=true:=dT h2;obtain rfl:Z=2:=by rw[HZ2.out,if_pos (.inr h2)]
    go_wp2_with fail
    go_ret;exact⟨rfl,bW.out⟩
   have t2:decide (2000<fuel)=false:=dF h2;obtain rfl:Z=0:=by rw[HZ2.out,if_neg (by omega)]
   go_wp2_with fail
   go_ret;exact⟨rfl,bW.out⟩
def kR (i:Nat) (p:List Nat):Rx:=((i:Int),p.map fun j:Nat=>(j:Int))
def Qy (l:List Rl) (t:Tm) (x:Rx):Tm×Int:=
 if x.1<0\/(l.length:Int)<=x.1 then(cZ,2) else match g_ t x.2 with
  |none=>(cZ,2)
  |some u=>match pG (rg l x.1.toNat) u with
   |none=>(cZ,12)
   |some z=>gJ t (x.2.map Int.toNat) z
def CB (l:List Rl) (t:Tm) (x:Rx):Tm×Int:=
 match g_ t x.2 with
  |none=>(cZ,2)
  |some u=>if x.1<0\/(l.length:Int)<=x.1 then(cZ,2) else match jT (rg l x.1.toNat).1 u [] with
   |none=>(cZ,12)
   |some B=>if 1000< (bI B (rg l x.1.toNat).2).size\/60< (bI B (rg l x.1.toNat).2).depth then(cZ,4) else if formed aJ (putAt t (x.2.map Int.toNat) (bI B (rg l x.1.toNat).2))=false then(cZ,4) else(putAt t (x.2.map Int.toNat) (bI B (rg l x.1.toNat).2),0)
theorem yX {l:List Rl} (h:dX l=true) {i:Nat} (hi:i<l.length):ql (rg l i)=true:=by
 cases hr:ql (rg l i) with
 |true=>rfl
 |false=>rw[Qv hi hr] at h;cases h
theorem wF {r:Rl} (h:ql r=true):wf aJ r.1=true/\wf aJ r.2=true/\r.1.sort=au/\∀f∈dJ r.2,f∈dJ r.1:=by
 rw[XU] at h;simp only[Bool.and_eq_true,decide_eq_true_eq] at h;obtain⟨⟨⟨h1,h2⟩,h3⟩,h4⟩:=h;refine⟨h1,h2,h3,fun f hf=>?_⟩;unfold Ub at h4;rw[List.all_eq_true] at h4;have:=h4 f (((zH h2).2 f).2 hf);exact((zH h1).2 f).1 (KF.1 this)
theorem adh {B:List Bd} {t:Tm} {f:Vd} (h:f∈dJ (bI B t)): ∃g∈dJ t,f∈dJ (gG B g.1 g.2):=by
 obtain⟨x,hx,h1,h2⟩:=Cc h;have hs:=JC h;rcases Qz (σ:=gG B) t x hx with⟨y,_,_,h3,_⟩|⟨g,hg,hxg⟩
 .rw [h2] at h3;exact absurd h3 hs
 .refine ⟨g,hg,Ud hxg ?_⟩;obtain⟨m,r,K⟩:=x;simp only[Tm.name,Tm.sort] at h1 h2;have:f=(m,r):=Prod.ext h1.symm h2.symm;rw[this];exact m_ (by rw[h2];exact hs) K
theorem adi {r:Rl} {u:Tm} {B:List Bd} (hr:ql r=true) (h:jT r.1 u []=some B): ∀f∈dJ (bI B r.2),f∈dJ u:=by
 obtain⟨h1,h2,h3,h4⟩:=wF hr;obtain⟨hI,_,hb,_⟩:=Bj (X:=dJ r.1) (Y:=fun y=> ∀f∈dJ y,f∈dJ u) (fun t x ht hx f hf=>ht f (Bh hx hf)) r.1 u [] B h (AB h1) (fun f hf=>hf) (fun f hf=>hf) (qP.nil _ _);intro f hf;obtain⟨g,hg,hfg⟩:=adh hf;obtain⟨x,hx⟩:=hb g (h4 g hg);have:gG B g.1 g.2=x:=yT hx;rw[this] at hfg;obtain⟨b,hbm,_,hbx⟩:=tH hx;exact hI.val b hbm f (by rw[hbx];exact hfg)
theorem af0 {t z:Tm} {p:List Nat} (ht:wf aJ t=true) (hp:qM t p) (hz: ∀f∈dJ z,f∈dJ t):wf aJ (putAt t p z)=formed aJ (putAt t p z):=by
 unfold wf;have hs:(jW (putAt t p z)).isSome=true:=(JD _).2 (fun f hf g hg e=>(nX.1 ht).2.2.2 f (by
  rcases zK z p t hp f hf with h|h
  .exact h
  .exact hz f h) g (by
  rcases zK z p t hp g hg with h|h
  .exact h
  .exact hz g h) e)
 rw[hs,Bool.and_true]
theorem af2 {l:List Rl} {t:Tm} {x:Rx} (hr:dX l=true) (ht:wf aJ t=true):CB l t x=Qy l t x:=by
 unfold CB Qy;cases hs:g_ t x.2 with
 |none=>simp only;split<;>rfl
 |some u=>
  simp only;by_cases hc:x.1<0\/(l.length:Int)<=x.1
  .rw [if_pos hc,if_pos hc]
  .rw [if_neg hc,if_neg hc];obtain⟨hp,hu⟩:=KA hs;have hrr:=yX hr (i:=x.1.toNat) (by omega);obtain⟨h1,h2,h3,h4⟩:=wF hrr;rw[X5 h1 h4];cases hm:jT (rg l x.1.toNat).1 u [] with
   |none=>rfl
   |some B=>
    simp only[Option.map_some];have hv: ∀f∈dJ (bI B (rg l x.1.toNat).2),f∈dJ t:=fun f hf=>by
     have:=adi hrr hm f hf;rw[<-hu] at this;exact QA _ _ hp f this
    have hw:=af0 ht hp hv;have hbig:=Nl (bI B (rg l x.1.toNat).2) _ t hp;unfold gJ;rw[hw];cases hf:formed aJ (putAt t (x.2.map Int.toNat) (bI B (rg l x.1.toNat).2)) with
    |true=>
     rw[hf] at hw;have h5:=nX.1 hw;have hno: ¬(1000< (bI B (Go.Hw.rg l x.1.toNat).2).size\/60< (bI B (Go.Hw.rg l x.1.toNat).2).depth):=by have:=h5.1;have:=h5.2.1;omega
     rw[if_neg hno];simp
    |false=>split<;>simp
theorem Ue: ∀{p:List Nat} {t:Tm},qM t p->g_ t (p.map fun j:Nat=>(j:Int))=some (vV t p)
 |[],t,_=>rfl
 |i::p,t,h=>by
  rw[List.map_cons,wR,if_neg (by have:=h.1;omega),Int.toNat_natCast];exact Ue h.2
theorem JE (p:List Nat):(p.map fun j:Nat=>(j:Int)).map Int.toNat=p:=by
 rw[List.map_map];have:(Int.toNat∘fun j:Nat=>(j:Int))=id:=by funext j;simp
 rw[this,List.map_id]
theorem adk {l:List Rl} {t:Tm} {i:Nat} {p:List Nat} {u:Tm} (h:iw l t=some (i,p,u)):Qy l t (kR i p)=gJ t p u:=by
 obtain⟨h1,h2,h3⟩:=yh l t i p u h;unfold Qy kR;rw[if_neg (by simp only;omega)];simp only;rw[Ue h1,Int.toNat_natCast];simp only[h3];rw[JE]
def iZ (l:List Rl):Nat->Tm->List Rx->Tm×List Rx×Int
 |0,t,tr=>match iw l t with
  |none=>(t,tr,0)
  |some _=>(cZ,[],6)
 |n+1,t,tr=>match iw l t with
  |none=>(t,tr,0)
  |some x=>if(gJ t x.2.1 x.2.2).2=0 then iZ l n (gJ t x.2.1 x.2.2).1 (tr++[kR x.1 x.2.1]) else(cZ,[],(gJ t x.2.1 x.2.2).2)
def ny (l:List Rl) (t:Tm) (fuel:Int):Tm×List Rx×Int:=if qB l fuel [t]=0 then iZ l fuel.toNat t [] else(cZ,[],qB l fuel [t])
theorem JF {l:List Rl} {fuel:Int} {t:Tm} (h:qB l fuel [t]=0):dX l=true/\wf aJ t=true/\0<=fuel/\fuel<=2000:=by
 unfold qB at h;split at h
 .cases h
 .rename_i h1
  split at h
  .cases h
  .rename_i h2
   have h3:(!dX l||[t].any fun t=>!wf aJ t)=false:=by simpa using h1
   simp at h3;exact⟨h3.1,h3.2,by omega,by omega⟩
theorem Fp {t u:Tm} {p:List Nat} (h:(gJ t p u).2=0):(gJ t p u).1=putAt t p u/\wf aJ (putAt t p u)=true:=by
 unfold gJ at h⊢;split at h
 .rename_i h1;rw[if_pos h1];exact⟨rfl,h1⟩
 .cases h
end
end Go.Proofs.YtlkcjmaiahnodaaGreatDoor
