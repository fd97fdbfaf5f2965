/- The texts N43 N44 N51 N52 I96 I97 I100 I101 N53 N54 N55, one behind the other. -/
import Derived.Test.YtlkcjmaiahnodaaGreatDoorYAN
import Derived.Test.YtlkcjmaiahnodaaGreatDoorYAM
import Derived.Test.YtlkcjmaiahnodaaGreatDoorYAK
import Derived.Test.YtlkcjmaiahnodaaGreatDoorYAH
import Derived.Test.YtlkcjmaiahnodaaGreatDoorYAI
import Derived.Test.YtlkcjmaiahnodaaGreatDoorYAG
import Derived.Test.YtlkcjmaiahnodaaGreatDoorYAL
import Derived.Test.YtlkcjmaiahnodaaGreatDoorYAE
import Derived.Test.YtlkcjmaiahnodaaGreatDoorYAC
set_option maxRecDepth 100000
set_option maxHeartbeats 8000000
set_option linter.unusedVariables false
set_option linter.unusedSimpArgs false
namespace Go.Proofs.YtlkcjmaiahnodaaGreatDoor
open Go.RowKit Go.Hw Go Tm
section
open Go.Sort Go.Proofs Go.ChangeMaps
mutual
def kT:Tm->Int->Int->Int
 | .mk n s L,d,i=>wu L (d-1) (if d=0\/100<n.size\/100<s.size\/40<L.length then -1 else i-1)
def wu:List Tm->Int->Int->Int
 |[],_,i=>i
 |x::L,d,i=>if 0<=i then wu L d (kT x d i) else i
end
theorem xB (n s:By) (L:List Tm) (d i:Int):kT (.mk n s L) d i=wu L (d-1) (if d=0\/100<n.size\/100<s.size\/40<L.length then -1 else i-1):=by
 conv=>lhs;unfold kT
theorem EF (d i:Int):wu [] d i=i:=by unfold wu;rfl
theorem Am (x:Tm) (L:List Tm) (d i:Int):wu (x::L) d i=if 0<=i then wu L d (kT x d i) else i:=by
 conv=>lhs;unfold wu
theorem rG (L:List Tm) (d i:Int) (h:i<0):wu L d i=i:=by
 cases L with
 |nil=>exact EF d i
 |cons x L=>rw[Am,if_neg (by omega)]
theorem Oj: ∀(t:Tm) (d i:Int),(0<=kT t d i->(t.size:Int)+kT t d i<=i)/\(0<=i-> -1<=kT t d i/\kT t d i<=i)/\(i<0->kT t d i=i-1\/kT t d i= -1):=by
 refine Tm.ind (fun n s L ih=>?_);intro d i;have key: ∀(M:List Tm),(∀x∈M,∀(d i:Int),(0<=kT x d i->(x.size:Int)+kT x d i<=i)/\(0<=i-> -1<=kT x d i/\kT x d i<=i)/\(i<0->kT x d i=i-1\/kT x d i= -1))->∀(d i:Int),(0<=wu M d i->(sizes M:Int)+wu M d i<=i)/\(0<=i-> -1<=wu M d i/\wu M d i<=i):=by
  intro M
  induction M with
  |nil=>intro _ d i;rw[EF];exact⟨fun _=>by simp[sizes],fun h=>⟨by omega,Int.le_refl _⟩⟩
  |cons x M VI=>
   intro hx d i;have h1:=hx x (List.mem_cons_self ..) d i;have h2:=VI (fun y hy=>hx y (List.mem_cons_of_mem _ hy)) d (kT x d i);rw[Am];have hsz:sizes (x::M)=x.size+sizes M:=by rw[sizes]
   by_cases hi:0<=i
   .rw [if_pos hi];have h3:=h1.2.1 hi;by_cases hb:0<=kT x d i
    .have h4:=h2.2 hb;refine⟨fun h=>?_,fun _=>⟨h4.1,by omega⟩⟩;have h5:=h1.1 hb;have h6:=h2.1 h;rw[hsz];omega
    .rw [rG _ _ _ (by omega)];exact⟨fun h=>absurd h hb,fun _=>⟨h3.1,h3.2⟩⟩
   .rw [if_neg hi];exact⟨fun h=>absurd h hi,fun h=>absurd h hi⟩
 rw[xB];have hk:=key L ih (d-1);by_cases hc:d=0\/100<n.size\/100<s.size\/40<L.length
 .rw [if_pos hc,rG _ _ _ (by omega)];exact⟨fun h=>absurd h (by omega),fun h=>⟨Int.le_refl _,by omega⟩,fun _=> .inr rfl⟩
 .rw [if_neg hc];have h1:=hk (i-1);refine⟨fun h=>?_,fun h=>?_,fun h=>?_⟩
  .have h2:=h1.1 h;rw[size_eq];simp only[Tm.kids];omega
  .by_cases h0:0<=i-1
   .have h2:=h1.2 h0;exact⟨h2.1,by omega⟩
   .rw [rG _ _ _ (by omega)];exact⟨by omega,by omega⟩
  .rw [rG _ _ _ (by omega)];exact .inl rfl
theorem VJ: ∀(t:Tm) (d i:Int),(t.size:Int)<=i->(t.depth:Int)<=d->(∀x∈aV t,x.name.size<=100/\x.sort.size<=100/\x.kids.length<=40)->kT t d i=i- (t.size:Int):=by
 refine Tm.ind (fun n s L ih=>?_);intro d i h1 h2 h3;have key: ∀(M:List Tm),(∀x∈M,∀(d i:Int),(x.size:Int)<=i->(x.depth:Int)<=d->(∀y∈aV x,y.name.size<=100/\y.sort.size<=100/\y.kids.length<=40)->kT x d i=i- (x.size:Int))->(∀x∈M,∀y∈aV x,y.name.size<=100/\y.sort.size<=100/\y.kids.length<=40)->∀(d i:Int),(sizes M:Int)<=i->(depths M:Int)<=d->wu M d i=i- (sizes M:Int):=by
  intro M
  induction M with
  |nil=>intro _ _ d i _ _;rw[EF];simp[sizes]
  |cons x M VI=>
   intro hx hs d i h1 h2;have hsz:sizes (x::M)=x.size+sizes M:=by rw[sizes]
   have hdz:depths (x::M)=max x.depth (depths M):=by rw[depths]
   rw[hsz] at h1⊢;rw[hdz] at h2;rw[Am,if_pos (by omega),hx x (List.mem_cons_self ..) d i (by omega) (by omega) (hs x (List.mem_cons_self ..)),VI (fun y hy=>hx y (List.mem_cons_of_mem _ hy)) (fun y hy=>hs y (List.mem_cons_of_mem _ hy)) d _ (by omega) (by omega)];omega
 have h4:=h3 _ (iZ _);simp only[Tm.name,Tm.sort,Tm.kids] at h4;rw[size_eq,jH] at*;simp only[Tm.kids] at*;rw[xB,if_neg (by omega),key L ih (fun x hx y hy=>h3 y (kG (t:= .mk n s L) hx hy)) (d-1) (i-1) (by omega) (by omega)];omega
theorem abd: ∀(t:Tm) (v:Value) (S:Nat->Prop) (q r:Nat) (w:World) (d i:Int),bG S w t v->¬S q->(∀k,S k->k<w.heap.size)->w.heap[q]?=some (.cells #[.int .i64 i] 3 (0,0))->w.cell? ⟨r,0,none⟩=some (.func (.func 112) #[] #[.pointer (some ⟨q,0,none⟩),.pointer (some ⟨r,0,none⟩)])->r≠q->0<=d->d<=80-> -1000<=i->i<=1100->
  Calls Tryz.prog 112 #[v,.int .i64 d,.pointer (some ⟨q,0,none⟩),.pointer (some ⟨r,0,none⟩)] w fun e w'=>e= .returned (.tuple #[])/\FwP q w w' (kT t d i):=by
 refine Tm.ind (fun n s L ih=>?_);intro v S q r w d i hT hq hS hc hr hrq hd0 hd1 hi0 hi1;obtain⟨a,cap,rfl,hT⟩:=hT;dsimp only[tV,Tm.name,Tm.sort,Tm.kids] at hT⊢;obtain⟨V,hV⟩: ∃V,kT (.mk n s L) d i=V:=⟨_,rfl⟩
 rw[hV];have HV:=ae hV;have cZ:=ae hT;have HIH:=ae ih;have HQ:=ae hq;have gm:=ae hS;have QV:q<w.heap.size:=(Array.getElem?_eq_some_iff.1 hc).1;have QW:=ae QV;have HRQ:=ae hrq;have HR:=ae hr;have dB:=ae ((uR w).alloc (.cells #[.string n,.string s,.slice a L.length cap] 24));have HB2:=ae (aj w (.cells #[.string n,.string s,.slice a L.length cap] 24));have HC:=ae (dB.out.heap hc (fun h=>h));have HZ0:Hid (w.heap.size+1<=(w.alloc (.cells #[.string n,.string s,.slice a L.length cap] 24)).heap.size):=ae (by simp);have c0:=ag HC.out 0 (.int .i64 i) rfl;have f0:=fun j=>ai HC.out j;clear ih hT hq hS hc hV hrq hr QV
 go_enter Tryz.func112,Tryz.ntmps112
 go_upto_region 2 with fail
 generalize w.alloc (.cells #[.string n,.string s,.slice a L.length cap] 24)=w1 at*;have hb4:=setBlock HC.out 0 (.int .i64 (i-1));have Kq:Hid ((w1.setCell ⟨q,0,none⟩ (.int .i64 (i-1))).heap[q]?=some (.cells #[.int .i64 (i-1)] 3 (0,0))):=ae (by simpa using hb4);have vW:=ae ((au.refl (fun k=>k=q) w1).setCell (p:=⟨q,0,none⟩) (.inl rfl) (.int .i64 (i-1)));have Bg:Hid (au (fun k=>k=q) w (w1.setCell ⟨q,0,none⟩ (.int .i64 (i-1)))):=ae ((dB.out.mono (fun _ _ h=>h.elim)).trans vW.out);have dQ:=ae (vW.out.heap HB2.out (by have:=QW.out;omega));have eY:Hid (w.heap.size+1<=(w1.setCell ⟨q,0,none⟩ (.int .i64 (i-1))).heap.size):=ae (Nat.le_trans HZ0.out vW.out.size);generalize (w1.setCell ⟨q,0,none⟩ (.int .i64 (i-1)))=w4 at*;clear hb4 c0 f0 HC HB2 vW HZ0;have c0:=ag Kq.out 0 (.int .i64 (i-1)) rfl;have f0:=fun j=>ai Kq.out j;obtain⟨b0,b1,b2⟩:=af dQ.out;by_cases e1:d=0
 .obtain rfl:V= -1:=by rw[<-HV.out,xB,if_pos (.inl e1),rG _ _ _ (by omega)]
  have t1:(d==0)=true:=by rw[e1];rfl
  have hb5:=setBlock Kq.out 0 (.int .i64 (-1));have kz:Hid ((w4.setCell ⟨q,0,none⟩ (.int .i64 (-1))).heap[q]?=some (.cells #[.int .i64 (-1)] 3 (0,0))):=ae (by simpa using hb5);have jk:=ae ((au.refl (fun k=>k=q) w4).setCell (p:=⟨q,0,none⟩) (.inl rfl) (.int .i64 (-1)));have iV:Hid (au (fun k=>k=q) w (w4.setCell ⟨q,0,none⟩ (.int .i64 (-1)))):=ae (Bg.out.trans jk.out);have yL:=ae (jk.out.heap dQ.out (by have:=QW.out;omega));clear hb5 jk e1
  go_upto_region 5 with fail
  generalize w4.setCell ⟨q,0,none⟩ (.int .i64 (-1))=w5 at*;have c1:=ag kz.out 0 (.int .i64 (-1)) rfl;obtain⟨d0,d1,d2⟩:=af yL.out
  go_loopg [6] 0 (fun gk iv wr=>iv= .int .i64 0/\w5=wr)
  case atStart=>exact⟨rfl,rfl⟩
  case round=>
   obtain⟨rfl,rfl⟩:=hrel;by_cases hl0:0<L.length
   .have y1:decide ((0:Int)< (L.length:Int))=true:=dT (by omega);have y1':(0:Int)< (L.length:Int):=by omega
    go_wp2_with fail
    go_end0
    exact⟨rfl,iV.out,kz.out⟩
   .have y1:decide ((0:Int)< (L.length:Int))=false:=dF (by omega);have y1': ¬(0:Int)< (L.length:Int):=by omega
    go_wp2_with fail
    go_end0
    exact⟨rfl,iV.out,kz.out⟩
 have t1:(d==0)=false:=beq_eq_false_iff_ne.2 e1;by_cases e2:100<n.size
 .obtain rfl:V= -1:=by rw[<-HV.out,xB,if_pos (.inr (.inl e2)),rG _ _ _ (by omega)]
  have t2:decide ((100:Int)< (n.size:Int))=true:=dT (by omega);have t2':(100:Int)< (n.size:Int):=by omega
  have hb5:=setBlock Kq.out 0 (.int .i64 (-1));have kz:Hid ((w4.setCell ⟨q,0,none⟩ (.int .i64 (-1))).heap[q]?=some (.cells #[.int .i64 (-1)] 3 (0,0))):=ae (by simpa using hb5);have jk:=ae ((au.refl (fun k=>k=q) w4).setCell (p:=⟨q,0,none⟩) (.inl rfl) (.int .i64 (-1)));have iV:Hid (au (fun k=>k=q) w (w4.setCell ⟨q,0,none⟩ (.int .i64 (-1)))):=ae (Bg.out.trans jk.out);have yL:=ae (jk.out.heap dQ.out (by have:=QW.out;omega));clear hb5 jk e2
  go_upto_region 5 with fail
  generalize w4.setCell ⟨q,0,none⟩ (.int .i64 (-1))=w5 at*;have c1:=ag kz.out 0 (.int .i64 (-1)) rfl;obtain⟨d0,d1,d2⟩:=af yL.out
  go_loopg [6] 0 (fun gk iv wr=>iv= .int .i64 0/\w5=wr)
  case atStart=>exact⟨rfl,rfl⟩
  case round=>
   obtain⟨rfl,rfl⟩:=hrel;by_cases hl0:0<L.length
   .have y1:decide ((0:Int)< (L.length:Int))=true:=dT (by omega);have y1':(0:Int)< (L.length:Int):=by omega
    go_wp2_with fail
    go_end0
    exact⟨rfl,iV.out,kz.out⟩
   .have y1:decide ((0:Int)< (L.length:Int))=false:=dF (by omega);have y1': ¬(0:Int)< (L.length:Int):=by omega
    go_wp2_with fail
    go_end0
    exact⟨rfl,iV.out,kz.out⟩
 have t2:decide ((100:Int)< (n.size:Int))=false:=dF (by omega);have t2': ¬(100:Int)< (n.size:Int):=by omega
 by_cases e3:100<s.size
 .obtain rfl:V= -1:=by rw[<-HV.out,xB,if_pos (.inr (.inr (.inl e3))),rG _ _ _ (by omega)]
  have t3:decide ((100:Int)< (s.size:Int))=true:=dT (by omega);have P6:(100:Int)< (s.size:Int):=by omega
  have hb5:=setBlock Kq.out 0 (.int .i64 (-1));have kz:Hid ((w4.setCell ⟨q,0,none⟩ (.int .i64 (-1))).heap[q]?=some (.cells #[.int .i64 (-1)] 3 (0,0))):=ae (by simpa using hb5);have jk:=ae ((au.refl (fun k=>k=q) w4).setCell (p:=⟨q,0,none⟩) (.inl rfl) (.int .i64 (-1)));have iV:Hid (au (fun k=>k=q) w (w4.setCell ⟨q,0,none⟩ (.int .i64 (-1)))):=ae (Bg.out.trans jk.out);have yL:=ae (jk.out.heap dQ.out (by have:=QW.out;omega));clear hb5 jk e3
  go_upto_region 5 with fail
  generalize w4.setCell ⟨q,0,none⟩ (.int .i64 (-1))=w5 at*;have c1:=ag kz.out 0 (.int .i64 (-1)) rfl;obtain⟨d0,d1,d2⟩:=af yL.out
  go_loopg [6] 0 (fun gk iv wr=>iv= .int .i64 0/\w5=wr)
  case atStart=>exact⟨rfl,rfl⟩
  case round=>
   obtain⟨rfl,rfl⟩:=hrel;by_cases hl0:0<L.length
   .have y1:decide ((0:Int)< (L.length:Int))=true:=dT (by omega);have y1':(0:Int)< (L.length:Int):=by omega
    go_wp2_with fail
    go_end0
    exact⟨rfl,iV.out,kz.out⟩
   .have y1:decide ((0:Int)< (L.length:Int))=false:=dF (by omega);have y1': ¬(0:Int)< (L.length:Int):=by omega
    go_wp2_with fail
    go_end0
    exact⟨rfl,iV.out,kz.out⟩
 have t3:decide ((100:Int)< (s.size:Int))=false:=dF (by omega);have P6: ¬(100:Int)< (s.size:Int):=by omega
 by_cases e4:40<L.length
 .obtain rfl:V= -1:=by rw[<-HV.out,xB,if_pos (.inr (.inr (.inr e4))),rG _ _ _ (by omega)]
  have t4:decide ((40:Int)< (L.length:Int))=true:=dT (by omega);have Zf:(40:Int)< (L.length:Int):=by omega
  have hb5:=setBlock Kq.out 0 (.int .i64 (-1));have kz:Hid ((w4.setCell ⟨q,0,none⟩ (.int .i64 (-1))).heap[q]?=some (.cells #[.int .i64 (-1)] 3 (0,0))):=ae (by simpa using hb5);have jk:=ae ((au.refl (fun k=>k=q) w4).setCell (p:=⟨q,0,none⟩) (.inl rfl) (.int .i64 (-1)));have iV:Hid (au (fun k=>k=q) w (w4.setCell ⟨q,0,none⟩ (.int .i64 (-1)))):=ae (Bg.out.trans jk.out);have yL:=ae (jk.out.heap dQ.out (by have:=QW.out;omega));clear hb5 jk e4
  go_upto_region 5 with fail
  generalize w4.setCell ⟨q,0,none⟩ (.int .i64 (-1))=w5 at*;have c1:=ag kz.out 0 (.int .i64 (-1)) rfl;obtain⟨d0,d1,d2⟩:=af yL.out
  go_loopg [6] 0 (fun gk iv wr=>iv= .int .i64 0/\w5=wr)
  case atStart=>exact⟨rfl,rfl⟩
  case round=>
   obtain⟨rfl,rfl⟩:=hrel;by_cases hl0:0<L.length
   .have y1:decide ((0:Int)< (L.length:Int))=true:=dT (by omega);have y1':(0:Int)< (L.length:Int):=by omega
    go_wp2_with fail
    go_end0
    exact⟨rfl,iV.out,kz.out⟩
   .exfalso;omega
 have t4:decide ((40:Int)< (L.length:Int))=false:=dF (by omega);have Zf: ¬(40:Int)< (L.length:Int):=by omega
 have vP:Hid (wu L (d-1) (i-1)=V):=ae (by rw[<-HV.out,xB,if_neg (by omega)]);have al9:L.length<=40:=by omega
 have HD:=ae (show 0<=d-1/\d-1<=80 by omega);clear e1 e2 e3 e4
 go_upto_region 5 with fail
 clear t1 t2 t2' t3 P6 t4 Zf c0 f0 b0 b1 b2
 go_loopg [6] L.length (fun gk iv wr=> ∃(k:Nat) (j:Int),iv= .int .i64 (k:Int)/\gk=L.length-k/\k<=L.length/\ -1001<=j/\j<=1100/\Hid (au (fun k=>k=q) w wr)/\Hid (wr.heap[q]?=some (.cells #[.int .i64 j] 3 (0,0)))/\Hid (wr.heap[w.heap.size]?=some (.cells #[.string n,.string s,.slice a L.length cap] 24 (0,0)))/\Hid (wu (L.drop k) (d-1) j=V))
 case atStart=>exact⟨0,i-1,rfl,rfl,Nat.zero_le _,by omega,by omega,Bg,Kq,dQ,vP⟩
 case round=>
  clear Bg Kq dQ vP eY;obtain⟨k,j,rfl,rfl,hk,hj0,hj1,HU,J9,HB,jX⟩:=hrel;have c0:=ag J9.out 0 (.int .i64 j) rfl;obtain⟨b0,b1,b2⟩:=af HB.out;by_cases hlt:k<L.length
  .obtain ⟨z0,z1,z2,z2'⟩:=bJ hlt;have hvk:=jX.out;rw[EG L k hlt,Am] at hvk;by_cases hj:0<=j
   .have z3:decide ((0:Int)<=j)=true:=dT hj;rw[if_pos hj] at hvk;obtain⟨g,off,hga,_,hat⟩:=(cZ.out.kept HU.out (fun k hk e=>HQ.out (e▸hk))).at_ (by omega);subst hga;obtain⟨xa,xc,q0,q1,q2,aQ⟩:=hat k hlt;rw[<-Nat.add_assoc] at q1 q2;have aW:=ae (fun W (hW:Ext wr W)=>HIH.out (tg L k) (bM L k hlt) _ S q r W (d-1) j ⟨xa,xc,rfl,aQ.ext hW⟩ HQ.out (fun k hk=>ax (gm.out k hk) (Nat.le_trans HU.out.size hW.size)) (hW.heap J9.out (fun h=>h)) (hW.cell (HU.out.cell HR.out HRQ.out) (fun h=>h)) HRQ.out HD.out.1 HD.out.2 (by omega) hj1);have r0:=HU.out.cell HR.out HRQ.out;have hle:=(Oj (tg L k) (d-1) j).2.1 hj;dsimp only[tV] at aW;obtain⟨x,hx⟩: ∃x,tg L k=x:=⟨_,rfl⟩
    rw[hx] at q0 q1 q2 aW hvk hle;obtain⟨j2,hj2⟩: ∃j2,kT x (d-1) j=j2:=⟨_,rfl⟩
    rw[hj2] at aW hvk hle;have oK:=ae hvk;have J4:Hid (Ext wr wr):=ae (au.refl _ _);have ZI: ∀args W,(callFunc 112 args).run Tryz.prog W= .ok (.enter 112 args) W:=enters_of Tryz.func112 (by kernel_rfl) rfl;clear hat aQ hx hvk hj2 jX
    go_wp2_with fail
    go_still_tail 8,(by kernel_rfl)
    change wpList _ _ _ _ _ wr.drew
    go_wp2_with fail
    refine(aW.out wr.drew J4.out.drew).mono ?_;rintro e w5 ⟨rfl,hw5,hq5⟩;have bV:Hid (au (fun k=>k=q) wr w5):=ae (((au.refl (fun k=>k=q) wr).drewN' 1).trans hw5);have kz:=ae hq5;clear hw5 hq5 aW q0 q1 q2 r0 c0 b0 b1 b2
    go_wp2_with fail
    have iV:=ae (HU.out.trans bV.out);have dW:=ae (bV.out.heap HB.out (by have:=QW.out;omega))
    go_roundg (L.length- (k+1))
    case measure=>omega
    case rel=>exact⟨k+1,j2,by go_num,rfl,by omega,by omega,by omega,iV,kz,dW,oK⟩
   .have z3:decide ((0:Int)<=j)=false:=dF hj;rw[if_neg hj] at hvk;subst hvk;clear HV jX
    go_wp2_with fail
    go_end0
    exact⟨rfl,HU.out,J9.out⟩
  .obtain rfl:k=L.length:=by omega
   have z2:decide ((L.length:Int)< (L.length:Int))=false:=dF (by omega);have hvk:=jX.out;rw[List.drop_length,EF] at hvk;subst hvk;clear HV jX
   go_wp2_with fail
   go_end0
   exact⟨rfl,HU.out,J9.out⟩
def yw (L:List Tm) (i:Int):Int:=L.foldl (fun i t=>kT t 80 i) i
def nZ (L:List Tm):Bool:=decide (yw L 1100<0)
def Kr (t:Tm):Bool:=nZ [t]||(formed aB t&&decide (60<t.size))
theorem X4 (L:List Tm) (x:Tm) (i:Int):yw (L++[x]) i=kT x 80 (yw L i):=by unfold yw;rw[List.foldl_append];rfl
theorem Kt: ∀(L:List Tm) (i:Int),L.length<=10-> -1000+(L.length:Int)<=i->i<=1100-> -1000<=yw L i/\yw L i<=1100
 |[],i,_,h0,h1=>by simp at h0;exact⟨h0,h1⟩
 |x::L,i,hl,h0,h1=>by
  have h2:=Oj x 80 i;rw[List.length_cons] at hl h0;have h3: -1000+(L.length:Int)<=kT x 80 i/\kT x 80 i<=1100:=by
   by_cases hi:0<=i
   .have:=h2.2.1 hi;omega
   .rcases h2.2.2 (by omega) with e|e<;>omega
  exact Kt L _ (by omega) h3.1 h3.2
theorem rH {t:Tm} (h:nZ [t]=false):t.size<=1100:=by
 have h1:=of_decide_eq_false h;unfold yw at h1;have h2:=(Oj t 80 1100).1 (by simpa using h1);have h3: ¬kT t 80 1100<0:=by simpa using h1
 omega
theorem Lp (L:List Tm) (v:Value) (S:Nat->Prop) (w:World) (hT:ay S w L v) (hS: ∀k,S k->k<w.heap.size) (hl:L.length<=10):
  Calls Tryz.prog 43 #[v] w fun e w'=>e= .returned (.bool (nZ L))/\Ext w w':=by
 obtain⟨a,cap,rfl⟩:=hT.shape;obtain⟨V,hV⟩: ∃V,yw L 1100=V:=⟨_,rfl⟩
 have hbv:nZ L=decide (V<0):=by unfold nZ;rw[hV]
 rw[hbv];have HV:=ae hV;have cZ:=ae hT;have gm:=ae hS;have dB:=ae (((uR w).alloc (.cells #[.int .i64 1100] 3)).alloc (.cells #[.func (.func 112) #[] #[.pointer (some ⟨w.heap.size,0,none⟩),.pointer (some ⟨w.heap.size+1,0,none⟩)]] 158));have HQ0:=ae (ak (aj w (.cells #[.int .i64 1100] 3)) (.cells #[.func (.func 112) #[] #[.pointer (some ⟨w.heap.size,0,none⟩),.pointer (some ⟨w.heap.size+1,0,none⟩)]] 158));have HR0:=ae (alloc_at (w.alloc (.cells #[.int .i64 1100] 3)) (.cells #[.func (.func 112) #[] #[.pointer (some ⟨w.heap.size,0,none⟩),.pointer (some ⟨w.heap.size+1,0,none⟩)]] 158) (n:=w.heap.size+1) (by simp));have HZ0:Hid (w.heap.size+2<=((w.alloc (.cells #[.int .i64 1100] 3)).alloc (.cells #[.func (.func 112) #[] #[.pointer (some ⟨w.heap.size,0,none⟩),.pointer (some ⟨w.heap.size+1,0,none⟩)]] 158)).heap.size):=ae (by simp);have ZI: ∀args W,(callFunc 112 args).run Tryz.prog W= .ok (.enter 112 args) W:=enters_of Tryz.func112 (by kernel_rfl) rfl;clear hT hS hV hbv
 go_enter Tryz.func43,Tryz.ntmps43
 go_upto_region 4 with fail
 generalize ((w.alloc (.cells #[.int .i64 1100] 3)).alloc (.cells #[.func (.func 112) #[] #[.pointer (some ⟨w.heap.size,0,none⟩),.pointer (some ⟨w.heap.size+1,0,none⟩)]] 158))=w1 at*
 go_wp2_with fail
 go_loopg [10] L.length (fun gk iv wr=> ∃k:Nat,iv= .int .i64 (k:Int)/\gk=L.length-k/\k<=L.length/\Hid (au (fun k=>k=w.heap.size) w1 wr)/\Hid (wr.heap[w.heap.size]?=some (.cells #[.int .i64 (yw (L.take k) 1100)] 3 (0,0)))/\Hid (wr.heap[w.heap.size+1]?=some (.cells #[.func (.func 112) #[] #[.pointer (some ⟨w.heap.size,0,none⟩),.pointer (some ⟨w.heap.size+1,0,none⟩)]] 158 (0,0))))
 case atStart=>exact⟨0,rfl,rfl,Nat.zero_le _,ae (au.refl _ _),HQ0,HR0⟩
 case round=>
  clear HQ0 HR0;obtain⟨k,rfl,rfl,hk,HU,HQ,HR⟩:=hrel;have zi:Hid (Ext w wr):=ae (dB.out.trans' HU.out (fun j hj e=>by omega));by_cases hlt:k<L.length
  .obtain ⟨g,off,hga,_,hat⟩:=(cZ.out.ext zi.out).at_ (by omega);subst hga;obtain⟨xa,xc,q0,q1,q2,aQ⟩:=hat k hlt;rw[<-Nat.add_assoc] at q1 q2;obtain⟨z0,z1,z2,z2'⟩:=bJ hlt;have hbd:=Kt (L.take k) 1100 (by rw[List.length_take];omega) (by rw[List.length_take];omega) (by omega);have htk:yw (L.take (k+1)) 1100=kT (tg L k) 80 (yw (L.take k) 1100):=by
    rw[<-X4]
    congr 1
    rw[List.take_add_one]
    congr 1
    unfold tg;rw[List.getD_eq_getElem?_getD,List.getElem?_eq_getElem hlt];rfl
   have qf:=ae htk;obtain⟨x,hx⟩: ∃x,tg L k=x:=⟨_,rfl⟩
   rw[hx] at q0 q1 q2 aQ qf;obtain⟨I,hI⟩: ∃I,yw (L.take k) 1100=I:=⟨_,rfl⟩
   rw[hI] at hbd HQ qf;have nS:=(uR wr).alloc (tO x xa xc);have jk:=ae nS;have hSW: ∀j,S j->j<w.heap.size:=gm.out;have HWK:=ae (abd x (tV x (.slice xa x.kids.length xc)) S w.heap.size (w.heap.size+1) (wr.alloc (tO x xa xc)) 80 I ⟨xa,xc,rfl,aQ.ext nS⟩ (fun h=>Nat.lt_irrefl _ (hSW _ h)) (fun j hj=>ax (hSW j hj) (Nat.le_trans zi.out.size nS.size)) (nS.heap HQ.out (fun h=>h)) (ag (nS.heap HR.out (fun h=>h)) 0 _ rfl) (by omega) (by decide) (by decide) (by omega) (by omega));have r0:=ag (nS.heap HR.out (fun h=>h)) 0 (.func (.func 112) #[] #[.pointer (some ⟨w.heap.size,0,none⟩),.pointer (some ⟨w.heap.size+1,0,none⟩)]) rfl;have dW:=ae (aj wr (tO x xa xc));obtain⟨x0,x1,x2⟩:=af dW.out;have rq:Hid (w.heap.size+2<=w1.heap.size):=HZ0;dsimp only[tV] at HWK;clear hat aQ hx hI hbd htk nS hSW
   go_wp2_with fail
   refine HWK.out.mono ?_;rintro e w6 ⟨rfl,hw6,hq6⟩;have sS:Hid (au (fun k=>k=w.heap.size) w1 w6):=ae (HU.out.trans ((jk.out.mono (fun _ _ h=>h.elim)).trans hw6));have HQ6:Hid (w6.heap[w.heap.size]?=some (.cells #[.int .i64 (yw (L.take (k+1)) 1100)] 3 (0,0))):=ae (by rw[qf.out];exact hq6);have Fe:=ae (hw6.heap (jk.out.heap HR.out (fun h=>h)) (by omega));clear hw6 hq6 HWK q0 q1 q2 r0 x0 x1 x2
   go_wp2_with fail
   go_roundg (L.length- (k+1))
   case measure=>omega
   case rel=>exact⟨k+1,by go_num,rfl,by omega,sS,HQ6,Fe⟩
  .obtain rfl:k=L.length:=by omega
   have z2:decide ((L.length:Int)< (L.length:Int))=false:=dF (by omega);have hq:=HQ.out;rw[List.take_length,HV.out] at hq;have c0:=ag hq 0 (.int .i64 V) rfl;clear hq HV
   go_wp2_with fail
   go_ret;exact⟨rfl,zi.out⟩
theorem aej (t:Tm) (a:Option Addr) (cap:Nat) (w:World):Calls Tryz.prog 41 #[tV t (.slice a t.kids.length cap)] w fun e w'=>e= .returned (.bool (decide (t.name=ah)&&decide (t.sort=ah)&&decide (t.kids.length=0)))/\Ext w w':=by
 have HE:=ae ((uR w).alloc (tO t a cap));have hb:=aj w (tO t a cap);obtain⟨y0,y1,y2⟩:=af hb;have s0:=kF t.name;have s1:=kF t.sort;have s2:((t.kids.length:Int)==0)=decide (t.kids.length=0):=by
  rw[Bool.eq_iff_iff,decide_eq_true_eq,beq_iff_eq];omega
 unfold tO at HE;generalize t.kids.length=m at*;generalize decide (t.name=ah)=d0 at*;generalize decide (t.sort=ah)=d1 at*;obtain⟨d2,hd2⟩: ∃b,decide (m=0)=b:=⟨_,rfl⟩
 rw[hd2] at s2⊢;clear hb hd2;dsimp only[tV]
 go_enter Tryz.func41,Tryz.ntmps41
 cases d0
 .go_wp2_with fail
  go_ret;exact⟨rfl,HE.out⟩
 cases d1
 .go_wp2_with fail
  go_ret;exact⟨rfl,HE.out⟩
 go_wp2_with fail
 go_ret;exact⟨by simp,HE.out⟩
theorem abe (t:Tm) (v:Value) (w:World) (hT:bG (fun k=>k<w.heap.size) w t v):
  Calls Tryz.prog 37 #[v] w fun e w'=>e= .returned (.bool (Kr t))/\Ext w w':=by
 obtain⟨Z,hZ⟩: ∃Z,Kr t=Z:=⟨_,rfl⟩
 rw[hZ];have gY:=ae hZ;have qY:=ae (fun W (hW:Ext w W)=>yZ t 1 1000 v _ W (hT.ext hW) (by decide) (by decide) (by decide));have bT:=ae (fun(hs:t.size<=1000000) W (hW:Ext w W)=>ED t v _ W (hT.ext hW) hs);obtain⟨a,cap,rfl,hTL⟩:=hT;have hE1:=((uR w).alloc (tO t a cap))
 have hE2:=hE1.alloc (tO t a cap);have HE2:=ae hE2;have DR:=ae (Lp [t] _ (fun k=>k< ((w.alloc (tO t a cap)).alloc (tO t a cap)).heap.size) _ (Hy (n:=w.heap.size+1) (alloc_at (w.alloc (tO t a cap)) (tO t a cap) (by simp)) (by simp) ((hTL.ext hE2).weaken (fun k hk=>ax hk hE2.size))) (fun k hk=>hk) (by simp));have HB1:=ae (aj w (tO t a cap));have HB2:=ae (ak (aj w (tO t a cap)) (tO t a cap));have hsf:=oQ (nm:=aB) t;obtain⟨sm,hsm⟩: ∃s,small aB 1 1000 t=s:=⟨_,rfl⟩
 rw[hsm] at hsf qY;have Cb:=ae hsf;obtain⟨x0,x1,x2⟩:=af HB1.out;dsimp only[tV] at qY bT⊢;obtain⟨b1,hb1⟩: ∃b,nZ [t]=b:=⟨_,rfl⟩
 have HB:=ae hb1;rw[hb1] at DR;clear hTL hE1 hE2 hsf hsm hZ hb1
 go_enter Tryz.func37,Tryz.ntmps37
 go_wp2_with fail
 generalize (w.alloc (tO t a cap)).alloc (tO t a cap)=w1 at*;refine DR.out.mono ?_;rintro e w3 ⟨rfl,hw3⟩;have aT:=ae (HE2.out.trans hw3);have HB3:=ae (hw3.heap HB2.out (fun h=>h));clear hw3 DR HE2 HB2 HB1 x0 x1 x2;cases b1 with
 |true=>
  obtain rfl:Z=true:=by rw[<-gY.out];unfold Kr;rw[HB.out];rfl
  go_wp2_with fail
  go_ret;exact⟨rfl,aT.out⟩
 |false=>
  obtain⟨x0,x1,x2⟩:=af HB3.out
  go_wp2_with fail
  refine(qY.out _ aT.out).mono ?_;rintro e w4 ⟨rfl,hw4⟩;have bD:=ae (aT.out.trans hw4);have HB4:=ae (hw4.heap HB3.out (fun h=>h));clear hw4 qY aT HB3 x0 x1 x2;by_cases hs:0<=sm
  .have t1:decide ((0:Int)<=sm)=true:=dT hs;have hf:formed aB t=true:=by rw[Cb.out];exact t1
   have hsz:=(rH HB.out)
   have uC:=ae (bT.out (by omega) _ bD.out);have HZ2:Hid (Z=decide ((60:Int)< (t.size:Int))):=ae (by
    rw[<-gY.out];unfold Kr;rw[HB.out,hf,Bool.false_or,Bool.true_and,Bool.eq_iff_iff,decide_eq_true_eq,decide_eq_true_eq];omega)
   obtain⟨x0,x1,x2⟩:=af HB4.out;obtain⟨sz,hsz2⟩: ∃n,t.size=n:=⟨_,rfl⟩
   rw[hsz2] at uC HZ2;clear hf hsz hsz2 bT
   go_wp2_with fail
   refine uC.out.mono ?_;rintro e w5 ⟨rfl,hw5⟩;have di:=ae (bD.out.trans hw5);clear hw5 uC x0 x1 x2;obtain rfl:Z=decide ((60:Int)< (sz:Int)):=HZ2.out
   go_wp2_with fail
   go_ret;exact⟨by first|rfl|simp,di.out⟩
  .have t1:decide ((0:Int)<=sm)=false:=dF hs;obtain rfl:Z=false:=by rw[<-gY.out];unfold Kr;rw[HB.out,Cb.out,t1];rfl
   go_wp2_with fail
   go_ret;exact⟨rfl,bD.out⟩
end
theorem eqV (a b c d:By) (w:World):(Op.equalIn 10000 116 (.agg #[.string a,.string b]) (.agg #[.string c,.string d])).run Tryz.prog w= .ok (decide ((a,b)=(c,d))) w:=by
 have u9:=Tryz.underlying9;have hS:Tryz.prog.underlying 116=some (.struct (Tryz.prog.fieldsOf 116)):=by kernel_rfl
 have hp:Tryz.prog.stoodInHeld 116=false:=by kernel_rfl
 rw[show(10000:Nat)=9999+1 from rfl,run_equalIn_agg w 9999 116 _ _ hS hp];simp only[Program.fieldsOf,Tryz.underlying116];go_simp;have tl: ∀x y:By,x.toList=y.toList<->x=y:=fun x y=>⟨fun e=>kD (by rw[Lib.toList_data,Lib.toList_data] at e;exact e),fun e=>by rw[e]⟩
 by_cases h1:a=c<;>by_cases h2:b=d<;>simp[h1,h2,tl]
def kH (f:Vd) (l:List Vd):Bool:=l.any fun g=>decide (g=f)
theorem I8 {f:Vd} {l:List Vd}:kH f l=true<->f∈l:=by
 unfold kH;rw[List.any_eq_true];exact⟨fun⟨x,h1,h2⟩=>by rw[<-of_decide_eq_true h2];exact h1,fun h=>⟨f,h,dT rfl⟩⟩
theorem acC {f:Vd} {l:List Vd} (h:f∉l):kH f l=false:=by
 cases e:kH f l
 .rfl
 .exact absurd (I8.1 e) h
theorem acD (l:List Vd) (f:Vd) (v:Value) (S:Nat->Prop) (w:World) (hR:b_ S w v l) (hl:l.length<=1000000):
  Calls Tryz.prog 237 #[v,.agg #[.string f.1,.string f.2]] w fun e w'=> ∃r:Int,e= .returned (.int .i64 r)/\decide (0<=r)=kH f l/\Ext w w':=by
 obtain⟨a,cap,rfl⟩:=hR.shape;have HR:=ae hR;have HL:=ae hl;have dB:=ae ((uR w).alloc (.cells #[.string f.1,.string f.2] 116));have HB0:=ae (aj w (.cells #[.string f.1,.string f.2] 116));obtain⟨c0,c1⟩:=df HB0.out;have eF:=ae (fun a b W=>eqV f.1 f.2 a b W);clear hR hl
 go_enter Tryz.func237,Tryz.ntmps237
 go_wp2_with fail
 clear c0 c1;generalize w.alloc (.cells #[.string f.1,.string f.2] 116)=w2 at*
 go_loopg [8] l.length (fun gk iv wr=> ∃k:Nat,iv= .int .i64 (k:Int)/\gk=l.length-k/\k<=l.length/\Hid (Ext w2 wr)/\Hid (f∉l.take k))
 case atStart=>exact⟨0,rfl,rfl,Nat.zero_le _,ae (au.refl _ _),ae (by simp)⟩
 case round=>
  obtain⟨k,rfl,rfl,hk,HE,HM⟩:=hrel;have jf:=ae (HE.out.heap HB0.out (fun h=>h));by_cases hlt:k<l.length
  .obtain ⟨g,off,hga,hat⟩:=((HR.out.ext dB.out).ext HE.out).at_ (by omega);subst hga;obtain⟨q0,q1⟩:=hat k hlt;obtain⟨c0,c1⟩:=df jf.out;obtain⟨z0,z1,z2,z2'⟩:=bJ hlt;have hmem:vg l k∈l:=by unfold vg;rw[List.getD_eq_getElem?_getD,List.getElem?_eq_getElem hlt];exact List.getElem_mem hlt
   have HN:Hid (f≠vg l k->f∉l.take (k+1)):=ae (fun h=>by
    rw[List.take_add_one,List.mem_append];rintro(h1|h1)
    .exact HM.out h1
    .apply h;unfold vg;rw[List.getElem?_eq_getElem hlt] at h1;rw[List.getD_eq_getElem?_getD,List.getElem?_eq_getElem hlt];simpa using h1)
   have HY:Hid (f=vg l k->kH f l=true):=ae (fun h=>by rw[h];exact I8.2 hmem);have heq:=fun W=>eF.out (vg l k).1 (vg l k).2 W;have jW:=HL.out;obtain⟨x,hx⟩: ∃x,vg l k=x:=⟨_,rfl⟩
   rw[hx] at q0 q1 HN HY heq;have h3:decide ((f.1,f.2)=(x.1,x.2))=decide (f=x):=rfl;rw[h3] at heq;clear hat hmem hx HM h3;by_cases hfx:f=x
   .rw [dT hfx] at heq;have yX:=ae (HY.out hfx);clear HY HN hfx
    go_wp2_with fail
    go_quiet (fail)
    go_wp2_with fail
    all_goals go_ret
    all_goals exact⟨_,rfl,by rw[yX.out];exact dT z0,dB.out.trans (by first|exact HE.out|exact HE.out.drewN' _)⟩
   .rw [dF hfx] at heq;have jh:=ae (HN.out hfx);clear HY HN hfx
    go_wp2_with fail
    go_quiet (fail)
    go_wp2_with fail
    go_roundg (l.length- (k+1))
    case measure=>omega
    case rel=>exact⟨k+1,by go_num,rfl,by omega,ae (by first|exact HE.out|exact HE.out.drewN' _),jh⟩
  .obtain rfl:k=l.length:=by omega
   have z2:decide ((l.length:Int)< (l.length:Int))=false:=dF (by omega);have ku:Hid (kH f l=false):=ae (acC (by have:=HM.out;rw[List.take_length] at this;exact this));clear HM
   go_wp2_with fail
   go_ret;exact⟨_,rfl,by rw[ku.out];rfl,dB.out.trans HE.out⟩
theorem acE (l:List Vd) (f:Vd) (v:Value) (S:Nat->Prop) (w:World) (hR:b_ S w v l) (hl:l.length<=1000000):
  Calls Tryz.prog 215 #[v,.agg #[.string f.1,.string f.2]] w fun e w'=>e= .returned (.bool (kH f l))/\Ext w w':=by
 have HI:=ae (fun W (hW:Ext w W)=>acD l f v S W (hR.ext hW) hl);obtain⟨a,cap,rfl⟩:=hR.shape;have dB:=ae ((uR w).alloc (.cells #[.string f.1,.string f.2] 116));have hb:=aj w (.cells #[.string f.1,.string f.2] 116);obtain⟨c0,c1⟩:=df hb;clear hR hl hb
 go_enter Tryz.func215,Tryz.ntmps215
 go_wp2_with fail
 refine(HI.out _ dB.out).mono ?_;rintro e w4 ⟨r,rfl,hr,hw4⟩;have H4:=ae (dB.out.trans hw4);have HRR:=ae hr;clear hw4 hr c0 c1
 go_wp2_with fail
 go_ret;rw[<-HRR.out];exact⟨rfl,H4.out⟩
theorem agG (l:List Vd) (f:Vd) (lv:Value) (S:Nat->Prop) (bb:Nat) (w:World) (hR:b_ S w lv l) (hc:w.cell? ⟨bb,0,none⟩=some lv) (hl:l.length<=1000000):
  Calls Tryz.prog 214 #[.agg #[.string f.1,.string f.2],.pointer (some ⟨bb,0,none⟩)] w fun e w'=>e= .returned (.bool (!kH f l))/\Ext w w':=by
 have HI:=ae (fun W (hW:Ext w W)=>acE l f lv S W (hR.ext hW) hl);obtain⟨a,cap,rfl⟩:=hR.shape;have dB:=ae ((uR w).alloc (.cells #[.string f.1,.string f.2] 116));have hb:=aj w (.cells #[.string f.1,.string f.2] 116);obtain⟨c0,c1⟩:=df hb;have d0:=dB.out.cell hc (fun h=>h);obtain⟨B,hB⟩: ∃B,kH f l=B:=⟨_,rfl⟩
 rw[hB] at HI⊢;clear hR hl hb hc hB
 go_enter Tryz.func214,Tryz.ntmps214
 go_wp2_with fail
 refine(HI.out _ dB.out).mono ?_;rintro e w4 ⟨rfl,hw4⟩;have H4:=ae (dB.out.trans hw4);clear hw4 c0 c1 d0
 go_wp2_with fail
 go_ret;exact⟨rfl,H4.out⟩
theorem aaV (l m:List Vd) (lv v:Value) (S T:Nat->Prop) (bb:Nat) (w:World) (hL:b_ S w lv l) (hc:w.cell? ⟨bb,0,none⟩=some lv) (hR:b_ T w v m) (hl:l.length<=1000000) (hm:m.length<=1000000):
  Calls Tryz.prog 236 #[v,.func (.func 214) #[] #[.pointer (some ⟨bb,0,none⟩)]] w fun e w'=> ∃r:Int,e= .returned (.int .i64 r)/\decide (0<=r)=(m.any fun f=>!kH f l)/\Ext w w':=by
 obtain⟨a,cap,rfl⟩:=hR.shape;have HR:=ae hR;have HM0:=ae hm;have HF:=ae (fun f W (hW:Ext w W)=>agG l f lv S bb W (hL.ext hW) (hW.cell hc (fun h=>h)) hl);obtain⟨p,hp⟩: ∃p:Vd->Bool,(fun f=>!kH f l)=p:=⟨_,rfl⟩
 have hpf: ∀f,(!kH f l)=p f:=fun f=>by rw[<-hp]
 have HF:Hid (∀f W,Ext w W->Calls Tryz.prog 214 #[.agg #[.string f.1,.string f.2],.pointer (some ⟨bb,0,none⟩)] W fun e w'=>e= .returned (.bool (p f))/\Ext W w'):=ae (fun f W hW=>by rw[<-hpf f];exact HF.out f W hW);rw[hp];clear hR hL hc hl hm hp hpf
 go_enter Tryz.func236,Tryz.ntmps236
 go_wp2_with fail
 go_loopg [8] m.length (fun gk iv wr=> ∃k:Nat,iv= .int .i64 (k:Int)/\gk=m.length-k/\k<=m.length/\Hid (Ext w wr)/\Hid ((m.take k).any p=false))
 case atStart=>exact⟨0,rfl,rfl,Nat.zero_le _,ae (au.refl _ _),ae rfl⟩
 case round=>
  obtain⟨k,rfl,rfl,hk,HE,HM⟩:=hrel;by_cases hlt:k<m.length
  .obtain ⟨g,off,hga,hat⟩:=(HR.out.ext HE.out).at_ (by omega);subst hga;obtain⟨q0,q1⟩:=hat k hlt;obtain⟨z0,z1,z2,z2'⟩:=bJ hlt;have hmem:vg m k∈m:=by unfold vg;rw[List.getD_eq_getElem?_getD,List.getElem?_eq_getElem hlt];exact List.getElem_mem hlt
   have hsn:m.take (k+1)=m.take k++[vg m k]:=by
    rw[List.take_add_one];unfold vg;rw[List.getD_eq_getElem?_getD,List.getElem?_eq_getElem hlt];rfl
   have HN:Hid (p (vg m k)=false->(m.take (k+1)).any p=false):=ae (fun h=>by
    rw[hsn,List.any_append,HM.out,List.any_cons,List.any_nil,h];rfl)
   have HY:Hid (p (vg m k)=true->m.any p=true):=ae (fun h=>List.any_eq_true.2 ⟨_,hmem,h⟩);have eu:=ae (HF.out (vg m k) wr HE.out);have hlM:=HM0.out;obtain⟨x,hx⟩: ∃x,vg m k=x:=⟨_,rfl⟩
   rw[hx] at q0 q1 HN HY eu;obtain⟨b,hb⟩: ∃b,p x=b:=⟨_,rfl⟩
   rw[hb] at HN HY eu;clear hat hmem hx HM hsn hb
   go_wp2_with fail
   refine eu.out.mono ?_;rintro e w4 ⟨rfl,hw4⟩;have H4:=ae (HE.out.trans hw4);clear hw4 q0 q1 eu HE;cases b
   .have jh:=ae (HN.out rfl);clear HN HY
    go_wp2_with fail
    go_roundg (m.length- (k+1))
    case measure=>omega
    case rel=>exact⟨k+1,by go_num,rfl,by omega,H4,jh⟩
   .have yX:=ae (HY.out rfl);clear HN HY
    go_wp2_with fail
    go_ret;exact⟨_,rfl,by rw[yX.out];exact dT z0,H4.out⟩
  .obtain rfl:k=m.length:=by omega
   have z2:decide ((m.length:Int)< (m.length:Int))=false:=dF (by omega);have ku:Hid (m.any p=false):=ae (by have:=HM.out;rw[List.take_length] at this;exact this);clear HM
   go_wp2_with fail
   go_ret;exact⟨_,rfl,by rw[ku.out];rfl,HE.out⟩
theorem aaK (l m:List Vd) (lv v:Value) (S T:Nat->Prop) (bb:Nat) (w:World) (hL:b_ S w lv l) (hc:w.cell? ⟨bb,0,none⟩=some lv) (hR:b_ T w v m) (hl:l.length<=1000000) (hm:m.length<=1000000):
  Calls Tryz.prog 213 #[v,.func (.func 214) #[] #[.pointer (some ⟨bb,0,none⟩)]] w fun e w'=>e= .returned (.bool (m.any fun f=>!kH f l))/\Ext w w':=by
 have HI:=ae (aaV l m lv v S T bb w hL hc hR hl hm);obtain⟨B,hB⟩: ∃B,(m.any fun f=>!kH f l)=B:=⟨_,rfl⟩
 rw[hB] at HI⊢;clear hL hc hR hl hm hB
 go_enter Tryz.func213,Tryz.ntmps213
 go_wp2_with fail
 refine HI.out.mono ?_;rintro e w4 ⟨r,rfl,hr,hw4⟩;have H4:=ae hw4;have HRR:=ae hr;clear hw4 hr
 go_wp2_with fail
 go_ret;rw[<-HRR.out];exact⟨rfl,H4.out⟩
def oL (r:Rl):Bool:=wf aB r.1&&wf aB r.2&&decide (r.1.sort=ah)&&!((qw r.2).1.any fun f=>!kH f (qw r.1).1)
theorem JA (t:Tm):(qw t).1.length<=t.size:=by
 unfold qw;split
 .have h1:=BU (vl (aV t)) [];have h2:=Un t;simp only[List.length_nil] at h1;show(dm [] (vl (aV t))).1.length<=_;omega
 .simp
theorem aaJ (x y:Tm) (xa ya:Option Addr) (xc yc:Nat) (w:World) (hx:ay (fun k=>k<w.heap.size) w x.kids (.slice xa x.kids.length xc)) (hy:ay (fun k=>k<w.heap.size) w y.kids (.slice ya y.kids.length yc)) (htab:cO w) (hsx:x.size<=100000) (hsy:y.size<=100000):
  Calls Tryz.prog 170 #[.agg #[.string x.name,.string x.sort,.slice xa x.kids.length xc,.string y.name,.string y.sort,.slice ya y.kids.length yc]] w fun e w'=>e= .returned (.bool (oL (x,y)))/\Ext w w':=by
 have HX:=ae (fun W (hW:Ext w W)=>wK x _ W (aJ htab hW) ⟨xa,xc,rfl,(hx.ext hW).weaken (fun k hk=>ax hk hW.size)⟩ (by omega));have HY:=ae (fun W (hW:Ext w W)=>wK y _ W (aJ htab hW) ⟨ya,yc,rfl,(hy.ext hW).weaken (fun k hk=>ax hk hW.size)⟩ (by omega));have jg:=ae (fun W (hW:Ext w W)=>qX x _ W (aJ htab hW) ⟨xa,xc,rfl,(hx.ext hW).weaken (fun k hk=>ax hk hW.size)⟩ (by omega));have Gu:=ae (fun W (hW:Ext w W)=>qX y _ W (aJ htab hW) ⟨ya,yc,rfl,(hy.ext hW).weaken (fun k hk=>ax hk hW.size)⟩ (by omega));have HLX:Hid ((qw x).1.length<=1000000):=ae (by have:=JA x;omega);have HLY:Hid ((qw y).1.length<=1000000):=ae (by have:=JA y;omega);have HZ:Hid (Ext w (w.alloc (.cells #[.string x.name,.string x.sort,.slice xa x.kids.length xc,.string y.name,.string y.sort,.slice ya y.kids.length yc] 146))):=ae ((uR w).alloc _);have HB:=ae (aj w (.cells #[.string x.name,.string x.sort,.slice xa x.kids.length xc,.string y.name,.string y.sort,.slice ya y.kids.length yc] 146));unfold oL;dsimp only[tV] at HX HY jg Gu⊢;obtain⟨A,hA⟩: ∃b,wf aB x=b:=⟨_,rfl⟩
 obtain⟨B,hB⟩: ∃b,wf aB y=b:=⟨_,rfl⟩
 obtain⟨VX,hVX⟩: ∃b,qw x=b:=⟨_,rfl⟩
 obtain⟨VY,hVY⟩: ∃b,qw y=b:=⟨_,rfl⟩
 rw[hA] at HX⊢;rw[hB] at HY⊢;rw[hVX] at jg HLX⊢;rw[hVY] at Gu HLY⊢;obtain⟨R,hR⟩: ∃b,(A&&B&&decide (x.sort=ah)&&!(VY.1.any fun f=>!kH f VX.1))=b:=⟨_,rfl⟩
 rw[hR];have HR:=ae hR;obtain⟨q0,q1,q2,q3,q4,q5⟩:=dR HB.out;clear hA hB hVX hVY hR hx hy htab hsx hsy
 go_enter Tryz.func170,Tryz.ntmps170
 go_wp2_with fail
 refine(HX.out _ HZ.out).mono ?_;rintro e w4 ⟨rfl,hw4⟩;have H4:=ae (HZ.out.trans hw4);have HB4:=ae (hw4.heap HB.out (fun h=>h));clear hw4 q0 q1 q2 q3 q4 q5 HX HB;obtain⟨q0,q1,q2,q3,q4,q5⟩:=dR HB4.out;cases A
 .go_wp2_with fail
  all_goals go_ret
  all_goals (first|exact⟨by rw[<-HR.out];rfl,H4.out⟩|exact⟨by rw[<-HR.out];simp,H4.out⟩)
 .go_wp2_with fail
  refine(HY.out _ H4.out).mono ?_;rintro e w5 ⟨rfl,hw5⟩;have H5:=ae (H4.out.trans hw5);have dW:=ae (hw5.heap HB4.out (fun h=>h));clear hw5 q0 q1 q2 q3 q4 q5 HY HB4;obtain⟨q0,q1,q2,q3,q4,q5⟩:=dR dW.out;cases B
  .go_wp2_with fail
   all_goals go_ret
   all_goals (first|exact⟨by rw[<-HR.out];rfl,H5.out⟩|exact⟨by rw[<-HR.out];simp,H5.out⟩)
  .by_cases hs0:x.sort.size=0
   .have hse:=iH _ hs0;have abS:decide (x.sort=ah)=true:=dT hse;have HR2:Hid ((!(VY.1.any fun f=>!kH f VX.1))=R):=ae (by rw[<-HR.out,abS];simp);rw[hse] at q1;rw[hse] at jg dW;clear HR abS
    go_wp2_with fail
    refine(jg.out _ H5.out).mono ?_;rintro e w6 ⟨r6,rfl,hF6,hw6⟩;obtain⟨fa,fc,rfl⟩:=b_.shape hF6;have hQ:=(uR w6).alloc (.cells #[.slice fa VX.1.length fc] 111);have H7:=ae ((H5.out.trans hw6).trans hQ);have dZ:=ae ((hw6.trans hQ).heap dW.out (fun h=>h));have HF7:=ae (hF6.ext hQ);have Lt:=ae (aj w6 (.cells #[.slice fa VX.1.length fc] 111));clear q0 q1 q2 q3 q4 q5 jg dW hF6 hw6 hQ;obtain⟨n6,JB⟩: ∃n,w6.heap.size=n:=⟨_,rfl⟩
    rw[JB] at Lt;obtain⟨q0,q1,q2,q3,q4,q5⟩:=dR dZ.out
    go_wp2_with fail
    try rw[JB]
    clear JB;generalize w6.alloc (.cells #[.slice fa VX.1.length fc] 111)=w7 at*;refine(Gu.out _ H7.out).mono ?_;rintro e w8 ⟨r8,rfl,hF8,hw8⟩;obtain⟨ga,gc,rfl⟩:=b_.shape hF8;have H8:=ae (H7.out.trans hw8);have PV:=ae (aaK VX.1 VY.1 (.slice fa VX.1.length fc) (.slice ga VY.1.length gc) _ _ n6 w8 (HF7.out.ext hw8) (ag (hw8.heap Lt.out (fun h=>h)) 0 _ rfl) hF8 HLX.out HLY.out);obtain⟨Z,hZ⟩: ∃Z,(VY.1.any fun f=>!kH f VX.1)=Z:=⟨_,rfl⟩
    rw[hZ] at PV HR2;clear q0 q1 q2 q3 q4 q5 Gu dZ hF8 hw8 hZ
    go_wp2_with fail
    refine PV.out.mono ?_;rintro e w9 ⟨rfl,iy⟩;have H9:=ae (H8.out.trans iy);clear iy PV
    go_wp2_with fail
    go_ret;exact⟨by rw[<-HR2.out];rfl,H9.out⟩
   .have hne:x.sort≠ah:=fun e=>hs0 (by rw[e];rfl);obtain⟨e1,e2,e3,e4⟩:=fV x.sort (Nat.pos_of_ne_zero hs0);have hne2:decide (x.sort=ah)=false:=dF hne;have HR2:Hid (R=false):=ae (by rw[<-HR.out,hne2];simp);clear HR hne2 hne hs0
    go_wp2_with fail
    all_goals go_ret
    all_goals (rw[HR2.out];exact⟨rfl,H5.out⟩)
theorem Xc (x y:Tm) (xa ya:Option Addr) (xc yc:Nat) (w:World) (hx:ay (fun k=>k<w.heap.size) w x.kids (.slice xa x.kids.length xc)) (hy:ay (fun k=>k<w.heap.size) w y.kids (.slice ya y.kids.length yc)) (htab:cO w) (hsx:x.size<=100000) (hsy:y.size<=100000):
  Calls Tryz.prog 169 #[.agg #[.string x.name,.string x.sort,.slice xa x.kids.length xc,.string y.name,.string y.sort,.slice ya y.kids.length yc]] w fun e w'=>e= .returned (.bool (!oL (x,y)))/\Ext w w':=by
 have HX:=ae (fun W (hW:Ext w W)=>aaJ x y xa ya xc yc W ((hx.ext hW).weaken (fun k hk=>ax hk hW.size)) ((hy.ext hW).weaken (fun k hk=>ax hk hW.size)) (aJ htab hW) hsx hsy);have HZ:Hid (Ext w (w.alloc (.cells #[.string x.name,.string x.sort,.slice xa x.kids.length xc,.string y.name,.string y.sort,.slice ya y.kids.length yc] 146))):=ae ((uR w).alloc _);have HB:=ae (aj w (.cells #[.string x.name,.string x.sort,.slice xa x.kids.length xc,.string y.name,.string y.sort,.slice ya y.kids.length yc] 146));obtain⟨R,hR⟩: ∃b,oL (x,y)=b:=⟨_,rfl⟩
 rw[hR] at HX⊢;obtain⟨q0,q1,q2,q3,q4,q5⟩:=dR HB.out;clear hx hy htab hsx hsy hR
 go_enter Tryz.func169,Tryz.ntmps169
 go_wp2_with fail
 refine(HX.out _ HZ.out).mono ?_;rintro e w4 ⟨rfl,hw4⟩;have H4:=ae (HZ.out.trans hw4);clear hw4 q0 q1 q2 q3 q4 q5 HX HB
 go_wp2_with fail
 go_ret;exact⟨rfl,H4.out⟩
theorem Xd (p:Rl->Bool) (J:Nat->World->Prop) (hJ: ∀k W W',J k W->Ext W W'->J k W') (L:List Rl) (v:Value) (S:Nat->Prop) (w:World) (hw:J 0 w) (hl:L.length<=1000000)
  (hR: ∀k W,J k W->iJ S W L v) (hf: ∀k,k<L.length->∀xa xc ya yc W,J k W->ay S W (rg L k).1.kids (.slice xa (rg L k).1.kids.length xc)->ay S W (rg L k).2.kids (.slice ya (rg L k).2.kids.length yc)->Calls Tryz.prog 169 #[.agg #[.string (rg L k).1.name,.string (rg L k).1.sort,.slice xa (rg L k).1.kids.length xc,.string (rg L k).2.name,.string (rg L k).2.sort,.slice ya (rg L k).2.kids.length yc]] W fun e W'=>e= .returned (.bool (p (rg L k)))/\J (k+1) W'):
  Calls Tryz.prog 165 #[v,.func (.func 169) #[] #[]] w fun e w'=>e= .returned (.int .i64 (if L.findIdx p<L.length then(L.findIdx p:Int) else -1))/\∃k,k<=L.length/\J k w':=by
 obtain⟨a,cap,rfl⟩:=(hR 0 w hw).shape;have HW:=ae hw;have HR:=ae hR;have HF:=ae hf;obtain⟨X,hX⟩: ∃X:Int,(if L.findIdx p<L.length then(L.findIdx p:Int) else -1)=X:=⟨_,rfl⟩
 rw[hX];have HX:=ae hX;clear hw hR hf hJ hX
 go_enter Tryz.func165,Tryz.ntmps165
 go_wp2_with fail
 go_loopg [8] L.length (fun gk iv wr=> ∃k:Nat,iv= .int .i64 (k:Int)/\gk=L.length-k/\k<=L.length/\Hid (J k wr)/\Hid (∀j,j<k->p (rg L j)=false))
 case atStart=>exact⟨0,rfl,rfl,Nat.zero_le _,HW,ae (fun j h=>absurd h (Nat.not_lt_zero _))⟩
 case round=>
  obtain⟨k,rfl,rfl,hk,HK,HM⟩:=hrel;have hgt: ∀j,(h:j<L.length)->rg L j=L[j]:=fun j h=>by unfold rg;rw[List.getD_eq_getElem?_getD,List.getElem?_eq_getElem h];rfl
  by_cases hlt:k<L.length
  .obtain ⟨g,off,hga,_,hat⟩:=(HR.out k wr HK.out).at_ (by omega);subst hga;obtain⟨xa,xc,ya,yc,q0,q1,q2,q3,q4,q5,hx,hy⟩:=hat k hlt;obtain⟨z0,z1,z2,z2'⟩:=bJ hlt;have eu:=ae (HF.out k hlt _ _ _ _ wr HK.out hx hy);have HN:Hid (p (rg L k)=false->∀j,j<k+1->p (rg L j)=false):=ae (fun h j hj=>by
    rcases Nat.lt_succ_iff_lt_or_eq.1 hj with h5|h5
    .exact HM.out j h5
    .rw [h5];exact h)
   have HY:Hid (p (rg L k)=true->L.findIdx p=k):=ae (fun h=>by
    rcases Nat.lt_trichotomy (L.findIdx p) k with e|e|e
    .have h1:L.findIdx p<L.length:=by omega
     have h2:=List.findIdx_getElem (w:=h1);rw[<-hgt _ h1,HM.out _ e] at h2;cases h2
    .exact e
    .have h2:=List.not_of_lt_findIdx e;rw[<-hgt _ hlt] at h2;rw[h2] at h;cases h)
   obtain⟨⟨x,y⟩,hxy⟩: ∃r,rg L k=r:=⟨_,rfl⟩
   rw[hxy] at q0 q1 q2 q3 q4 q5 eu HN HY;dsimp only at q0 q1 q2 q3 q4 q5 eu HN HY;obtain⟨b,hb⟩: ∃b,p (x,y)=b:=⟨_,rfl⟩
   rw[hb] at eu HN HY;clear hat hx hy hxy hb HM hgt
   go_wp2_with fail
   refine eu.out.mono ?_;rintro e w4 ⟨rfl,hw4⟩;have H4:=ae hw4;clear hw4 q0 q1 q2 q3 q4 q5 eu HK;cases b
   .have jh:=ae (HN.out rfl);clear HN HY
    go_wp2_with fail
    go_roundg (L.length- (k+1))
    case measure=>omega
    case rel=>exact⟨k+1,by go_num,rfl,by omega,H4,jh⟩
   .have yX:=ae (HY.out rfl);clear HN HY
    go_wp2_with fail
    go_ret;exact⟨by rw[<-HX.out,yX.out,if_pos hlt];rfl,k+1,by omega,H4.out⟩
  .obtain rfl:k=L.length:=by omega
   have z2:decide ((L.length:Int)< (L.length:Int))=false:=dF (by omega);have HV:Hid (¬L.findIdx p<L.length):=ae (fun h=>by
    have h2:=List.findIdx_getElem (w:=h);rw[<-hgt _ h,HM.out _ h] at h2;cases h2)
   clear hgt
   go_wp2_with fail
   go_ret;exact⟨by rw[<-HX.out,if_neg HV.out];rfl,L.length,Nat.le_refl _,HK.out⟩
theorem Xf (p:Rl->Bool) (J:Nat->World->Prop) (hJ: ∀k W W',J k W->Ext W W'->J k W') (L:List Rl) (v:Value) (S:Nat->Prop) (w:World) (hw:J 0 w) (hl:L.length<=1000000)
  (hR: ∀k W,J k W->iJ S W L v) (hf: ∀k,k<L.length->∀xa xc ya yc W,J k W->ay S W (rg L k).1.kids (.slice xa (rg L k).1.kids.length xc)->ay S W (rg L k).2.kids (.slice ya (rg L k).2.kids.length yc)->Calls Tryz.prog 169 #[.agg #[.string (rg L k).1.name,.string (rg L k).1.sort,.slice xa (rg L k).1.kids.length xc,.string (rg L k).2.name,.string (rg L k).2.sort,.slice ya (rg L k).2.kids.length yc]] W fun e W'=>e= .returned (.bool (p (rg L k)))/\J (k+1) W'):
  Calls Tryz.prog 106 #[v,.func (.func 169) #[] #[]] w fun e w'=>e= .returned (.bool (L.any p))/\∃k,k<=L.length/\J k w':=by
 have HI:=ae (Xd p J hJ L v S w hw hl hR hf);have HV:Hid (decide (L.findIdx p<L.length)=L.any p):=ae (by rw[Bool.eq_iff_iff,decide_eq_true_eq,List.findIdx_lt_length,List.any_eq_true]);clear hw hR hf hJ;by_cases h:L.findIdx p<L.length
 .have hv:L.any p=true:=by rw[<-HV.out];exact dT h
  rw[hv];rw[if_pos h] at HI;have z0:(0:Int)<=((L.findIdx p:Nat):Int):=by omega
  generalize L.findIdx p=X at*;clear h hv
  go_enter Tryz.func106,Tryz.ntmps106
  go_wp2_with fail
  refine HI.out.mono ?_;rintro e w4 ⟨rfl,k,hk,hw4⟩;have H4:=ae hw4;clear hw4
  go_wp2_with fail
  go_ret;exact⟨by first|rfl|simp,k,hk,H4.out⟩
 .have hv:L.any p=false:=by rw[<-HV.out];exact dF h
  rw[hv];rw[if_neg h] at HI;clear h hv HV
  go_enter Tryz.func106,Tryz.ntmps106
  go_wp2_with fail
  refine HI.out.mono ?_;rintro e w4 ⟨rfl,k,hk,hw4⟩;have H4:=ae hw4;clear hw4
  go_wp2_with fail
  go_ret;exact⟨by first|rfl|simp,k,hk,H4.out⟩
theorem aaL (L:List Rl) (v:Value) (w:World) (hR:iJ (fun k=>k<w.heap.size) w L v) (htab:cO w) (hl:L.length<=1000000) (hs: ∀r∈L,r.1.size<=100000/\r.2.size<=100000):Calls Tryz.prog 106 #[v,.func (.func 169) #[] #[]] w fun e w'=>e= .returned (.bool (L.any fun r=>!oL r))/\Ext w w':=
 (Xf (fun r=>!oL r) (fun _ W=>Ext w W) (fun _ _ _ h h2=>h.trans h2) L v (fun k=>k<w.heap.size) w (au.refl _ _) hl (fun k W h=>hR.ext h) (fun k hk xa xc ya yc W h hx hy=>(Xc (rg L k).1 (rg L k).2 xa ya xc yc W (hx.weaken (fun j hj=>ax hj h.size)) (hy.weaken (fun j hj=>ax hj h.size)) (aJ htab h) (hs _ (pX hk)).1 (hs _ (pX hk)).2).mono fun e W' ⟨h1,h2⟩=>⟨h1,h.trans h2⟩)).mono fun e w' ⟨h1,k,_,h2⟩=>⟨h1,h2⟩
def dA (l:List Rl):Bool:=decide (l.length<=100)&&!(l.any fun r=>!oL r)
theorem Es (L:List Rl) (v:Value) (w:World) (hR:iJ (fun k=>k<w.heap.size) w L v) (htab:cO w) (hl:L.length<=1000000) (hs: ∀r∈L,r.1.size<=100000/\r.2.size<=100000):Calls Tryz.prog 115 #[v] w fun e w'=>e= .returned (.bool (dA L))/\Ext w w':=by
 have HC:=ae (aaL L v w hR htab hl hs);obtain⟨a,c,rfl⟩:=hR.shape;unfold dA;obtain⟨Z,hZ⟩: ∃Z,(L.any fun r=>!oL r)=Z:=⟨_,rfl⟩
 rw[hZ] at HC⊢;clear hR htab hl hs hZ;by_cases h:L.length<=100
 .have y1:(L.length:Int)<=100:=by omega
  have y1':decide ((L.length:Int)<=100)=true:=dT y1;rw[dT h,Bool.true_and];clear h
  go_enter Tryz.func115,Tryz.ntmps115
  go_wp2_with fail
  refine HC.out.mono ?_;rintro e w4 ⟨rfl,hw4⟩;have H4:=ae hw4;clear hw4 HC
  go_wp2_with fail
  go_ret;exact⟨rfl,H4.out⟩
 .have y1: ¬(L.length:Int)<=100:=by omega
  have y1':decide ((L.length:Int)<=100)=false:=dF y1;rw[dF h,Bool.false_and];clear h HC
  go_enter Tryz.func115,Tryz.ntmps115
  go_wp2_with fail
  go_ret;exact⟨rfl,au.refl _ _⟩
def Et (l:List Rl) (t:Tm):Tm×(Nat×List Nat)×Int:=match oM l t with
 |none=>(a_,(0,[]),12)
 |some x=>if(jd t x.2.1 x.2.2).2=0 then((jd t x.2.1 x.2.2).1,(x.1,x.2.1),0) else(a_,(0,[]),(jd t x.2.1 x.2.2).2)
def o_ (n0:Nat) (F:Tm×(Nat×List Nat)×Int) (e:Ending) (w':World):Prop:= ∃r pv,e= .returned (.tuple #[tV F.1 r,.agg #[.int .i64 (F.2.1.1:Int),pv],.int .i64 F.2.2])/\ay (fun k=>n0<=k/\k<w'.heap.size) w' F.1.kids r/\aA (fun k=>n0<=k/\k<w'.heap.size) w' 1 pv F.2.1.2.length (F.2.1.2.map (fun i:Nat=>Value.int .i64 (i:Int)))
theorem o_.mk {n0:Nat} {F:Tm×(Nat×List Nat)×Int} {e:Ending} {w':World} (r pv:Value) (h1:e= .returned (.tuple #[tV F.1 r,.agg #[.int .i64 (F.2.1.1:Int),pv],.int .i64 F.2.2])) (h2:ay (fun k=>n0<=k/\k<w'.heap.size) w' F.1.kids r) (h3:aA (fun k=>n0<=k/\k<w'.heap.size) w' 1 pv F.2.1.2.length (F.2.1.2.map (fun i:Nat=>Value.int .i64 (i:Int)))):o_ n0 F e w':=⟨r,pv,h1,h2,h3⟩
theorem o_.zero {n0:Nat} {F:Tm×(Nat×List Nat)×Int} {e:Ending} {w':World} {c:Int} (hF:F=(a_,(0,[]),c)) (h:e= .returned (.tuple #[.agg #[.string ⟨#[]⟩,.string ⟨#[]⟩,.slice none 0 0],.agg #[.int .i64 0,.slice none 0 0],.int .i64 c])):o_ n0 F e w':=by
 subst hF;exact⟨_,_,h,ay.nil _ _,aA.nil _ _ _⟩
theorem abV (l:List Rl) (t:Tm) (lv v:Value) (w:World) (hL:iJ (fun k=>k<w.heap.size) w l lv) (hT:bG (fun k=>k<w.heap.size) w t v) (htab:cO w) (hll:l.length<=1000000) (hls: ∀r∈l,r.1.size<=100000/\r.2.size<=100000) (hsz:t.size<=100000) (hsn: ∃N,(∀r∈l,r.2.size<=N)/\N*t.size<=100000):
  Calls Tryz.prog 126 #[lv,v] w fun e w'=>o_ w.heap.size (Et l t) e w'/\Ext w w':=by
 have yY:=ae (fun W (hW:Ext w W)=>PW l hll (fun r hr=>⟨by have:=(hls r hr).1;omega,by have:=(hls r hr).2;omega⟩) t v lv (.slice none 0 0) (fun k=>k<w.heap.size) (fun k=>k<w.heap.size) (fun _=>False) [] W (hT.ext hW) (hL.ext hW) (aA.nil _ _ _) (fun k hk=>ax hk hW.size) (fun k hk=>ax hk hW.size) (by omega) (by simp;omega));have tX:=ae hT;obtain⟨a,cap,rfl,hT⟩:=hT;obtain⟨la,lc,rfl⟩:=hL.shape;have HAS:=ae htab;have bT:=ae (And.intro hsz hsn);have dB:=ae ((((uR w).alloc (tO t a cap)).alloc zO).alloc (.cells #[.int .i64 0,.slice none 0 0] 65));have HB0:=ae (ak (ak (aj w (tO t a cap)) zO) (.cells #[.int .i64 0,.slice none 0 0] 65));have HB1:=ae (ak (alloc_at (w.alloc (tO t a cap)) zO (n:=w.heap.size+1) (by simp)) (.cells #[.int .i64 0,.slice none 0 0] 65));have HB2:=ae (alloc_at ((w.alloc (tO t a cap)).alloc zO) (.cells #[.int .i64 0,.slice none 0 0] 65) (n:=w.heap.size+2) (by simp));have hz0:(((w.alloc (tO t a cap)).alloc zO).alloc (.cells #[.int .i64 0,.slice none 0 0] 65)).heap.size=w.heap.size+3:=by simp
 have HZ0:=ae hz0;obtain⟨c0,c1,c2⟩:=af HB0.out;dsimp only[tV] at yY⊢;obtain⟨F,hF⟩: ∃F,Et l t=F:=⟨_,rfl⟩
 have HF:=ae hF;rw[hF];clear hL hT htab hll hls hsz hz0 hF
 go_enter Tryz.func126,Tryz.ntmps126
 go_wp2_with fail
 refine(yY.out _ dB.out).mono ?_;rintro e w4 ⟨⟨⟨pa,pc⟩,ua,uc⟩,B,rfl,hfd,hbd,hw4⟩;obtain⟨o,ho⟩: ∃o,oM l t=o:=⟨_,rfl⟩
 have HO:=ae ho;rw[ho] at hfd⊢;clear ho c0 c1 c2 yY;dsimp only[A7];cases o with
 |none=>
  rw[show(fq none []).length=0 from rfl,show(ft none).name=⟨#[]⟩ from rfl,show(ft none).sort=⟨#[]⟩ from rfl,show(ft none).kids.length=0 from rfl,show((fi none:Nat):Int)=0 from rfl];have oN:=((uR w4).alloc (.cells #[.int .i64 0,.slice pa 0 pc] 65)).alloc (.cells #[.string ⟨#[]⟩,.string ⟨#[]⟩,.slice ua 0 uc] 24);have H5:=ae ((dB.out.trans hw4).trans oN);have vH:=ae ((hw4.trans oN).heap HB0.out (fun h=>h));have jM:=ae ((hw4.trans oN).heap HB1.out (fun h=>h));have jD:=ae ((hw4.trans oN).heap HB2.out (fun h=>h));have H7:=ae (ak (aj w4 (.cells #[.int .i64 0,.slice pa 0 pc] 65)) (.cells #[.string ⟨#[]⟩,.string ⟨#[]⟩,.slice ua 0 uc] 24));have H8:=ae (alloc_at (w4.alloc (.cells #[.int .i64 0,.slice pa 0 pc] 65)) (.cells #[.string ⟨#[]⟩,.string ⟨#[]⟩,.slice ua 0 uc] 24) (n:=w4.heap.size+1) (by simp));have eY:Hid (w.heap.size+3<=w4.heap.size):=ae (by rw[<-HZ0.out];exact hw4.size);have HQ:=ae oN;clear HB0 HB1 HB2;simp only[Option.isSome_none];have nR:Hid (F=(a_,(0,[]),12)):=ae (by rw[<-HF.out];unfold Et;rw[HO.out]);clear H7 H8 HF;obtain⟨d0,d1,d2⟩:=af jM.out;have fd:=fun i=>ai jM.out i;have gZ:=gz ((w4.alloc (.cells #[.int .i64 0,.slice pa 0 pc] 65)).alloc (.cells #[.string ⟨#[]⟩,.string ⟨#[]⟩,.slice ua 0 uc] 24)) (w.heap.size+1) (.string ⟨#[]⟩) (.string ⟨#[]⟩) (.slice none 0 0);have hb2:=gZ.heap jD.out (by omega);obtain⟨r0,r1⟩:=df hb2;have fr:=fun i=>ai hb2 i;clear gZ hb2
  go_wp2_with fail
  generalize ((w4.alloc (.cells #[.int .i64 0,.slice pa 0 pc] 65)).alloc (.cells #[.string ⟨#[]⟩,.string ⟨#[]⟩,.slice ua 0 uc] 24))=w5 at*;have hr1:=jY jM.out (.string ⟨#[]⟩) (.string ⟨#[]⟩) (.slice none 0 0);have hu1:=gz w5 (w.heap.size+1) (.string ⟨#[]⟩) (.string ⟨#[]⟩) (.slice none 0 0);have hb2:=hu1.heap jD.out (by omega);clear d0 d1 d2 fd r0 r1 fr;generalize ((w5.setCell ⟨w.heap.size+1,0,none⟩ (.string ⟨#[]⟩)).setCell ⟨w.heap.size+1,1,none⟩ (.string ⟨#[]⟩)).setCell ⟨w.heap.size+1,2,none⟩ (.slice none 0 0)=wB at*;have hr2:((wB.setCell ⟨w.heap.size+2,0,none⟩ (.int .i64 0)).setCell ⟨w.heap.size+2,1,none⟩ (.slice none 0 0)).heap[w.heap.size+2]?=some (.cells #[.int .i64 0,.slice none 0 0] 65 (0,0)):=by simpa using setBlock (setBlock hb2 0 (.int .i64 0)) 1 (.slice none 0 0)
  have hu2:au (fun j=>j=w.heap.size+2) wB ((wB.setCell ⟨w.heap.size+2,0,none⟩ (.int .i64 0)).setCell ⟨w.heap.size+2,1,none⟩ (.slice none 0 0)):=((au.refl (fun j=>j=w.heap.size+2) wB).setCell (p:=⟨w.heap.size+2,0,none⟩) (.inl rfl) _).setCell (p:=⟨w.heap.size+2,1,none⟩) (.inl rfl) _;have hr3:=hu2.heap hr1 (by omega);have hu:au (fun j=>j=w.heap.size+1\/j=w.heap.size+2) w5 _:=(hu1.mono (fun _ _ h=> .inl h)).trans (hu2.mono (fun _ _ h=> .inr h));obtain⟨e0,e1,e2⟩:=af hr3;obtain⟨e3,e4⟩:=df hr2;refine bodyPost_ret (v:= .tuple #[.agg #[.string ⟨#[]⟩,.string ⟨#[]⟩,.slice none 0 0],.agg #[.int .i64 0,.slice none 0 0],.int .i64 12]) (by simp[results,Tryz.results126,go_sem,e0,e1,e2,e3,e4]) rfl ?_;exact⟨o_.zero nR.out rfl,H5.out.trans' hu (fun j hj e=>by omega)⟩
 |some y=>
  obtain⟨i,p,u⟩:=y;have Lu:fq (some (i,p,u)) []=p:=by simp[fq]
  have hft:ft (some (i,p,u))=u:=rfl;have hfi:fi (some (i,p,u))=i:=rfl;rw[Lu,hft,hfi];obtain⟨iK,hpart⟩:=hfd;rw[Lu] at iK;rw[hft] at hpart;dsimp only at iK hpart;have oN:=((uR w4).alloc (.cells #[.int .i64 (i:Int),.slice pa p.length pc] 65)).alloc (tO u ua uc);have H5:=ae ((dB.out.trans hw4).trans oN);have vH:=ae ((hw4.trans oN).heap HB0.out (fun h=>h));have jM:=ae ((hw4.trans oN).heap HB1.out (fun h=>h));have jD:=ae ((hw4.trans oN).heap HB2.out (fun h=>h));have H7:=ae (ak (aj w4 (.cells #[.int .i64 (i:Int),.slice pa p.length pc] 65)) (tO u ua uc));have H8:=ae (alloc_at (w4.alloc (.cells #[.int .i64 (i:Int),.slice pa p.length pc] 65)) (tO u ua uc) (n:=w4.heap.size+1) (by simp));have eY:Hid (w.heap.size+3<=w4.heap.size):=ae (by rw[<-HZ0.out];exact hw4.size);have HQ:=ae oN;clear HB0 HB1 HB2;replace iK:=aA.kept iK oN (fun _ _ h=>h);replace hpart:=hpart.kept oN (fun _ _ h=>h);simp only[Option.isSome_some];have hpo:=IU l t i p u HO.out;obtain⟨hts,N,hN,hNt⟩:=bT.out;have IV:=LC (N:=N) HO.out hN;have hpl:=Eu p t hpo.1;have Ew:u.size<=100000:=Nat.le_trans IV hNt;have oO:=ae (fun W (hW:Ext ((w4.alloc (.cells #[.int .i64 (i:Int),.slice pa p.length pc] 65)).alloc (tO u ua uc)) W)=>Lh t u p (.agg #[.string t.name,.string t.sort,.slice a t.kids.length cap]) (.agg #[.string u.name,.string u.sort,.slice ua u.kids.length uc]) (.slice pa p.length pc) (fun k=>k<W.heap.size) B B W ((tX.out.ext (H5.out.trans hW)).weaken (fun k hk=>ax hk (H5.out.trans hW).size)) ⟨ua,uc,rfl,(hpart.kept hW (fun _ _ h=>h)).read⟩ (fun k hk=>hk) (fun k hk=>ax (hbd k hk).2 (Nat.le_trans HQ.out.size hW.size)) (aA.kept iK hW (fun _ _ h=>h)) hpo.1 (aJ HAS.out (H5.out.trans hW)) (by omega) Ew (by omega));have Ut:=ae (And.intro iK hbd);have nR:Hid (F=if(jd t p u).2=0 then((jd t p u).1,(i,p),0) else(a_,(0,[]),(jd t p u).2)):=ae (by rw[<-HF.out];unfold Et;rw[HO.out]);obtain⟨G,hG⟩: ∃G,jd t p u=G:=⟨_,rfl⟩
  have hG2:G.2=0\/G.2=4:=by
   rw[<-hG];unfold jd;split
   .exact .inl rfl
   .exact .inr rfl
  rw[hG] at oO nR;obtain⟨c0,c1,c2⟩:=af vH.out;obtain⟨m0,m1⟩:=df H7.out;obtain⟨n0,n1,n2⟩:=af H8.out;clear iK hpart hbd Lu hft hfi hpo IV Ew hpl hts hN hNt HF hG bT tX HAS hw4 oN
  go_wp2_with fail
  refine(oO.out _ (au.refl _ _)).mono ?_;rintro e w6 ⟨r,rfl,hTl,hw6⟩;obtain⟨z,c⟩:=G;dsimp only at hTl hG2 nR⊢;obtain⟨za,zc,hr⟩:=hTl.shape;subst hr;have hQ6:=(uR w6).alloc (tO z za zc);have H9:=ae ((H5.out.trans hw6).trans hQ6);have RP:=ae ((hw6.trans hQ6).heap jM.out (fun h=>h));have RQ:=ae ((hw6.trans hQ6).heap jD.out (fun h=>h));have Uu:=ae ((hw6.trans hQ6).heap H7.out (fun h=>h));have H69:=ae (aj w6 (tO z za zc));have abX:Hid (ay (fun k=>w.heap.size+3<=k/\k< (w6.alloc (tO z za zc)).heap.size) (w6.alloc (tO z za zc)) z.kids (.slice za z.kids.length zc)):=ae ((hTl.ext hQ6).weaken (fun k hk=>by
   have h1:=hQ6.size;have h2:=hw6.size;have h3:=HQ.out.size;have h4:=eY.out;rcases hk with hk|hk
   .omega
   .have h5:=Ut.out.2 k hk;have h6:=HZ0.out;omega))
  have Y9:=ae abX.out;clear abX;have uS:Hid (w.heap.size+3<=w6.heap.size):=ae (Nat.le_trans eY.out (Nat.le_trans HQ.out.size hw6.size));have RS:=ae (And.intro (aA.kept Ut.out.1 (hw6.trans hQ6) (fun _ _ h=>h)) (fun k hk=>And.intro (show w.heap.size+3<=k by have:=(Ut.out.2 k hk).1;have:=HZ0.out;omega) (ax (Ut.out.2 k hk).2 (Nat.le_trans HQ.out.size (hw6.trans hQ6).size))));have A8:=ae eY.out;clear hTl hQ6 hw6 oO c0 c1 c2 m0 m1 n0 n1 n2 H7 H8 vH jM jD HQ Ut eY;dsimp only[tV];obtain⟨n6,JB⟩: ∃n,w6.heap.size=n:=⟨_,rfl⟩
  rw[JB] at H69 uS;rcases hG2 with rfl|rfl
  .have JC:Hid (F=(z,(i,p),0)):=ae (by rw[nR.out,if_pos rfl]);obtain⟨k0,k1,k2⟩:=af H69.out;obtain⟨m0,m1⟩:=df Uu.out;have jM:=ae RP.out;have jD:=ae RQ.out;clear nR RP RQ;obtain⟨d0,d1,d2⟩:=af jM.out;have fd:=fun i=>ai jM.out i;have gZ:=gz (w6.alloc (tO z za zc)) (w.heap.size+1) (.string z.name) (.string z.sort) (.slice za z.kids.length zc);have hb2:=gZ.heap jD.out (by omega);obtain⟨r0,r1⟩:=df hb2;have fr:=fun i=>ai hb2 i;have m2:=gZ.cell m0 (by have:=A8.out;show ¬w4.heap.size=w.heap.size+1;omega);have m3:=gZ.cell m1 (by have:=A8.out;show ¬w4.heap.size=w.heap.size+1;omega);clear gZ hb2
   go_upto_region 7 with fail
   try rw[JB]
   clear JB;generalize w6.alloc (tO z za zc)=w8 at*
   go_region
   all_goals
    go_wp2_with fail
    have hr1:=jY jM.out (.string z.name) (.string z.sort) (.slice za z.kids.length zc);have hu1:=gz w8 (w.heap.size+1) (.string z.name) (.string z.sort) (.slice za z.kids.length zc);have hb2:=hu1.heap jD.out (by omega);clear d0 d1 d2 fd r0 r1 fr k0 k1 k2 m0 m1 m2 m3;generalize ((w8.setCell ⟨w.heap.size+1,0,none⟩ (.string z.name)).setCell ⟨w.heap.size+1,1,none⟩ (.string z.sort)).setCell ⟨w.heap.size+1,2,none⟩ (.slice za z.kids.length zc)=wB at*;have hr2:((wB.setCell ⟨w.heap.size+2,0,none⟩ (.int .i64 (i:Int))).setCell ⟨w.heap.size+2,1,none⟩ (.slice pa p.length pc)).heap[w.heap.size+2]?=some (.cells #[.int .i64 (i:Int),.slice pa p.length pc] 65 (0,0)):=by simpa using setBlock (setBlock hb2 0 (.int .i64 (i:Int))) 1 (.slice pa p.length pc)
    have hu2:au (fun j=>j=w.heap.size+2) wB ((wB.setCell ⟨w.heap.size+2,0,none⟩ (.int .i64 (i:Int))).setCell ⟨w.heap.size+2,1,none⟩ (.slice pa p.length pc)):=((au.refl (fun j=>j=w.heap.size+2) wB).setCell (p:=⟨w.heap.size+2,0,none⟩) (.inl rfl) _).setCell (p:=⟨w.heap.size+2,1,none⟩) (.inl rfl) _;have hr3:=hu2.heap hr1 (by omega);have hu:au (fun j=>j=w.heap.size+1\/j=w.heap.size+2) w8 _:=(hu1.mono (fun _ _ h=> .inl h)).trans (hu2.mono (fun _ _ h=> .inr h));replace hu:=hu.drew;obtain⟨e0,e1,e2⟩:=af hr3;obtain⟨e3,e4⟩:=df hr2;refine bodyPost_ret (v:= .tuple #[.agg #[.string z.name,.string z.sort,.slice za z.kids.length zc],.agg #[.int .i64 (i:Int),.slice pa p.length pc],.int .i64 0]) (by simp[results,Tryz.results126,go_sem,e0,e1,e2,e3,e4]) rfl ?_;exact⟨o_.mk (.slice za z.kids.length zc) (.slice pa p.length pc) (by rw[JC.out]) (by rw[JC.out];exact(Y9.out.kept hu (fun j hj e=>by have h1:=hj.1;omega)).weaken (fun k hk=>⟨by have h1:=hk.1;omega,ax hk.2 hu.size⟩)) (by rw[JC.out];exact aA.weaken (aA.kept RS.out.1 hu (fun j hj e=>by have h1:=(RS.out.2 j hj).1;omega)) (fun k hk=>⟨by have h1:=(RS.out.2 k hk).1;omega,ax (RS.out.2 k hk).2 hu.size⟩)),H9.out.trans' hu (fun j hj e=>by omega)⟩
  .have JC:Hid (F=(a_,(0,[]),4)):=ae (by rw[nR.out,if_neg (by decide)]);have jM:=ae RP.out;have jD:=ae RQ.out;clear nR RP RQ H69 Uu;obtain⟨d0,d1,d2⟩:=af jM.out;have fd:=fun i=>ai jM.out i;have gZ:=gz (w6.alloc (tO z za zc)) (w.heap.size+1) (.string ⟨#[]⟩) (.string ⟨#[]⟩) (.slice none 0 0);have hb2:=gZ.heap jD.out (by omega);obtain⟨r0,r1⟩:=df hb2;have fr:=fun i=>ai hb2 i;clear gZ hb2
   go_wp2_with fail
   clear JB;generalize w6.alloc (tO z za zc)=w8 at*;have hr1:=jY jM.out (.string ⟨#[]⟩) (.string ⟨#[]⟩) (.slice none 0 0);have hu1:=gz w8 (w.heap.size+1) (.string ⟨#[]⟩) (.string ⟨#[]⟩) (.slice none 0 0);have hb2:=hu1.heap jD.out (by omega);clear d0 d1 d2 fd r0 r1 fr;generalize ((w8.setCell ⟨w.heap.size+1,0,none⟩ (.string ⟨#[]⟩)).setCell ⟨w.heap.size+1,1,none⟩ (.string ⟨#[]⟩)).setCell ⟨w.heap.size+1,2,none⟩ (.slice none 0 0)=wB at*;have hr2:((wB.setCell ⟨w.heap.size+2,0,none⟩ (.int .i64 0)).setCell ⟨w.heap.size+2,1,none⟩ (.slice none 0 0)).heap[w.heap.size+2]?=some (.cells #[.int .i64 0,.slice none 0 0] 65 (0,0)):=by simpa using setBlock (setBlock hb2 0 (.int .i64 0)) 1 (.slice none 0 0)
   have hu2:au (fun j=>j=w.heap.size+2) wB ((wB.setCell ⟨w.heap.size+2,0,none⟩ (.int .i64 0)).setCell ⟨w.heap.size+2,1,none⟩ (.slice none 0 0)):=((au.refl (fun j=>j=w.heap.size+2) wB).setCell (p:=⟨w.heap.size+2,0,none⟩) (.inl rfl) _).setCell (p:=⟨w.heap.size+2,1,none⟩) (.inl rfl) _;have hr3:=hu2.heap hr1 (by omega);have hu:au (fun j=>j=w.heap.size+1\/j=w.heap.size+2) w8 _:=(hu1.mono (fun _ _ h=> .inl h)).trans (hu2.mono (fun _ _ h=> .inr h));obtain⟨e0,e1,e2⟩:=af hr3;obtain⟨e3,e4⟩:=df hr2;refine bodyPost_ret (v:= .tuple #[.agg #[.string ⟨#[]⟩,.string ⟨#[]⟩,.slice none 0 0],.agg #[.int .i64 0,.slice none 0 0],.int .i64 4]) (by simp[results,Tryz.results126,go_sem,e0,e1,e2,e3,e4]) rfl ?_;exact⟨o_.zero JC.out rfl,H9.out.trans' hu (fun j hj e=>by omega)⟩
def stepG (l:List Rl) (t:Tm):Tm×(Nat×List Nat)×Int:=if(dA l&&wf aB t)=true then Et l t else(a_,(0,[]),1)
theorem aaM (l:List Rl) (t:Tm) (lv v:Value) (w:World) (hL:iJ (fun k=>k<w.heap.size) w l lv) (hT:bG (fun k=>k<w.heap.size) w t v) (htab:cO w) (hll:l.length<=1000000) (hls: ∀r∈l,r.1.size<=100000/\r.2.size<=100000) (hsz:t.size<=100000) (hok:dA l=true/\wf aB t=true->∃N,(∀r∈l,r.2.size<=N)/\N*t.size<=100000):
  Calls Tryz.prog 53 #[lv,v] w fun e w'=>o_ w.heap.size (stepG l t) e w'/\Ext w w':=by
 have oh:=ae (fun W (hW:Ext w W)=>Es l lv W ((hL.ext hW).weaken (fun k hk=>ax hk hW.size)) (aJ htab hW) hll hls);have tY:=ae (fun W (hW:Ext w W)=>wK t v W (aJ htab hW) ((hT.ext hW).weaken (fun k hk=>ax hk hW.size)) (by omega));have HST:=ae (fun(h:dA l=true/\wf aB t=true) W (hW:Ext w W)=>abV l t lv v W ((hL.ext hW).weaken (fun k hk=>ax hk hW.size)) ((hT.ext hW).weaken (fun k hk=>ax hk hW.size)) (aJ htab hW) hll hls hsz (hok h));obtain⟨a,cap,rfl,hT⟩:=hT;obtain⟨la,lc,rfl⟩:=hL.shape;have dB:=ae ((((uR w).alloc (tO t a cap)).alloc zO).alloc (.cells #[.int .i64 0,.slice none 0 0] 65));have HB0:=ae (ak (ak (aj w (tO t a cap)) zO) (.cells #[.int .i64 0,.slice none 0 0] 65));have abY:=ae (ak (alloc_at (w.alloc (tO t a cap)) zO (n:=w.heap.size+1) (by simp)) (.cells #[.int .i64 0,.slice none 0 0] 65));have abZ:=ae (alloc_at ((w.alloc (tO t a cap)).alloc zO) (.cells #[.int .i64 0,.slice none 0 0] 65) (n:=w.heap.size+2) (by simp));have hz0:(((w.alloc (tO t a cap)).alloc zO).alloc (.cells #[.int .i64 0,.slice none 0 0] 65)).heap.size=w.heap.size+3:=by simp
 have HZ0:=ae hz0;dsimp only[tV] at tY HST⊢;obtain⟨A,hA⟩: ∃b,dA l=b:=⟨_,rfl⟩
 obtain⟨B,hB⟩: ∃b,wf aB t=b:=⟨_,rfl⟩
 obtain⟨F,hF⟩: ∃F,Et l t=F:=⟨_,rfl⟩
 have LD:Hid (stepG l t=if(A&&B)=true then F else(a_,(0,[]),1)):=ae (by unfold stepG;rw[hA,hB,hF]);rw[hA] at oh;rw[hB] at tY;rw[hF,hA,hB] at HST;obtain⟨G,hG⟩: ∃G,stepG l t=G:=⟨_,rfl⟩
 rw[hG] at LD⊢;clear hL hT htab hll hls hsz hok hz0 hA hB hF hG
 go_enter Tryz.func53,Tryz.ntmps53
 go_wp2_with fail
 refine(oh.out _ dB.out).mono ?_;rintro e w4 ⟨rfl,hw4⟩;have H4:=ae (dB.out.trans hw4);have HB4:=ae (hw4.heap HB0.out (fun h=>h));have RU:=ae (hw4.heap abY.out (fun h=>h));have RV:=ae (hw4.heap abZ.out (fun h=>h));have hs4:w.heap.size+3<=w4.heap.size:=by rw[<-HZ0.out];exact hw4.size
 have eY:=ae hs4;clear hw4 hs4 oh HB0 abY abZ;cases A
 .have nR:Hid (G=(a_,(0,[]),1)):=ae (by rw[LD.out];rfl);have jM:=ae RU.out;have jD:=ae RV.out;clear LD RU RV tY HST;obtain⟨d0,d1,d2⟩:=af jM.out;have fd:=fun i=>ai jM.out i;have gZ:=gz w4 (w.heap.size+1) (.string ⟨#[]⟩) (.string ⟨#[]⟩) (.slice none 0 0);have hb2:=gZ.heap jD.out (by omega);obtain⟨r0,r1⟩:=df hb2;have fr:=fun i=>ai hb2 i;clear gZ hb2
  go_wp2_with fail
  all_goals
   have HHH:=nR.out;have hr1:=jY jM.out (.string ⟨#[]⟩) (.string ⟨#[]⟩) (.slice none 0 0);have hu1:=gz w4 (w.heap.size+1) (.string ⟨#[]⟩) (.string ⟨#[]⟩) (.slice none 0 0);have hb2:=hu1.heap jD.out (by omega);clear d0 d1 d2 fd r0 r1 fr;generalize ((w4.setCell ⟨w.heap.size+1,0,none⟩ (.string ⟨#[]⟩)).setCell ⟨w.heap.size+1,1,none⟩ (.string ⟨#[]⟩)).setCell ⟨w.heap.size+1,2,none⟩ (.slice none 0 0)=wB at*;have hr2:((wB.setCell ⟨w.heap.size+2,0,none⟩ (.int .i64 0)).setCell ⟨w.heap.size+2,1,none⟩ (.slice none 0 0)).heap[w.heap.size+2]?=some (.cells #[.int .i64 0,.slice none 0 0] 65 (0,0)):=by simpa using setBlock (setBlock hb2 0 (.int .i64 0)) 1 (.slice none 0 0)
   have hu2:au (fun j=>j=w.heap.size+2) wB ((wB.setCell ⟨w.heap.size+2,0,none⟩ (.int .i64 0)).setCell ⟨w.heap.size+2,1,none⟩ (.slice none 0 0)):=((au.refl (fun j=>j=w.heap.size+2) wB).setCell (p:=⟨w.heap.size+2,0,none⟩) (.inl rfl) _).setCell (p:=⟨w.heap.size+2,1,none⟩) (.inl rfl) _;have hr3:=hu2.heap hr1 (by omega);have hu:au (fun j=>j=w.heap.size+1\/j=w.heap.size+2) w4 _:=(hu1.mono (fun _ _ h=> .inl h)).trans (hu2.mono (fun _ _ h=> .inr h));obtain⟨e0,e1,e2⟩:=af hr3;obtain⟨e3,e4⟩:=df hr2;refine bodyPost_ret (v:= .tuple #[.agg #[.string ⟨#[]⟩,.string ⟨#[]⟩,.slice none 0 0],.agg #[.int .i64 0,.slice none 0 0],.int .i64 1]) (by simp[results,Tryz.results53,go_sem,e0,e1,e2,e3,e4]) rfl ?_;exact⟨o_.zero HHH rfl,H4.out.trans' hu (fun j hj e=>by omega)⟩
 .obtain ⟨c0,c1,c2⟩:=af HB4.out
  go_wp2_with fail
  refine(tY.out _ H4.out).mono ?_;rintro e w5 ⟨rfl,hw5⟩;have H5:=ae (H4.out.trans hw5);have dW:=ae (hw5.heap HB4.out (fun h=>h));have jM:=ae (hw5.heap RU.out (fun h=>h));have jD:=ae (hw5.heap RV.out (fun h=>h));have oP:Hid (w.heap.size+3<=w5.heap.size):=ae (Nat.le_trans eY.out hw5.size);clear hw5 c0 c1 c2 tY RU RV HB4 eY;cases B
  .have nR:Hid (G=(a_,(0,[]),1)):=ae (by rw[LD.out];rfl);clear LD HST;obtain⟨d0,d1,d2⟩:=af jM.out;have fd:=fun i=>ai jM.out i;have gZ:=gz w5 (w.heap.size+1) (.string ⟨#[]⟩) (.string ⟨#[]⟩) (.slice none 0 0);have hb2:=gZ.heap jD.out (by omega);obtain⟨r0,r1⟩:=df hb2;have fr:=fun i=>ai hb2 i;clear gZ hb2
   go_wp2_with fail
   all_goals
    have HHH:=nR.out;have hr1:=jY jM.out (.string ⟨#[]⟩) (.string ⟨#[]⟩) (.slice none 0 0);have hu1:=gz w5 (w.heap.size+1) (.string ⟨#[]⟩) (.string ⟨#[]⟩) (.slice none 0 0);have hb2:=hu1.heap jD.out (by omega);clear d0 d1 d2 fd r0 r1 fr;generalize ((w5.setCell ⟨w.heap.size+1,0,none⟩ (.string ⟨#[]⟩)).setCell ⟨w.heap.size+1,1,none⟩ (.string ⟨#[]⟩)).setCell ⟨w.heap.size+1,2,none⟩ (.slice none 0 0)=wB at*;have hr2:((wB.setCell ⟨w.heap.size+2,0,none⟩ (.int .i64 0)).setCell ⟨w.heap.size+2,1,none⟩ (.slice none 0 0)).heap[w.heap.size+2]?=some (.cells #[.int .i64 0,.slice none 0 0] 65 (0,0)):=by simpa using setBlock (setBlock hb2 0 (.int .i64 0)) 1 (.slice none 0 0)
    have hu2:au (fun j=>j=w.heap.size+2) wB ((wB.setCell ⟨w.heap.size+2,0,none⟩ (.int .i64 0)).setCell ⟨w.heap.size+2,1,none⟩ (.slice none 0 0)):=((au.refl (fun j=>j=w.heap.size+2) wB).setCell (p:=⟨w.heap.size+2,0,none⟩) (.inl rfl) _).setCell (p:=⟨w.heap.size+2,1,none⟩) (.inl rfl) _;have hr3:=hu2.heap hr1 (by omega);have hu:au (fun j=>j=w.heap.size+1\/j=w.heap.size+2) w5 _:=(hu1.mono (fun _ _ h=> .inl h)).trans (hu2.mono (fun _ _ h=> .inr h));obtain⟨e0,e1,e2⟩:=af hr3;obtain⟨e3,e4⟩:=df hr2;refine bodyPost_ret (v:= .tuple #[.agg #[.string ⟨#[]⟩,.string ⟨#[]⟩,.slice none 0 0],.agg #[.int .i64 0,.slice none 0 0],.int .i64 1]) (by simp[results,Tryz.results53,go_sem,e0,e1,e2,e3,e4]) rfl ?_;exact⟨o_.zero HHH rfl,H5.out.trans' hu (fun j hj e=>by omega)⟩
  .have nR:Hid (G=F):=ae (by rw[LD.out];rfl);obtain⟨c0,c1,c2⟩:=af dW.out;clear LD
   go_wp2_with fail
   refine(HST.out (by simp) _ H5.out).mono ?_;rintro e w6 ⟨⟨r,pv,rfl,hTl,hPl⟩,hw6⟩;obtain⟨ra,rc,hr⟩:=hTl.shape;subst hr;obtain⟨pa,pc,hp⟩:=aA.shape hPl;subst hp;have H6:=ae (H5.out.trans hw6);have ab2:=ae (hw6.heap jM.out (fun h=>h));have ab3:=ae (hw6.heap jD.out (fun h=>h));have cZ:=ae (And.intro hTl hPl);have Y_:Hid (w.heap.size+3<=w5.heap.size):=ae oP.out;clear hTl hPl hw6 HST jM jD c0 c1 c2 dW;have jM:=ae ab2.out;have jD:=ae ab3.out;clear ab2 ab3;dsimp only[tV];obtain⟨d0,d1,d2⟩:=af jM.out;have fd:=fun i=>ai jM.out i;have gZ:=gz w6 (w.heap.size+1) (.string F.1.name) (.string F.1.sort) (.slice ra F.1.kids.length rc);have hb2:=gZ.heap jD.out (by omega);obtain⟨r0,r1⟩:=df hb2;have fr:=fun i=>ai hb2 i;clear gZ hb2
   go_wp2_with fail
   have hr1:=jY jM.out (.string F.1.name) (.string F.1.sort) (.slice ra F.1.kids.length rc);have hu1:=gz w6 (w.heap.size+1) (.string F.1.name) (.string F.1.sort) (.slice ra F.1.kids.length rc);have hb2:=hu1.heap jD.out (by omega);clear d0 d1 d2 fd r0 r1 fr;generalize ((w6.setCell ⟨w.heap.size+1,0,none⟩ (.string F.1.name)).setCell ⟨w.heap.size+1,1,none⟩ (.string F.1.sort)).setCell ⟨w.heap.size+1,2,none⟩ (.slice ra F.1.kids.length rc)=wB at*;have hr2:((wB.setCell ⟨w.heap.size+2,0,none⟩ (.int .i64 (F.2.1.1:Int))).setCell ⟨w.heap.size+2,1,none⟩ (.slice pa F.2.1.2.length pc)).heap[w.heap.size+2]?=some (.cells #[.int .i64 (F.2.1.1:Int),.slice pa F.2.1.2.length pc] 65 (0,0)):=by simpa using setBlock (setBlock hb2 0 (.int .i64 (F.2.1.1:Int))) 1 (.slice pa F.2.1.2.length pc)
   have hu2:au (fun j=>j=w.heap.size+2) wB ((wB.setCell ⟨w.heap.size+2,0,none⟩ (.int .i64 (F.2.1.1:Int))).setCell ⟨w.heap.size+2,1,none⟩ (.slice pa F.2.1.2.length pc)):=((au.refl (fun j=>j=w.heap.size+2) wB).setCell (p:=⟨w.heap.size+2,0,none⟩) (.inl rfl) _).setCell (p:=⟨w.heap.size+2,1,none⟩) (.inl rfl) _;have hr3:=hu2.heap hr1 (by omega);have hu:au (fun j=>j=w.heap.size+1\/j=w.heap.size+2) w6 _:=(hu1.mono (fun _ _ h=> .inl h)).trans (hu2.mono (fun _ _ h=> .inr h));obtain⟨e0,e1,e2⟩:=af hr3;obtain⟨e3,e4⟩:=df hr2;refine bodyPost_ret (v:= .tuple #[.agg #[.string F.1.name,.string F.1.sort,.slice ra F.1.kids.length rc],.agg #[.int .i64 (F.2.1.1:Int),.slice pa F.2.1.2.length pc],.int .i64 F.2.2]) (by simp[results,Tryz.results53,go_sem,e0,e1,e2,e3,e4]) rfl ?_;rw[nR.out];exact⟨o_.mk (.slice ra F.1.kids.length rc) (.slice pa F.2.1.2.length pc) rfl ((cZ.out.1.kept hu (fun j hj e=>by have h1:=hj.1;have h2:=Y_.out;omega)).weaken (fun k hk=>⟨by have h1:=hk.1;have h2:=Y_.out;omega,ax hk.2 hu.size⟩)) (aA.weaken (aA.kept cZ.out.2 hu (fun j hj e=>by have h1:=hj.1;have h2:=Y_.out;omega)) (fun k hk=>⟨by have h1:=hk.1;have h2:=Y_.out;omega,ax hk.2 hu.size⟩)),H6.out.trans' hu (fun j hj e=>by omega)⟩
theorem ab4 (l:List Rl) (t:Tm) (lv v:Value) (w:World) (hL:iJ (fun k=>k<w.heap.size) w l lv) (hT:bG (fun k=>k<w.heap.size) w t v) (htab:cO w) (hll:l.length<=1000000) (hls: ∀r∈l,r.1.size<=300/\r.2.size<=300) (hsz:t.size<=300):
  Calls Tryz.prog 53 #[lv,v] w fun e w'=>o_ w.heap.size (stepG l t) e w'/\Ext w w':=
 aaM l t lv v w hL hT htab hll (fun r hr=>⟨by have:=(hls r hr).1;omega,by have:=(hls r hr).2;omega⟩) (by omega) (fun _=>⟨300,fun r hr=>(hls r hr).2,by omega⟩)
section
open Go.Sort Go.Proofs Go.ChangeMaps
def QX (x y:Tm):Bool:=(aO x).all fun f=>kH f (aO y)
theorem abf (x y:Tm) (vx vy:Value) (S T:Nat->Prop) (w:World) (hX:bG S w x vx) (hY:bG T w y vy) (hwx:wf aB x=true) (hwy:wf aB y=true):
  Calls Tryz.prog 168 #[vx,vy] w fun e w'=>e= .returned (.bool (QX x y))/\Ext w w':=by
 have jg:=ae (fun W (hW:Ext w W)=>Ob x vx S W (hX.ext hW) hwx);have Gu:=ae (fun W (hW:Ext w W)=>Ob y vy T W (hY.ext hW) hwy);obtain⟨Z,hZ⟩: ∃Z,QX x y=Z:=⟨_,rfl⟩
 rw[hZ];have hkz:Z=(aO x).all fun f=>kH f (aO y):=hZ.symm;have hlx:=Nat.le_trans (mY hwx) (nT hwx);have hly:=Nat.le_trans (mY hwy) (nT hwy);obtain⟨xa,xc,rfl,hTX⟩:=hX;obtain⟨ya,yc,rfl,hTY⟩:=hY;obtain⟨LX,hLX⟩: ∃L,aO x=L:=⟨_,rfl⟩
 obtain⟨LY,hLY⟩: ∃L,aO y=L:=⟨_,rfl⟩
 rw[hLX] at jg hkz hlx;rw[hLY] at Gu hkz hly;have HKZ:=ae hkz;have HZ:=ae (((uR w).alloc (tO x xa xc)).alloc (tO y ya yc));have H2:=ae (ak (aj w (tO x xa xc)) (tO y ya yc));have H3:=ae (alloc_at (w.alloc (tO x xa xc)) (tO y ya yc) (n:=w.heap.size+1) (by simp));obtain⟨p0,p1,p2⟩:=af H2.out;dsimp only[tV] at jg Gu⊢;clear hTX hTY hwx hwy hZ hkz hLX hLY
 go_enter Tryz.func168,Tryz.ntmps168
 go_wp2_with fail
 generalize ((w.alloc (tO x xa xc)).alloc (tO y ya yc))=wa at*;refine(jg.out _ HZ.out).mono ?_;rintro e w3 ⟨r1,rfl,hr1,hw3⟩;have aT:=ae (HZ.out.trans hw3);have uh:=ae (hw3.heap H3.out (fun h=>h));have mQ:=ae hr1;obtain⟨a1,c1,hp1⟩:=b_.shape hr1;subst hp1;clear hw3 jg p0 p1 p2 H2 H3 hr1 HZ;obtain⟨p0,p1,p2⟩:=af uh.out
 go_wp2_with fail
 refine(Gu.out _ aT.out).mono ?_;rintro e w4 ⟨r2,rfl,hr2,hw4⟩;have bD:=ae (aT.out.trans hw4);have HF2:=ae hr2;have ajI:=ae (b_.ext mQ.out hw4);obtain⟨a2,c2,hp2⟩:=b_.shape hr2;subst hp2;clear hw4 Gu p0 p1 p2 uh hr2 aT mQ
 go_wp2_with fail
 go_loopg [7] LX.length (fun gk iv wr=> ∃k:Nat,iv= .int .i64 (k:Int)/\gk=LX.length-k/\k<=LX.length/\Hid (Ext w4 wr)/\Hid (∀j,j<k->kH (vg LX j) LY=true))
 case atStart=>exact⟨0,rfl,rfl,Nat.zero_le _,ae (au.refl _ _),ae (fun j hj=>absurd hj (Nat.not_lt_zero _))⟩
 case round=>
  obtain⟨k,rfl,rfl,hk,HE,HM⟩:=hrel;by_cases hlt:k<LX.length
  .obtain ⟨g,off,hga,hat⟩:=(b_.ext ajI.out HE.out).at_ (by omega);obtain⟨q0,q1⟩:=hat k hlt;obtain⟨z0,z1,z2,z2'⟩:=bJ hlt;have hmk:=wP hlt;have hnx:kH (vg LX k) LY=true->∀j,j<k+1->kH (vg LX j) LY=true:=fun h j hj=>by
    rcases Nat.lt_succ_iff_lt_or_eq.1 hj with h5|h5
    .exact HM.out j h5
    .rw [h5];exact h
   have hno:kH (vg LX k) LY=false->Z=false:=fun h=>by
    rw[HKZ.out,List.all_eq_false];exact⟨_,hmk,by rw[h];simp⟩
   obtain⟨f,hf⟩: ∃f,vg LX k=f:=⟨_,rfl⟩
   rw[hf] at q0 q1 hnx hno;have pz:=ae hnx;have oI:=ae hno;have HR4:Hid (b_ (fun k=>False\/w3.heap.size<=k) w4 (.slice a2 LY.length c2) LY):=HF2;subst hga;have HQ:=ae (And.intro q0 q1);obtain⟨wz,hwz⟩: ∃wz,wz=wr:=⟨_,rfl⟩
   subst hwz;have dB:=HE;clear hat hf hmk hnx hno HE q0 q1
   go_wp2_with fail
   go_loopg [8,9] LY.length (fun gk fv iv wr=> ∃(m:Nat) (fb:Bool),fv= .bool fb/\iv= .int .i64 (m:Int)/\gk=LY.length-m/\m<=LY.length/\Hid (Ext wz wr)/\Hid (fb=kH f (LY.take m)))
   case atStart=>exact⟨0,false,rfl,rfl,rfl,Nat.zero_le _,ae (au.refl _ _),ae rfl⟩
   case round=>
    obtain⟨m,fb,rfl,rfl,rfl,hm,HE,HFB⟩:=hrel;by_cases hlm:m<LY.length
    .obtain ⟨g2,nX,zU,wY⟩:=(b_.ext (b_.ext HF2.out dB.out) HE.out).at_ (by omega);subst zU;obtain⟨r0,r1⟩:=wY m hlm;have q0:=HE.out.cell HQ.out.1 (fun h=>h);have q1:=HE.out.cell HQ.out.2 (fun h=>h);have y0:(0:Int)<=(m:Int):=by omega
     have y1:(m:Int)< (LY.length:Int):=by omega
     have y2:decide ((m:Int)< (LY.length:Int))=true:=dT y1;have y2':decide (m<LY.length)=true:=dT hlm;have ZT:kH f (LY.take (m+1))=(kH f (LY.take m)||decide (vg LY m=f)):=by
      unfold kH;rw[Ez LY m hlm,List.any_append];simp
     have heq:=fun W=>eqV (vg LY m).1 (vg LY m).2 f.1 f.2 W;have h3:decide (((vg LY m).1,(vg LY m).2)=(f.1,f.2))=decide (vg LY m=f):=rfl;rw[h3] at heq;obtain⟨u,hu⟩: ∃u,vg LY m=u:=⟨_,rfl⟩
     rw[hu] at r0 r1 ZT heq;obtain⟨eb,heb⟩: ∃b,decide (u=f)=b:=⟨_,rfl⟩
     rw[heb] at heq ZT;have Bf:=ae ZT;clear wY ZT h3 hu heb;cases eb with
     |true=>
      have X5:Hid (true=kH f (LY.take (m+1))):=ae (by rw[Bf.out];simp)
      go_wp2_with fail
      go_quiet (fail)
      go_wp2_with fail
      go_roundg (LY.length- (m+1))
      case measure=>omega
      case rel=>exact⟨m+1,true,rfl,by go_num,rfl,by omega,ae (HE.out.drewN' _),X5⟩
     |false=>
      have X5:Hid (fb=kH f (LY.take (m+1))):=ae (by rw[Bf.out,<-HFB.out];simp)
      go_wp2_with fail
      go_quiet (fail)
      go_wp2_with fail
      go_roundg (LY.length- (m+1))
      case measure=>omega
      case rel=>exact⟨m+1,fb,rfl,by go_num,rfl,by omega,ae (HE.out.drewN' _),X5⟩
    .obtain rfl:m=LY.length:=by omega
     have y2:decide ((LY.length:Int)< (LY.length:Int))=false:=dF (by omega);have hfb:=HFB.out;rw[List.take_length] at hfb;have di:=ae (dB.out.trans HE.out);cases fb with
     |true=>
      have ajJ:=ae (pz.out hfb.symm);clear hfb
      go_wp2_with fail
      go_roundg (LX.length- (k+1))
      case measure=>omega
      case rel=>exact⟨k+1,by go_num,rfl,by omega,di,ajJ⟩
     |false=>
      obtain rfl:Z=false:=oI.out hfb.symm;clear hfb
      go_wp2_with fail
      go_ret;exact⟨rfl,bD.out.trans di.out⟩
  .obtain rfl:k=LX.length:=by omega
   have z2:decide ((LX.length:Int)< (LX.length:Int))=false:=dF (by omega);obtain rfl:Z=true:=by
    rw[HKZ.out,List.all_eq_true];intro f hf;obtain⟨j,hj,e⟩:=List.getElem_of_mem hf;have:=HM.out j hj;unfold vg at this;rw[List.getD_eq_getElem?_getD,List.getElem?_eq_getElem hj] at this;rw[<-e];exact this
   go_wp2_with fail
   go_ret;exact⟨rfl,(bD.out.trans HE.out)⟩
theorem VK (r:Rl):oL r=(wf aB r.1&&wf aB r.2&&decide (r.1.sort=ah)&&QX r.2 r.1):=by
 unfold oL QX;cases h1:wf aB r.1 with
 |false=>rfl
 |true=>
  cases h2:wf aB r.2 with
  |false=>rfl
  |true=>
   rw[o6 h1,o6 h2]
   congr 1
   first|exact(List.all_eq_not_any_not ..).symm|simp[List.all_eq_not_any_not]
theorem Ol {L:List Rl} {k:Nat} (hk:k<L.length) (h:oL (rg L k)=false):dA L=false:=by
 unfold dA;have:(L.any fun r=>!oL r)=true:=List.any_eq_true.2 ⟨_,pX hk,by rw[h];rfl⟩;rw[this];simp
theorem VM {L:List Rl} (hl:L.length<=100) (h: ∀j,j<L.length->oL (rg L j)=true):dA L=true:=by
 unfold dA;have:(L.any fun r=>!oL r)=false:=by
  rw[List.any_eq_false];intro r hr;obtain⟨j,hj,e⟩:=List.getElem_of_mem hr;have:=h j hj;unfold Go.Hw.rg at this;rw[List.getD_eq_getElem?_getD,List.getElem?_eq_getElem hj] at this;rw[<-e];simpa using this
 rw[this,dT hl];rfl
theorem Ti (L:List Rl) (v:Value) (S:Nat->Prop) (w:World) (hL:iJ S w L v) (hl:L.length<=1000000):Calls Tryz.prog 110 #[v] w fun e w'=>e= .returned (.bool (dA L))/\Ext w w':=by
 have HL:=ae hL;obtain⟨a,cap,rfl⟩:=hL.shape;obtain⟨V,hV⟩: ∃V,dA L=V:=⟨_,rfl⟩
 have HVV:=ae hV.symm;rw[hV];clear hL hV;by_cases hb:100<L.length
 .have HV:Hid (V=false):=ae (by rw[HVV.out];unfold dA;rw[dF (by omega)];rfl);have z1:(100:Int)< (L.length:Int):=by omega
  have z1':decide ((100:Int)< (L.length:Int))=true:=dT z1;have H8:Hid (Ext w w):=ae (au.refl _ _);clear hb
  go_enter Tryz.func110,Tryz.ntmps110
  go_wp2_with fail
  all_goals go_ret
  all_goals (rw[HV.out];exact⟨rfl,H8.out⟩)
 have z1: ¬(100:Int)< (L.length:Int):=by omega
 have z1':decide ((100:Int)< (L.length:Int))=false:=dF z1
 go_enter Tryz.func110,Tryz.ntmps110
 go_wp2_with fail
 clear z1 z1'
 go_loopg [3] L.length (fun gk iv wr=> ∃k:Nat,iv= .int .i64 (k:Int)/\gk=L.length-k/\k<=L.length/\Hid (∀j,j<k->oL (rg L j)=true)/\Hid (Ext w wr))
 case atStart=>exact⟨0,rfl,rfl,Nat.zero_le _,ae (fun j h=>absurd h (Nat.not_lt_zero _)),ae (au.refl _ _)⟩
 case round=>
  obtain⟨k,rfl,rfl,hk,HC,HE⟩:=hrel;by_cases hlt:k<L.length
  .obtain ⟨g,off,hga,_,hat⟩:=(HL.out.ext HE.out).at_ (by omega);subst hga;obtain⟨xa,xc,ya,yc,p0,p1,p2,p3,p4,p5,hk1,hk2⟩:=hat k hlt;obtain⟨z0,z1,z2,z2'⟩:=bJ hlt;have hno:oL (rg L k)=false->V=false:=fun h=>by rw[HVV.out];exact Ol hlt h
   have hyes:oL (rg L k)=true->∀j,j<k+1->oL (rg L j)=true:=fun h j hj=>by
    rcases Nat.lt_succ_iff_lt_or_eq.1 hj with h5|h5
    .exact HC.out j h5
    .rw [h5];exact h
   have oI:=ae hno;have yJ:=ae hyes;have hok:=VK (rg L k);obtain⟨⟨x,y⟩,hxy⟩: ∃r,rg L k=r:=⟨_,rfl⟩
   rw[hxy] at p0 p1 p2 p3 p4 p5 hk1 hk2 hok oI yJ;simp only at p0 p1 p2 p3 p4 p5 hk1 hk2 hok;have nY:=ae hok;have mQ:=ae (fun W (hW:Ext wr W)=>B_ x (tV x (.slice xa x.kids.length xc)) S W ⟨xa,xc,rfl,hk1.ext hW⟩);have HF2:=ae (fun W (hW:Ext wr W)=>B_ y (tV y (.slice ya y.kids.length yc)) S W ⟨ya,yc,rfl,hk2.ext hW⟩);have Om:=ae (fun(h1:wf aB x=true) (h2:wf aB y=true) W (hW:Ext wr W)=>abf y x (tV y (.slice ya y.kids.length yc)) (tV x (.slice xa x.kids.length xc)) S S W ⟨ya,yc,rfl,hk2.ext hW⟩ ⟨xa,xc,rfl,hk1.ext hW⟩ h2 h1);dsimp only[tV] at mQ HF2 Om;have IZ:=uR wr;have L8:=fun x:XW wr=>x.ext.cell p0 (fun h=>h);have L9:=fun x:XW wr=>x.ext.cell p1 (fun h=>h);have L_:=fun x:XW wr=>x.ext.cell p2 (fun h=>h);have xp3:=fun x:XW wr=>x.ext.cell p3 (fun h=>h);have xp4:=fun x:XW wr=>x.ext.cell p4 (fun h=>h);have xp5:=fun x:XW wr=>x.ext.cell p5 (fun h=>h);have s0:=kF x.sort;clear hat hno hyes hok hxy hk1 hk2 p0 p1 p2 p3 p4 p5;obtain⟨n1,hn1⟩: ∃b,wf aB x=b:=⟨_,rfl⟩
   obtain⟨n2,hn2⟩: ∃b,wf aB y=b:=⟨_,rfl⟩
   obtain⟨d0,hd0⟩: ∃b,decide (x.sort=ah)=b:=⟨_,rfl⟩
   rw[hn1] at mQ Om nY;rw[hn2] at HF2 Om nY;rw[hd0] at s0 nY;clear hn1 hn2 hd0;cases n1
   .have QY:=ae True.intro;have HV:=ae (oI.out (by rw[nY.out];simp))
    go_wp2_with fail
    refine dC wr (by assumption) (by kernel_rfl) (by kernel_rfl) ?_
    repeat (first|go_big_quiet_skip|(go_big_quiet_want;go_big_quiet_op;first|go_big_quiet_on|(apply Exists.intro;refine⟨fun x=>?_,?_⟩;(first|(go_at_call 24;with_reducible exact XW.call (mQ.out x.val x.ext))|(go_at_call 24;with_reducible exact XW.call (HF2.out x.val x.ext)));go_big_quiet_on)))
    refine wpQuiet_nil ?_;rintro w8 ⟨⟨_,gB⟩,rfl⟩
    try dsimp only
    have H8:=ae (HE.out.trans gB)
    go_wp2_with fail
    all_goals go_ret
    all_goals (rw[HV.out];exact⟨rfl,H8.out⟩)
   cases n2
   .have QY:=ae True.intro;have HV:=ae (oI.out (by rw[nY.out];simp))
    go_wp2_with fail
    refine dC wr (by assumption) (by kernel_rfl) (by kernel_rfl) ?_
    repeat (first|go_big_quiet_skip|(go_big_quiet_want;go_big_quiet_op;first|go_big_quiet_on|(apply Exists.intro;refine⟨fun x=>?_,?_⟩;(first|(go_at_call 24;with_reducible exact XW.call (mQ.out x.val x.ext))|(go_at_call 24;with_reducible exact XW.call (HF2.out x.val x.ext)));go_big_quiet_on)))
    refine wpQuiet_nil ?_;rintro w8 ⟨⟨_,gB⟩,rfl⟩
    try dsimp only
    have H8:=ae (HE.out.trans gB)
    go_wp2_with fail
    all_goals go_ret
    all_goals (rw[HV.out];exact⟨rfl,H8.out⟩)
   cases d0
   .have QY:=ae True.intro;have HV:=ae (oI.out (by rw[nY.out];simp))
    go_wp2_with fail
    refine dC wr (by assumption) (by kernel_rfl) (by kernel_rfl) ?_
    repeat (first|go_big_quiet_skip|(go_big_quiet_want;go_big_quiet_op;first|go_big_quiet_on|(apply Exists.intro;refine⟨fun x=>?_,?_⟩;(first|(go_at_call 24;with_reducible exact XW.call (mQ.out x.val x.ext))|(go_at_call 24;with_reducible exact XW.call (HF2.out x.val x.ext)));go_big_quiet_on)))
    refine wpQuiet_nil ?_;rintro w8 ⟨⟨_,gB⟩,rfl⟩
    try dsimp only
    have H8:=ae (HE.out.trans gB)
    go_wp2_with fail
    all_goals go_ret
    all_goals (rw[HV.out];exact⟨rfl,H8.out⟩)
   have QY:=ae (Om.out (by simp) (by simp));obtain⟨kn,hkn⟩: ∃b,QX y x=b:=⟨_,rfl⟩
   rw[hkn] at QY nY;clear Om hkn;cases kn
   .have HV:=ae (oI.out (by rw[nY.out];simp))
    go_wp2_with fail
    refine dC wr (by assumption) (by kernel_rfl) (by kernel_rfl) ?_
    repeat (first|go_big_quiet_skip|(go_big_quiet_want;go_big_quiet_op;first|go_big_quiet_on|(apply Exists.intro;refine⟨fun x=>?_,?_⟩;(first|(go_at_call 24;with_reducible exact XW.call (mQ.out x.val x.ext))|(go_at_call 24;with_reducible exact XW.call (HF2.out x.val x.ext))|(go_at_call 168;exact XW.call (QY.out x.val x.ext)));go_big_quiet_on)))
    refine wpQuiet_nil ?_;rintro w8 ⟨⟨_,gB⟩,rfl⟩
    try dsimp only
    have H8:=ae (HE.out.trans gB)
    go_wp2_with fail
    all_goals go_ret
    all_goals (rw[HV.out];exact⟨rfl,H8.out⟩)
   have pz:=ae (yJ.out (by rw[nY.out];simp))
   go_wp2_with fail
   refine dC wr (by assumption) (by kernel_rfl) (by kernel_rfl) ?_
   repeat (first|go_big_quiet_skip|(go_big_quiet_want;go_big_quiet_op;first|go_big_quiet_on|(apply Exists.intro;refine⟨fun x=>?_,?_⟩;(first|(go_at_call 24;with_reducible exact XW.call (mQ.out x.val x.ext))|(go_at_call 24;with_reducible exact XW.call (HF2.out x.val x.ext))|(go_at_call 168;exact XW.call (QY.out x.val x.ext)));go_big_quiet_on)))
   refine wpQuiet_nil ?_;rintro w8 ⟨⟨_,gB⟩,rfl⟩
   try dsimp only
   have H8:=ae (HE.out.trans gB)
   go_wp2_with fail
   go_roundg (L.length- (k+1))
   case measure=>omega
   case rel=>exact⟨k+1,by go_num,rfl,by omega,pz,H8⟩
  .obtain rfl:k=L.length:=by omega
   have z2:decide ((L.length:Int)< (L.length:Int))=false:=dF (by omega);have HV:Hid (V=true):=ae (by rw[HVV.out];exact VM (by omega) HC.out);have H8:=HE
   go_wp2_with fail
   all_goals go_ret
   all_goals (rw[HV.out];exact⟨rfl,H8.out⟩)
def mG (l:List Rl) (fuel:Int) (L:List Tm):Int:=if(!dA l||L.any fun t=>!wf aB t)=true then 1 else if fuel<0\/2000<fuel then 2 else 0
theorem abg (t:Tm) (u:Value) (w:World) (htab:cO w) (hT:bG (fun k=>k<w.heap.size) w t (tV t u)) (hs:(t.size:Int)<=1000000000000):Calls Tryz.prog 212 #[tV t u] w fun e w'=>e= .returned (.bool !(wf aB t))/\Ext w w':=by
 have hE:=(uR w).alloc (.cells #[.string t.name,.string t.sort,u] 24);have HF:=ae (fun W (hW:Ext w W)=>wK t (tV t u) W (aJ htab hW) ((hT.ext hW).weaken (fun k hk=>ax hk hW.size)) hs);obtain⟨a,cap,hu,hTL⟩:=hT;obtain rfl:u= .slice a t.kids.length cap:=by simpa[tV] using hu
 have HE:=ae hE;have hb:=aj w (tO t a cap);obtain⟨x0,x1,x2⟩:=af hb;dsimp only[tV] at HF⊢;obtain⟨b,hb2⟩: ∃b,wf aB t=b:=⟨_,rfl⟩
 rw[hb2] at HF⊢;clear hE hb hb2 hTL hu
 go_enter Tryz.func212,Tryz.ntmps212
 go_wp2_with fail
 refine(HF.out _ HE.out).mono ?_;rintro e w4 ⟨rfl,hw4⟩;have H4:=ae (HE.out.trans hw4);clear hw4 HF x0 x1 x2
 go_wp2_with fail
 go_ret;exact⟨rfl,H4.out⟩
theorem abh (t:Tm) (u:Value) (w:World) (S:Nat->Prop) (hT:bG S w t (tV t u)):Calls Tryz.prog 111 #[tV t u] w fun e w'=>e= .returned (.bool !(wf aB t))/\Ext w w':=by
 have hE:=(uR w).alloc (.cells #[.string t.name,.string t.sort,u] 24);have HF:=ae (fun W (hW:Ext w W)=>B_ t (tV t u) S W (hT.ext hW));obtain⟨a,cap,hu,hTL⟩:=hT;obtain rfl:u= .slice a t.kids.length cap:=by simpa[tV] using hu
 have HE:=ae hE;have hb:=aj w (tO t a cap);obtain⟨x0,x1,x2⟩:=af hb;dsimp only[tV] at HF⊢;obtain⟨b,hb2⟩: ∃b,wf aB t=b:=⟨_,rfl⟩
 rw[hb2] at HF⊢;clear hE hb hb2 hTL hu
 go_enter Tryz.func111,Tryz.ntmps111
 go_wp2_with fail
 refine(HF.out _ HE.out).mono ?_;rintro e w4 ⟨rfl,hw4⟩;have H4:=ae (HE.out.trans hw4);clear hw4 HF x0 x1 x2
 go_wp2_with fail
 go_ret;exact⟨rfl,H4.out⟩
theorem VN (p:Tm->Bool) (L:List Tm) (v:Value) (S:Nat->Prop) (w:World) (hR:ay S w L v) (hl:L.length<=1000000)
  (hf: ∀t∈L,∀u W,Ext w W->bG S W t (tV t u)->Calls Tryz.prog 212 #[tV t u] W fun e W'=>e= .returned (.bool (p t))/\Ext W W'):
  Calls Tryz.prog 132 #[v,.func (.func 212) #[] #[]] w fun e w'=> ∃r:Int,e= .returned (.int .i64 r)/\decide (0<=r)=L.any p/\Ext w w':=by
 obtain⟨a,cap,rfl⟩:=hR.shape;have HR:=ae hR;have HF:=ae hf;clear hR hf
 go_enter Tryz.func132,Tryz.ntmps132
 go_wp2_with fail
 go_loopg [8] L.length (fun gk iv wr=> ∃k:Nat,iv= .int .i64 (k:Int)/\gk=L.length-k/\k<=L.length/\Hid (Ext w wr)/\Hid ((L.take k).any p=false))
 case atStart=>exact⟨0,rfl,rfl,Nat.zero_le _,ae (au.refl _ _),ae rfl⟩
 case round=>
  obtain⟨k,rfl,rfl,hk,HE,HM⟩:=hrel;by_cases hlt:k<L.length
  .obtain ⟨g,off,hga,_,hat⟩:=(HR.out.ext HE.out).at_ (by omega);subst hga;obtain⟨xa,xc,q0,q1,q2,aQ⟩:=hat k hlt;rw[<-Nat.add_assoc] at q1 q2;obtain⟨z0,z1,z2,z2'⟩:=bJ hlt;have hmem:=Tj hlt;have eu:=ae (HF.out _ hmem _ wr HE.out ⟨xa,xc,rfl,aQ⟩);have HN:Hid (p (tg L k)=false->(L.take (k+1)).any p=false):=ae (fun h=>by
    rw[wJ L k hlt,List.any_append,HM.out,List.any_cons,List.any_nil,h];rfl)
   have HY:Hid (p (tg L k)=true->L.any p=true):=ae (fun h=>List.any_eq_true.2 ⟨_,hmem,h⟩);obtain⟨x,hx⟩: ∃x,tg L k=x:=⟨_,rfl⟩
   rw[hx] at q0 q1 q2 eu HN HY;dsimp only[tV] at eu;obtain⟨b,hb⟩: ∃b,p x=b:=⟨_,rfl⟩
   rw[hb] at eu HN HY;clear hat hmem hx hb HM aQ
   go_wp2_with fail
   refine eu.out.mono ?_;rintro e w4 ⟨rfl,hw4⟩;have H4:=ae (HE.out.trans hw4);clear hw4 q0 q1 q2 eu HE;cases b
   .have jh:=ae (HN.out rfl);clear HN HY
    go_wp2_with fail
    go_roundg (L.length- (k+1))
    case measure=>omega
    case rel=>exact⟨k+1,by go_num,rfl,by omega,H4,jh⟩
   .have yX:=ae (HY.out rfl);clear HN HY
    go_wp2_with fail
    go_ret;exact⟨_,rfl,by rw[yX.out];exact dT z0,H4.out⟩
  .obtain rfl:k=L.length:=by omega
   have z2:decide ((L.length:Int)< (L.length:Int))=false:=dF (by omega);have ku:=HM.out;rw[List.take_length] at ku;have EX:=ae ku;clear ku
   go_wp2_with fail
   go_ret;exact⟨_,rfl,by rw[EX.out];rfl,HE.out⟩
theorem VO (p:Tm->Bool) (L:List Tm) (v:Value) (S:Nat->Prop) (w:World) (hR:ay S w L v) (hl:L.length<=1000000)
  (hf: ∀t∈L,∀u W,Ext w W->bG S W t (tV t u)->Calls Tryz.prog 212 #[tV t u] W fun e W'=>e= .returned (.bool (p t))/\Ext W W'):
  Calls Tryz.prog 60 #[v,.func (.func 212) #[] #[]] w fun e w'=>e= .returned (.bool (L.any p))/\Ext w w':=by
 have HI:=ae (VN p L v S w hR hl hf);clear hR hf
 go_enter Tryz.func60,Tryz.ntmps60
 go_wp2_with fail
 refine HI.out.mono ?_;rintro e w4 ⟨r,rfl,hr,hw4⟩;have H4:=ae hw4;have HRR:=ae hr;clear hw4 hr
 go_wp2_with fail
 go_ret;rw[<-HRR.out];exact⟨rfl,H4.out⟩
theorem VP (p:Tm->Bool) (L:List Tm) (v:Value) (S:Nat->Prop) (w:World) (hR:ay S w L v) (hl:L.length<=1000000)
  (hf: ∀t∈L,∀u W,Ext w W->bG S W t (tV t u)->Calls Tryz.prog 111 #[tV t u] W fun e W'=>e= .returned (.bool (p t))/\Ext W W'):
  Calls Tryz.prog 132 #[v,.func (.func 111) #[] #[]] w fun e w'=> ∃r:Int,e= .returned (.int .i64 r)/\decide (0<=r)=L.any p/\Ext w w':=by
 obtain⟨a,cap,rfl⟩:=hR.shape;have HR:=ae hR;have HF:=ae hf;clear hR hf
 go_enter Tryz.func132,Tryz.ntmps132
 go_wp2_with fail
 go_loopg [8] L.length (fun gk iv wr=> ∃k:Nat,iv= .int .i64 (k:Int)/\gk=L.length-k/\k<=L.length/\Hid (Ext w wr)/\Hid ((L.take k).any p=false))
 case atStart=>exact⟨0,rfl,rfl,Nat.zero_le _,ae (au.refl _ _),ae rfl⟩
 case round=>
  obtain⟨k,rfl,rfl,hk,HE,HM⟩:=hrel;by_cases hlt:k<L.length
  .obtain ⟨g,off,hga,_,hat⟩:=(HR.out.ext HE.out).at_ (by omega);subst hga;obtain⟨xa,xc,q0,q1,q2,aQ⟩:=hat k hlt;rw[<-Nat.add_assoc] at q1 q2;obtain⟨z0,z1,z2,z2'⟩:=bJ hlt;have hmem:=Tj hlt;have eu:=ae (HF.out _ hmem _ wr HE.out ⟨xa,xc,rfl,aQ⟩);have HN:Hid (p (tg L k)=false->(L.take (k+1)).any p=false):=ae (fun h=>by
    rw[wJ L k hlt,List.any_append,HM.out,List.any_cons,List.any_nil,h];rfl)
   have HY:Hid (p (tg L k)=true->L.any p=true):=ae (fun h=>List.any_eq_true.2 ⟨_,hmem,h⟩);obtain⟨x,hx⟩: ∃x,tg L k=x:=⟨_,rfl⟩
   rw[hx] at q0 q1 q2 eu HN HY;dsimp only[tV] at eu;obtain⟨b,hb⟩: ∃b,p x=b:=⟨_,rfl⟩
   rw[hb] at eu HN HY;clear hat hmem hx hb HM aQ
   go_wp2_with fail
   refine eu.out.mono ?_;rintro e w4 ⟨rfl,hw4⟩;have H4:=ae (HE.out.trans hw4);clear hw4 q0 q1 q2 eu HE;cases b
   .have jh:=ae (HN.out rfl);clear HN HY
    go_wp2_with fail
    go_roundg (L.length- (k+1))
    case measure=>omega
    case rel=>exact⟨k+1,by go_num,rfl,by omega,H4,jh⟩
   .have yX:=ae (HY.out rfl);clear HN HY
    go_wp2_with fail
    go_ret;exact⟨_,rfl,by rw[yX.out];exact dT z0,H4.out⟩
  .obtain rfl:k=L.length:=by omega
   have z2:decide ((L.length:Int)< (L.length:Int))=false:=dF (by omega);have ku:=HM.out;rw[List.take_length] at ku;have EX:=ae ku;clear ku
   go_wp2_with fail
   go_ret;exact⟨_,rfl,by rw[EX.out];rfl,HE.out⟩
theorem VQ (p:Tm->Bool) (L:List Tm) (v:Value) (S:Nat->Prop) (w:World) (hR:ay S w L v) (hl:L.length<=1000000)
  (hf: ∀t∈L,∀u W,Ext w W->bG S W t (tV t u)->Calls Tryz.prog 111 #[tV t u] W fun e W'=>e= .returned (.bool (p t))/\Ext W W'):
  Calls Tryz.prog 60 #[v,.func (.func 111) #[] #[]] w fun e w'=>e= .returned (.bool (L.any p))/\Ext w w':=by
 have HI:=ae (VP p L v S w hR hl hf);clear hR hf
 go_enter Tryz.func60,Tryz.ntmps60
 go_wp2_with fail
 refine HI.out.mono ?_;rintro e w4 ⟨r,rfl,hr,hw4⟩;have H4:=ae hw4;have HRR:=ae hr;clear hw4 hr
 go_wp2_with fail
 go_ret;rw[<-HRR.out];exact⟨rfl,H4.out⟩
theorem VR (l:List Rl) (fuel:Int) (L:List Tm) (lv tv:Value) (w:World) (htab:cO w) (hL:iJ (fun k=>k<w.heap.size) w l lv) (hT:ay (fun k=>k<w.heap.size) w L tv) (hll:l.length<=1000000) (hls: ∀r∈l,r.1.size<=100000/\r.2.size<=100000) (hts: ∀t∈L,(t.size:Int)<=1000000000000) (hb: -9223372036854775808<=fuel/\fuel<=9223372036854775807) (jW:L.length<=1000000):Calls Tryz.prog 166 #[lv,.int .i64 fuel,tv] w fun e w'=>e= .returned (.int .i64 (mG l fuel L))/\Ext w w':=by
 have oh:=ae (fun W (hW:Ext w W)=>Es l lv W ((hL.ext hW).weaken (fun k hk=>ax hk hW.size)) (aJ htab hW) hll hls);have Oo:=ae (fun W (hW:Ext w W)=>VO (fun t=>!wf aB t) L tv (fun k=>k<w.heap.size) W (hT.ext hW) jW (fun t ht u W2 hW2 Ia=>abg t u W2 (aJ htab (hW.trans hW2)) (Ia.weaken (fun k hk=>ax hk (hW.trans hW2).size)) (hts t ht)));obtain⟨la,lc,rfl⟩:=hL.shape;obtain⟨ta,tc,rfl⟩:=hT.shape;obtain⟨Z,hZ⟩: ∃Z,mG l fuel L=Z:=⟨_,rfl⟩
 rw[hZ];have HZ:Hid (Z=if(!dA l||L.any fun t=>!wf aB t)=true then 1 else if fuel<0\/2000<fuel then 2 else 0):=ae hZ.symm;obtain⟨b1,hb1⟩: ∃b,dA l=b:=⟨_,rfl⟩
 obtain⟨b2,hb2⟩: ∃b,(L.any fun t=>!wf aB t)=b:=⟨_,rfl⟩
 rw[hb1] at oh HZ;rw[hb2] at Oo HZ;clear hL hT hZ hb1 hb2 jW
 go_enter Tryz.func166,Tryz.ntmps166
 go_wp2_with fail
 refine(oh.out _ (au.refl _ _)).mono ?_;rintro e w3 ⟨rfl,hw3⟩;have aT:=ae hw3;clear hw3 oh;cases b1 with
 |false=>
  obtain rfl:Z=1:=by rw[HZ.out];simp
  go_wp2_with fail
  go_ret;exact⟨rfl,aT.out⟩
 |true=>
  go_wp2_with fail
  refine(Oo.out _ aT.out).mono ?_;rintro e w4 ⟨rfl,hw4⟩;have bD:=ae (aT.out.trans hw4);clear hw4 Oo;cases b2 with
  |true=>
   obtain rfl:Z=1:=by rw[HZ.out];simp
   go_wp2_with fail
   go_ret;exact⟨rfl,bD.out⟩
  |false=>
   have hz:Z=if fuel<0\/2000<fuel then 2 else 0:=by rw[HZ.out];simp
   have HZ2:=ae hz;clear hz;by_cases h1:fuel<0
   .have t1:decide (fuel<0)=true:=dT h1;obtain rfl:Z=2:=by rw[HZ2.out,if_pos (.inl h1)]
    go_wp2_with fail
    go_ret;exact⟨rfl,bD.out⟩
   have t1:decide (fuel<0)=false:=dF h1;by_cases h2:2000<fuel
   .have t2:decide (2000<fuel)=true:=dT h2;obtain rfl:Z=2:=by rw[HZ2.out,if_pos (.inr h2)]
    go_wp2_with fail
    go_ret;exact⟨rfl,bD.out⟩
   have t2:decide (2000<fuel)=false:=dF h2;obtain rfl:Z=0:=by rw[HZ2.out,if_neg (by omega)]
   go_wp2_with fail
   go_ret;exact⟨rfl,bD.out⟩
theorem abj (l:List Rl) (fuel:Int) (L:List Tm) (lv tv:Value) (S T:Nat->Prop) (w:World) (hL:iJ S w l lv) (hT:ay T w L tv) (hll:l.length<=1000000) (hb: -9223372036854775808<=fuel/\fuel<=9223372036854775807) (jW:L.length<=1000000):Calls Tryz.prog 40 #[lv,.int .i64 fuel,tv] w fun e w'=>e= .returned (.int .i64 (mG l fuel L))/\Ext w w':=by
 have oh:=ae (fun W (hW:Ext w W)=>Ti l lv S W (hL.ext hW) hll);have Oo:=ae (fun W (hW:Ext w W)=>VQ (fun t=>!wf aB t) L tv T W (hT.ext hW) jW (fun t ht u W2 hW2 Ia=>abh t u W2 T Ia));obtain⟨la,lc,rfl⟩:=hL.shape;obtain⟨ta,tc,rfl⟩:=hT.shape;obtain⟨Z,hZ⟩: ∃Z,mG l fuel L=Z:=⟨_,rfl⟩
 rw[hZ];have HZ:Hid (Z=if(!dA l||L.any fun t=>!wf aB t)=true then 1 else if fuel<0\/2000<fuel then 2 else 0):=ae hZ.symm;obtain⟨b1,hb1⟩: ∃b,dA l=b:=⟨_,rfl⟩
 obtain⟨b2,hb2⟩: ∃b,(L.any fun t=>!wf aB t)=b:=⟨_,rfl⟩
 rw[hb1] at oh HZ;rw[hb2] at Oo HZ;clear hL hT hZ hb1 hb2 jW
 go_enter Tryz.func40,Tryz.ntmps40
 go_wp2_with fail
 refine(oh.out _ (au.refl _ _)).mono ?_;rintro e w3 ⟨rfl,hw3⟩;have aT:=ae hw3;clear hw3 oh;cases b1 with
 |false=>
  obtain rfl:Z=1:=by rw[HZ.out];simp
  go_wp2_with fail
  go_ret;exact⟨rfl,aT.out⟩
 |true=>
  go_wp2_with fail
  refine(Oo.out _ aT.out).mono ?_;rintro e w4 ⟨rfl,hw4⟩;have bD:=ae (aT.out.trans hw4);clear hw4 Oo;cases b2 with
  |true=>
   obtain rfl:Z=1:=by rw[HZ.out];simp
   go_wp2_with fail
   go_ret;exact⟨rfl,bD.out⟩
  |false=>
   have hz:Z=if fuel<0\/2000<fuel then 2 else 0:=by rw[HZ.out];simp
   have HZ2:=ae hz;clear hz;by_cases h1:fuel<0
   .have t1:decide (fuel<0)=true:=dT h1;obtain rfl:Z=2:=by rw[HZ2.out,if_pos (.inl h1)]
    go_wp2_with fail
    go_ret;exact⟨rfl,bD.out⟩
   have t1:decide (fuel<0)=false:=dF h1;by_cases h2:2000<fuel
   .have t2:decide (2000<fuel)=true:=dT h2;obtain rfl:Z=2:=by rw[HZ2.out,if_pos (.inr h2)]
    go_wp2_with fail
    go_ret;exact⟨rfl,bD.out⟩
   have t2:decide (2000<fuel)=false:=dF h2;obtain rfl:Z=0:=by rw[HZ2.out,if_neg (by omega)]
   go_wp2_with fail
   go_ret;exact⟨rfl,bD.out⟩
def qU (i:Nat) (p:List Nat):Rx:=((i:Int),p.map fun j:Nat=>(j:Int))
def mJ (l:List Rl) (t:Tm) (x:Rx):Tm×Int:=
 if x.1<0\/(l.length:Int)<=x.1 then(a_,2) else match eH t x.2 with
  |none=>(a_,2)
  |some u=>match jT (rg l x.1.toNat) u with
   |none=>(a_,12)
   |some z=>jd t (x.2.map Int.toNat) z
def DX (l:List Rl) (t:Tm) (x:Rx):Tm×Int:=
 match eH t x.2 with
  |none=>(a_,2)
  |some u=>if x.1<0\/(l.length:Int)<=x.1 then(a_,2) else match jG (rg l x.1.toNat).1 u [] with
   |none=>(a_,12)
   |some B=>if 1000< (bu B (rg l x.1.toNat).2).size\/60< (bu B (rg l x.1.toNat).2).depth then(a_,4) else if formed aB (putAt t (x.2.map Int.toNat) (bu B (rg l x.1.toNat).2))=false then(a_,4) else(putAt t (x.2.map Int.toNat) (bu B (rg l x.1.toNat).2),0)
theorem Ap {l:List Rl} (h:dA l=true) {i:Nat} (hi:i<l.length):oL (rg l i)=true:=by
 cases hr:oL (rg l i) with
 |true=>rfl
 |false=>rw[Ol hi hr] at h;cases h
theorem xC {r:Rl} (h:oL r=true):wf aB r.1=true/\wf aB r.2=true/\r.1.sort=ah/\∀f∈cu r.2,f∈cu r.1:=by
 rw[VK] at h;simp only[Bool.and_eq_true,decide_eq_true_eq] at h;obtain⟨⟨⟨h1,h2⟩,h3⟩,h4⟩:=h;refine⟨h1,h2,h3,fun f hf=>?_⟩;unfold QX at h4;rw[List.all_eq_true] at h4;have:=h4 f (((yt h2).2 f).2 hf);exact((yt h1).2 f).1 (I8.1 this)
theorem abk {B:List Bd} {t:Tm} {f:Vd} (h:f∈cu (bu B t)): ∃g∈cu t,f∈cu (fE B g.1 g.2):=by
 obtain⟨x,hx,h1,h2⟩:=Ah h;have hs:=Ib h;rcases Oq (σ:=fE B) t x hx with⟨y,_,_,h3,_⟩|⟨g,hg,hxg⟩
 .rw [h2] at h3;exact absurd h3 hs
 .refine ⟨g,hg,QZ hxg ?_⟩;obtain⟨m,r,K⟩:=x;simp only[Tm.name,Tm.sort] at h1 h2;have:f=(m,r):=Prod.ext h1.symm h2.symm;rw[this];exact lN (by rw[h2];exact hs) K
theorem abl {r:Rl} {u:Tm} {B:List Bd} (hr:oL r=true) (h:jG r.1 u []=some B): ∀f∈cu (bu B r.2),f∈cu u:=by
 obtain⟨h1,h2,h3,h4⟩:=xC hr;obtain⟨hI,_,hb,_⟩:=zF (X:=cu r.1) (Y:=fun y=> ∀f∈cu y,f∈cu u) (fun t x ht hx f hf=>ht f (zD hx hf)) r.1 u [] B h (Cc h1) (fun f hf=>hf) (fun f hf=>hf) (qm.nil _ _);intro f hf;obtain⟨g,hg,hfg⟩:=abk hf;obtain⟨x,hx⟩:=hb g (h4 g hg);have:fE B g.1 g.2=x:=xA hx;rw[this] at hfg;obtain⟨b,hbm,_,hbx⟩:=rE hx;exact hI.val b hbm f (by rw[hbx];exact hfg)
theorem aek {t z:Tm} {p:List Nat} (ht:wf aB t=true) (hp:pF t p) (hz: ∀f∈cu z,f∈cu t):wf aB (putAt t p z)=formed aB (putAt t p z):=by
 unfold wf;have hs:(jv (putAt t p z)).isSome=true:=(Ic _).2 (fun f hf g hg e=>(mF.1 ht).2.2.2 f (by
  rcases yx z p t hp f hf with h|h
  .exact h
  .exact hz f h) g (by
  rcases yx z p t hp g hg with h|h
  .exact h
  .exact hz g h) e)
 rw[hs,Bool.and_true]
theorem ael {l:List Rl} {t:Tm} {x:Rx} (hr:dA l=true) (ht:wf aB t=true):DX l t x=mJ l t x:=by
 unfold DX mJ;cases hs:eH t x.2 with
 |none=>simp only;split<;>rfl
 |some u=>
  simp only;by_cases hc:x.1<0\/(l.length:Int)<=x.1
  .rw [if_pos hc,if_pos hc]
  .rw [if_neg hc,if_neg hc];obtain⟨hp,hu⟩:=Ey hs;have hrr:=Ap hr (i:=x.1.toNat) (by omega);obtain⟨h1,h2,h3,h4⟩:=xC hrr;rw[aem h1 h4];cases hm:jG (rg l x.1.toNat).1 u [] with
   |none=>rfl
   |some B=>
    simp only[Option.map_some];have hv: ∀f∈cu (bu B (rg l x.1.toNat).2),f∈cu t:=fun f hf=>by
     have:=abl hrr hm f hf;rw[<-hu] at this;exact Ot _ _ hp f this
    have hw:=aek ht hp hv;have hbig:=Ku (bu B (rg l x.1.toNat).2) _ t hp;unfold jd;rw[hw];cases hf:formed aB (putAt t (x.2.map Int.toNat) (bu B (rg l x.1.toNat).2)) with
    |true=>
     rw[hf] at hw;have h5:=mF.1 hw;have hno: ¬(1000< (bu B (Go.Hw.rg l x.1.toNat).2).size\/60< (bu B (Go.Hw.rg l x.1.toNat).2).depth):=by have:=h5.1;have:=h5.2.1;omega
     rw[if_neg hno];simp
    |false=>split<;>simp
theorem Aq (p:List Nat):(p.map fun j:Nat=>(j:Int)).map Int.toNat=p:=by
 rw[List.map_map];have:(Int.toNat∘fun j:Nat=>(j:Int))=id:=by funext j;simp
 rw[this,List.map_id]
def xE (l:List Rl):Nat->Tm->List Rx->Tm×List Rx×Int
 |0,t,tr=>match oM l t with
  |none=>(t,tr,0)
  |some _=>(a_,[],6)
 |n+1,t,tr=>match oM l t with
  |none=>(t,tr,0)
  |some x=>if(jd t x.2.1 x.2.2).2=0 then xE l n (jd t x.2.1 x.2.2).1 (tr++[qU x.1 x.2.1]) else(a_,[],(jd t x.2.1 x.2.2).2)
def qV (l:List Rl) (t:Tm) (fuel:Int):Tm×List Rx×Int:=if mG l fuel [t]=0 then xE l fuel.toNat t [] else(a_,[],mG l fuel [t])
theorem Ie {l:List Rl} {fuel:Int} {t:Tm} (h:mG l fuel [t]=0):dA l=true/\wf aB t=true/\0<=fuel/\fuel<=2000:=by
 unfold mG at h;split at h
 .cases h
 .rename_i h1
  split at h
  .cases h
  .rename_i h2
   have h3:(!dA l||[t].any fun t=>!wf aB t)=false:=by simpa using h1
   simp at h3;exact⟨h3.1,h3.2,by omega,by omega⟩
theorem DY {t u:Tm} {p:List Nat} (h:(jd t p u).2=0):(jd t p u).1=putAt t p u/\wf aB (putAt t p u)=true:=by
 unfold jd at h⊢;split at h
 .rename_i h1;rw[if_pos h1];exact⟨rfl,h1⟩
 .cases h
end
end Go.Proofs.YtlkcjmaiahnodaaGreatDoor
