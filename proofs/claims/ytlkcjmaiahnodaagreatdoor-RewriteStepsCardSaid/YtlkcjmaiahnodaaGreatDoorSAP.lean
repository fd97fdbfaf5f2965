/- The texts N43 N44 N51 N52 I96 I97 I100 I101 N53 N54 N55, one behind the other. -/
import Derived.Test.YtlkcjmaiahnodaaGreatDoorSAO
import Derived.Test.YtlkcjmaiahnodaaGreatDoorSAN
import Derived.Test.YtlkcjmaiahnodaaGreatDoorSAL
import Derived.Test.YtlkcjmaiahnodaaGreatDoorSAI
import Derived.Test.YtlkcjmaiahnodaaGreatDoorSAJ
import Derived.Test.YtlkcjmaiahnodaaGreatDoorSAH
import Derived.Test.YtlkcjmaiahnodaaGreatDoorSAM
import Derived.Test.YtlkcjmaiahnodaaGreatDoorSAE
set_option maxRecDepth 100000
set_option maxHeartbeats 8000000
set_option linter.unusedVariables false
set_option linter.unusedSimpArgs false
namespace Go.Proofs.YtlkcjmaiahnodaaGreatDoor
open Go.RowKit Go.Hw Go Tm
section
open Go.Sort Go.Proofs Go.ChangeMaps
mutual
def mJ:Tm->Int->Int->Int
 | .mk n s L,d,i=>yJ L (d-1) (if d=0\/100<n.size\/100<s.size\/40<L.length then -1 else i-1)
def yJ:List Tm->Int->Int->Int
 |[],_,i=>i
 |x::L,d,i=>if 0<=i then yJ L d (mJ x d i) else i
end
theorem zM (n s:By) (L:List Tm) (d i:Int):mJ (.mk n s L) d i=yJ L (d-1) (if d=0\/100<n.size\/100<s.size\/40<L.length then -1 else i-1):=by
 conv=>lhs;unfold mJ
theorem GZ (d i:Int):yJ [] d i=i:=by unfold yJ;rfl
theorem C9 (x:Tm) (L:List Tm) (d i:Int):yJ (x::L) d i=if 0<=i then yJ L d (mJ x d i) else i:=by
 conv=>lhs;unfold yJ
theorem uP (L:List Tm) (d i:Int) (h:i<0):yJ L d i=i:=by
 cases L with
 |nil=>exact GZ d i
 |cons x L=>rw[C9,if_neg (by omega)]
theorem Ro: ∀(t:Tm) (d i:Int),(0<=mJ t d i->(t.size:Int)+mJ t d i<=i)/\(0<=i-> -1<=mJ t d i/\mJ t d i<=i)/\(i<0->mJ t d i=i-1\/mJ t d i= -1):=by
 refine Tm.ind (fun n s L e=>?_);intro d i;have key: ∀(M:List Tm),(∀x∈M,∀(d i:Int),(0<=mJ x d i->(x.size:Int)+mJ x d i<=i)/\(0<=i-> -1<=mJ x d i/\mJ x d i<=i)/\(i<0->mJ x d i=i-1\/mJ x d i= -1))->∀(d i:Int),(0<=yJ M d i->(sizes M:Int)+yJ M d i<=i)/\(0<=i-> -1<=yJ M d i/\yJ M d i<=i):=by
  intro M
  induction M with
  |nil=>intro _ d i;rw[GZ];exact⟨fun _=>by simp[sizes],fun h=>⟨by omega,Int.le_refl _⟩⟩
  |cons x M g=>
   intro hx d i;have h1:=hx x (List.mem_cons_self ..) d i;have a:=g (fun y hy=>hx y (List.mem_cons_of_mem _ hy)) d (mJ x d i);rw[C9];have c:sizes (x::M)=x.size+sizes M:=by rw[sizes]
   by_cases hi:0<=i
   .rw [if_pos hi];have b:=h1.2.1 hi;by_cases hb:0<=mJ x d i
    .have j:=a.2 hb;refine⟨fun h=>?_,fun _=>⟨j.1,by omega⟩⟩;have k:=h1.1 hb;have l:=a.1 h;rw[c];omega
    .rw [uP _ _ _ (by omega)];exact⟨fun h=>absurd h hb,fun _=>⟨b.1,b.2⟩⟩
   .rw [if_neg hi];exact⟨fun h=>absurd h hi,fun h=>absurd h hi⟩
 rw[zM];have hk:=key L e (d-1);by_cases hc:d=0\/100<n.size\/100<s.size\/40<L.length
 .rw [if_pos hc,uP _ _ _ (by omega)];exact⟨fun h=>absurd h (by omega),fun h=>⟨Int.le_refl _,by omega⟩,fun _=> .inr rfl⟩
 .rw [if_neg hc];have h1:=hk (i-1);refine⟨fun h=>?_,fun h=>?_,fun h=>?_⟩
  .have a:=h1.1 h;rw[size_eq];simp only[Tm.kids];omega
  .by_cases h0:0<=i-1
   .have a:=h1.2 h0;exact⟨a.1,by omega⟩
   .rw [uP _ _ _ (by omega)];exact⟨by omega,by omega⟩
  .rw [uP _ _ _ (by omega)];exact .inl rfl
theorem YA: ∀(t:Tm) (d i:Int),(t.size:Int)<=i->(t.depth:Int)<=d->(∀x∈bu t,x.name.size<=100/\x.sort.size<=100/\x.kids.length<=40)->mJ t d i=i- (t.size:Int):=by
 refine Tm.ind (fun n s L g=>?_);intro d i h1 a b;have key: ∀(M:List Tm),(∀x∈M,∀(d i:Int),(x.size:Int)<=i->(x.depth:Int)<=d->(∀y∈bu x,y.name.size<=100/\y.sort.size<=100/\y.kids.length<=40)->mJ x d i=i- (x.size:Int))->(∀x∈M,∀y∈bu x,y.name.size<=100/\y.sort.size<=100/\y.kids.length<=40)->∀(d i:Int),(sizes M:Int)<=i->(depths M:Int)<=d->yJ M d i=i- (sizes M:Int):=by
  intro M
  induction M with
  |nil=>intro _ _ d i _ _;rw[GZ];simp[sizes]
  |cons x M h=>
   intro hx hs d i h1 a;have c:sizes (x::M)=x.size+sizes M:=by rw[sizes]
   have e:depths (x::M)=max x.depth (depths M):=by rw[depths]
   rw[c] at h1⊢;rw[e] at a;rw[C9,if_pos (by omega),hx x (List.mem_cons_self ..) d i (by omega) (by omega) (hs x (List.mem_cons_self ..)),h (fun y hy=>hx y (List.mem_cons_of_mem _ hy)) (fun y hy=>hs y (List.mem_cons_of_mem _ hy)) d _ (by omega) (by omega)];omega
 have j:=b _ (jo _);simp only[Tm.name,Tm.sort,Tm.kids] at j;rw[size_eq,lg] at*;simp only[Tm.kids] at*;rw[zM,if_neg (by omega),key L g (fun x hx y hy=>b y (lX (t:= .mk n s L) hx hy)) (d-1) (i-1) (by omega) (by omega)];omega
theorem aej: ∀(t:Tm) (v:Value) (S:Nat->Prop) (q r:Nat) (w:World) (d i:Int),bQ S w t v->¬S q->(∀k,S k->k<w.heap.size)->w.heap[q]?=some (iE i)->w.cell? ⟨r,0,none⟩=some (.func (.func 112) #[] #[.pointer (az q),.pointer (az r)])->r≠q->0<=d->d<=80-> -1000<=i->i<=1100->
  Calls Tryz.prog 112 #[v,.int .i64 d,.pointer (az q),.pointer (az r)] w fun e w'=>e= .returned (.tuple #[])/\FwP q w w' (mJ t d i):=by
 refine Tm.ind (fun n s L aG=>?_);intro v S q r w d i M aH hS hc hr aq bd bf bg bh;obtain⟨a,cap,rfl,M⟩:=M;dsimp only[tV,Tm.name,Tm.sort,Tm.kids] at M⊢;obtain⟨V,hV⟩:=ay (mJ (.mk n s L) d i);rw[hV];have D:=ae hV;have aX:=ae M;have aU:=ae aG;have aI:=ae aH;have aY:=ae hS;have aJ:q<w.heap.size:=(Array.getElem?_eq_some_iff.1 hc).1;have I:=ae aJ;have Z:=ae aq;have aK:=ae hr;have aL:=ae ((uR w).alloc (af n s a L.length cap));have ar:=ae (aj w (af n s a L.length cap));have U:=ae (aL.o.heap hc id);have av:Hid (w.heap.size+1<=(w.alloc (af n s a L.length cap)).heap.size):=ae (by simp);have N:=ag U.o 0 (.int .i64 i) rfl;have f0:=fun j=>ax U.o j;clear aG M aH hS hc hV aq hr aJ
 go_enter Tryz.func112,Tryz.ntmps112;go_upto_region 2 with fail;generalize w.alloc (af n s a L.length cap)=w1 at*;have aw:=setBlock U.o 0 (.int .i64 (i-1));have C:Hid ((w1.setCell ⟨q,0,none⟩ (.int .i64 (i-1))).heap[q]?=some (iE (i-1))):=ae (by simpa using aw);have X:=ae ((au.refl (fun k=>k=q) w1).setCell (p:=⟨q,0,none⟩) (.inl rfl) (.int .i64 (i-1)));have J:Hid (au (fun k=>k=q) w (w1.setCell ⟨q,0,none⟩ (.int .i64 (i-1)))):=ae ((aL.o.mono (fun _ _ h=>h.elim)).trans X.o);have E:=ae (X.o.heap ar.o (by have:=I.o;omega));have aZ:Hid (w.heap.size+1<=(w1.setCell ⟨q,0,none⟩ (.int .i64 (i-1))).heap.size):=ae (Nat.le_trans av.o X.o.size);generalize (w1.setCell ⟨q,0,none⟩ (.int .i64 (i-1)))=b at*;clear aw N f0 U ar X av;have N:=ag C.o 0 (.int .i64 (i-1)) rfl;have f0:=fun j=>ax C.o j;obtain⟨b0,ab,ad⟩:=ah E.o;by_cases O:d=0
 .obtain rfl:V= -1:=by rw[<-D.o,zM,if_pos (.inl O),uP _ _ _ (by omega)]
  have t1:(d==0)=true:=by rw[O];rfl
  have y:=setBlock C.o 0 (.int .i64 (-1));have c:Hid ((b.setCell ⟨q,0,none⟩ (.int .i64 (-1))).heap[q]?=some (iE (-1))):=ae (by simpa using y);have l:=ae ((au.refl (fun k=>k=q) b).setCell (p:=⟨q,0,none⟩) (.inl rfl) (.int .i64 (-1)));have u:Hid (au (fun k=>k=q) w (b.setCell ⟨q,0,none⟩ (.int .i64 (-1)))):=ae (J.o.trans l.o);have F:=ae (l.o.heap E.o (by have:=I.o;omega));clear y l O;go_upto_region 5 with fail;generalize b.setCell ⟨q,0,none⟩ (.int .i64 (-1))=A at*;have c1:=ag c.o 0 (.int .i64 (-1)) rfl;obtain⟨d0,d1,d2⟩:=ah F.o;go_loopg [6] 0 (fun gk B wr=>B= .int .i64 0/\A=wr);case atStart=>exact⟨rfl,rfl⟩
  case round=>
   obtain⟨rfl,rfl⟩:=hrel;by_cases aa:0<L.length
   .have K:decide ((0:Int)< (L.length:Int))=true:=dT (by omega);have H:(0:Int)< (L.length:Int):=by omega
    go_wp2_with fail;go_end0;exact⟨rfl,u.o,c.o⟩
   .have K:decide ((0:Int)< (L.length:Int))=false:=dF (by omega);have H: ¬(0:Int)< (L.length:Int):=by omega
    go_wp2_with fail;go_end0;exact⟨rfl,u.o,c.o⟩
 have t1:(d==0)=false:=beq_eq_false_iff_ne.2 O;by_cases ai:100<n.size
 .obtain rfl:V= -1:=by rw[<-D.o,zM,if_pos (.inr (.inl ai)),uP _ _ _ (by omega)]
  have t2:decide ((100:Int)< (n.size:Int))=true:=dT (by omega);have aA:(100:Int)< (n.size:Int):=by omega
  have y:=setBlock C.o 0 (.int .i64 (-1));have c:Hid ((b.setCell ⟨q,0,none⟩ (.int .i64 (-1))).heap[q]?=some (iE (-1))):=ae (by simpa using y);have l:=ae ((au.refl (fun k=>k=q) b).setCell (p:=⟨q,0,none⟩) (.inl rfl) (.int .i64 (-1)));have u:Hid (au (fun k=>k=q) w (b.setCell ⟨q,0,none⟩ (.int .i64 (-1)))):=ae (J.o.trans l.o);have F:=ae (l.o.heap E.o (by have:=I.o;omega));clear y l ai;go_upto_region 5 with fail;generalize b.setCell ⟨q,0,none⟩ (.int .i64 (-1))=A at*;have c1:=ag c.o 0 (.int .i64 (-1)) rfl;obtain⟨d0,d1,d2⟩:=ah F.o;go_loopg [6] 0 (fun gk B wr=>B= .int .i64 0/\A=wr);case atStart=>exact⟨rfl,rfl⟩
  case round=>
   obtain⟨rfl,rfl⟩:=hrel;by_cases aa:0<L.length
   .have K:decide ((0:Int)< (L.length:Int))=true:=dT (by omega);have H:(0:Int)< (L.length:Int):=by omega
    go_wp2_with fail;go_end0;exact⟨rfl,u.o,c.o⟩
   .have K:decide ((0:Int)< (L.length:Int))=false:=dF (by omega);have H: ¬(0:Int)< (L.length:Int):=by omega
    go_wp2_with fail;go_end0;exact⟨rfl,u.o,c.o⟩
 have t2:decide ((100:Int)< (n.size:Int))=false:=dF (by omega);have aA: ¬(100:Int)< (n.size:Int):=by omega
 by_cases ak:100<s.size
 .obtain rfl:V= -1:=by rw[<-D.o,zM,if_pos (.inr (.inr (.inl ak))),uP _ _ _ (by omega)]
  have t3:decide ((100:Int)< (s.size:Int))=true:=dT (by omega);have aM:(100:Int)< (s.size:Int):=by omega
  have y:=setBlock C.o 0 (.int .i64 (-1));have c:Hid ((b.setCell ⟨q,0,none⟩ (.int .i64 (-1))).heap[q]?=some (iE (-1))):=ae (by simpa using y);have l:=ae ((au.refl (fun k=>k=q) b).setCell (p:=⟨q,0,none⟩) (.inl rfl) (.int .i64 (-1)));have u:Hid (au (fun k=>k=q) w (b.setCell ⟨q,0,none⟩ (.int .i64 (-1)))):=ae (J.o.trans l.o);have F:=ae (l.o.heap E.o (by have:=I.o;omega));clear y l ak;go_upto_region 5 with fail;generalize b.setCell ⟨q,0,none⟩ (.int .i64 (-1))=A at*;have c1:=ag c.o 0 (.int .i64 (-1)) rfl;obtain⟨d0,d1,d2⟩:=ah F.o;go_loopg [6] 0 (fun gk B wr=>B= .int .i64 0/\A=wr);case atStart=>exact⟨rfl,rfl⟩
  case round=>
   obtain⟨rfl,rfl⟩:=hrel;by_cases aa:0<L.length
   .have K:decide ((0:Int)< (L.length:Int))=true:=dT (by omega);have H:(0:Int)< (L.length:Int):=by omega
    go_wp2_with fail;go_end0;exact⟨rfl,u.o,c.o⟩
   .have K:decide ((0:Int)< (L.length:Int))=false:=dF (by omega);have H: ¬(0:Int)< (L.length:Int):=by omega
    go_wp2_with fail;go_end0;exact⟨rfl,u.o,c.o⟩
 have t3:decide ((100:Int)< (s.size:Int))=false:=dF (by omega);have aM: ¬(100:Int)< (s.size:Int):=by omega
 by_cases al:40<L.length
 .obtain rfl:V= -1:=by rw[<-D.o,zM,if_pos (.inr (.inr (.inr al))),uP _ _ _ (by omega)]
  have t4:decide ((40:Int)< (L.length:Int))=true:=dT (by omega);have aB:(40:Int)< (L.length:Int):=by omega
  have y:=setBlock C.o 0 (.int .i64 (-1));have c:Hid ((b.setCell ⟨q,0,none⟩ (.int .i64 (-1))).heap[q]?=some (iE (-1))):=ae (by simpa using y);have l:=ae ((au.refl (fun k=>k=q) b).setCell (p:=⟨q,0,none⟩) (.inl rfl) (.int .i64 (-1)));have u:Hid (au (fun k=>k=q) w (b.setCell ⟨q,0,none⟩ (.int .i64 (-1)))):=ae (J.o.trans l.o);have F:=ae (l.o.heap E.o (by have:=I.o;omega));clear y l al;go_upto_region 5 with fail;generalize b.setCell ⟨q,0,none⟩ (.int .i64 (-1))=A at*;have c1:=ag c.o 0 (.int .i64 (-1)) rfl;obtain⟨d0,d1,d2⟩:=ah F.o;go_loopg [6] 0 (fun gk B wr=>B= .int .i64 0/\A=wr);case atStart=>exact⟨rfl,rfl⟩
  case round=>
   obtain⟨rfl,rfl⟩:=hrel;by_cases aa:0<L.length
   .have K:decide ((0:Int)< (L.length:Int))=true:=dT (by omega);have H:(0:Int)< (L.length:Int):=by omega
    go_wp2_with fail;go_end0;exact⟨rfl,u.o,c.o⟩
   .exfalso;omega
 have t4:decide ((40:Int)< (L.length:Int))=false:=dF (by omega);have aB: ¬(40:Int)< (L.length:Int):=by omega
 have aN:Hid (yJ L (d-1) (i-1)=V):=ae (by rw[<-D.o,zM,if_neg (by omega)]);have bj:L.length<=40:=by omega
 have aO:=ae (show 0<=d-1/\d-1<=80 by omega);clear O ai ak al;go_upto_region 5 with fail;clear t1 t2 aA t3 aM t4 aB N f0 b0 ab ad;go_loopg [6] L.length (fun gk B wr=> ∃(k:Nat) (j:Int),B= .int .i64 (k:Int)/\gk=L.length-k/\k<=L.length/\ -1001<=j/\j<=1100/\Hid (au (fun k=>k=q) w wr)/\Hid (wr.heap[q]?=some (iE j))/\Hid (wr.heap[w.heap.size]?=some (af n s a L.length cap))/\Hid (yJ (L.drop k) (d-1) j=V));case atStart=>exact⟨0,i-1,rfl,rfl,Nat.zero_le _,by omega,by omega,J,C,E,aN⟩
 case round=>
  clear J C E aN aZ;obtain⟨k,j,rfl,rfl,hk,bk,aV,G,Y,aQ,P⟩:=hrel;have N:=ag Y.o 0 (.int .i64 j) rfl;obtain⟨b0,ab,ad⟩:=ah aQ.o;by_cases T:k<L.length
  .obtain ⟨z0,bn,z2,bl⟩:=bH T;have z:=P.o;rw[G8 L k T,C9] at z;by_cases Q:0<=j
   .have z3:decide ((0:Int)<=j)=true:=dT Q;rw[if_pos Q] at z;obtain⟨g,off,aW,_,aC⟩:=(aX.o.kept G.o (fun k hk e=>aI.o (e▸hk))).at_ (by omega);subst aW;obtain⟨a1,a6,aR,an,ao,aS⟩:=aC k T;rw[<-Nat.add_assoc] at an ao;have R:=ae (fun W (hW:Ext wr W)=>aU.o (tg L k) (cZ L k T) _ S q r W (d-1) j ⟨a1,a6,rfl,aS.ext hW⟩ aI.o (fun k hk=>aP (aY.o k hk) (Nat.le_trans G.o.size hW.size)) (hW.heap Y.o id) (hW.cell (G.o.cell aK.o Z.o) id) Z.o aO.o.1 aO.o.2 (by omega) aV);have a7:=G.o.cell aK.o Z.o;have hle:=(Ro (tg L k) (d-1) j).2.1 Q;dsimp only[tV] at R;obtain⟨x,hx⟩:=ay (tg L k);rw[hx] at aR an ao R z hle;obtain⟨a8,aD⟩:=ay (mJ x (d-1) j);rw[aD] at R z hle;have ba:=ae z;have bb:Hid (Ext wr wr):=ae (au.refl _ _);have bm: ∀args W,(callFunc 112 args).run Tryz.prog W= .ok (.enter 112 args) W:=enters_of Tryz.func112 (by kernel_rfl) rfl;clear aC aS hx z aD P;go_wp2_with fail;go_still_tail 8,(by kernel_rfl)
    change wpList _ _ _ _ _ wr.drew;go_wp2_with fail;refine(R.o wr.drew bb.o.drew).mono ?_;rintro e A ⟨rfl,aE,aF⟩;have aT:Hid (au (fun k=>k=q) wr A):=ae (((au.refl (fun k=>k=q) wr).drewN' 1).trans aE);have c:=ae aF;clear aE aF R aR an ao a7 N b0 ab ad;go_wp2_with fail;have u:=ae (G.o.trans aT.o);have bc:=ae (aT.o.heap aQ.o (by have:=I.o;omega));go_roundg (L.length- (k+1));case measure=>omega
    case rel=>exact⟨k+1,a8,by go_num,rfl,by omega,by omega,by omega,u,c,bc,ba⟩
   .have z3:decide ((0:Int)<=j)=false:=dF Q;rw[if_neg Q] at z;subst z;clear D P;go_wp2_with fail;go_end0;exact⟨rfl,G.o,Y.o⟩
  .obtain rfl:k=L.length:=by omega
   have z2:decide ((L.length:Int)< (L.length:Int))=false:=dF (by omega);have z:=P.o;rw[List.drop_length,GZ] at z;subst z;clear D P;go_wp2_with fail;go_end0;exact⟨rfl,G.o,Y.o⟩
def Am (L:List Tm) (i:Int):Int:=L.foldl (fun i t=>mJ t 80 i) i
def qA (L:List Tm):Bool:=decide (Am L 1100<0)
def IA (t:Tm):Bool:=qA [t]||(formed aC t&&decide (60<t.size))
theorem aaC (L:List Tm) (x:Tm) (i:Int):Am (L++[x]) i=mJ x 80 (Am L i):=by unfold Am;rw[List.foldl_append];rfl
theorem Og: ∀(L:List Tm) (i:Int),L.length<=10-> -1000+(L.length:Int)<=i->i<=1100-> -1000<=Am L i/\Am L i<=1100
 |[],i,_,h0,h1=>by simp at h0;exact⟨h0,h1⟩
 |x::L,i,hl,h0,h1=>by
  have a:=Ro x 80 i;rw[List.length_cons] at hl h0;have b: -1000+(L.length:Int)<=mJ x 80 i/\mJ x 80 i<=1100:=by
   by_cases hi:0<=i
   .have:=a.2.1 hi;omega
   .rcases a.2.2 (by omega) with e|e<;>omega
  exact Og L _ (by omega) b.1 b.2
theorem uQ {t:Tm} (h:qA [t]=false):t.size<=1100:=by
 have h1:=of_decide_eq_false h;unfold Am at h1;have a:=(Ro t 80 1100).1 (by simpa using h1);have b: ¬mJ t 80 1100<0:=by simpa using h1
 omega
theorem O4 (L:List Tm) (v:Value) (S:Nat->Prop) (w:World) (r:aG S w L v) (hS: ∀k,S k->k<w.heap.size) (hl:L.length<=10):
  Calls Tryz.prog 43 #[v] w fun e w'=>e= .returned (.bool (qA L))/\Ext w w':=by
 obtain⟨a,cap,rfl⟩:=r.shape;obtain⟨V,hV⟩:=ay (Am L 1100);have E:qA L=decide (V<0):=by unfold qA;rw[hV]
 rw[E];have N:=ae hV;have aa:=ae r;have ab:=ae hS;have ad:=ae (((uR w).alloc (iE 1100)).alloc (.cells #[.func (.func 112) #[] #[.pointer (az w.heap.size),.pointer (some ⟨w.heap.size+1,0,none⟩)]] 158));have F:=ae (ak (aj w (iE 1100)) (.cells #[.func (.func 112) #[] #[.pointer (az w.heap.size),.pointer (some ⟨w.heap.size+1,0,none⟩)]] 158));have G:=ae (alloc_at (w.alloc (iE 1100)) (.cells #[.func (.func 112) #[] #[.pointer (az w.heap.size),.pointer (some ⟨w.heap.size+1,0,none⟩)]] 158) (n:=w.heap.size+1) (by simp));have X:Hid (w.heap.size+2<=((w.alloc (iE 1100)).alloc (.cells #[.func (.func 112) #[] #[.pointer (az w.heap.size),.pointer (some ⟨w.heap.size+1,0,none⟩)]] 158)).heap.size):=ae (by simp);have aw: ∀args W,(callFunc 112 args).run Tryz.prog W= .ok (.enter 112 args) W:=enters_of Tryz.func112 (by kernel_rfl) rfl;clear r hS hV E;go_enter Tryz.func43,Tryz.ntmps43;go_upto_region 4 with fail;generalize ((w.alloc (iE 1100)).alloc (.cells #[.func (.func 112) #[] #[.pointer (az w.heap.size),.pointer (some ⟨w.heap.size+1,0,none⟩)]] 158))=w1 at*;go_wp2_with fail;go_loopg [10] L.length (fun gk af wr=> ∃k:Nat,af= .int .i64 (k:Int)/\gk=L.length-k/\k<=L.length/\Hid (au (fun k=>k=w.heap.size) w1 wr)/\Hid (wr.heap[w.heap.size]?=some (iE (Am (L.take k) 1100)))/\Hid (wr.heap[w.heap.size+1]?=some (.cells #[.func (.func 112) #[] #[.pointer (az w.heap.size),.pointer (some ⟨w.heap.size+1,0,none⟩)]] 158 (0,0))));case atStart=>exact⟨0,rfl,rfl,Nat.zero_le _,ae (au.refl _ _),F,G⟩
 case round=>
  clear F G;obtain⟨k,rfl,rfl,hk,O,t,u⟩:=hrel;have y:Hid (Ext w wr):=ae (ad.o.trans' O.o (fun j P e=>by omega));by_cases i:k<L.length
  .obtain ⟨g,off,Y,_,H⟩:=(aa.o.ext y.o).at_ (by omega);subst Y;obtain⟨c,d,Q,z,A,B⟩:=H k i;rw[<-Nat.add_assoc] at z A;obtain⟨z0,aA,z2,ax⟩:=bH i;have J:=Og (L.take k) 1100 (by rw[List.length_take];omega) (by rw[List.length_take];omega) (by omega);have K:Am (L.take (k+1)) 1100=mJ (tg L k) 80 (Am (L.take k) 1100):=by
    rw[<-aaC];congr 1;rw[List.take_add_one];congr 1;unfold tg;rw[List.getD_eq_getElem?_getD,List.getElem?_eq_getElem i];rfl
   have C:=ae K;obtain⟨x,hx⟩:=ay (tg L k);rw[hx] at Q z A B C;obtain⟨I,R⟩:=ay (Am (L.take k) 1100);rw[R] at J t C;have b:=(uR wr).alloc (tO x c d);have T:=ae b;have l: ∀j,S j->j<w.heap.size:=ab.o;have p:=ae (aej x (tV x (.slice c x.kids.length d)) S w.heap.size (w.heap.size+1) (wr.alloc (tO x c d)) 80 I ⟨c,d,rfl,B.ext b⟩ (fun h=>Nat.lt_irrefl _ (l _ h)) (fun j P=>aP (l j P) (Nat.le_trans y.o.size b.size)) (b.heap t.o id) (ag (b.heap u.o id) 0 _ rfl) (by omega) (by decide) (by decide) (by omega) (by omega));have ai:=ag (b.heap u.o id) 0 (.func (.func 112) #[] #[.pointer (az w.heap.size),.pointer (some ⟨w.heap.size+1,0,none⟩)]) rfl;have al:=ae (aj wr (tO x c d));obtain⟨an,ao,aq⟩:=ah al.o;have aB:Hid (w.heap.size+2<=w1.heap.size):=X;dsimp only[tV] at p;clear H B hx R J K b l
   go_wp2_with fail;refine p.o.mono ?_;rintro e U ⟨rfl,q,M⟩;have ar:Hid (au (fun k=>k=w.heap.size) w1 U):=ae (O.o.trans ((T.o.mono (fun _ _ h=>h.elim)).trans q));have Z:Hid (U.heap[w.heap.size]?=some (iE (Am (L.take (k+1)) 1100))):=ae (by rw[C.o];exact M);have av:=ae (q.heap (T.o.heap u.o id) (by omega));clear q M p Q z A ai an ao aq;go_wp2_with fail;go_roundg (L.length- (k+1));case measure=>omega
   case rel=>exact⟨k+1,by go_num,rfl,by omega,ar,Z,av⟩
  .obtain rfl:k=L.length:=by omega
   have z2:decide ((L.length:Int)< (L.length:Int))=false:=dF (by omega);have D:=t.o;rw[List.take_length,N.o] at D;have aC:=ag D 0 (.int .i64 V) rfl;clear D N;go_wp2_with fail;go_ret;exact⟨rfl,y.o⟩
theorem ahi (t:Tm) (a:Option Addr) (cap:Nat) (w:World):Calls Tryz.prog 41 #[tV t (.slice a t.kids.length cap)] w fun e w'=>e= .returned (.bool (decide (t.name=ai)&&decide (t.sort=ai)&&decide (t.kids.length=0)))/\Ext w w':=by
 have b:=ae ((uR w).alloc (tO t a cap));have hb:=aj w (tO t a cap);obtain⟨d,g,h⟩:=ah hb;have s0:=lV t.name;have s1:=lV t.sort;have s2:((t.kids.length:Int)==0)=decide (t.kids.length=0):=by
  rw[Bool.eq_iff_iff,decide_eq_true_eq,beq_iff_eq];omega
 unfold tO at b;generalize t.kids.length=m at*;generalize decide (t.name=ai)=d0 at*;generalize decide (t.sort=ai)=d1 at*;obtain⟨d2,c⟩:=ay (decide (m=0));rw[c] at s2⊢;clear hb c;dsimp only[tV];go_enter Tryz.func41,Tryz.ntmps41;cases d0
 .go_wp2_with fail;go_ret;exact⟨rfl,b.o⟩
 cases d1
 .go_wp2_with fail;go_ret;exact⟨rfl,b.o⟩
 go_wp2_with fail;go_ret;exact⟨by simp,b.o⟩
theorem aek (t:Tm) (v:Value) (w:World) (x:bQ (fun k=>k<w.heap.size) w t v):
  Calls Tryz.prog 37 #[v] w fun e w'=>e= .returned (.bool (IA t))/\Ext w w':=by
 obtain⟨Z,y⟩:=ay (IA t);rw[y];have z:=ae y;have h:=ae (fun W (hW:Ext w W)=>Bj t 1 1000 v _ W (x.ext hW) (by decide) (by decide) (by decide));have A:=ae (fun(hs:t.size<=1000000) W (hW:Ext w W)=>GV t v _ W (x.ext hW) hs);obtain⟨a,cap,rfl,F⟩:=x;have G:=((uR w).alloc (tO t a cap))
 have g:=G.alloc (tO t a cap);have H:=ae g;have B:=ae (O4 [t] _ (fun k=>k< ((w.alloc (tO t a cap)).alloc (tO t a cap)).heap.size) _ (J7 (n:=w.heap.size+1) (alloc_at (w.alloc (tO t a cap)) (tO t a cap) (by simp)) (by simp) ((F.ext g).weaken (bW g))) (fun k hk=>hk) (by simp));have I:=ae (aj w (tO t a cap));have J:=ae (ak (aj w (tO t a cap)) (tO t a cap));have l:=qU (nm:=aC) t;obtain⟨sm,K⟩:=ay (small aC 1 1000 t);rw[K] at l h;have N:=ae l;obtain⟨b,c,d⟩:=ah I.o;dsimp only[tV] at h A⊢;obtain⟨Q,p⟩:=ay (qA [t]);have i:=ae p;rw[p] at B;clear F G g l K y p;go_enter Tryz.func37,Tryz.ntmps37;go_wp2_with fail;generalize (w.alloc (tO t a cap)).alloc (tO t a cap)=w1 at*;refine B.o.mono ?_;rintro e w3 ⟨rfl,q⟩;have j:=ae (H.o.trans q);have r:=ae (q.heap J.o id);clear q B H J I b c d;cases Q with
 |true=>
  obtain rfl:Z=true:=by rw[<-z.o];unfold IA;rw[i.o];rfl
  go_wp2_with fail;go_ret;exact⟨rfl,j.o⟩
 |false=>
  obtain⟨b,c,d⟩:=ah r.o;go_wp2_with fail;refine(h.o _ j.o).mono ?_;rintro e S ⟨rfl,u⟩;have C:=ae (j.o.trans u);have O:=ae (u.heap r.o id);clear u h j r b c d;by_cases hs:0<=sm
  .have t1:decide ((0:Int)<=sm)=true:=dT hs;have hf:formed aC t=true:=by rw[N.o];exact t1
   have P:=(uQ i.o)
   have D:=ae (A.o (by omega) _ C.o);have L:Hid (Z=decide ((60:Int)< (t.size:Int))):=ae (by
    rw[<-z.o];unfold IA;rw[i.o,hf,Bool.false_or,Bool.true_and,Bool.eq_iff_iff,decide_eq_true_eq,decide_eq_true_eq];omega)
   obtain⟨b,c,d⟩:=ah O.o;obtain⟨sz,E⟩:=ay t.size;rw[E] at D L;clear hf P E A;go_wp2_with fail;refine D.o.mono ?_;rintro e T ⟨rfl,M⟩;have R:=ae (C.o.trans M);clear M D b c d;obtain rfl:Z=decide ((60:Int)< (sz:Int)):=L.o;go_wp2_with fail;go_ret;exact⟨by first|rfl|simp,R.o⟩
  .have t1:decide ((0:Int)<=sm)=false:=dF hs;obtain rfl:Z=false:=by rw[<-z.o];unfold IA;rw[i.o,N.o,t1];rfl
   go_wp2_with fail;go_ret;exact⟨rfl,C.o⟩
end
theorem eqV (a b c d:By) (w:World):(Op.equalIn 10000 116 (.agg #[.string a,.string b]) (.agg #[.string c,.string d])).run Tryz.prog w= .ok (decide ((a,b)=(c,d))) w:=by
 have u9:=Tryz.underlying9;have hS:Tryz.prog.underlying 116=some (.struct (Tryz.prog.fieldsOf 116)):=by kernel_rfl
 have hp:Tryz.prog.stoodInHeld 116=false:=by kernel_rfl
 rw[show(10000:Nat)=9999+1 from rfl,run_equalIn_agg w 9999 116 _ _ hS hp];simp only[Program.fieldsOf,Tryz.underlying116];go_simp;have tl: ∀x y:By,x.toList=y.toList<->x=y:=fun x y=>⟨fun e=>lU (by rw[Lib.toList_data,Lib.toList_data] at e;exact e),fun e=>by rw[e]⟩
 by_cases h1:a=c<;>by_cases g:b=d<;>simp[h1,g,tl]
def lY (f:Vd) (l:List Vd):Bool:=l.any fun g=>decide (g=f)
theorem LU {f:Vd} {l:List Vd}:lY f l=true<->f∈l:=by
 unfold lY;rw[List.any_eq_true];exact⟨fun⟨x,h1,a⟩=>by rw[<-of_decide_eq_true a];exact h1,fun h=>⟨f,h,dT rfl⟩⟩
theorem afJ {f:Vd} {l:List Vd} (h:f∉l):lY f l=false:=by
 cases e:lY f l
 .rfl
 .exact absurd (LU.1 e) h
theorem afK (l:List Vd) (f:Vd) (v:Value) (S:Nat->Prop) (w:World) (hR:dM S w v l) (hl:l.length<=1000000):
  Calls Tryz.prog 237 #[v,.agg #[.string f.1,.string f.2]] w fun e w'=> ∃r:Int,e= .returned (.int .i64 r)/\decide (0<=r)=lY f l/\Ext w w':=by
 obtain⟨a,cap,rfl⟩:=hR.shape;have C:=ae hR;have D:=ae hl;have q:=ae ((uR w).alloc (dC f.1 f.2));have u:=ae (aj w (dC f.1 f.2));obtain⟨z,c1⟩:=aV u.o;have E:=ae (fun a b W=>eqV f.1 f.2 a b W);clear hR hl;go_enter Tryz.func237,Tryz.ntmps237;go_wp2_with fail;clear z c1;generalize w.alloc (dC f.1 f.2)=w2 at*;go_loopg [8] l.length (fun gk F wr=> ∃k:Nat,F= .int .i64 (k:Int)/\gk=l.length-k/\k<=l.length/\Hid (Ext w2 wr)/\Hid (f∉l.take k));case atStart=>exact⟨0,rfl,rfl,Nat.zero_le _,ae (au.refl _ _),ae (by simp)⟩
 case round=>
  obtain⟨k,rfl,rfl,hk,c,j⟩:=hrel;have G:=ae (c.o.heap u.o id);by_cases d:k<l.length
  .obtain ⟨g,off,B,y⟩:=((C.o.ext q.o).ext c.o).at_ (by omega);subst B;obtain⟨H,I⟩:=y k d;obtain⟨z,c1⟩:=aV G.o;obtain⟨z0,N,z2,M⟩:=bH d;have t:vg l k∈l:=by unfold vg;rw[gZ d];exact List.getElem_mem d
   have n:Hid (f≠vg l k->f∉l.take (k+1)):=ae (fun h=>by
    rw[List.take_add_one,List.mem_append];rintro(h1|h1)
    .exact j.o h1
    .apply h;unfold vg;rw[List.getElem?_eq_getElem d] at h1;rw[List.getD_eq_getElem?_getD,List.getElem?_eq_getElem d];simpa using h1)
   have p:Hid (f=vg l k->lY f l=true):=ae (fun h=>by rw[h];exact LU.2 t);have heq:=fun W=>E.o (vg l k).1 (vg l k).2 W;have O:=D.o;obtain⟨x,hx⟩:=ay (vg l k)
   rw[hx] at H I n p heq;have A:decide ((f.1,f.2)=(x.1,x.2))=decide (f=x):=rfl;rw[A] at heq;clear y t hx j A;by_cases i:f=x
   .rw [dT i] at heq;have J:=ae (p.o i);clear p n i;go_wp2_with fail;go_quiet (fail);go_wp2_with fail;all_goals go_ret
    all_goals exact⟨_,rfl,by rw[J.o];exact dT z0,q.o.trans (by first|exact c.o|exact c.o.drewN' _)⟩
   .rw [dF i] at heq;have K:=ae (n.o i);clear p n i;go_wp2_with fail;go_quiet (fail);go_wp2_with fail;go_roundg (l.length- (k+1));case measure=>omega
    case rel=>exact⟨k+1,by go_num,rfl,by omega,ae (by first|exact c.o|exact c.o.drewN' _),K⟩
  .obtain rfl:k=l.length:=by omega
   have z2:decide ((l.length:Int)< (l.length:Int))=false:=dF (by omega);have L:Hid (lY f l=false):=ae (afJ (by have:=j.o;rw[List.take_length] at this;exact this));clear j;go_wp2_with fail;go_ret;exact⟨_,rfl,by rw[L.o];rfl,q.o.trans c.o⟩
theorem afL (l:List Vd) (f:Vd) (v:Value) (S:Nat->Prop) (w:World) (hR:dM S w v l) (hl:l.length<=1000000):
  Calls Tryz.prog 215 #[v,.agg #[.string f.1,.string f.2]] w fun e w'=>e= .returned (.bool (lY f l))/\Ext w w':=by
 have g:=ae (fun W (hW:Ext w W)=>afK l f v S W (hR.ext hW) hl);obtain⟨a,cap,rfl⟩:=hR.shape;have c:=ae ((uR w).alloc (dC f.1 f.2));have hb:=aj w (dC f.1 f.2);obtain⟨h,c1⟩:=aV hb;clear hR hl hb;go_enter Tryz.func215,Tryz.ntmps215;go_wp2_with fail;refine(g.o _ c.o).mono ?_;rintro e j ⟨r,rfl,hr,b⟩;have i:=ae (c.o.trans b);have d:=ae hr;clear b hr h c1;go_wp2_with fail;go_ret;rw[<-d.o];exact⟨rfl,i.o⟩
theorem aj' (l:List Vd) (f:Vd) (lv:Value) (S:Nat->Prop) (d:Nat) (w:World) (hR:dM S w lv l) (hc:w.cell? ⟨d,0,none⟩=some lv) (hl:l.length<=1000000):
  Calls Tryz.prog 214 #[.agg #[.string f.1,.string f.2],.pointer (az d)] w fun e w'=>e= .returned (.bool (!lY f l))/\Ext w w':=by
 have g:=ae (fun W (hW:Ext w W)=>afL l f lv S W (hR.ext hW) hl);obtain⟨a,cap,rfl⟩:=hR.shape;have b:=ae ((uR w).alloc (dC f.1 f.2));have hb:=aj w (dC f.1 f.2);obtain⟨i,c1⟩:=aV hb;have d0:=b.o.cell hc id;obtain⟨B,h⟩:=ay (lY f l);rw[h] at g⊢;clear hR hl hb hc h;go_enter Tryz.func214,Tryz.ntmps214;go_wp2_with fail;refine(g.o _ b.o).mono ?_;rintro e k ⟨rfl,c⟩;have j:=ae (b.o.trans c);clear c i c1 d0;go_wp2_with fail;go_ret;exact⟨rfl,j.o⟩
theorem adY (l m:List Vd) (lv v:Value) (S T:Nat->Prop) (n:Nat) (w:World) (D:dM S w lv l) (hc:w.cell? ⟨n,0,none⟩=some lv) (hR:dM T w v m) (hl:l.length<=1000000) (hm:m.length<=1000000):
  Calls Tryz.prog 236 #[v,.func (.func 214) #[] #[.pointer (az n)]] w fun e w'=> ∃r:Int,e= .returned (.int .i64 r)/\decide (0<=r)=(m.any fun f=>!lY f l)/\Ext w w':=by
 obtain⟨a,cap,rfl⟩:=hR.shape;have J:=ae hR;have H:=ae hm;have u:=ae (fun f W (hW:Ext w W)=>aj' l f lv S n W (D.ext hW) (hW.cell hc id) hl);obtain⟨p,hp⟩: ∃p:Vd->Bool,(fun f=>!lY f l)=p:=⟨_,rfl⟩
 have z: ∀f,(!lY f l)=p f:=fun f=>by rw[<-hp]
 have u:Hid (∀f W,Ext w W->Calls Tryz.prog 214 #[.agg #[.string f.1,.string f.2],.pointer (az n)] W fun e w'=>e= .returned (.bool (p f))/\Ext W w'):=ae (fun f W hW=>by rw[<-z f];exact u.o f W hW);rw[hp];clear hR D hc hl hm hp z;go_enter Tryz.func236,Tryz.ntmps236;go_wp2_with fail;go_loopg [8] m.length (fun gk K wr=> ∃k:Nat,K= .int .i64 (k:Int)/\gk=m.length-k/\k<=m.length/\Hid (Ext w wr)/\Hid ((m.take k).any p=false));case atStart=>exact⟨0,rfl,rfl,Nat.zero_le _,ae (au.refl _ _),ae rfl⟩
 case round=>
  obtain⟨k,rfl,rfl,hk,d,q⟩:=hrel;by_cases c:k<m.length
  .obtain ⟨g,off,I,A⟩:=(J.o.ext d.o).at_ (by omega);subst I;obtain⟨E,F⟩:=A k c;obtain⟨z0,Q,z2,O⟩:=bH c;have y:vg m k∈m:=by unfold vg;rw[gZ c];exact List.getElem_mem c
   have B:m.take (k+1)=m.take k++[vg m k]:=by
    rw[List.take_add_one];unfold vg;rw[List.getD_eq_getElem?_getD,List.getElem?_eq_getElem c];rfl
   have i:Hid (p (vg m k)=false->(m.take (k+1)).any p=false):=ae (fun h=>by
    rw[B,List.any_append,q.o,List.any_cons,List.any_nil,h];rfl)
   have j:Hid (p (vg m k)=true->m.any p=true):=ae (fun h=>List.any_eq_true.2 ⟨_,y,h⟩);have t:=ae (u.o (vg m k) wr d.o);have P:=H.o;obtain⟨x,hx⟩:=ay (vg m k);rw[hx] at E F i j t;obtain⟨b,hb⟩:=ay (p x);rw[hb] at i j t;clear A y hx q B hb;go_wp2_with fail;refine t.o.mono ?_;rintro e R ⟨rfl,C⟩;have G:=ae (d.o.trans C);clear C E F t d;cases b
   .have L:=ae (i.o rfl);clear i j;go_wp2_with fail;go_roundg (m.length- (k+1));case measure=>omega
    case rel=>exact⟨k+1,by go_num,rfl,by omega,G,L⟩
   .have M:=ae (j.o rfl);clear i j;go_wp2_with fail;go_ret;exact⟨_,rfl,by rw[M.o];exact dT z0,G.o⟩
  .obtain rfl:k=m.length:=by omega
   have z2:decide ((m.length:Int)< (m.length:Int))=false:=dF (by omega);have N:Hid (m.any p=false):=ae (by have:=q.o;rw[List.take_length] at this;exact this);clear q;go_wp2_with fail;go_ret;exact⟨_,rfl,by rw[N.o];rfl,d.o⟩
theorem adJ (l m:List Vd) (lv v:Value) (S T:Nat->Prop) (a:Nat) (w:World) (c:dM S w lv l) (hc:w.cell? ⟨a,0,none⟩=some lv) (hR:dM T w v m) (hl:l.length<=1000000) (hm:m.length<=1000000):
  Calls Tryz.prog 213 #[v,.func (.func 214) #[] #[.pointer (az a)]] w fun e w'=>e= .returned (.bool (m.any fun f=>!lY f l))/\Ext w w':=by
 have d:=ae (adY l m lv v S T a w c hc hR hl hm);obtain⟨B,g⟩:=ay ((m.any fun f=>!lY f l));rw[g] at d⊢;clear c hc hR hl hm g;go_enter Tryz.func213,Tryz.ntmps213;go_wp2_with fail;refine d.o.mono ?_;rintro e j ⟨r,rfl,hr,b⟩;have i:=ae b;have h:=ae hr;clear b hr;go_wp2_with fail;go_ret;rw[<-h.o];exact⟨rfl,i.o⟩
def qN (r:Rl):Bool:=wf aC r.1&&wf aC r.2&&decide (r.1.sort=ai)&&!((tK r.2).1.any fun f=>!lY f (tK r.1).1)
theorem Nb (t:Tm):(tK t).1.length<=t.size:=by
 unfold tK;split
 .have h1:=Ep (vl (bu t)) [];have a:=Xn t;simp only[List.length_nil] at h1;show(dO [] (vl (bu t))).1.length<=_;omega
 .simp
theorem adI (x y:Tm) (l n:Option Addr) (p q:Nat) (w:World) (hx:aG (fun k=>k<w.heap.size) w x.kids (.slice l x.kids.length p)) (hy:aG (fun k=>k<w.heap.size) w y.kids (.slice n y.kids.length q)) (r:dI w) (av:x.size<=100000) (aw:y.size<=100000):
  Calls Tryz.prog 170 #[.agg #[.string x.name,.string x.sort,.slice l x.kids.length p,.string y.name,.string y.sort,.slice n y.kids.length q]] w fun e w'=>e= .returned (.bool (qN (x,y)))/\Ext w w':=by
 have F:=ae (fun W (hW:Ext w W)=>Bh x _ W (aT r hW) ⟨l,p,rfl,(hx.ext hW).weaken (bW hW)⟩ (by omega));have G:=ae (fun W (hW:Ext w W)=>Bh y _ W (aT r hW) ⟨n,q,rfl,(hy.ext hW).weaken (bW hW)⟩ (by omega));have t:=ae (fun W (hW:Ext w W)=>uz x _ W (aT r hW) ⟨l,p,rfl,(hx.ext hW).weaken (bW hW)⟩ (by omega));have H:=ae (fun W (hW:Ext w W)=>uz y _ W (aT r hW) ⟨n,q,rfl,(hy.ext hW).weaken (bW hW)⟩ (by omega));have aa:Hid ((tK x).1.length<=1000000):=ae (by have:=Nb x;omega);have ab:Hid ((tK y).1.length<=1000000):=ae (by have:=Nb y;omega);have ak:Hid (Ext w (w.alloc (aA x.name x.sort l x.kids.length p y.name y.sort n y.kids.length q))):=ae ((uR w).alloc _);have U:=ae (aj w (aA x.name x.sort l x.kids.length p y.name y.sort n y.kids.length q));unfold qN;dsimp only[tV] at F G t H⊢;obtain⟨A,hA⟩:=ay (wf aC x);obtain⟨B,al⟩:=ay (wf aC y);obtain⟨a,ad⟩:=ay (tK x);obtain⟨u,af⟩:=ay (tK y);rw[hA] at F⊢;rw[al] at G⊢;rw[ad] at t aa⊢;rw[af] at H ab⊢;obtain⟨R,hR⟩:=ay ((A&&B&&decide (x.sort=ai)&&!(u.1.any fun f=>!lY f a.1)));rw[hR];have b:=ae hR;obtain⟨d,c,g,h,i,j⟩:=eY U.o;clear hA al ad af hR hx hy r av aw;go_enter Tryz.func170,Tryz.ntmps170;go_wp2_with fail;refine(F.o _ ak.o).mono ?_;rintro e aE ⟨rfl,M⟩;have I:=ae (ak.o.trans M);have N:=ae (M.heap U.o id);clear M d c g h i j F U;obtain⟨d,c,g,h,i,j⟩:=eY N.o;cases A
 .go_wp2_with fail;all_goals go_ret
  all_goals (first|exact⟨by rw[<-b.o];rfl,I.o⟩|exact⟨by rw[<-b.o];simp,I.o⟩)
 .go_wp2_with fail;refine(G.o _ I.o).mono ?_;rintro e aF ⟨rfl,O⟩;have z:=ae (I.o.trans O);have J:=ae (O.heap N.o id);clear O d c g h i j G N;obtain⟨d,c,g,h,i,j⟩:=eY J.o;cases B
  .go_wp2_with fail;all_goals go_ret
   all_goals (first|exact⟨by rw[<-b.o];rfl,z.o⟩|exact⟨by rw[<-b.o];simp,z.o⟩)
  .by_cases C:x.sort.size=0
   .have P:=gJ _ C;have ah:decide (x.sort=ai)=true:=dT P;have D:Hid ((!(u.1.any fun f=>!lY f a.1))=R):=ae (by rw[<-b.o,ah];simp);rw[P] at c;rw[P] at t J;clear b ah;go_wp2_with fail;refine(t.o _ z.o).mono ?_;rintro e K ⟨aH,rfl,Q,S⟩;obtain⟨fa,L,rfl⟩:=dM.shape Q;have hQ:=(uR K).alloc (.cells #[.slice fa a.1.length L] 111);have an:=ae ((z.o.trans S).trans hQ);have ao:=ae ((S.trans hQ).heap J.o id);have ax:=ae (Q.ext hQ);have aq:=ae (aj K (.cells #[.slice fa a.1.length L] 111));clear d c g h i j t J Q S hQ;obtain⟨n6,V⟩:=ay K.heap.size;rw[V] at aq;obtain⟨d,c,g,h,i,j⟩:=eY ao.o;go_wp2_with fail;try rw[V]
    clear V;generalize K.alloc (.cells #[.slice fa a.1.length L] 111)=aI at*;refine(H.o _ an.o).mono ?_;rintro e az ⟨aJ,rfl,T,E⟩;obtain⟨ga,gc,rfl⟩:=dM.shape T;have aB:=ae (an.o.trans E);have X:=ae (adJ a.1 u.1 (.slice fa a.1.length L) (.slice ga u.1.length gc) _ _ n6 az (ax.o.ext E) (ag (E.heap aq.o id) 0 _ rfl) T aa.o ab.o);obtain⟨Z,ar⟩:=ay ((u.1.any fun f=>!lY f a.1));rw[ar] at X D;clear d c g h i j H ao T E ar;go_wp2_with fail;refine X.o.mono ?_;rintro e aK ⟨rfl,au⟩;have aD:=ae (aB.o.trans au);clear au X;go_wp2_with fail;go_ret;exact⟨by rw[<-D.o];rfl,aD.o⟩
   .have hne:x.sort≠ai:=fun e=>C (by rw[e];rfl);obtain⟨aL,aM,aN,aO⟩:=eG x.sort (Nat.pos_of_ne_zero C);have Y:decide (x.sort=ai)=false:=dF hne;have D:Hid (R=false):=ae (by rw[<-b.o,Y];simp);clear b Y hne C
    go_wp2_with fail;all_goals go_ret
    all_goals (rw[D.o];exact⟨rfl,z.o⟩)
theorem ZH (x y:Tm) (a b:Option Addr) (c d:Nat) (w:World) (hx:aG (fun k=>k<w.heap.size) w x.kids (.slice a x.kids.length c)) (hy:aG (fun k=>k<w.heap.size) w y.kids (.slice b y.kids.length d)) (h:dI w) (i:x.size<=100000) (j:y.size<=100000):
  Calls Tryz.prog 169 #[.agg #[.string x.name,.string x.sort,.slice a x.kids.length c,.string y.name,.string y.sort,.slice b y.kids.length d]] w fun e w'=>e= .returned (.bool (!qN (x,y)))/\Ext w w':=by
 have g:=ae (fun W (hW:Ext w W)=>adI x y a b c d W ((hx.ext hW).weaken (bW hW)) ((hy.ext hW).weaken (bW hW)) (aT h hW) i j);have n:Hid (Ext w (w.alloc (aA x.name x.sort a x.kids.length c y.name y.sort b y.kids.length d))):=ae ((uR w).alloc _);have p:=ae (aj w (aA x.name x.sort a x.kids.length c y.name y.sort b y.kids.length d));obtain⟨R,hR⟩:=ay (qN (x,y));rw[hR] at g⊢;obtain⟨q,r,t,u,z,A⟩:=eY p.o;clear hx hy h i j hR;go_enter Tryz.func169,Tryz.ntmps169;go_wp2_with fail;refine(g.o _ n.o).mono ?_;rintro e C ⟨rfl,l⟩;have B:=ae (n.o.trans l);clear l q r t u z A g p;go_wp2_with fail;go_ret;exact⟨rfl,B.o⟩
theorem ZI (p:Rl->Bool) (d:Nat->World->Prop) (U: ∀k W W',d k W->Ext W W'->d k W') (L:List Rl) (v:Value) (S:Nat->Prop) (w:World) (hw:d 0 w) (hl:L.length<=1000000)
  (hR: ∀k W,d k W->jH S W L v) (hf: ∀k,k<L.length->∀A B C D W,d k W->aG S W (rg L k).1.kids (.slice A (rg L k).1.kids.length B)->aG S W (rg L k).2.kids (.slice C (rg L k).2.kids.length D)->Calls Tryz.prog 169 #[.agg #[.string (rg L k).1.name,.string (rg L k).1.sort,.slice A (rg L k).1.kids.length B,.string (rg L k).2.name,.string (rg L k).2.sort,.slice C (rg L k).2.kids.length D]] W fun e W'=>e= .returned (.bool (p (rg L k)))/\d (k+1) W'):
  Calls Tryz.prog 165 #[v,.func (.func 169) #[] #[]] w fun e w'=>e= .returned (.int .i64 (if L.findIdx p<L.length then(L.findIdx p:Int) else -1))/\∃k,k<=L.length/\d k w':=by
 obtain⟨a,cap,rfl⟩:=(hR 0 w hw).shape;have V:=ae hw;have Y:=ae hR;have Z:=ae hf;obtain⟨X,E⟩: ∃X:Int,(if L.findIdx p<L.length then(L.findIdx p:Int) else -1)=X:=⟨_,rfl⟩
 rw[E];have Q:=ae E;clear hw hR hf U E;go_enter Tryz.func165,Tryz.ntmps165;go_wp2_with fail;go_loopg [8] L.length (fun gk aa wr=> ∃k:Nat,aa= .int .i64 (k:Int)/\gk=L.length-k/\k<=L.length/\Hid (d k wr)/\Hid (∀j,j<k->p (rg L j)=false));case atStart=>exact⟨0,rfl,rfl,Nat.zero_le _,V,ae (fun j h=>absurd h (Nat.not_lt_zero _))⟩
 case round=>
  obtain⟨k,rfl,rfl,hk,u,z⟩:=hrel;have n: ∀j,(h:j<L.length)->rg L j=L[j]:=fun j h=>by unfold rg;rw[gZ h];rfl
  by_cases q:k<L.length
  .obtain ⟨g,off,T,_,N⟩:=(Y.o k wr u.o).at_ (by omega);subst T;obtain⟨A,B,C,D,F,G,H,I,J,K,hx,hy⟩:=N k q;obtain⟨z0,ai,z2,ah⟩:=bH q;have t:=ae (Z.o k q _ _ _ _ wr u.o hx hy);have i:Hid (p (rg L k)=false->∀j,j<k+1->p (rg L j)=false):=ae (fun h j ab=>by
    rcases Nat.lt_succ_iff_lt_or_eq.1 ab with M|M
    .exact z.o j M
    .rw [M];exact h)
   have l:Hid (p (rg L k)=true->L.findIdx p=k):=ae (fun h=>by
    rcases Nat.lt_trichotomy (L.findIdx p) k with e|e|e
    .have h1:L.findIdx p<L.length:=by omega
     have c:=List.findIdx_getElem (w:=h1);rw[<-n _ h1,z.o _ e] at c;cases c
    .exact e
    .have c:=List.not_of_lt_findIdx e;rw[<-n _ q] at c;rw[c] at h;cases h)
   obtain⟨⟨x,y⟩,O⟩: ∃r,rg L k=r:=⟨_,rfl⟩
   rw[O] at F G H I J K t i l;dsimp only at F G H I J K t i l;obtain⟨b,hb⟩:=ay (p (x,y));rw[hb] at t i l;clear N hx hy O hb z n;go_wp2_with fail;refine t.o.mono ?_;rintro e aj ⟨rfl,P⟩;have R:=ae P;clear P F G H I J K t u;cases b
   .have ad:=ae (i.o rfl);clear i l;go_wp2_with fail;go_roundg (L.length- (k+1));case measure=>omega
    case rel=>exact⟨k+1,by go_num,rfl,by omega,R,ad⟩
   .have af:=ae (l.o rfl);clear i l;go_wp2_with fail;go_ret;exact⟨by rw[<-Q.o,af.o,if_pos q];rfl,k+1,by omega,R.o⟩
  .obtain rfl:k=L.length:=by omega
   have z2:decide ((L.length:Int)< (L.length:Int))=false:=dF (by omega);have ag:Hid (¬L.findIdx p<L.length):=ae (fun h=>by
    have c:=List.findIdx_getElem (w:=h);rw[<-n _ h,z.o _ h] at c;cases c)
   clear n;go_wp2_with fail;go_ret;exact⟨by rw[<-Q.o,if_neg ag.o];rfl,L.length,Nat.le_refl _,u.o⟩
theorem ZJ (p:Rl->Bool) (a:Nat->World->Prop) (i: ∀k W W',a k W->Ext W W'->a k W') (L:List Rl) (v:Value) (S:Nat->Prop) (w:World) (hw:a 0 w) (hl:L.length<=1000000)
  (hR: ∀k W,a k W->jH S W L v) (hf: ∀k,k<L.length->∀j l n q W,a k W->aG S W (rg L k).1.kids (.slice j (rg L k).1.kids.length l)->aG S W (rg L k).2.kids (.slice n (rg L k).2.kids.length q)->Calls Tryz.prog 169 #[.agg #[.string (rg L k).1.name,.string (rg L k).1.sort,.slice j (rg L k).1.kids.length l,.string (rg L k).2.name,.string (rg L k).2.sort,.slice n (rg L k).2.kids.length q]] W fun e W'=>e= .returned (.bool (p (rg L k)))/\a (k+1) W'):
  Calls Tryz.prog 106 #[v,.func (.func 169) #[] #[]] w fun e w'=>e= .returned (.bool (L.any p))/\∃k,k<=L.length/\a k w':=by
 have c:=ae (ZI p a i L v S w hw hl hR hf);have d:Hid (decide (L.findIdx p<L.length)=L.any p):=ae (by rw[Bool.eq_iff_iff,decide_eq_true_eq,List.findIdx_lt_length,List.any_eq_true]);clear hw hR hf i;by_cases h:L.findIdx p<L.length
 .have hv:L.any p=true:=by rw[<-d.o];exact dT h
  rw[hv];rw[if_pos h] at c;have z0:(0:Int)<=((L.findIdx p:Nat):Int):=by omega
  generalize L.findIdx p=X at*;clear h hv;go_enter Tryz.func106,Tryz.ntmps106;go_wp2_with fail;refine c.o.mono ?_;rintro e r ⟨rfl,k,hk,b⟩;have g:=ae b;clear b;go_wp2_with fail;go_ret;exact⟨by first|rfl|simp,k,hk,g.o⟩
 .have hv:L.any p=false:=by rw[<-d.o];exact dF h
  rw[hv];rw[if_neg h] at c;clear h hv d;go_enter Tryz.func106,Tryz.ntmps106;go_wp2_with fail;refine c.o.mono ?_;rintro e r ⟨rfl,k,hk,b⟩;have g:=ae b;clear b;go_wp2_with fail;go_ret;exact⟨by first|rfl|simp,k,hk,g.o⟩
theorem adK (L:List Rl) (v:Value) (w:World) (hR:jH (fun k=>k<w.heap.size) w L v) (c:dI w) (hl:L.length<=1000000) (hs: ∀r∈L,r.1.size<=100000/\r.2.size<=100000):Calls Tryz.prog 106 #[v,.func (.func 169) #[] #[]] w fun e w'=>e= .returned (.bool (L.any fun r=>!qN r))/\Ext w w':=
 (ZJ (fun r=>!qN r) (fun _ W=>Ext w W) (fun _ _ _ h a=>h.trans a) L v (fun k=>k<w.heap.size) w (au.refl _ _) hl (fun k W h=>hR.ext h) (fun k hk d g i l W h hx hy=>(ZH (rg L k).1 (rg L k).2 d i g l W (hx.weaken (fun j b=>aP b h.size)) (hy.weaken (fun j b=>aP b h.size)) (aT c h) (hs _ (nZ hk)).1 (hs _ (nZ hk)).2).mono fun e W' ⟨h1,a⟩=>⟨h1,h.trans a⟩)).mono fun e w' ⟨h1,k,_,a⟩=>⟨h1,a⟩
def dQ (l:List Rl):Bool:=decide (l.length<=100)&&!(l.any fun r=>!qN r)
theorem GI (L:List Rl) (v:Value) (w:World) (hR:jH (fun k=>k<w.heap.size) w L v) (g:dI w) (hl:L.length<=1000000) (hs: ∀r∈L,r.1.size<=100000/\r.2.size<=100000):Calls Tryz.prog 115 #[v] w fun e w'=>e= .returned (.bool (dQ L))/\Ext w w':=by
 have b:=ae (adK L v w hR g hl hs);obtain⟨a,c,rfl⟩:=hR.shape;unfold dQ;obtain⟨Z,j⟩:=ay ((L.any fun r=>!qN r));rw[j] at b⊢;clear hR g hl hs j;by_cases h:L.length<=100
 .have d:(L.length:Int)<=100:=by omega
  have l:decide ((L.length:Int)<=100)=true:=dT d;rw[dT h,Bool.true_and];clear h;go_enter Tryz.func115,Tryz.ntmps115;go_wp2_with fail;refine b.o.mono ?_;rintro e p ⟨rfl,i⟩;have n:=ae i;clear i b;go_wp2_with fail;go_ret;exact⟨rfl,n.o⟩
 .have d: ¬(L.length:Int)<=100:=by omega
  have l:decide ((L.length:Int)<=100)=false:=dF d;rw[dF h,Bool.false_and];clear h b;go_enter Tryz.func115,Tryz.ntmps115;go_wp2_with fail;go_ret;exact⟨rfl,au.refl _ _⟩
def nU (l:List Rl) (t:Tm):Tm×(Nat×List Nat)×Int:=match jk l t with
 |none=>(dD,(0,[]),12)
 |some x=>if(iD t x.2.1 x.2.2).2=0 then((iD t x.2.1 x.2.2).1,(x.1,x.2.1),0) else(dD,(0,[]),(iD t x.2.1 x.2.2).2)
def rE (n0:Nat) (F:Tm×(Nat×List Nat)×Int) (e:Ending) (w':World):Prop:= ∃r pv,e= .returned (.tuple #[tV F.1 r,.agg #[.int .i64 (F.2.1.1:Int),pv],.int .i64 F.2.2])/\aG (fun k=>n0<=k/\k<w'.heap.size) w' F.1.kids r/\aB (fun k=>n0<=k/\k<w'.heap.size) w' 1 pv F.2.1.2.length (F.2.1.2.map (fun i:Nat=>Value.int .i64 (i:Int)))
theorem rE.mk {n0:Nat} {F:Tm×(Nat×List Nat)×Int} {e:Ending} {w':World} (r pv:Value) (h1:e= .returned (.tuple #[tV F.1 r,.agg #[.int .i64 (F.2.1.1:Int),pv],.int .i64 F.2.2])) (a:aG (fun k=>n0<=k/\k<w'.heap.size) w' F.1.kids r) (b:aB (fun k=>n0<=k/\k<w'.heap.size) w' 1 pv F.2.1.2.length (F.2.1.2.map (fun i:Nat=>Value.int .i64 (i:Int)))):rE n0 F e w':=⟨r,pv,h1,a,b⟩
theorem rE.zero {n0:Nat} {F:Tm×(Nat×List Nat)×Int} {e:Ending} {w':World} {c:Int} (hF:F=(dD,(0,[]),c)) (h:e= .returned (.tuple #[.agg #[.string ⟨#[]⟩,.string ⟨#[]⟩,.slice none 0 0],.agg #[.int .i64 0,.slice none 0 0],.int .i64 c])):rE n0 F e w':=by
 subst hF;exact⟨_,_,h,aG.nil _ _,aB.nil _ _ _⟩
theorem ae8 (l:List Rl) (t:Tm) (lv v:Value) (w:World) (aS:jH (fun k=>k<w.heap.size) w l lv) (aa:bQ (fun k=>k<w.heap.size) w t v) (a8:dI w) (ba:l.length<=1000000) (aM: ∀r∈l,r.1.size<=100000/\r.2.size<=100000) (bb:t.size<=100000) (bs: ∃N,(∀r∈l,r.2.size<=N)/\N*t.size<=100000):
  Calls Tryz.prog 126 #[lv,v] w fun e w'=>rE w.heap.size (nU l t) e w'/\Ext w w':=by
 have aU:=ae (fun W (hW:Ext w W)=>TQ l ba (fun r hr=>⟨by have:=(aM r hr).1;omega,by have:=(aM r hr).2;omega⟩) t v lv (.slice none 0 0) (fun k=>k<w.heap.size) (fun k=>k<w.heap.size) (fun _=>False) [] W (aa.ext hW) (aS.ext hW) (aB.nil _ _ _) (bW hW) (bW hW) (by omega) (by simp;omega));have bk:=ae aa;obtain⟨a,cap,rfl,aa⟩:=aa;obtain⟨bE,lc,rfl⟩:=aS.shape;have HAS:=ae a8;have bl:=ae (And.intro bb bs);have aW:=ae ((((uR w).alloc (tO t a cap)).alloc zO).alloc (aH 0 none 0 0));have V:=ae (ak (ak (aj w (tO t a cap)) zO) (aH 0 none 0 0));have aw:=ae (ak (alloc_at (w.alloc (tO t a cap)) zO (n:=w.heap.size+1) (by simp)) (aH 0 none 0 0));have az:=ae (alloc_at ((w.alloc (tO t a cap)).alloc zO) (aH 0 none 0 0) (n:=w.heap.size+2) (by simp));have bc:(((w.alloc (tO t a cap)).alloc zO).alloc (aH 0 none 0 0)).heap.size=w.heap.size+3:=by simp
 have aA:=ae bc;obtain⟨aX,c1,c2⟩:=ah V.o;dsimp only[tV] at aU⊢;obtain⟨F,hF⟩:=ay (nU l t);have aD:=ae hF;rw[hF];clear aS aa a8 ba aM bb bc hF;go_enter Tryz.func126,Tryz.ntmps126;go_wp2_with fail;refine(aU.o _ aW.o).mono ?_;rintro e g ⟨⟨⟨pa,d⟩,ua,uc⟩,B,rfl,bd,aN,D⟩;obtain⟨o,ho⟩:=ay (jk l t);have aE:=ae ho;rw[ho] at bd⊢;clear ho aX c1 c2 aU;dsimp only[DI];cases o with
 |none=>
  rw[show(fq none []).length=0 from rfl,show(ft none).name=⟨#[]⟩ from rfl,show(ft none).sort=⟨#[]⟩ from rfl,show(ft none).kids.length=0 from rfl,show((fi none:Nat):Int)=0 from rfl];have x:=((uR g).alloc (aH 0 pa 0 d)).alloc (af ⟨#[]⟩ ⟨#[]⟩ ua 0 uc);have S:=ae ((aW.o.trans D).trans x);have aY:=ae ((D.trans x).heap V.o id);have A:=ae ((D.trans x).heap aw.o id);have E:=ae ((D.trans x).heap az.o id);have ab:=ae (ak (aj g (aH 0 pa 0 d)) (af ⟨#[]⟩ ⟨#[]⟩ ua 0 uc));have aF:=ae (alloc_at (g.alloc (aH 0 pa 0 d)) (af ⟨#[]⟩ ⟨#[]⟩ ua 0 uc) (n:=g.heap.size+1) (by simp));have ad:Hid (w.heap.size+3<=g.heap.size):=ae (by rw[<-aA.o];exact D.size);have T:=ae x;clear V aw az;simp only[Option.isSome_none];have O:Hid (F=(dD,(0,[]),12)):=ae (by rw[<-aD.o];unfold nU;rw[aE.o]);clear ab aF aD;obtain⟨d0,d1,d2⟩:=ah A.o;have fd:=fun i=>ax A.o i;have H:=iZ ((g.alloc (aH 0 pa 0 d)).alloc (af ⟨#[]⟩ ⟨#[]⟩ ua 0 uc)) (w.heap.size+1) (.string ⟨#[]⟩) (.string ⟨#[]⟩) (.slice none 0 0);have b:=H.heap E.o (by omega);obtain⟨ag,r1⟩:=aV b;have fr:=fun i=>ax b i;clear H b
  go_wp2_with fail;generalize ((g.alloc (aH 0 pa 0 d)).alloc (af ⟨#[]⟩ ⟨#[]⟩ ua 0 uc))=aZ at*;have X:=lL A.o (.string ⟨#[]⟩) (.string ⟨#[]⟩) (.slice none 0 0);have L:=iZ aZ (w.heap.size+1) (.string ⟨#[]⟩) (.string ⟨#[]⟩) (.slice none 0 0);have b:=L.heap E.o (by omega);clear d0 d1 d2 fd ag r1 fr;generalize ((aZ.setCell ⟨w.heap.size+1,0,none⟩ (.string ⟨#[]⟩)).setCell ⟨w.heap.size+1,1,none⟩ (.string ⟨#[]⟩)).setCell ⟨w.heap.size+1,2,none⟩ (.slice none 0 0)=C at*;have Y:((C.setCell ⟨w.heap.size+2,0,none⟩ (.int .i64 0)).setCell ⟨w.heap.size+2,1,none⟩ (.slice none 0 0)).heap[w.heap.size+2]?=some (aH 0 none 0 0):=by simpa using setBlock (setBlock b 0 (.int .i64 0)) 1 (.slice none 0 0)
  have M:au (fun j=>j=w.heap.size+2) C ((C.setCell ⟨w.heap.size+2,0,none⟩ (.int .i64 0)).setCell ⟨w.heap.size+2,1,none⟩ (.slice none 0 0)):=((au.refl (fun j=>j=w.heap.size+2) C).setCell (p:=⟨w.heap.size+2,0,none⟩) (.inl rfl) _).setCell (p:=⟨w.heap.size+2,1,none⟩) (.inl rfl) _;have Z:=M.heap X (by omega);have hu:au (fun j=>j=w.heap.size+1\/j=w.heap.size+2) aZ _:=(L.mono (fun _ _ h=> .inl h)).trans (M.mono (fun _ _ h=> .inr h));obtain⟨ai,al,an⟩:=ah Z;obtain⟨ao,aq⟩:=aV Y;refine bodyPost_ret (v:= .tuple #[.agg #[.string ⟨#[]⟩,.string ⟨#[]⟩,.slice none 0 0],.agg #[.int .i64 0,.slice none 0 0],.int .i64 12]) (by simp[results,Tryz.results126,go_sem,ai,al,an,ao,aq]) rfl ?_;exact⟨rE.zero O.o rfl,S.o.trans' hu (fun j U e=>by omega)⟩
 |some y=>
  obtain⟨i,p,u⟩:=y;have a1:fq (some (i,p,u)) []=p:=by simp[fq]
  have aO:ft (some (i,p,u))=u:=rfl;have bf:fi (some (i,p,u))=i:=rfl;rw[a1,aO,bf];obtain⟨P,R⟩:=bd;rw[a1] at P;rw[aO] at R;dsimp only at P R;have x:=((uR g).alloc (aH (i:Int) pa p.length d)).alloc (tO u ua uc);have S:=ae ((aW.o.trans D).trans x);have aY:=ae ((D.trans x).heap V.o id);have A:=ae ((D.trans x).heap aw.o id);have E:=ae ((D.trans x).heap az.o id);have ab:=ae (ak (aj g (aH (i:Int) pa p.length d)) (tO u ua uc));have aF:=ae (alloc_at (g.alloc (aH (i:Int) pa p.length d)) (tO u ua uc) (n:=g.heap.size+1) (by simp));have ad:Hid (w.heap.size+3<=g.heap.size):=ae (by rw[<-aA.o];exact D.size);have T:=ae x;clear V aw az;replace P:=aB.kept P x (fun _ _ h=>h);replace R:=R.kept x (fun _ _ h=>h);simp only[Option.isSome_some];have aQ:=yP l t i p u aE.o;obtain⟨bt,N,bm,bg⟩:=bl.o;have bn:=Pg (N:=N) aE.o bm;have bu:=Bi p t aQ.1;have bo:u.size<=100000:=Nat.le_trans bn bg;have a6:=ae (fun W (hW:Ext ((g.alloc (aH (i:Int) pa p.length d)).alloc (tO u ua uc)) W)=>Vu t u p (.agg #[.string t.name,.string t.sort,.slice a t.kids.length cap]) (.agg #[.string u.name,.string u.sort,.slice ua u.kids.length uc]) (.slice pa p.length d) (fun k=>k<W.heap.size) B B W ((bk.o.ext (S.o.trans hW)).weaken (fun k hk=>aP hk (S.o.trans hW).size)) ⟨ua,uc,rfl,(R.kept hW (fun _ _ h=>h)).read⟩ (fun k hk=>hk) (fun k hk=>aP (aN k hk).2 (Nat.le_trans T.o.size hW.size)) (aB.kept P hW (fun _ _ h=>h)) aQ.1 (aT HAS.o (S.o.trans hW)) (by omega) bo (by omega));have ar:=ae (And.intro P aN);have O:Hid (F=if(iD t p u).2=0 then((iD t p u).1,(i,p),0) else(dD,(0,[]),(iD t p u).2)):=ae (by rw[<-aD.o];unfold nU;rw[aE.o]);obtain⟨G,a7⟩:=ay (iD t p u);have bh:G.2=0\/G.2=4:=by
   rw[<-a7];unfold iD;split
   .exact .inl rfl
   .exact .inr rfl
  rw[a7] at a6 O;obtain⟨aX,c1,c2⟩:=ah aY.o;obtain⟨m0,m1⟩:=aV ab.o;obtain⟨n0,bx,bz⟩:=ah aF.o;clear P R aN a1 aO bf aQ bn bo bu bt bm bg aD a7 bl bk HAS D x;go_wp2_with fail;refine(a6.o _ (au.refl _ _)).mono ?_;rintro e I ⟨r,rfl,aC,J⟩;obtain⟨z,c⟩:=G;dsimp only at aC bh O⊢;obtain⟨q,zc,hr⟩:=aC.shape;subst hr;have K:=(uR I).alloc (tO z q zc);have bp:=ae ((S.o.trans J).trans K);have aI:=ae ((J.trans K).heap A.o id);have aJ:=ae ((J.trans K).heap E.o id);have bq:=ae ((J.trans K).heap ab.o id);have aR:=ae (aj I (tO z q zc));have bj:Hid (aG (fun k=>w.heap.size+3<=k/\k< (I.alloc (tO z q zc)).heap.size) (I.alloc (tO z q zc)) z.kids (.slice q z.kids.length zc)):=ae ((aC.ext K).weaken (fun k hk=>by
   have h1:=K.size;have bF:=J.size;have bG:=T.o.size;have bH:=ad.o;rcases hk with hk|hk
   .omega
   .have bI:=ar.o.2 k hk;have bJ:=aA.o;omega))
  have bw:=ae bj.o;clear bj;have bA:Hid (w.heap.size+3<=I.heap.size):=ae (Nat.le_trans ad.o (Nat.le_trans T.o.size J.size));have aK:=ae (And.intro (aB.kept ar.o.1 (J.trans K) (fun _ _ h=>h)) (fun k hk=>And.intro (show w.heap.size+3<=k by have:=(ar.o.2 k hk).1;have:=aA.o;omega) (aP (ar.o.2 k hk).2 (Nat.le_trans T.o.size (J.trans K).size))));have br:=ae ad.o;clear aC K J a6 aX c1 c2 m0 m1 n0 bx bz ab aF aY A E T ar ad;dsimp only[tV];obtain⟨n6,aL⟩:=ay I.heap.size;rw[aL] at aR bA;rcases bh with rfl|rfl
  .have av:Hid (F=(z,(i,p),0)):=ae (by rw[O.o,if_pos rfl]);obtain⟨bB,bC,bD⟩:=ah aR.o;obtain⟨m0,m1⟩:=aV bq.o;have A:=ae aI.o;have E:=ae aJ.o;clear O aI aJ;obtain⟨d0,d1,d2⟩:=ah A.o;have fd:=fun i=>ax A.o i;have H:=iZ (I.alloc (tO z q zc)) (w.heap.size+1) (.string z.name) (.string z.sort) (.slice q z.kids.length zc);have b:=H.heap E.o (by omega);obtain⟨ag,r1⟩:=aV b;have fr:=fun i=>ax b i;have m2:=H.cell m0 (by have:=br.o;show ¬g.heap.size=w.heap.size+1;omega);have m3:=H.cell m1 (by have:=br.o;show ¬g.heap.size=w.heap.size+1;omega);clear H b
   go_upto_region 7 with fail;try rw[aL]
   clear aL;generalize I.alloc (tO z q zc)=Q at*;go_region
   all_goals
    go_wp2_with fail;have X:=lL A.o (.string z.name) (.string z.sort) (.slice q z.kids.length zc);have L:=iZ Q (w.heap.size+1) (.string z.name) (.string z.sort) (.slice q z.kids.length zc);have b:=L.heap E.o (by omega);clear d0 d1 d2 fd ag r1 fr bB bC bD m0 m1 m2 m3;generalize ((Q.setCell ⟨w.heap.size+1,0,none⟩ (.string z.name)).setCell ⟨w.heap.size+1,1,none⟩ (.string z.sort)).setCell ⟨w.heap.size+1,2,none⟩ (.slice q z.kids.length zc)=C at*;have Y:((C.setCell ⟨w.heap.size+2,0,none⟩ (.int .i64 (i:Int))).setCell ⟨w.heap.size+2,1,none⟩ (.slice pa p.length d)).heap[w.heap.size+2]?=some (aH (i:Int) pa p.length d):=by simpa using setBlock (setBlock b 0 (.int .i64 (i:Int))) 1 (.slice pa p.length d)
    have M:au (fun j=>j=w.heap.size+2) C ((C.setCell ⟨w.heap.size+2,0,none⟩ (.int .i64 (i:Int))).setCell ⟨w.heap.size+2,1,none⟩ (.slice pa p.length d)):=((au.refl (fun j=>j=w.heap.size+2) C).setCell (p:=⟨w.heap.size+2,0,none⟩) (.inl rfl) _).setCell (p:=⟨w.heap.size+2,1,none⟩) (.inl rfl) _;have Z:=M.heap X (by omega);have hu:au (fun j=>j=w.heap.size+1\/j=w.heap.size+2) Q _:=(L.mono (fun _ _ h=> .inl h)).trans (M.mono (fun _ _ h=> .inr h));replace hu:=hu.drew;obtain⟨ai,al,an⟩:=ah Z;obtain⟨ao,aq⟩:=aV Y;refine bodyPost_ret (v:= .tuple #[.agg #[.string z.name,.string z.sort,.slice q z.kids.length zc],.agg #[.int .i64 (i:Int),.slice pa p.length d],.int .i64 0]) (by simp[results,Tryz.results126,go_sem,ai,al,an,ao,aq]) rfl ?_;exact⟨rE.mk (.slice q z.kids.length zc) (.slice pa p.length d) (by rw[av.o]) (by rw[av.o];exact(bw.o.kept hu (fun j U e=>by have h1:=U.1;omega)).weaken (fun k hk=>⟨by have h1:=hk.1;omega,aP hk.2 hu.size⟩)) (by rw[av.o];exact aB.weaken (aB.kept aK.o.1 hu (fun j U e=>by have h1:=(aK.o.2 j U).1;omega)) (fun k hk=>⟨by have h1:=(aK.o.2 k hk).1;omega,aP (aK.o.2 k hk).2 hu.size⟩)),bp.o.trans' hu (fun j U e=>by omega)⟩
  .have av:Hid (F=(dD,(0,[]),4)):=ae (by rw[O.o,if_neg (by decide)]);have A:=ae aI.o;have E:=ae aJ.o;clear O aI aJ aR bq;obtain⟨d0,d1,d2⟩:=ah A.o;have fd:=fun i=>ax A.o i;have H:=iZ (I.alloc (tO z q zc)) (w.heap.size+1) (.string ⟨#[]⟩) (.string ⟨#[]⟩) (.slice none 0 0);have b:=H.heap E.o (by omega);obtain⟨ag,r1⟩:=aV b;have fr:=fun i=>ax b i;clear H b
   go_wp2_with fail;clear aL;generalize I.alloc (tO z q zc)=Q at*;have X:=lL A.o (.string ⟨#[]⟩) (.string ⟨#[]⟩) (.slice none 0 0);have L:=iZ Q (w.heap.size+1) (.string ⟨#[]⟩) (.string ⟨#[]⟩) (.slice none 0 0);have b:=L.heap E.o (by omega);clear d0 d1 d2 fd ag r1 fr;generalize ((Q.setCell ⟨w.heap.size+1,0,none⟩ (.string ⟨#[]⟩)).setCell ⟨w.heap.size+1,1,none⟩ (.string ⟨#[]⟩)).setCell ⟨w.heap.size+1,2,none⟩ (.slice none 0 0)=C at*;have Y:((C.setCell ⟨w.heap.size+2,0,none⟩ (.int .i64 0)).setCell ⟨w.heap.size+2,1,none⟩ (.slice none 0 0)).heap[w.heap.size+2]?=some (aH 0 none 0 0):=by simpa using setBlock (setBlock b 0 (.int .i64 0)) 1 (.slice none 0 0)
   have M:au (fun j=>j=w.heap.size+2) C ((C.setCell ⟨w.heap.size+2,0,none⟩ (.int .i64 0)).setCell ⟨w.heap.size+2,1,none⟩ (.slice none 0 0)):=((au.refl (fun j=>j=w.heap.size+2) C).setCell (p:=⟨w.heap.size+2,0,none⟩) (.inl rfl) _).setCell (p:=⟨w.heap.size+2,1,none⟩) (.inl rfl) _;have Z:=M.heap X (by omega);have hu:au (fun j=>j=w.heap.size+1\/j=w.heap.size+2) Q _:=(L.mono (fun _ _ h=> .inl h)).trans (M.mono (fun _ _ h=> .inr h));obtain⟨ai,al,an⟩:=ah Z;obtain⟨ao,aq⟩:=aV Y;refine bodyPost_ret (v:= .tuple #[.agg #[.string ⟨#[]⟩,.string ⟨#[]⟩,.slice none 0 0],.agg #[.int .i64 0,.slice none 0 0],.int .i64 4]) (by simp[results,Tryz.results126,go_sem,ai,al,an,ao,aq]) rfl ?_;exact⟨rE.zero av.o rfl,bp.o.trans' hu (fun j U e=>by omega)⟩
def stepG (l:List Rl) (t:Tm):Tm×(Nat×List Nat)×Int:=if(dQ l&&wf aC t)=true then nU l t else(dD,(0,[]),1)
theorem TS (l:List Rl) (t:Tm) (lv v:Value) (w:World) (ad:jH (fun k=>k<w.heap.size) w l lv) (O:bQ (fun k=>k<w.heap.size) w t v) (Z:dI w) (an:l.length<=1000000) (ao: ∀r∈l,r.1.size<=100000/\r.2.size<=100000) (aG:t.size<=100000) (aI:dQ l=true/\wf aC t=true->∃N,(∀r∈l,r.2.size<=N)/\N*t.size<=100000):
  Calls Tryz.prog 53 #[lv,v] w fun e w'=>rE w.heap.size (stepG l t) e w'/\Ext w w':=by
 have az:=ae (fun W (hW:Ext w W)=>GI l lv W ((ad.ext hW).weaken (bW hW)) (aT Z hW) an ao);have P:=ae (fun W (hW:Ext w W)=>Bh t v W (aT Z hW) ((O.ext hW).weaken (bW hW)) (by omega));have z:=ae (fun(h:dQ l=true/\wf aC t=true) W (hW:Ext w W)=>ae8 l t lv v W ((ad.ext hW).weaken (bW hW)) ((O.ext hW).weaken (bW hW)) (aT Z hW) an ao aG (aI h));obtain⟨a,cap,rfl,O⟩:=O;obtain⟨a6,lc,rfl⟩:=ad.shape;have aR:=ae ((((uR w).alloc (tO t a cap)).alloc zO).alloc (aH 0 none 0 0));have aJ:=ae (ak (ak (aj w (tO t a cap)) zO) (aH 0 none 0 0));have aK:=ae (ak (alloc_at (w.alloc (tO t a cap)) zO (n:=w.heap.size+1) (by simp)) (aH 0 none 0 0));have aL:=ae (alloc_at ((w.alloc (tO t a cap)).alloc zO) (aH 0 none 0 0) (n:=w.heap.size+2) (by simp));have aM:(((w.alloc (tO t a cap)).alloc zO).alloc (aH 0 none 0 0)).heap.size=w.heap.size+3:=by simp
 have aY:=ae aM;dsimp only[tV] at P z⊢;obtain⟨A,hA⟩:=ay (dQ l);obtain⟨B,af⟩:=ay (wf aC t);obtain⟨F,hF⟩:=ay (nU l t);have y:Hid (stepG l t=if(A&&B)=true then F else(dD,(0,[]),1)):=ae (by unfold stepG;rw[hA,af,hF]);rw[hA] at az;rw[af] at P;rw[hF,hA,af] at z;obtain⟨G,aS⟩:=ay (stepG l t);rw[aS] at y⊢;clear ad O Z an ao aG aI aM hA af hF aS;go_enter Tryz.func53,Tryz.ntmps53;go_wp2_with fail;refine(az.o _ aR.o).mono ?_;rintro e Q ⟨rfl,C⟩;have aA:=ae (aR.o.trans C);have aq:=ae (C.heap aJ.o id);have ag:=ae (C.heap aK.o id);have ai:=ae (C.heap aL.o id);have aN:w.heap.size+3<=Q.heap.size:=by rw[<-aY.o];exact C.size
 have aU:=ae aN;clear C aN az aJ aK aL;cases A
 .have R:Hid (G=(dD,(0,[]),1)):=ae (by rw[y.o];rfl);have d:=ae ag.o;have g:=ae ai.o;clear y ag ai P z;obtain⟨d0,d1,d2⟩:=ah d.o;have fd:=fun i=>ax d.o i;have x:=iZ Q (w.heap.size+1) (.string ⟨#[]⟩) (.string ⟨#[]⟩) (.slice none 0 0);have b:=x.heap g.o (by omega);obtain⟨S,r1⟩:=aV b;have fr:=fun i=>ax b i;clear x b
  go_wp2_with fail;all_goals
   have ar:=R.o;have K:=lL d.o (.string ⟨#[]⟩) (.string ⟨#[]⟩) (.slice none 0 0);have q:=iZ Q (w.heap.size+1) (.string ⟨#[]⟩) (.string ⟨#[]⟩) (.slice none 0 0);have b:=q.heap g.o (by omega);clear d0 d1 d2 fd S r1 fr;generalize ((Q.setCell ⟨w.heap.size+1,0,none⟩ (.string ⟨#[]⟩)).setCell ⟨w.heap.size+1,1,none⟩ (.string ⟨#[]⟩)).setCell ⟨w.heap.size+1,2,none⟩ (.slice none 0 0)=c at*;have L:((c.setCell ⟨w.heap.size+2,0,none⟩ (.int .i64 0)).setCell ⟨w.heap.size+2,1,none⟩ (.slice none 0 0)).heap[w.heap.size+2]?=some (aH 0 none 0 0):=by simpa using setBlock (setBlock b 0 (.int .i64 0)) 1 (.slice none 0 0)
   have u:au (fun j=>j=w.heap.size+2) c ((c.setCell ⟨w.heap.size+2,0,none⟩ (.int .i64 0)).setCell ⟨w.heap.size+2,1,none⟩ (.slice none 0 0)):=((au.refl (fun j=>j=w.heap.size+2) c).setCell (p:=⟨w.heap.size+2,0,none⟩) (.inl rfl) _).setCell (p:=⟨w.heap.size+2,1,none⟩) (.inl rfl) _;have M:=u.heap K (by omega);have hu:au (fun j=>j=w.heap.size+1\/j=w.heap.size+2) Q _:=(q.mono (fun _ _ h=> .inl h)).trans (u.mono (fun _ _ h=> .inr h));obtain⟨T,U,V⟩:=ah M;obtain⟨X,Y⟩:=aV L;refine bodyPost_ret (v:= .tuple #[.agg #[.string ⟨#[]⟩,.string ⟨#[]⟩,.slice none 0 0],.agg #[.int .i64 0,.slice none 0 0],.int .i64 1]) (by simp[results,Tryz.results53,go_sem,T,U,V,X,Y]) rfl ?_;exact⟨rE.zero ar rfl,aA.o.trans' hu (fun j E e=>by omega)⟩
 .obtain ⟨aD,c1,c2⟩:=ah aq.o;go_wp2_with fail;refine(P.o _ aA.o).mono ?_;rintro e H ⟨rfl,D⟩;have aE:=ae (aA.o.trans D);have aW:=ae (D.heap aq.o id);have d:=ae (D.heap ag.o id);have g:=ae (D.heap ai.o id);have aZ:Hid (w.heap.size+3<=H.heap.size):=ae (Nat.le_trans aU.o D.size);clear D aD c1 c2 P ag ai aq aU;cases B
  .have R:Hid (G=(dD,(0,[]),1)):=ae (by rw[y.o];rfl);clear y z;obtain⟨d0,d1,d2⟩:=ah d.o;have fd:=fun i=>ax d.o i;have x:=iZ H (w.heap.size+1) (.string ⟨#[]⟩) (.string ⟨#[]⟩) (.slice none 0 0);have b:=x.heap g.o (by omega);obtain⟨S,r1⟩:=aV b;have fr:=fun i=>ax b i;clear x b
   go_wp2_with fail;all_goals
    have ar:=R.o;have K:=lL d.o (.string ⟨#[]⟩) (.string ⟨#[]⟩) (.slice none 0 0);have q:=iZ H (w.heap.size+1) (.string ⟨#[]⟩) (.string ⟨#[]⟩) (.slice none 0 0);have b:=q.heap g.o (by omega);clear d0 d1 d2 fd S r1 fr;generalize ((H.setCell ⟨w.heap.size+1,0,none⟩ (.string ⟨#[]⟩)).setCell ⟨w.heap.size+1,1,none⟩ (.string ⟨#[]⟩)).setCell ⟨w.heap.size+1,2,none⟩ (.slice none 0 0)=c at*;have L:((c.setCell ⟨w.heap.size+2,0,none⟩ (.int .i64 0)).setCell ⟨w.heap.size+2,1,none⟩ (.slice none 0 0)).heap[w.heap.size+2]?=some (aH 0 none 0 0):=by simpa using setBlock (setBlock b 0 (.int .i64 0)) 1 (.slice none 0 0)
    have u:au (fun j=>j=w.heap.size+2) c ((c.setCell ⟨w.heap.size+2,0,none⟩ (.int .i64 0)).setCell ⟨w.heap.size+2,1,none⟩ (.slice none 0 0)):=((au.refl (fun j=>j=w.heap.size+2) c).setCell (p:=⟨w.heap.size+2,0,none⟩) (.inl rfl) _).setCell (p:=⟨w.heap.size+2,1,none⟩) (.inl rfl) _;have M:=u.heap K (by omega);have hu:au (fun j=>j=w.heap.size+1\/j=w.heap.size+2) H _:=(q.mono (fun _ _ h=> .inl h)).trans (u.mono (fun _ _ h=> .inr h));obtain⟨T,U,V⟩:=ah M;obtain⟨X,Y⟩:=aV L;refine bodyPost_ret (v:= .tuple #[.agg #[.string ⟨#[]⟩,.string ⟨#[]⟩,.slice none 0 0],.agg #[.int .i64 0,.slice none 0 0],.int .i64 1]) (by simp[results,Tryz.results53,go_sem,T,U,V,X,Y]) rfl ?_;exact⟨rE.zero ar rfl,aE.o.trans' hu (fun j E e=>by omega)⟩
  .have R:Hid (G=F):=ae (by rw[y.o];rfl);obtain⟨aD,c1,c2⟩:=ah aW.o;clear y;go_wp2_with fail;refine(z.o (by simp) _ aE.o).mono ?_;rintro e al ⟨⟨r,pv,rfl,av,aw⟩,aa⟩;obtain⟨I,rc,hr⟩:=av.shape;subst hr;obtain⟨pa,J,hp⟩:=aB.shape aw;subst hp;have a1:=ae (aE.o.trans aa);have aO:=ae (aa.heap d.o id);have aQ:=ae (aa.heap g.o id);have aX:=ae (And.intro av aw);have ab:Hid (w.heap.size+3<=H.heap.size):=ae aZ.o;clear av aw aa z d g aD c1 c2 aW;have d:=ae aO.o;have g:=ae aQ.o;clear aO aQ;dsimp only[tV];obtain⟨d0,d1,d2⟩:=ah d.o;have fd:=fun i=>ax d.o i;have x:=iZ al (w.heap.size+1) (.string F.1.name) (.string F.1.sort) (.slice I F.1.kids.length rc);have b:=x.heap g.o (by omega);obtain⟨S,r1⟩:=aV b;have fr:=fun i=>ax b i;clear x b
   go_wp2_with fail;have K:=lL d.o (.string F.1.name) (.string F.1.sort) (.slice I F.1.kids.length rc);have q:=iZ al (w.heap.size+1) (.string F.1.name) (.string F.1.sort) (.slice I F.1.kids.length rc);have b:=q.heap g.o (by omega);clear d0 d1 d2 fd S r1 fr;generalize ((al.setCell ⟨w.heap.size+1,0,none⟩ (.string F.1.name)).setCell ⟨w.heap.size+1,1,none⟩ (.string F.1.sort)).setCell ⟨w.heap.size+1,2,none⟩ (.slice I F.1.kids.length rc)=c at*;have L:((c.setCell ⟨w.heap.size+2,0,none⟩ (.int .i64 (F.2.1.1:Int))).setCell ⟨w.heap.size+2,1,none⟩ (.slice pa F.2.1.2.length J)).heap[w.heap.size+2]?=some (aH (F.2.1.1:Int) pa F.2.1.2.length J):=by simpa using setBlock (setBlock b 0 (.int .i64 (F.2.1.1:Int))) 1 (.slice pa F.2.1.2.length J)
   have u:au (fun j=>j=w.heap.size+2) c ((c.setCell ⟨w.heap.size+2,0,none⟩ (.int .i64 (F.2.1.1:Int))).setCell ⟨w.heap.size+2,1,none⟩ (.slice pa F.2.1.2.length J)):=((au.refl (fun j=>j=w.heap.size+2) c).setCell (p:=⟨w.heap.size+2,0,none⟩) (.inl rfl) _).setCell (p:=⟨w.heap.size+2,1,none⟩) (.inl rfl) _;have M:=u.heap K (by omega);have hu:au (fun j=>j=w.heap.size+1\/j=w.heap.size+2) al _:=(q.mono (fun _ _ h=> .inl h)).trans (u.mono (fun _ _ h=> .inr h));obtain⟨T,U,V⟩:=ah M;obtain⟨X,Y⟩:=aV L;refine bodyPost_ret (v:= .tuple #[.agg #[.string F.1.name,.string F.1.sort,.slice I F.1.kids.length rc],.agg #[.int .i64 (F.2.1.1:Int),.slice pa F.2.1.2.length J],.int .i64 F.2.2]) (by simp[results,Tryz.results53,go_sem,T,U,V,X,Y]) rfl ?_;rw[R.o];exact⟨rE.mk (.slice I F.1.kids.length rc) (.slice pa F.2.1.2.length J) rfl ((aX.o.1.kept hu (fun j E e=>by have h1:=E.1;have aF:=ab.o;omega)).weaken (fun k hk=>⟨by have h1:=hk.1;have aF:=ab.o;omega,aP hk.2 hu.size⟩)) (aB.weaken (aB.kept aX.o.2 hu (fun j E e=>by have h1:=E.1;have aF:=ab.o;omega)) (fun k hk=>⟨by have h1:=hk.1;have aF:=ab.o;omega,aP hk.2 hu.size⟩)),a1.o.trans' hu (fun j E e=>by omega)⟩
theorem afe (l:List Rl) (t:Tm) (lv v:Value) (w:World) (d:jH (fun k=>k<w.heap.size) w l lv) (g:bQ (fun k=>k<w.heap.size) w t v) (b:dI w) (c:l.length<=1000000) (a: ∀r∈l,r.1.size<=300/\r.2.size<=300) (h:t.size<=300):
  Calls Tryz.prog 53 #[lv,v] w fun e w'=>rE w.heap.size (stepG l t) e w'/\Ext w w':=
 TS l t lv v w d g b c (fun r hr=>⟨by have:=(a r hr).1;omega,by have:=(a r hr).2;omega⟩) (by omega) (fun _=>⟨300,fun r hr=>(a r hr).2,by omega⟩)
section
open Go.Sort Go.Proofs Go.ChangeMaps
def U0 (x y:Tm):Bool:=(aY x).all fun f=>lY f (aY y)
theorem ael (x y:Tm) (P Q:Value) (S T:Nat->Prop) (w:World) (aw:bQ S w x P) (ax:bQ T w y Q) (l:wf aC x=true) (p:wf aC y=true):
  Calls Tryz.prog 168 #[P,Q] w fun e w'=>e= .returned (.bool (U0 x y))/\Ext w w':=by
 have t:=ae (fun W (hW:Ext w W)=>Q_ x P S W (aw.ext hW) l);have z:=ae (fun W (hW:Ext w W)=>Q_ y Q T W (ax.ext hW) p);obtain⟨Z,R⟩:=ay (U0 x y);rw[R];have q:Z=(aY x).all fun f=>lY f (aY y):=R.symm;have aN:=Nat.le_trans (oU l) (qg l);have aO:=Nat.le_trans (oU p) (qg p);obtain⟨A,B,rfl,aP⟩:=aw;obtain⟨C,D,rfl,aQ⟩:=ax;obtain⟨b,ag⟩:=ay (aY x)
 obtain⟨a,ai⟩:=ay (aY y);rw[ag] at t q aN;rw[ai] at z q aO;have al:=ae q;have U:=ae (((uR w).alloc (tO x A B)).alloc (tO y C D));have az:=ae (ak (aj w (tO x A B)) (tO y C D));have aA:=ae (alloc_at (w.alloc (tO x A B)) (tO y C D) (n:=w.heap.size+1) (by simp));obtain⟨V,X,Y⟩:=ah az.o;dsimp only[tV] at t z⊢;clear aP aQ l p R q ag ai;go_enter Tryz.func168,Tryz.ntmps168;go_wp2_with fail;generalize ((w.alloc (tO x A B)).alloc (tO y C D))=bf at*;refine(t.o _ U.o).mono ?_;rintro e w3 ⟨r1,rfl,G,H⟩;have aa:=ae (U.o.trans H);have aB:=ae (H.heap aA.o id);have aD:=ae G;obtain⟨bg,c1,aR⟩:=dM.shape G;subst aR;clear H t V X Y az aA G U;obtain⟨V,X,Y⟩:=ah aB.o;go_wp2_with fail;refine(z.o _ aa.o).mono ?_;rintro e aE ⟨r2,rfl,I,J⟩;have aF:=ae (aa.o.trans J);have an:=ae I;have aS:=ae (dM.ext aD.o J);obtain⟨a2,c2,aT⟩:=dM.shape I;subst aT;clear J z V X Y aB I aa aD;go_wp2_with fail;go_loopg [7] b.length (fun gk ab wr=> ∃k:Nat,ab= .int .i64 (k:Int)/\gk=b.length-k/\k<=b.length/\Hid (Ext aE wr)/\Hid (∀j,j<k->lY (vg b j) a=true));case atStart=>exact⟨0,rfl,rfl,Nat.zero_le _,ae (au.refl _ _),ae (fun j d=>absurd d (Nat.not_lt_zero _))⟩
 case round=>
  obtain⟨k,rfl,rfl,hk,c,aG⟩:=hrel;by_cases K:k<b.length
  .obtain ⟨g,off,aU,ao⟩:=(dM.ext aS.o c.o).at_ (by omega);obtain⟨E,F⟩:=ao k K;obtain⟨z0,bh,z2,bb⟩:=bH K;have aq:=yS K;have L:lY (vg b k) a=true->∀j,j<k+1->lY (vg b j) a=true:=fun h j d=>by
    rcases Nat.lt_succ_iff_lt_or_eq.1 d with ad|ad
    .exact aG.o j ad
    .rw [ad];exact h
   have M:lY (vg b k) a=false->Z=false:=fun h=>by
    rw[al.o,List.all_eq_false];exact⟨_,aq,by rw[h];simp⟩
   obtain⟨f,hf⟩:=ay (vg b k);rw[hf] at E F L M;have aX:=ae L;have aZ:=ae M;have bc:Hid (dM (fun k=>False\/w3.heap.size<=k) aE (.slice a2 a.length c2) a):=an;subst aU;have aH:=ae (And.intro E F);obtain⟨af,aV⟩: ∃af,af=wr:=⟨_,rfl⟩
   subst aV;have aI:=c;clear ao hf aq L M c E F;go_wp2_with fail;go_loopg [8,9] a.length (fun gk fv ab wr=> ∃(m:Nat) (fb:Bool),fv= .bool fb/\ab= .int .i64 (m:Int)/\gk=a.length-m/\m<=a.length/\Hid (Ext af wr)/\Hid (fb=lY f (a.take m)));case atStart=>exact⟨0,false,rfl,rfl,rfl,Nat.zero_le _,ae (au.refl _ _),ae rfl⟩
   case round=>
    obtain⟨m,fb,rfl,rfl,rfl,hm,c,ar⟩:=hrel;by_cases N:m<a.length
    .obtain ⟨g2,bj,a1,aJ⟩:=(dM.ext (dM.ext an.o aI.o) c.o).at_ (by omega);subst a1;obtain⟨a6,r1⟩:=aJ m N;have E:=c.o.cell aH.o.1 id;have F:=c.o.cell aH.o.2 id;have bk:(0:Int)<=(m:Int):=by omega
     have a7:(m:Int)< (a.length:Int):=by omega
     have a8:decide ((m:Int)< (a.length:Int))=true:=dT a7;have bd:decide (m<a.length)=true:=dT N;have r:lY f (a.take (m+1))=(lY f (a.take m)||decide (vg a m=f)):=by
      unfold lY;rw[GR a m N,List.any_append];simp
     have heq:=fun W=>eqV (vg a m).1 (vg a m).2 f.1 f.2 W;have aK:decide (((vg a m).1,(vg a m).2)=(f.1,f.2))=decide (vg a m=f):=rfl;rw[aK] at heq;obtain⟨u,hu⟩:=ay (vg a m)
     rw[hu] at a6 r1 r heq;obtain⟨ba,av⟩:=ay (decide (u=f));rw[av] at heq r;have aL:=ae r;clear aJ r aK hu av;cases ba with
     |true=>
      have O:Hid (true=lY f (a.take (m+1))):=ae (by rw[aL.o];simp);go_wp2_with fail;go_quiet (fail);go_wp2_with fail;go_roundg (a.length- (m+1));case measure=>omega
      case rel=>exact⟨m+1,true,rfl,by go_num,rfl,by omega,ae (c.o.drewN' _),O⟩
     |false=>
      have O:Hid (fb=lY f (a.take (m+1))):=ae (by rw[aL.o,<-ar.o];simp);go_wp2_with fail;go_quiet (fail);go_wp2_with fail;go_roundg (a.length- (m+1));case measure=>omega
      case rel=>exact⟨m+1,fb,rfl,by go_num,rfl,by omega,ae (c.o.drewN' _),O⟩
    .obtain rfl:m=a.length:=by omega
     have a8:decide ((a.length:Int)< (a.length:Int))=false:=dF (by omega);have i:=ar.o;rw[List.take_length] at i;have aM:=ae (aI.o.trans c.o);cases fb with
     |true=>
      have aW:=ae (aX.o i.symm);clear i;go_wp2_with fail;go_roundg (b.length- (k+1));case measure=>omega
      case rel=>exact⟨k+1,by go_num,rfl,by omega,aM,aW⟩
     |false=>
      obtain rfl:Z=false:=aZ.o i.symm;clear i;go_wp2_with fail;go_ret;exact⟨rfl,aF.o.trans aM.o⟩
  .obtain rfl:k=b.length:=by omega
   have z2:decide ((b.length:Int)< (b.length:Int))=false:=dF (by omega);obtain rfl:Z=true:=by
    rw[al.o,List.all_eq_true];intro f hf;obtain⟨j,d,e⟩:=List.getElem_of_mem hf;have:=aG.o j d;unfold vg at this;rw[gZ d] at this;rw[<-e];exact this
   go_wp2_with fail;go_ret;exact⟨rfl,(aF.o.trans c.o)⟩
theorem YB (r:Rl):qN r=(wf aC r.1&&wf aC r.2&&decide (r.1.sort=ai)&&U0 r.2 r.1):=by
 unfold qN U0;cases h1:wf aC r.1 with
 |false=>rfl
 |true=>
  cases a:wf aC r.2 with
  |false=>rfl
  |true=>
   rw[rq h1,rq a];congr 1;first|exact(List.all_eq_not_any_not ..).symm|simp[List.all_eq_not_any_not]
theorem Rt {L:List Rl} {k:Nat} (hk:k<L.length) (h:qN (rg L k)=false):dQ L=false:=by
 unfold dQ;have:(L.any fun r=>!qN r)=true:=List.any_eq_true.2 ⟨_,nZ hk,by rw[h];rfl⟩;rw[this];simp
theorem YC {L:List Rl} (hl:L.length<=100) (h: ∀j,j<L.length->qN (rg L j)=true):dQ L=true:=by
 unfold dQ;have:(L.any fun r=>!qN r)=false:=by
  rw[List.any_eq_false];intro r hr;obtain⟨j,a,e⟩:=List.getElem_of_mem hr;have:=h j a;unfold Go.Hw.rg at this;rw[gZ a] at this;rw[<-e];simpa using this
 rw[this,dT hl];rfl
theorem Kt (L:List Rl) (v:Value) (S:Nat->Prop) (w:World) (R:jH S w L v) (hl:L.length<=1000000):Calls Tryz.prog 110 #[v] w fun e w'=>e= .returned (.bool (dQ L))/\Ext w w':=by
 have al:=ae R;obtain⟨a,cap,rfl⟩:=R.shape;obtain⟨V,hV⟩:=ay (dQ L);have P:=ae hV.symm;rw[hV];clear R hV;by_cases hb:100<L.length
 .have c:Hid (V=false):=ae (by rw[P.o];unfold dQ;rw[dF (by omega)];rfl);have z:(100:Int)< (L.length:Int):=by omega
  have X:decide ((100:Int)< (L.length:Int))=true:=dT z;have b:Hid (Ext w w):=ae (au.refl _ _);clear hb;go_enter Tryz.func110,Tryz.ntmps110;go_wp2_with fail;all_goals go_ret
  all_goals (rw[c.o];exact⟨rfl,b.o⟩)
 have z: ¬(100:Int)< (L.length:Int):=by omega
 have X:decide ((100:Int)< (L.length:Int))=false:=dF z;go_enter Tryz.func110,Tryz.ntmps110;go_wp2_with fail;clear z X;go_loopg [3] L.length (fun gk an wr=> ∃k:Nat,an= .int .i64 (k:Int)/\gk=L.length-k/\k<=L.length/\Hid (∀j,j<k->qN (rg L j)=true)/\Hid (Ext w wr));case atStart=>exact⟨0,rfl,rfl,Nat.zero_le _,ae (fun j h=>absurd h (Nat.not_lt_zero _)),ae (au.refl _ _)⟩
 case round=>
  obtain⟨k,rfl,rfl,hk,ah,n⟩:=hrel;by_cases Q:k<L.length
  .obtain ⟨g,off,ak,_,Y⟩:=(al.o.ext n.o).at_ (by omega);subst ak;obtain⟨D,E,F,G,H,I,J,K,M,N,t,u⟩:=Y k Q;obtain⟨z0,z,z2,az⟩:=bH Q;have Z:qN (rg L k)=false->V=false:=fun h=>by rw[P.o];exact Rt Q h
   have U:qN (rg L k)=true->∀j,j<k+1->qN (rg L j)=true:=fun h j ao=>by
    rcases Nat.lt_succ_iff_lt_or_eq.1 ao with T|T
    .exact ah.o j T
    .rw [T];exact h
   have A:=ae Z;have aj:=ae U;have C:=YB (rg L k);obtain⟨⟨x,y⟩,aa⟩: ∃r,rg L k=r:=⟨_,rfl⟩
   rw[aa] at H I J K M N t u C A aj;simp only at H I J K M N t u C;have d:=ae C;have p:=ae (fun W (hW:Ext wr W)=>zV x (tV x (.slice D x.kids.length E)) S W ⟨D,E,rfl,t.ext hW⟩);have l:=ae (fun W (hW:Ext wr W)=>zV y (tV y (.slice F y.kids.length G)) S W ⟨F,G,rfl,u.ext hW⟩);have B:=ae (fun(h1:wf aC x=true) (aq:wf aC y=true) W (hW:Ext wr W)=>ael y x (tV y (.slice F y.kids.length G)) (tV x (.slice D x.kids.length E)) S S W ⟨F,G,rfl,u.ext hW⟩ ⟨D,E,rfl,t.ext hW⟩ aq h1);dsimp only[tV] at p l B;have aE:=uR wr;have aF:=fun x:XW wr=>x.ext.cell H id;have aG:=fun x:XW wr=>x.ext.cell I id;have aH:=fun x:XW wr=>x.ext.cell J id;have aA:=fun x:XW wr=>x.ext.cell K id;have aB:=fun x:XW wr=>x.ext.cell M id;have aD:=fun x:XW wr=>x.ext.cell N id;have s0:=lV x.sort;clear Y Z U C aa t u H I J K M N;obtain⟨ar,ab⟩:=ay (wf aC x)
   obtain⟨av,ad⟩:=ay (wf aC y);obtain⟨d0,af⟩:=ay (decide (x.sort=ai));rw[ab] at p B d;rw[ad] at l B d;rw[af] at s0 d;clear ab ad af;cases ar
   .have q:=ae True.intro;have c:=ae (A.o (by rw[d.o];simp));go_wp2_with fail;refine bI wr (by assumption) (by kernel_rfl) (by kernel_rfl) ?_;repeat (first|go_big_quiet_skip|(go_big_quiet_want;go_big_quiet_op;first|go_big_quiet_on|(apply Exists.intro;refine⟨fun x=>?_,?_⟩;(first|(go_at_call 24;with_reducible exact XW.call (p.o x.val x.ext))|(go_at_call 24;with_reducible exact XW.call (l.o x.val x.ext)));go_big_quiet_on)))
    refine wpQuiet_nil ?_;rintro O ⟨⟨_,i⟩,rfl⟩;try dsimp only
    have b:=ae (n.o.trans i);go_wp2_with fail;all_goals go_ret
    all_goals (rw[c.o];exact⟨rfl,b.o⟩)
   cases av
   .have q:=ae True.intro;have c:=ae (A.o (by rw[d.o];simp));go_wp2_with fail;refine bI wr (by assumption) (by kernel_rfl) (by kernel_rfl) ?_;repeat (first|go_big_quiet_skip|(go_big_quiet_want;go_big_quiet_op;first|go_big_quiet_on|(apply Exists.intro;refine⟨fun x=>?_,?_⟩;(first|(go_at_call 24;with_reducible exact XW.call (p.o x.val x.ext))|(go_at_call 24;with_reducible exact XW.call (l.o x.val x.ext)));go_big_quiet_on)))
    refine wpQuiet_nil ?_;rintro O ⟨⟨_,i⟩,rfl⟩;try dsimp only
    have b:=ae (n.o.trans i);go_wp2_with fail;all_goals go_ret
    all_goals (rw[c.o];exact⟨rfl,b.o⟩)
   cases d0
   .have q:=ae True.intro;have c:=ae (A.o (by rw[d.o];simp));go_wp2_with fail;refine bI wr (by assumption) (by kernel_rfl) (by kernel_rfl) ?_;repeat (first|go_big_quiet_skip|(go_big_quiet_want;go_big_quiet_op;first|go_big_quiet_on|(apply Exists.intro;refine⟨fun x=>?_,?_⟩;(first|(go_at_call 24;with_reducible exact XW.call (p.o x.val x.ext))|(go_at_call 24;with_reducible exact XW.call (l.o x.val x.ext)));go_big_quiet_on)))
    refine wpQuiet_nil ?_;rintro O ⟨⟨_,i⟩,rfl⟩;try dsimp only
    have b:=ae (n.o.trans i);go_wp2_with fail;all_goals go_ret
    all_goals (rw[c.o];exact⟨rfl,b.o⟩)
   have q:=ae (B.o (by simp) (by simp));obtain⟨aw,ag⟩:=ay (U0 y x);rw[ag] at q d;clear B ag;cases aw
   .have c:=ae (A.o (by rw[d.o];simp));go_wp2_with fail;refine bI wr (by assumption) (by kernel_rfl) (by kernel_rfl) ?_;repeat (first|go_big_quiet_skip|(go_big_quiet_want;go_big_quiet_op;first|go_big_quiet_on|(apply Exists.intro;refine⟨fun x=>?_,?_⟩;(first|(go_at_call 24;with_reducible exact XW.call (p.o x.val x.ext))|(go_at_call 24;with_reducible exact XW.call (l.o x.val x.ext))|(go_at_call 168;exact XW.call (q.o x.val x.ext)));go_big_quiet_on)))
    refine wpQuiet_nil ?_;rintro O ⟨⟨_,i⟩,rfl⟩;try dsimp only
    have b:=ae (n.o.trans i);go_wp2_with fail;all_goals go_ret
    all_goals (rw[c.o];exact⟨rfl,b.o⟩)
   have ax:=ae (aj.o (by rw[d.o];simp));go_wp2_with fail;refine bI wr (by assumption) (by kernel_rfl) (by kernel_rfl) ?_;repeat (first|go_big_quiet_skip|(go_big_quiet_want;go_big_quiet_op;first|go_big_quiet_on|(apply Exists.intro;refine⟨fun x=>?_,?_⟩;(first|(go_at_call 24;with_reducible exact XW.call (p.o x.val x.ext))|(go_at_call 24;with_reducible exact XW.call (l.o x.val x.ext))|(go_at_call 168;exact XW.call (q.o x.val x.ext)));go_big_quiet_on)))
   refine wpQuiet_nil ?_;rintro O ⟨⟨_,i⟩,rfl⟩;try dsimp only
   have b:=ae (n.o.trans i);go_wp2_with fail;go_roundg (L.length- (k+1));case measure=>omega
   case rel=>exact⟨k+1,by go_num,rfl,by omega,ax,b⟩
  .obtain rfl:k=L.length:=by omega
   have z2:decide ((L.length:Int)< (L.length:Int))=false:=dF (by omega);have c:Hid (V=true):=ae (by rw[P.o];exact YC (by omega) ah.o);have b:=n;go_wp2_with fail;all_goals go_ret
   all_goals (rw[c.o];exact⟨rfl,b.o⟩)
def oI (l:List Rl) (fuel:Int) (L:List Tm):Int:=if(!dQ l||L.any fun t=>!wf aC t)=true then 1 else if fuel<0\/2000<fuel then 2 else 0
theorem aem (t:Tm) (u:Value) (w:World) (l:dI w) (h:bQ (fun k=>k<w.heap.size) w t (tV t u)) (hs:(t.size:Int)<=1000000000000):Calls Tryz.prog 212 #[tV t u] w fun e w'=>e= .returned (.bool !(wf aC t))/\Ext w w':=by
 have i:=(uR w).alloc (kW t.name t.sort u);have c:=ae (fun W (hW:Ext w W)=>Bh t (tV t u) W (aT l hW) ((h.ext hW).weaken (bW hW)) hs);obtain⟨a,cap,hu,n⟩:=h;obtain rfl:u= .slice a t.kids.length cap:=by simpa[tV] using hu
 have j:=ae i;have hb:=aj w (tO t a cap);obtain⟨p,q,r⟩:=ah hb;dsimp only[tV] at c⊢;obtain⟨b,d⟩:=ay (wf aC t);rw[d] at c⊢;clear i hb d n hu;go_enter Tryz.func212,Tryz.ntmps212;go_wp2_with fail;refine(c.o _ j.o).mono ?_;rintro e y ⟨rfl,g⟩;have x:=ae (j.o.trans g);clear g c p q r;go_wp2_with fail;go_ret;exact⟨rfl,x.o⟩
theorem aen (t:Tm) (u:Value) (w:World) (S:Nat->Prop) (h:bQ S w t (tV t u)):Calls Tryz.prog 111 #[tV t u] w fun e w'=>e= .returned (.bool !(wf aC t))/\Ext w w':=by
 have i:=(uR w).alloc (kW t.name t.sort u);have c:=ae (fun W (hW:Ext w W)=>zV t (tV t u) S W (h.ext hW));obtain⟨a,cap,hu,k⟩:=h;obtain rfl:u= .slice a t.kids.length cap:=by simpa[tV] using hu
 have j:=ae i;have hb:=aj w (tO t a cap);obtain⟨l,n,p⟩:=ah hb;dsimp only[tV] at c⊢;obtain⟨b,d⟩:=ay (wf aC t);rw[d] at c⊢;clear i hb d k hu;go_enter Tryz.func111,Tryz.ntmps111;go_wp2_with fail;refine(c.o _ j.o).mono ?_;rintro e r ⟨rfl,g⟩;have q:=ae (j.o.trans g);clear g c l n p;go_wp2_with fail;go_ret;exact⟨rfl,q.o⟩
theorem YD (p:Tm->Bool) (L:List Tm) (v:Value) (S:Nat->Prop) (w:World) (hR:aG S w L v) (hl:L.length<=1000000)
  (hf: ∀t∈L,∀u W,Ext w W->bQ S W t (tV t u)->Calls Tryz.prog 212 #[tV t u] W fun e W'=>e= .returned (.bool (p t))/\Ext W W'):
  Calls Tryz.prog 132 #[v,.func (.func 212) #[] #[]] w fun e w'=> ∃r:Int,e= .returned (.int .i64 r)/\decide (0<=r)=L.any p/\Ext w w':=by
 obtain⟨a,cap,rfl⟩:=hR.shape;have H:=ae hR;have I:=ae hf;clear hR hf;go_enter Tryz.func132,Tryz.ntmps132;go_wp2_with fail;go_loopg [8] L.length (fun gk J wr=> ∃k:Nat,J= .int .i64 (k:Int)/\gk=L.length-k/\k<=L.length/\Hid (Ext w wr)/\Hid ((L.take k).any p=false));case atStart=>exact⟨0,rfl,rfl,Nat.zero_le _,ae (au.refl _ _),ae rfl⟩
 case round=>
  obtain⟨k,rfl,rfl,hk,c,q⟩:=hrel;by_cases l:k<L.length
  .obtain ⟨g,off,G,_,B⟩:=(H.o.ext c.o).at_ (by omega);subst G;obtain⟨K,M,D,y,z,E⟩:=B k l;rw[<-Nat.add_assoc] at y z;obtain⟨z0,R,z2,Q⟩:=bH l;have n:=Wj l;have d:=ae (I.o _ n _ wr c.o ⟨K,M,rfl,E⟩);have i:Hid (p (tg L k)=false->(L.take (k+1)).any p=false):=ae (fun h=>by
    rw[yO L k l,List.any_append,q.o,List.any_cons,List.any_nil,h];rfl)
   have j:Hid (p (tg L k)=true->L.any p=true):=ae (fun h=>List.any_eq_true.2 ⟨_,n,h⟩);obtain⟨x,hx⟩:=ay (tg L k);rw[hx] at D y z d i j;dsimp only[tV] at d;obtain⟨b,hb⟩:=ay (p x);rw[hb] at d i j;clear B n hx hb q E;go_wp2_with fail;refine d.o.mono ?_;rintro e T ⟨rfl,C⟩;have F:=ae (c.o.trans C);clear C D y z d c;cases b
   .have N:=ae (i.o rfl);clear i j;go_wp2_with fail;go_roundg (L.length- (k+1));case measure=>omega
    case rel=>exact⟨k+1,by go_num,rfl,by omega,F,N⟩
   .have O:=ae (j.o rfl);clear i j;go_wp2_with fail;go_ret;exact⟨_,rfl,by rw[O.o];exact dT z0,F.o⟩
  .obtain rfl:k=L.length:=by omega
   have z2:decide ((L.length:Int)< (L.length:Int))=false:=dF (by omega);have A:=q.o;rw[List.take_length] at A;have P:=ae A;clear A;go_wp2_with fail;go_ret;exact⟨_,rfl,by rw[P.o];rfl,c.o⟩
theorem YE (p:Tm->Bool) (L:List Tm) (v:Value) (S:Nat->Prop) (w:World) (hR:aG S w L v) (hl:L.length<=1000000)
  (hf: ∀t∈L,∀u W,Ext w W->bQ S W t (tV t u)->Calls Tryz.prog 212 #[tV t u] W fun e W'=>e= .returned (.bool (p t))/\Ext W W'):
  Calls Tryz.prog 60 #[v,.func (.func 212) #[] #[]] w fun e w'=>e= .returned (.bool (L.any p))/\Ext w w':=by
 have c:=ae (YD p L v S w hR hl hf);clear hR hf;go_enter Tryz.func60,Tryz.ntmps60;go_wp2_with fail;refine c.o.mono ?_;rintro e g ⟨r,rfl,hr,a⟩;have d:=ae a;have b:=ae hr;clear a hr;go_wp2_with fail;go_ret;rw[<-b.o];exact⟨rfl,d.o⟩
theorem YF (p:Tm->Bool) (L:List Tm) (v:Value) (S:Nat->Prop) (w:World) (hR:aG S w L v) (hl:L.length<=1000000)
  (hf: ∀t∈L,∀u W,Ext w W->bQ S W t (tV t u)->Calls Tryz.prog 111 #[tV t u] W fun e W'=>e= .returned (.bool (p t))/\Ext W W'):
  Calls Tryz.prog 132 #[v,.func (.func 111) #[] #[]] w fun e w'=> ∃r:Int,e= .returned (.int .i64 r)/\decide (0<=r)=L.any p/\Ext w w':=by
 obtain⟨a,cap,rfl⟩:=hR.shape;have H:=ae hR;have I:=ae hf;clear hR hf;go_enter Tryz.func132,Tryz.ntmps132;go_wp2_with fail;go_loopg [8] L.length (fun gk J wr=> ∃k:Nat,J= .int .i64 (k:Int)/\gk=L.length-k/\k<=L.length/\Hid (Ext w wr)/\Hid ((L.take k).any p=false));case atStart=>exact⟨0,rfl,rfl,Nat.zero_le _,ae (au.refl _ _),ae rfl⟩
 case round=>
  obtain⟨k,rfl,rfl,hk,c,q⟩:=hrel;by_cases l:k<L.length
  .obtain ⟨g,off,G,_,B⟩:=(H.o.ext c.o).at_ (by omega);subst G;obtain⟨K,M,D,y,z,E⟩:=B k l;rw[<-Nat.add_assoc] at y z;obtain⟨z0,R,z2,Q⟩:=bH l;have n:=Wj l;have d:=ae (I.o _ n _ wr c.o ⟨K,M,rfl,E⟩);have i:Hid (p (tg L k)=false->(L.take (k+1)).any p=false):=ae (fun h=>by
    rw[yO L k l,List.any_append,q.o,List.any_cons,List.any_nil,h];rfl)
   have j:Hid (p (tg L k)=true->L.any p=true):=ae (fun h=>List.any_eq_true.2 ⟨_,n,h⟩);obtain⟨x,hx⟩:=ay (tg L k);rw[hx] at D y z d i j;dsimp only[tV] at d;obtain⟨b,hb⟩:=ay (p x);rw[hb] at d i j;clear B n hx hb q E;go_wp2_with fail;refine d.o.mono ?_;rintro e T ⟨rfl,C⟩;have F:=ae (c.o.trans C);clear C D y z d c;cases b
   .have N:=ae (i.o rfl);clear i j;go_wp2_with fail;go_roundg (L.length- (k+1));case measure=>omega
    case rel=>exact⟨k+1,by go_num,rfl,by omega,F,N⟩
   .have O:=ae (j.o rfl);clear i j;go_wp2_with fail;go_ret;exact⟨_,rfl,by rw[O.o];exact dT z0,F.o⟩
  .obtain rfl:k=L.length:=by omega
   have z2:decide ((L.length:Int)< (L.length:Int))=false:=dF (by omega);have A:=q.o;rw[List.take_length] at A;have P:=ae A;clear A;go_wp2_with fail;go_ret;exact⟨_,rfl,by rw[P.o];rfl,c.o⟩
theorem YG (p:Tm->Bool) (L:List Tm) (v:Value) (S:Nat->Prop) (w:World) (hR:aG S w L v) (hl:L.length<=1000000)
  (hf: ∀t∈L,∀u W,Ext w W->bQ S W t (tV t u)->Calls Tryz.prog 111 #[tV t u] W fun e W'=>e= .returned (.bool (p t))/\Ext W W'):
  Calls Tryz.prog 60 #[v,.func (.func 111) #[] #[]] w fun e w'=>e= .returned (.bool (L.any p))/\Ext w w':=by
 have c:=ae (YF p L v S w hR hl hf);clear hR hf;go_enter Tryz.func60,Tryz.ntmps60;go_wp2_with fail;refine c.o.mono ?_;rintro e g ⟨r,rfl,hr,a⟩;have d:=ae a;have b:=ae hr;clear a hr;go_wp2_with fail;go_ret;rw[<-b.o];exact⟨rfl,d.o⟩
theorem YH (l:List Rl) (fuel:Int) (L:List Tm) (lv d:Value) (w:World) (x:dI w) (g:jH (fun k=>k<w.heap.size) w l lv) (h:aG (fun k=>k<w.heap.size) w L d) (F:l.length<=1000000) (G: ∀r∈l,r.1.size<=100000/\r.2.size<=100000) (H: ∀t∈L,(t.size:Int)<=1000000000000) (hb: -9223372036854775808<=fuel/\fuel<=9223372036854775807) (D:L.length<=1000000):Calls Tryz.prog 166 #[lv,.int .i64 fuel,d] w fun e w'=>e= .returned (.int .i64 (oI l fuel L))/\Ext w w':=by
 have i:=ae (fun W (hW:Ext w W)=>GI l lv W ((g.ext hW).weaken (bW hW)) (aT x hW) F G);have j:=ae (fun W (hW:Ext w W)=>YE (fun t=>!wf aC t) L d (fun k=>k<w.heap.size) W (h.ext hW) D (fun t I u J y K=>aem t u J (aT x (hW.trans y)) (K.weaken (fun k hk=>aP hk (hW.trans y).size)) (H t I)));obtain⟨O,lc,rfl⟩:=g.shape;obtain⟨ta,tc,rfl⟩:=h.shape;obtain⟨Z,n⟩:=ay (oI l fuel L);rw[n];have a:Hid (Z=if(!dQ l||L.any fun t=>!wf aC t)=true then 1 else if fuel<0\/2000<fuel then 2 else 0):=ae n.symm;obtain⟨M,z⟩:=ay (dQ l);obtain⟨N,A⟩:=ay ((L.any fun t=>!wf aC t));rw[z] at i a;rw[A] at j a;clear g h n z A D;go_enter Tryz.func166,Tryz.ntmps166;go_wp2_with fail;refine(i.o _ (au.refl _ _)).mono ?_;rintro e w3 ⟨rfl,B⟩;have p:=ae B;clear B i;cases M with
 |false=>
  obtain rfl:Z=1:=by rw[a.o];simp
  go_wp2_with fail;go_ret;exact⟨rfl,p.o⟩
 |true=>
  go_wp2_with fail;refine(j.o _ p.o).mono ?_;rintro e P ⟨rfl,C⟩;have b:=ae (p.o.trans C);clear C j;cases N with
  |true=>
   obtain rfl:Z=1:=by rw[a.o];simp
   go_wp2_with fail;go_ret;exact⟨rfl,b.o⟩
  |false=>
   have E:Z=if fuel<0\/2000<fuel then 2 else 0:=by rw[a.o];simp
   have c:=ae E;clear E;by_cases h1:fuel<0
   .have t1:decide (fuel<0)=true:=dT h1;obtain rfl:Z=2:=by rw[c.o,if_pos (.inl h1)]
    go_wp2_with fail;go_ret;exact⟨rfl,b.o⟩
   have t1:decide (fuel<0)=false:=dF h1;by_cases q:2000<fuel
   .have t2:decide (2000<fuel)=true:=dT q;obtain rfl:Z=2:=by rw[c.o,if_pos (.inr q)]
    go_wp2_with fail;go_ret;exact⟨rfl,b.o⟩
   have t2:decide (2000<fuel)=false:=dF q;obtain rfl:Z=0:=by rw[c.o,if_neg (by omega)]
   go_wp2_with fail;go_ret;exact⟨rfl,b.o⟩
theorem aeo (l:List Rl) (fuel:Int) (L:List Tm) (lv d:Value) (S T:Nat->Prop) (w:World) (g:jH S w l lv) (h:aG T w L d) (B:l.length<=1000000) (hb: -9223372036854775808<=fuel/\fuel<=9223372036854775807) (z:L.length<=1000000):Calls Tryz.prog 40 #[lv,.int .i64 fuel,d] w fun e w'=>e= .returned (.int .i64 (oI l fuel L))/\Ext w w':=by
 have i:=ae (fun W (hW:Ext w W)=>Kt l lv S W (g.ext hW) B);have j:=ae (fun W (hW:Ext w W)=>YG (fun t=>!wf aC t) L d T W (h.ext hW) z (fun t H u C G D=>aen t u C T D));obtain⟨I,lc,rfl⟩:=g.shape;obtain⟨ta,tc,rfl⟩:=h.shape;obtain⟨Z,k⟩:=ay (oI l fuel L);rw[k];have a:Hid (Z=if(!dQ l||L.any fun t=>!wf aC t)=true then 1 else if fuel<0\/2000<fuel then 2 else 0):=ae k.symm;obtain⟨E,q⟩:=ay (dQ l);obtain⟨F,r⟩:=ay ((L.any fun t=>!wf aC t));rw[q] at i a;rw[r] at j a;clear g h k q r z;go_enter Tryz.func40,Tryz.ntmps40;go_wp2_with fail;refine(i.o _ (au.refl _ _)).mono ?_;rintro e w3 ⟨rfl,x⟩;have n:=ae x;clear x i;cases E with
 |false=>
  obtain rfl:Z=1:=by rw[a.o];simp
  go_wp2_with fail;go_ret;exact⟨rfl,n.o⟩
 |true=>
  go_wp2_with fail;refine(j.o _ n.o).mono ?_;rintro e J ⟨rfl,y⟩;have b:=ae (n.o.trans y);clear y j;cases F with
  |true=>
   obtain rfl:Z=1:=by rw[a.o];simp
   go_wp2_with fail;go_ret;exact⟨rfl,b.o⟩
  |false=>
   have A:Z=if fuel<0\/2000<fuel then 2 else 0:=by rw[a.o];simp
   have c:=ae A;clear A;by_cases h1:fuel<0
   .have t1:decide (fuel<0)=true:=dT h1;obtain rfl:Z=2:=by rw[c.o,if_pos (.inl h1)]
    go_wp2_with fail;go_ret;exact⟨rfl,b.o⟩
   have t1:decide (fuel<0)=false:=dF h1;by_cases p:2000<fuel
   .have t2:decide (2000<fuel)=true:=dT p;obtain rfl:Z=2:=by rw[c.o,if_pos (.inr p)]
    go_wp2_with fail;go_ret;exact⟨rfl,b.o⟩
   have t2:decide (2000<fuel)=false:=dF p;obtain rfl:Z=0:=by rw[c.o,if_neg (by omega)]
   go_wp2_with fail;go_ret;exact⟨rfl,b.o⟩
def kU (i:Nat) (p:List Nat):Rx:=((i:Int),p.map fun j:Nat=>(j:Int))
def Ry (l:List Rl) (t:Tm) (x:Rx):Tm×Int:=
 if x.1<0\/(l.length:Int)<=x.1 then(dD,2) else match iH t x.2 with
  |none=>(dD,2)
  |some u=>match qm (rg l x.1.toNat) u with
   |none=>(dD,12)
   |some z=>iD t (x.2.map Int.toNat) z
def C_ (l:List Rl) (t:Tm) (x:Rx):Tm×Int:=
 match iH t x.2 with
  |none=>(dD,2)
  |some u=>if x.1<0\/(l.length:Int)<=x.1 then(dD,2) else match kJ (rg l x.1.toNat).1 u [] with
   |none=>(dD,12)
   |some B=>if 1000< (bJ B (rg l x.1.toNat).2).size\/60< (bJ B (rg l x.1.toNat).2).depth then(dD,4) else if formed aC (putAt t (x.2.map Int.toNat) (bJ B (rg l x.1.toNat).2))=false then(dD,4) else(putAt t (x.2.map Int.toNat) (bJ B (rg l x.1.toNat).2),0)
theorem zN {l:List Rl} (h:dQ l=true) {i:Nat} (hi:i<l.length):qN (rg l i)=true:=by
 cases hr:qN (rg l i) with
 |true=>rfl
 |false=>rw[Rt hi hr] at h;cases h
theorem xu {r:Rl} (h:qN r=true):wf aC r.1=true/\wf aC r.2=true/\r.1.sort=ai/\∀f∈dL r.2,f∈dL r.1:=by
 rw[YB] at h;simp only[Bool.and_eq_true,decide_eq_true_eq] at h;obtain⟨⟨⟨h1,b⟩,c⟩,a⟩:=h;refine⟨h1,b,c,fun f hf=>?_⟩;unfold U0 at a;rw[List.all_eq_true] at a;have:=a f (((Aj b).2 f).2 hf);exact((Aj h1).2 f).1 (LU.1 this)
theorem aep {B:List Bd} {t:Tm} {f:Vd} (h:f∈dL (bJ B t)): ∃g∈dL t,f∈dL (gW B g.1 g.2):=by
 obtain⟨x,hx,h1,a⟩:=CW h;have hs:=Kr h;rcases Rz (σ:=gW B) t x hx with⟨y,_,_,b,_⟩|⟨g,d,c⟩
 .rw [a] at b;exact absurd b hs
 .refine ⟨g,d,U2 c ?_⟩;obtain⟨m,r,K⟩:=x;simp only[Tm.name,Tm.sort] at h1 a;have:f=(m,r):=Prod.ext h1.symm a.symm;rw[this];exact nK (by rw[a];exact hs) K
theorem aeq {r:Rl} {u:Tm} {B:List Bd} (hr:qN r=true) (h:kJ r.1 u []=some B): ∀f∈dL (bJ B r.2),f∈dL u:=by
 obtain⟨h1,l,n,e⟩:=xu hr;obtain⟨i,_,hb,_⟩:=BU (X:=dL r.1) (Y:=fun y=> ∀f∈dL y,f∈dL u) (fun t x j hx f hf=>j f (BR hx hf)) r.1 u [] B h (y_ h1) (fun f hf=>hf) (fun f hf=>hf) (rQ.nil _ _);intro f hf;obtain⟨g,k,a⟩:=aep hf;obtain⟨x,hx⟩:=hb g (e g k);have:gW B g.1 g.2=x:=zL hx;rw[this] at a;obtain⟨b,c,_,d⟩:=uO hx;exact i.val b c f (by rw[d];exact a)
theorem ahj {t z:Tm} {p:List Nat} (b:wf aC t=true) (hp:rM t p) (a: ∀f∈dL z,f∈dL t):wf aC (putAt t p z)=formed aC (putAt t p z):=by
 unfold wf;have hs:(kM (putAt t p z)).isSome=true:=(Ku _).2 (fun f hf g c e=>(oH.1 b).2.2.2 f (by
  rcases Ap z p t hp f hf with h|h
  .exact h
  .exact a f h) g (by
  rcases Ap z p t hp g c with h|h
  .exact h
  .exact a g h) e)
 rw[hs,Bool.and_true]
theorem ahk {l:List Rl} {t:Tm} {x:Rx} (hr:dQ l=true) (d:wf aC t=true):C_ l t x=Ry l t x:=by
 unfold C_ Ry;cases hs:iH t x.2 with
 |none=>simp only;split<;>rfl
 |some u=>
  simp only;by_cases hc:x.1<0\/(l.length:Int)<=x.1
  .rw [if_pos hc,if_pos hc]
  .rw [if_neg hc,if_neg hc];obtain⟨hp,hu⟩:=Lu hs;have a:=zN hr (i:=x.1.toNat) (by omega);obtain⟨h1,h,j,e⟩:=xu a;rw[YI h1 e];cases hm:kJ (rg l x.1.toNat).1 u [] with
   |none=>rfl
   |some B=>
    simp only[Option.map_some];have hv: ∀f∈dL (bJ B (rg l x.1.toNat).2),f∈dL t:=fun f hf=>by
     have:=aeq a hm f hf;rw[<-hu] at this;exact RD _ _ hp f this
    have hw:=ahj d hp hv;have g:=Oh (bJ B (rg l x.1.toNat).2) _ t hp;unfold iD;rw[hw];cases hf:formed aC (putAt t (x.2.map Int.toNat) (bJ B (rg l x.1.toNat).2)) with
    |true=>
     rw[hf] at hw;have b:=oH.1 hw;have c: ¬(1000< (bJ B (Go.Hw.rg l x.1.toNat).2).size\/60< (bJ B (Go.Hw.rg l x.1.toNat).2).depth):=by have:=b.1;have:=b.2.1;omega
     rw[if_neg c];simp
    |false=>split<;>simp
theorem U3: ∀{p:List Nat} {t:Tm},rM t p->iH t (p.map fun j:Nat=>(j:Int))=some (wZ t p)
 |[],t,_=>rfl
 |i::p,t,h=>by
  rw[List.map_cons,xM,if_neg (by have:=h.1;omega),Int.toNat_natCast];exact U3 h.2
theorem Kv (p:List Nat):(p.map fun j:Nat=>(j:Int)).map Int.toNat=p:=by
 rw[List.map_map];have:(Int.toNat∘fun j:Nat=>(j:Int))=id:=by funext j;simp
 rw[this,List.map_id]
theorem aer {l:List Rl} {t:Tm} {i:Nat} {p:List Nat} {u:Tm} (h:jk l t=some (i,p,u)):Ry l t (kU i p)=iD t p u:=by
 obtain⟨h1,b,a⟩:=yP l t i p u h;unfold Ry kU;rw[if_neg (by simp only;omega)];simp only;rw[U3 h1,Int.toNat_natCast];simp only[a];rw[Kv]
def zQ (l:List Rl):Nat->Tm->List Rx->Tm×List Rx×Int
 |0,t,a=>match jk l t with
  |none=>(t,a,0)
  |some _=>(dD,[],6)
 |n+1,t,a=>match jk l t with
  |none=>(t,a,0)
  |some x=>if(iD t x.2.1 x.2.2).2=0 then zQ l n (iD t x.2.1 x.2.2).1 (a++[kU x.1 x.2.1]) else(dD,[],(iD t x.2.1 x.2.2).2)
def uu (l:List Rl) (t:Tm) (fuel:Int):Tm×List Rx×Int:=if oI l fuel [t]=0 then zQ l fuel.toNat t [] else(dD,[],oI l fuel [t])
theorem Kw {l:List Rl} {fuel:Int} {t:Tm} (h:oI l fuel [t]=0):dQ l=true/\wf aC t=true/\0<=fuel/\fuel<=2000:=by
 unfold oI at h;split at h
 .cases h
 .rename_i h1
  split at h
  .cases h
  .rename_i b
   have a:(!dQ l||[t].any fun t=>!wf aC t)=false:=by simpa using h1
   simp at a;exact⟨a.1,a.2,by omega,by omega⟩
theorem Oi {t u:Tm} {p:List Nat} (h:(iD t p u).2=0):(iD t p u).1=putAt t p u/\wf aC (putAt t p u)=true:=by
 unfold iD at h⊢;split at h
 .rename_i h1;rw[if_pos h1];exact⟨rfl,h1⟩
 .cases h
end
end Go.Proofs.YtlkcjmaiahnodaaGreatDoor
