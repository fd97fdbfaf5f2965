/- The texts Y2 Y3 Y4 I83 Y5 N84 N64 N65, one behind the other. -/
import Derived.Test.YtlkcjmaiahnodaaGreatDoorSAS
import Derived.Test.YtlkcjmaiahnodaaGreatDoorSAE
import Derived.Test.YtlkcjmaiahnodaaGreatDoorSAH
import Derived.Test.YtlkcjmaiahnodaaGreatDoorSAG
import Derived.Test.YtlkcjmaiahnodaaGreatDoorSAI
import Derived.Test.YtlkcjmaiahnodaaGreatDoorSAP
import Derived.Test.YtlkcjmaiahnodaaGreatDoorSAQ
import Derived.Test.YtlkcjmaiahnodaaGreatDoorSAF
import Derived.Test.YtlkcjmaiahnodaaGreatDoorSAM
set_option maxRecDepth 100000
set_option maxHeartbeats 8000000
set_option linter.unusedVariables false
set_option linter.unusedSimpArgs false
namespace Go.Proofs.YtlkcjmaiahnodaaGreatDoor
open Go.RowKit Go.Hw Go Tm
theorem IQ: ∀(k:Nat) (l:List Dc) (us:List Value),(oJ l us).take (k*3)=oJ (l.take k) us
 |0,l,us=>by simp[oJ]
 |k+1,[],us=>by simp[oJ]
 |k+1,d::l,us=>by
  rw[show(k+1)*3=k*3+1+1+1 by omega];simp only[oJ,List.take_succ_cons,IQ k l us.tail]
theorem aeX {l:List Dc} {k i:Nat} (h:i<k):dg (l.take k) i=dg l i:=by
 unfold dg;rw[List.getD_eq_getElem?_getD,List.getElem?_take_of_lt h,<-List.getD_eq_getElem?_getD]
theorem tJ.to {S:Nat->Prop} {w:World} {a:Option Addr} {n cap:Nat} {l:List Dc} (h:tJ S w (.slice a n cap) l) {k:Nat} (hk:k<=l.length):tJ S w (.slice a k cap) (l.take k):=by
 obtain⟨us,h1,c⟩:=h;have b:=h1.to rfl k hk;rw[IQ] at b;have hl:(l.take k).length=k:=by rw[List.length_take,Nat.min_eq_left hk]
 refine⟨us,by rw[hl];exact b,fun i hi=>?_⟩;rw[hl] at hi;rw[aeX hi];exact c i (by omega)
theorem abU {l:List Dc} {k:Nat} (hk:k<l.length):((l.take k).any fun x=>decide (x.1=(dg l k).1))=!decide (cO l (dg l k).1=k):=by
 rw[Bool.eq_iff_iff,List.any_eq_true,Bool.not_eq_true',decide_eq_false_iff_not];constructor
 .rintro ⟨x,hx,h⟩ e;obtain⟨j,b,rfl⟩:=List.mem_iff_getElem.1 hx;have c:j<k:=by rw[List.length_take] at b;omega
  have a:=List.not_of_lt_findIdx (p:=fun d:Dc=>decide (d.1=(dg l k).1)) (xs:=l) (i:=j) (by have:(l.findIdx fun d=>decide (d.1=(dg l k).1))=k:=e;rw[this];exact c);rw[List.getElem_take] at h;rw[h] at a;cases a
 .intro h;refine Classical.byContradiction fun a=>h (Ua hk (fun j b e=>a ⟨dg l j,?_,dT e⟩) rfl);rw[wo (by omega)];exact List.mem_iff_getElem.2 ⟨j,by rw[List.length_take];omega,by rw[List.getElem_take]⟩
theorem Vh (g:Sg) (v:Value) (S:Nat->Prop) (w:World) (bf:xN S w g v) (aZ:dI w) (bB:g.1.length<=1000000) (b4:g.2.length<=1000000) (a1: ∀d∈g.2,d.2.1.length<=1000000):Calls Tryz.prog 123 #[v] w fun e w'=>e= .returned (.bool (lh aC g))/\Ext w w':=by
 have b5:=ae bf;obtain⟨L,sc,aA,A,rfl,aq,aD⟩:=bf;have bh:=ae aZ;have bC:=ae a1;have aE:=ae aq;have bj:=ae aD;have n:=ae ((uR w).alloc (bU L g.1.length sc aA g.2.length A));have R:=ae (aj w (bU L g.1.length sc aA g.2.length A));obtain⟨b,c1⟩:=aV R.o;have hsc:g.1.length<=sc:=aB.EH aq rfl;have bD:g.2.length<=A:=by obtain⟨us,h1,_⟩:=aD;exact aB.EH h1 rfl
 obtain⟨V,hV⟩:=ay (lh aC g);have G:=ae hV.symm;rw[hV];clear aq aD hV aZ a1;by_cases y:40<g.1.length
 .have a:Hid (V=false):=ae (by rw[G.o];unfold lh;rw[dF (by omega)];rfl);have B:(40:Int)< (g.1.length:Int):=by omega
  have a6:decide ((40:Int)< (g.1.length:Int))=true:=dT B;go_enter Tryz.func123,Tryz.ntmps123;go_wp2_with fail;all_goals go_ret
  all_goals (rw[a.o];exact⟨rfl,n.o⟩)
 have B: ¬(40:Int)< (g.1.length:Int):=by omega
 have a6:decide ((40:Int)< (g.1.length:Int))=false:=dF B;by_cases M:100<g.2.length
 .have a:Hid (V=false):=ae (by rw[G.o];unfold lh;rw[dF (p:=g.2.length<=100) (by omega)];simp);have z2:(100:Int)< (g.2.length:Int):=by omega
  have N:decide ((100:Int)< (g.2.length:Int))=true:=dT z2;go_enter Tryz.func123,Tryz.ntmps123;go_wp2_with fail;all_goals go_ret
  all_goals (rw[a.o];exact⟨rfl,n.o⟩)
 have z2: ¬(100:Int)< (g.2.length:Int):=by omega
 have N:decide ((100:Int)< (g.2.length:Int))=false:=dF z2;obtain⟨b0,ar⟩:=ay w.heap.size;try rw[ar] at R
 go_enter Tryz.func123,Tryz.ntmps123;go_wp2_with fail;clear B a6 z2 N b c1;generalize w.alloc (bU L g.1.length sc aA g.2.length A)=w1 at*;try rw[ar]
 clear ar;go_loopg [21] g.1.length (fun gk aF wr=> ∃k:Nat,aF= .int .i64 (k:Int)/\gk=g.1.length-k/\k<=g.1.length/\Hid (∀j,j<k->aC (g.1.getD j ai)=true/\g.1.getD j ai∉g.1.take j)/\Hid (Ext w1 wr));case atStart=>exact⟨0,rfl,rfl,Nat.zero_le _,ae (fun j h=>absurd h (Nat.not_lt_zero _)),ae (au.refl _ _)⟩
 case round=>
  obtain⟨k,rfl,rfl,hk,q,c⟩:=hrel;have T:=ae (c.o.heap R.o id);obtain⟨b,c1⟩:=aV T.o;by_cases i:k<g.1.length
  .have bE:=ae ((nP.ext aE.o (n.o.trans c.o)).to (k:=k) (by omega));have bA:k<=sc:=Nat.le_trans hk hsc;obtain⟨aG,off,av,_,H⟩:=nP.at_ (nP.ext aE.o (n.o.trans c.o)) (by omega);subst av;have C:=H k i;obtain⟨z0,B,z2,N⟩:=bH i;have z3:(k:Int)<=(g.1.length:Int):=by omega
   clear H;obtain⟨x,hx⟩:=ay (bg g.1 k);have bk:=ae hx;rw[hx] at C;clear hx;have D:=ae (wW x wr (aT bh.o (n.o.trans c.o)));have aH:=ae (fun W (hW:Ext wr W)=>VC (g.1.take k) x _ S W (nP.ext bE.o hW) (by rw[List.length_take];omega));have O:(g.1.take k).length=k:=by rw[List.length_take];omega
   have P:Hid (aC x=false\/x∈g.1.take k->V=false):=ae (fun h=>by rw[G.o];exact Nw i (by rw[show g.1.getD k ai=x from bk.o];exact h));have aI:Hid (aC x=true->x∉g.1.take k->∀j,j<k+1->aC (g.1.getD j ai)=true/\g.1.getD j ai∉g.1.take j):=ae (fun h1 bL j aJ=>by
    rcases Nat.lt_succ_iff_lt_or_eq.1 aJ with r|r
    .exact q.o j r
    .rw [r,show g.1.getD k ai=x from bk.o];exact⟨h1,bL⟩)
   obtain⟨aK,y⟩:=ay (aC x);rw[y] at D P aI;obtain⟨bM,M⟩:=ay (decide (x∈g.1.take k));rw[M] at aH;have I:=ae M;have bF:=ae (n.o.trans c.o);clear y M;go_wp2_with fail;refine D.o.mono ?_;rintro e bl ⟨rfl,J⟩;have a7:=ae (aH.o bl J);have U:=ae (bF.o.trans J);have bN:=ae (c.o.trans J);have bG:=ae (J.heap T.o id);clear J C b c1 D aH;have b:=ag bG.o 0 (.slice (some ⟨aG,off,none⟩) g.1.length sc) rfl;cases aK
   .have a:=ae (P.o (.inl rfl));go_wp2_with fail;all_goals go_ret
    all_goals (rw[a.o];exact⟨rfl,U.o⟩)
   .go_wp2_with fail;try rw[O] at a7
    refine a7.o.mono ?_;rintro e X ⟨rfl,l⟩;have E:=ae (U.o.trans l);have Y:=ae (bN.o.trans l);clear l b;cases bM
    .have aL:=ae (aI.o (by simp) (of_decide_eq_false I.o));clear aI P;go_wp2_with fail;go_roundg (g.1.length- (k+1));case measure=>omega
     case rel=>exact⟨k+1,by go_num,rfl,by omega,aL,Y⟩
    .have a:=ae (P.o (.inr (of_decide_eq_true I.o)));go_wp2_with fail;all_goals go_ret
     all_goals (rw[a.o];exact⟨rfl,E.o⟩)
  .obtain rfl:k=g.1.length:=by omega
   have z2:decide ((g.1.length:Int)< (g.1.length:Int))=false:=dF (by omega);have bO:=q;have H1:=ae (n.o.trans c.o);clear q c R;go_wp2_with fail;clear z2 b c1;obtain⟨Z,aM⟩: ∃Z,Z=wr:=⟨_,rfl⟩
   have a8:Hid (Ext Z wr):=ae (by rw[aM];exact au.refl _ _);rw[<-aM] at H1 T;clear aM;go_loopg [42] g.2.length (fun gk aF wr=> ∃k:Nat,aF= .int .i64 (k:Int)/\gk=g.2.length-k/\k<=g.2.length/\Hid (∀j,j<k->okD aC g j=true)/\Hid (Ext Z wr));case atStart=>exact⟨0,rfl,rfl,Nat.zero_le _,ae (fun j h=>absurd h (Nat.not_lt_zero _)),a8⟩
   case round=>
    clear a8;obtain⟨k,rfl,rfl,hk,q,c⟩:=hrel;have I:=ae (c.o.heap T.o id);obtain⟨b,c1⟩:=aV I.o;by_cases i:k<g.2.length
    .have ba:=ae (tJ.to (bj.o.ext (H1.o.trans c.o)) (k:=k) (by omega));have bA:k<=A:=Nat.le_trans hk bD;have O:(g.2.take k).length=k:=by rw[List.length_take];omega
     have aa:=ae (abU i);have aw:(dg g.2 k).2.1.length<=1000000:=bC.o _ (by rw[wo i];exact List.getElem_mem i);obtain⟨aG,off,av,_,H⟩:=(bj.o.ext (H1.o.trans c.o)).at_ (by omega);subst av;obtain⟨ab,ad,C,aN,aO,Q⟩:=H k i;obtain⟨z0,B,z2,N⟩:=bH i;have z3:(k:Int)<=(g.2.length:Int):=by omega
     have t:Hid (okD aC g k=(aC (dg g.2 k).1&&(decide (cO g.2 (dg g.2 k).1=k)&&(decide ((dg g.2 k).2.1.length<=6)&&(decide ((dg g.2 k).2.2∈g.1)&&(dg g.2 k).2.1.all fun s=>decide (s∈g.1)))))):=ae rfl;have bm:Hid (okD aC g k=true->∀j,j<k+1->okD aC g j=true):=ae (fun h j aJ=>by
      rcases Nat.lt_succ_iff_lt_or_eq.1 aJ with r|r
      .exact q.o j r
      .rw [r];exact h)
     have F:Hid (okD aC g k=false->V=false):=ae (fun h=>by rw[G.o];exact XE i h);obtain⟨⟨dn,da,u⟩,hdd⟩: ∃d,dg g.2 k=d:=⟨_,rfl⟩
     rw[hdd] at C aN aO t Q aa aw;dsimp only at C aN aO t Q aa aw;have hQ:=(uR wr).alloc (eP dn ab da.length ad u);have bn:=ae (H1.o.trans (c.o.trans hQ));have bI:=ae (aB.kept Q hQ (fun _ _ h=>h));have bP:=ae (c.o.trans hQ);have aP:=ae (aj wr (eP dn ab da.length ad u));have bo:=ae (hQ.heap I.o id);have bJ:=ae (ba.o.ext hQ);clear H hdd Q hQ q ba;obtain⟨d0,d1,d2⟩:=ah aP.o;have bQ:=ag bo.o 0 (.slice L g.1.length sc) rfl;have D:=ae (wW dn (wr.alloc (eP dn ab da.length ad u)) (aT bh.o bn.o));obtain⟨nd,ax⟩:=ay wr.heap.size;try rw[ax] at aP d0 d1 d2
     go_wp2_with fail;clear b c1 C aN aO bQ d0 d1 d2;generalize wr.alloc (eP dn ab da.length ad u)=bl at*;try rw[ax]
     clear ax;have U:=bn;have aQ:=aP;have aR:=bo;obtain⟨b,c1⟩:=aV aR.o;obtain⟨d0,d1,d2⟩:=ah aQ.o;refine D.o.mono ?_;rintro e X ⟨rfl,l⟩;have E:=ae (U.o.trans l);have Y:=ae l;have af:=ae (l.heap aR.o id);have aS:=ae (l.heap aQ.o id);clear l b c1 d0 d1 d2 D;obtain⟨b,c1⟩:=aV af.o;obtain⟨d0,d1,d2⟩:=ah aS.o;obtain⟨aK,y⟩:=ay (aC dn);rw[y] at t⊢;clear y;cases aK
     .have a:=ae (F.o (by rw[t.o];rfl));go_wp2_with fail;all_goals go_ret
      all_goals (rw[a.o];exact⟨rfl,E.o⟩)
     by_cases bb:6<da.length
     .have a:=ae (F.o (by rw[t.o,dF (p:=da.length<=6) (by omega)];simp));have ak:(6:Int)< (da.length:Int):=by omega
      have bp:decide ((6:Int)< (da.length:Int))=true:=dT ak;clear bb;go_wp2_with fail;all_goals go_ret
      all_goals (rw[a.o];exact⟨rfl,E.o⟩)
     have ak: ¬(6:Int)< (da.length:Int):=by omega
     have bp:decide ((6:Int)< (da.length:Int))=false:=dF ak;have aU:Hid (okD aC g k=(decide (cO g.2 dn=k)&&(decide (u∈g.1)&&da.all fun s=>decide (s∈g.1)))):=ae (by rw[t.o,dT (p:=da.length<=6) (by omega)];simp);have aW:=ae (fun(s:By) W (hW:Ext X W)=>akz g.1 s b0 L (some ⟨aG,off,none⟩) sc g.2.length A S W (hW.heap af.o id) (nP.ext aE.o (E.o.trans hW)) bB);have bq:=ae (aW.o u X (au.refl _ _));have br:=ae (fun W (hW:Ext X W)=>abR (fun s=>!decide (s∈g.1)) da _ S b0 W (aB.kept bI.o (Y.o.trans hW) (fun _ _ h=>h)) aw (fun s _ bR bK=>(aW.o s bR (hW.trans bK))));clear t bb aW aR aQ;go_wp2_with fail;refine bq.o.mono ?_;rintro e bS ⟨rfl,z⟩;have bs:=ae (E.o.trans z);have bT:=ae (Y.o.trans z);have bt:=ae (br.o bS z);have aX:=ae (z.heap af.o id);have aY:=ae (z.heap aS.o id);clear z b c1 d0 d1 d2 bq br ak bp af aS;obtain⟨b,c1⟩:=aV aX.o;obtain⟨d0,d1,d2⟩:=ah aY.o;by_cases hm:u∈g.1;case neg=>
      have a:=ae (F.o (by rw[aU.o,dF hm];simp));rw[dF hm];clear hm;go_wp2_with fail;all_goals go_ret
      all_goals (rw[a.o];exact⟨rfl,bs.o⟩)
     have al:Hid (okD aC g k=(decide (cO g.2 dn=k)&&!da.any fun s=>!decide (s∈g.1))):=ae (by
      rw[aU.o,dT hm,Bool.true_and];congr 1;rw[List.any_eq_not_all_not];simp)
     rw[dT hm];clear hm aU;go_wp2_with fail;refine bt.o.mono ?_;rintro e bV ⟨rfl,K⟩;have bu:=ae (bs.o.trans K);have bw:=ae (bT.o.trans K);have bx:=ae (K.heap aX.o id);have bz:=ae (K.heap aY.o id);clear K b c1 d0 d1 d2 bt aX aY;obtain⟨b,c1⟩:=aV bx.o;obtain⟨d0,d1,d2⟩:=ah bz.o;obtain⟨bW,bc⟩:=ay ((da.any fun s=>!decide (s∈g.1)));rw[bc] at al⊢;clear bc;cases bW
     case true=>
      have a:=ae (F.o (by rw[al.o];simp));go_wp2_with fail;all_goals go_ret
      all_goals (rw[a.o];exact⟨rfl,bu.o⟩)
     have an:Hid (okD aC g k=decide (cO g.2 dn=k)):=ae (by rw[al.o];simp);have ao:=ae (abT (fun x=>decide (x.1=dn)) (g.2.take k) _ S nd bV (bJ.o.ext bw.o) (by rw[O];omega) (fun x _ bX bY W hW _=>aj0 x dn nd bX bY W (hW.cell d0 id)));rw[aa.o] at ao;clear al aa;go_wp2_with fail;try rw[O] at ao
     refine ao.o.mono ?_;rintro e b6 ⟨rfl,az⟩;have bZ:=ae (bu.o.trans az);have b1:=ae (bP.o.trans (bw.o.trans az));clear az b c1 d0 d1 d2 ao bx bz;obtain⟨b2,bd⟩:=ay (decide (cO g.2 dn=k));rw[bd] at an⊢;clear bd;cases b2
     .have a:=ae (F.o an.o);go_wp2_with fail;all_goals go_ret
      all_goals (rw[a.o];exact⟨rfl,bZ.o⟩)
     .have aL:=ae (bm.o an.o);clear F bm an;go_wp2_with fail;go_roundg (g.2.length- (k+1));case measure=>omega
      case rel=>exact⟨k+1,by go_num,rfl,by omega,aL,b1⟩
    .obtain rfl:k=g.2.length:=by omega
     have z2:decide ((g.2.length:Int)< (g.2.length:Int))=false:=dF (by omega);have a:Hid (V=true):=ae (by rw[G.o];exact Uc (by omega) (by omega) bO.o q.o);have b3:=ae (H1.o.trans c.o);go_wp2_with fail;all_goals go_ret
     all_goals (rw[a.o];exact⟨rfl,b3.o⟩)
def qB (g:Sg) (s:By):Dc×Bool:=if cO g.2 s<g.2.length then(dg g.2 (cO g.2 s),true) else((ai,[],ai),false)
theorem Ll (g:Sg) (s:By) (v:Value) (S:Nat->Prop) (w:World) (al:xN S w g v) (hS: ∀k,S k->k<w.heap.size) (hl:g.2.length<=1000000):
  Calls Tryz.prog 189 #[v,.string s] w fun e w'=> ∃c h,e= .returned (.tuple #[.agg #[.string (qB g s).1.1,.slice c (qB g s).1.2.1.length h,.string (qB g s).1.2.2],.bool (qB g s).2])/\yA S w' (.slice c (qB g s).1.2.1.length h) (qB g s).1.2.1/\Ext w w':=by
 obtain⟨u,sc,r,l,rfl,aa,F⟩:=al;have an:=ae F;have ao:=ae hS;have G:=(((uR w).alloc (bU u g.1.length sc r g.2.length l)).alloc (qx s)).alloc (eP ⟨#[]⟩ none 0 0 ⟨#[]⟩);have V:=ae G;have y:=ae (ak (ak (aj w (bU u g.1.length sc r g.2.length l)) (qx s)) (eP ⟨#[]⟩ none 0 0 ⟨#[]⟩));have B:=ae (ak (alloc_at (w.alloc (bU u g.1.length sc r g.2.length l)) (qx s) (n:=w.heap.size+1) (by simp)) (eP ⟨#[]⟩ none 0 0 ⟨#[]⟩));have z:=ae (alloc_at ((w.alloc (bU u g.1.length sc r g.2.length l)).alloc (qx s)) (eP ⟨#[]⟩ none 0 0 ⟨#[]⟩) (n:=w.heap.size+2) (by simp));have p:Hid (qB g s=if cO g.2 s<g.2.length then(dg g.2 (cO g.2 s),true) else((ai,[],ai),false)):=ae rfl;have b:=ae (Zv (fun d=>decide (d.1=s)) g.2 _ S (w.heap.size+1) (((w.alloc (bU u g.1.length sc r g.2.length l)).alloc (qx s)).alloc (eP ⟨#[]⟩ none 0 0 ⟨#[]⟩)) (F.ext G) hl (fun x _ aq ar W hW _=>aeW x s _ aq ar W (ag (hW.heap B.o id) 0 (.string s) rfl)));have c1:=ag y.o 1 (.slice r g.2.length l) rfl;rw[<-ajZ] at b;obtain⟨D,Q⟩:=ay (qB g s);rw[Q] at p⊢;clear aa F G hS Q;by_cases hd:cO g.2 s<g.2.length
 .have t:mQ g.2 s=(cO g.2 s:Int):=by unfold mQ;rw[if_pos hd]
  rw[t] at b;rw[if_pos hd] at p;obtain⟨k,R⟩:=ay (cO g.2 s);rw[R] at hd p b;have z0: ¬(k:Int)<0:=by omega
  have av:decide ((k:Int)<0)=false:=dF z0;have aw:(0:Int)<=(k:Int):=by omega
  have az:(k:Int)< (g.2.length:Int):=by omega
  clear t R B;go_enter Tryz.func189,Tryz.ntmps189;go_wp2_with fail;refine b.o.mono ?_;rintro e H ⟨rfl,a⟩;have A:=ae (V.o.trans a);have ab:=ae (a.heap y.o id);have q:=ae (a.heap z.o id);obtain⟨au,off,ad,_,T⟩:=(an.o.ext A.o).at_ (by omega);subst ad;obtain⟨c,h,X,Y,Z,U⟩:=T k hd;have I:=ae U;have af:=a.size;clear a c1 b T y z U;have c1:=ag ab.o 1 (.slice (some ⟨au,off,none⟩) g.2.length l) rfl;have f2:=fun i=>ax q.o i;obtain⟨t0,t1,t2⟩:=ah q.o;obtain⟨x,hx⟩:=ay (dg g.2 k)
  rw[hx] at X Y Z p I;obtain⟨J,K,L⟩:=x;dsimp only at X Y Z I;clear hx;go_wp2_with fail;have C:=aO q.o (.string J) (.slice c K.length h) (.string L);have hu:=aN H (w.heap.size+2) (.string J) (.slice c K.length h) (.string L);obtain⟨M,N,O⟩:=ah C;refine bodyPost_ret (v:= .tuple #[.agg #[.string J,.slice c K.length h,.string L],.bool true]) (by simp[results,Tryz.results189,go_sem,M,N,O]) rfl ?_;have E:=A.o.trans' hu (fun j P e=>by omega);rw[p.o];exact⟨c,h,rfl,aB.kept I.o hu (fun j P e=>by have:=ao.o j P;omega),E⟩
 .have t:mQ g.2 s= -1:=by unfold mQ;rw[if_neg hd]
  rw[t] at b;rw[if_neg hd] at p;clear t hd B;go_enter Tryz.func189,Tryz.ntmps189;go_wp2_with fail;refine b.o.mono ?_;rintro e H ⟨rfl,a⟩;have A:=ae (V.o.trans a);have q:=ae (a.heap z.o id);have af:=a.size;clear a c1 b y z;have f2:=fun i=>ax q.o i;obtain⟨t0,t1,t2⟩:=ah q.o
  go_wp2_with fail;have C:=aO q.o (.string ⟨#[]⟩) (.slice none 0 0) (.string ⟨#[]⟩);have hu:=aN H (w.heap.size+2) (.string ⟨#[]⟩) (.slice none 0 0) (.string ⟨#[]⟩);obtain⟨M,N,O⟩:=ah C;refine bodyPost_ret (v:= .tuple #[.agg #[.string ⟨#[]⟩,.slice none 0 0,.string ⟨#[]⟩],.bool false]) (by simp[results,Tryz.results189,go_sem,M,N,O]) rfl ?_;have E:=A.o.trans' hu (fun j P e=>by omega);rw[p.o];exact⟨none,0,rfl,aB.nil _ _ _,E⟩
def DF (g:Sg) (t:Tm):By×Bool:=if t.sort≠ai then(t.sort,true) else((qB g t.name).1.2.2,(qB g t.name).2)
theorem Zw (g:Sg) (t:Tm) (v u:Value) (S T:Nat->Prop) (w:World) (B:xN S w g v) (hS: ∀k,S k->k<w.heap.size) (j:bQ T w t u) (hl:g.2.length<=1000000):
  Calls Tryz.prog 131 #[v,u] w fun e w'=>e= .returned (.tuple #[.string (DF g t).1,.bool (DF g t).2])/\Ext w w':=by
 have l:=ae (fun s W (hW:Ext w W)=>Ll g s v S W (B.ext hW) (fun k hk=>aP (hS k hk) hW.size) hl);obtain⟨p,sc,q,r,rfl,_,_⟩:=B;obtain⟨a,cap,rfl,j⟩:=j;obtain⟨nm,so,L⟩:=t;dsimp only[tV,Tm.name,Tm.sort,Tm.kids];have x:=ae (((uR w).alloc (bU p g.1.length sc q g.2.length r)).alloc (af nm so a L.length cap));have y:=ae (ak (aj w (bU p g.1.length sc q g.2.length r)) (af nm so a L.length cap));have z:=ae (alloc_at (w.alloc (bU p g.1.length sc q g.2.length r)) (af nm so a L.length cap) (n:=w.heap.size+1) (by simp));obtain⟨G,c1⟩:=aV y.o;obtain⟨t0,t1⟩:=aV z.o;have b:Hid (DF g (.mk nm so L)=if so≠ai then(so,true) else((qB g nm).1.2.2,(qB g nm).2)):=ae rfl;obtain⟨V,hV⟩:=ay (DF g (.mk nm so L));rw[hV] at b⊢;clear j hV;by_cases h:so.size=0
 .have E:=gJ _ h;subst E;have c:Hid (V=((qB g nm).1.2.2,(qB g nm).2)):=ae (by rw[b.o,if_neg (by simp[ai])]);have i:=ae (l.o nm _ x.o);clear b l h;obtain⟨⟨⟨d1,d2,d3⟩,db⟩,hd⟩: ∃d,qB g nm=d:=⟨_,rfl⟩
  rw[hd] at c i;dsimp only at c i;clear hd;go_enter Tryz.func131,Tryz.ntmps131;go_wp2_with fail;refine i.o.mono ?_;rintro e H ⟨C,D,rfl,_,A⟩;have I:=ae (x.o.trans (A.alloc (eP d1 C d2.length D d3)));have F:=ae (aj H (eP d1 C d2.length D d3));have J:=ag F.o 2 (.string d3) rfl;clear A G c1 t0 t1 i y z;go_wp2_with fail;go_ret2;rw[c.o];exact⟨rfl,I.o⟩
 .obtain ⟨K,M,N,O⟩:=eG so (by omega);have c:Hid (V=(so,true)):=ae (by rw[b.o,if_pos (by rintro rfl;exact h rfl)]);clear b l h;go_enter Tryz.func131,Tryz.ntmps131;go_wp2_with fail;go_ret2;rw[c.o];exact⟨rfl,x.o⟩
theorem TA (g:Sg) (t:Tm):(DF g t).1=fZ g t:=by
 unfold DF fZ qB;by_cases h:t.sort≠ai
 .rw [if_pos h,if_pos h]
 .rw [if_neg h,if_neg h];by_cases a:cO g.2 t.name<g.2.length
  .rw [if_pos a,if_pos a]
  .rw [if_neg a,if_neg a]
theorem abV {g:Sg} (hr:O8 g) (t:Tm):(DF g t).2=!decide (fZ g t=ai):=by
 unfold DF fZ qB;by_cases h:t.sort≠ai
 .rw [if_pos h,if_pos h,dF h];rfl
 .rw [if_neg h,if_neg h];by_cases a:cO g.2 t.name<g.2.length
  .rw [if_pos a,if_pos a];rw[dF (hr _ (by rw[wo a];exact List.getElem_mem a))];rfl
  .rw [if_neg a,if_neg a];simp
theorem abW {g:Sg} {L:List Tm} {A:List By} {k:Nat} (hk:k<L.length) (h1:fZ g (tg L k)≠ai) (a:fZ g (tg L k)≠A.getD k ai):ou g L A=true:=by
 unfold ou;rw[List.any_eq_true];exact⟨k,List.mem_range.2 hk,by rw[dF h1,dF a];rfl⟩
theorem abX {g:Sg} {L:List Tm} {A:List By} (h: ∀k,k<L.length->fZ g (tg L k)=ai\/fZ g (tg L k)=A.getD k ai):ou g L A=false:=by
 unfold ou;rw[List.any_eq_false];intro k hk;rcases h k (List.mem_range.1 hk) with h1|h1
 .rw [dT h1];simp
 .rw [dT h1];simp
theorem abY (g:Sg) (t:Tm) (v u:Value) (S T:Nat->Prop) (w:World) (ax:xN S w g v) (hS: ∀k,S k->k<w.heap.size) (M:bQ T w t u) (hr:O8 g) (a6:g.1.length<=1000000) (hl:g.2.length<=1000000) (aK: ∀d∈g.2,d.2.1.length<=1000000):
  Calls Tryz.prog 130 #[v,u] w fun e w'=>e= .returned (.int .i64 (Lh g t))/\Ext w w':=by
 have az:=ae (fun s W (hW:Ext w W)=>Ll g s v S W (ax.ext hW) (fun k hk=>aP (hS k hk) hW.size) hl);have an:=ae (fun x y W (hW:Ext w W) (hx:bQ T W x y)=>Zw g x v y S T W (ax.ext hW) (fun k hk=>aP (hS k hk) hW.size) hx hl);have aL:=ae hr;obtain⟨N,sc,O,Q,rfl,aM,_⟩:=ax;obtain⟨a,cap,rfl,M⟩:=M;obtain⟨nm,so,L⟩:=t;dsimp only[tV,Tm.name,Tm.sort,Tm.kids] at M⊢;have bh:=ae aM;have bj:=ae M;have H:=ae (((uR w).alloc (bU N g.1.length sc O g.2.length Q)).alloc (af nm so a L.length cap));have Z:=ae (ak (aj w (bU N g.1.length sc O g.2.length Q)) (af nm so a L.length cap));have aa:=ae (alloc_at (w.alloc (bU N g.1.length sc O g.2.length Q)) (af nm so a L.length cap) (n:=w.heap.size+1) (by simp));obtain⟨I,c1⟩:=aV Z.o;obtain⟨t0,t1,t2⟩:=ah aa.o;have R:=ae (adD g nm so L);obtain⟨V,hV⟩:=ay (Lh g (.mk nm so L));rw[hV] at R⊢;clear M hV aM hr;by_cases ab:so.size=0;case neg=>
  obtain⟨bD,bE,bF,bG⟩:=eG so (by omega);have p:Hid (V=if so∈g.1 then 0 else 9):=ae (by rw[R.o,if_pos (by rintro rfl;exact ab rfl)]);have ao:=ae (VC g.1 so _ S ((w.alloc (bU N g.1.length sc O g.2.length Q)).alloc (af nm so a L.length cap)) (nP.ext bh.o H.o) a6);clear R az ab an aL;by_cases hm:so∈g.1
  .have c:Hid (V=0):=ae (by rw[p.o,if_pos hm]);rw[dT hm] at ao;clear hm p;go_enter Tryz.func130,Tryz.ntmps130;go_wp2_with fail;refine ao.o.mono ?_;rintro e B ⟨rfl,b⟩;have i:=ae (H.o.trans b);clear b I c1 t0 t1 t2;go_wp2_with fail;go_ret;rw[c.o];exact⟨rfl,i.o⟩
  .have c:Hid (V=9):=ae (by rw[p.o,if_neg hm]);rw[dF hm] at ao;clear hm p;go_enter Tryz.func130,Tryz.ntmps130;go_wp2_with fail;refine ao.o.mono ?_;rintro e B ⟨rfl,b⟩;have i:=ae (H.o.trans b);clear b I c1 t0 t1 t2;go_wp2_with fail;go_ret;rw[c.o];exact⟨rfl,i.o⟩
 have a7:=gJ _ ab;subst a7;have p:Hid (V=if ¬cO g.2 nm<g.2.length then 9 else if L.length≠(dg g.2 (cO g.2 nm)).2.1.length then 3 else if ou g L (dg g.2 (cO g.2 nm)).2.1=true then 11 else 0):=ae (by rw[R.o,if_neg (by simp[ai])]);have q:=ae (az.o nm _ H.o);clear R az ab;have aq:Hid (qB g nm=if cO g.2 nm<g.2.length then(dg g.2 (cO g.2 nm),true) else((ai,[],ai),false)):=ae rfl;by_cases hd:cO g.2 nm<g.2.length;case neg=>
  have c:Hid (V=9):=ae (by rw[p.o,if_pos hd]);have A:=aq.o;rw[if_neg hd] at A;rw[A] at q;dsimp only at q;clear hd A aq p an;go_enter Tryz.func130,Tryz.ntmps130;go_wp2_with fail;refine q.o.mono ?_;rintro e B ⟨C,r,rfl,_,b⟩;have i:=ae (H.o.trans (b.alloc (eP ai C (([]:List By).length) r ai)));clear b I c1 t0 t1 t2 q Z aa;go_wp2_with fail;go_ret;rw[c.o];exact⟨rfl,i.o⟩
 have U:Hid (V=if L.length≠(dg g.2 (cO g.2 nm)).2.1.length then 3 else if ou g L (dg g.2 (cO g.2 nm)).2.1=true then 11 else 0):=ae (by rw[p.o,if_neg (fun h=>h hd)]);have A:=aq.o;rw[if_pos hd] at A;rw[A] at q;obtain⟨⟨d1,d2,d3⟩,hdd⟩: ∃d,dg g.2 (cO g.2 nm)=d:=⟨_,rfl⟩
 have aN:=aK _ (show dg g.2 (cO g.2 nm)∈g.2 by rw[wo hd];exact List.getElem_mem hd);rw[hdd] at q U aN;dsimp only at q U aN;clear hd A aq p hdd aK;go_enter Tryz.func130,Tryz.ntmps130;go_wp2_with fail;refine q.o.mono ?_;rintro e B ⟨C,r,rfl,hA,b⟩;have ar:=b.alloc (eP d1 C d2.length r d3);have i:=ae (H.o.trans ar);have bk:=ae (ar.heap Z.o id);have bl:=ae (ar.heap aa.o id);have aA:=ae (aj B (eP d1 C d2.length r d3));have a8:=ae (aB.kept hA ((uR B).alloc (eP d1 C d2.length r d3)) (fun _ _ h=>h));clear b ar I c1 t0 t1 t2 q Z aa hA;have t2:=ag bl.o 2 (.slice a L.length cap) rfl;have aO:=ag aA.o 1 (.slice C d2.length r) rfl;by_cases G:L.length=d2.length;case neg=>
  have c:Hid (V=3):=ae (by rw[U.o,if_pos G]);have av:((L.length:Int)==(d2.length:Int))=false:=beq_eq_false_iff_ne.2 (by omega);have aT:((L.length:Int) !=(d2.length:Int))=true:=by simp[av,bne]
  clear an G;go_wp2_with fail;go_ret;rw[c.o];exact⟨rfl,i.o⟩
 have aU:Hid (V=if ou g L d2=true then 11 else 0):=ae (by rw[U.o,if_neg (fun h=>h G)]);have av:((L.length:Int)==(d2.length:Int))=true:=by rw[G];simp
 have aT:((L.length:Int) !=(d2.length:Int))=false:=by simp[av,bne]
 have bm:=ae G;have bB:L.length<=1000000:=by omega
 clear G U;go_wp2_with fail;clear av aT t2 aO;generalize B.alloc (eP d1 C d2.length r d3)=bn at*;obtain⟨nd,aw⟩:=ay B.heap.size;try rw[aw] at aA
 try rw[aw]
 clear aw;go_loopg [41] L.length (fun gk bo wr=> ∃k:Nat,bo= .int .i64 (k:Int)/\gk=L.length-k/\k<=L.length/\Hid (∀j,j<k->fZ g (tg L j)=ai\/fZ g (tg L j)=d2.getD j ai)/\Hid (Ext bn wr));case atStart=>exact⟨0,rfl,rfl,Nat.zero_le _,ae (fun j h=>absurd h (Nat.not_lt_zero _)),ae (au.refl _ _)⟩
 case round=>
  obtain⟨k,rfl,rfl,hk,aC,D⟩:=hrel;have aQ:=ae (D.o.heap bk.o id);have ba:=ae (D.o.heap aA.o id);by_cases ad:k<L.length
  .have bb:k<d2.length:=by rw[<-bm.o];exact ad
   obtain⟨bI,off,bc,_,aR⟩:=(bj.o.ext (i.o.trans D.o)).at_ (by omega);subst bc;obtain⟨J,K,aW,aD,aE,aX⟩:=aR k ad;rw[<-Nat.add_assoc] at aD aE;obtain⟨g2,bp,bq,_,aY⟩:=aB.ve (d:=ai) (aB.kept a8.o D.o (fun _ _ h=>h)) (by omega);subst bq;have aF:=aY k bb;obtain⟨z0,bJ,z2,bC⟩:=bH ad;have u1:(k:Int)< (d2.length:Int):=by omega
   have F:=ae (fun W (hW:Ext wr W)=>an.o (tg L k) (tV (tg L k) (.slice J (tg L k).kids.length K)) W ((i.o.trans D.o).trans hW) ⟨J,K,rfl,aX.ext hW⟩);have X:=ae (TA g (tg L k));have l:=ae (abV aL.o (tg L k));have E:Hid (fZ g (tg L k)≠ai->fZ g (tg L k)≠d2.getD k ai->V=11):=ae (fun h1 br=>by rw[aU.o,if_pos (abW ad h1 br)]);have z:Hid ((fZ g (tg L k)=ai\/fZ g (tg L k)=d2.getD k ai)->∀j,j<k+1->fZ g (tg L j)=ai\/fZ g (tg L j)=d2.getD j ai):=ae (fun h j bs=>by
    rcases Nat.lt_succ_iff_lt_or_eq.1 bs with aG|aG
    .exact aC.o j aG
    .rw [aG];exact h)
   obtain⟨x,hx⟩:=ay (tg L k);rw[hx] at aW aD aE F X l E z;obtain⟨y,hy⟩:=ay (d2.getD k ai);rw[hy] at aF E z;dsimp only[tV] at F;obtain⟨P,aZ⟩:=ay (DF g x);rw[aZ] at F X l;obtain⟨aH,bt⟩:=P;dsimp only at F X l;rw[<-X.o] at l E z;have bd:=ae (D.o.trans ((uR wr).alloc (tO x J K)));have bu:=ae (aj wr (tO x J K));have Y:=ae ((uR wr).alloc (tO x J K));have I:=ag (Y.o.heap aQ.o id) 0 (.slice N g.1.length sc) rfl;have c1:=ag (Y.o.heap aQ.o id) 1 (.slice O g.2.length Q) rfl;obtain⟨bw,bx,bz⟩:=ah bu.o;have aS:=Y.o.cell aF id;have a1:=ae (F.o _ Y.o);have bf:=ae (Y.o.heap ba.o id);clear aR aY aX hx hy aZ F aC X aF;go_wp2_with fail;clear aW aD aE;generalize wr.alloc (tO x J K)=bK at*;refine a1.o.mono ?_;rintro e bL ⟨rfl,al⟩;have aI:=ae (bd.o.trans al);have bg:=ae (i.o.trans aI.o);have r1:=al.cell aS id;have aO:=ag (al.heap bf.o id) 1 (.slice (some ⟨g2,bp,none⟩) d2.length r) rfl;clear al I c1 bw bx bz aS a1;cases bt
   .have hn:aH=ai:=by have:=l.o;simpa using this.symm
    have aJ:=ae (z.o (.inl hn));clear hn z E l;go_wp2_with fail;go_roundg (L.length- (k+1));case measure=>omega
    case rel=>exact⟨k+1,by go_num,rfl,by omega,aJ,aI⟩
   .have hn:aH≠ai:=by have:=l.o;simpa using this
    by_cases he:aH=y
    .have aJ:=ae (z.o (.inr he));subst he;clear hn z E l;go_wp2_with fail;go_roundg (L.length- (k+1));case measure=>omega
     case rel=>exact⟨k+1,by go_num,rfl,by omega,aJ,aI⟩
    .have c:=ae (E.o hn he);have t9:=yZ he;clear hn he z E l;go_wp2_with fail;go_ret;rw[c.o];exact⟨rfl,bg.o⟩
  .obtain rfl:k=L.length:=by omega
   have z2:decide ((L.length:Int)< (L.length:Int))=false:=dF (by omega);have c:Hid (V=0):=ae (by rw[aU.o,if_neg (by rw[abX aC.o];decide)]);have bA:=ae (i.o.trans D.o);go_wp2_with fail;go_ret;rw[c.o];exact⟨rfl,bA.o⟩
section
open Go.Shelf
attribute [local go_sem] Oper.semAt_some
theorem Ej {α:Type} {a:List α->World->Prop} {B:Nat} (h:AbidesFrom B a) {pre:List α} {W:World} (o:Obj) (b:a pre W):a pre (W.alloc o):=h pre W _ none b (World.grownBy_alloc W o none) (fun r e=>by cases e)
structure jB (S:Nat->Prop) (w0:World) where
 t:Tm
 a:Option Addr
 cap:Nat
 d:Nat
 ok:aG S w0 t.kids (.slice a t.kids.length cap)
def jB.encs {S:Nat->Prop} {w0:World} (x:jB S w0):Array Value:= #[tV x.t (.slice x.a x.t.kids.length x.cap),.int .i64 (x.d:Int)]
def jB.pr {S:Nat->Prop} {w0:World} (x:jB S w0):Tm×Nat:=(x.t,x.d)
theorem Zy (F:Fence) (hd:F.depth=none) (hf: ∀k,F.fn k) (hro:F.round=none) (l p E N ao:Nat) (G S:Nat->Prop) (hS: ∀k,S k->¬G k) (aq: ¬G p) (ar: ∀k,G k->k<E) (w0:World) (i M:List (jB S w0)->World->Prop) (O:AbidesFrom ao i)
  (av: ∀m pre x W,i pre W->pre.length<N->YieldAt F m Tryz.prog l x.encs W fun e W'=>(e= .returned (.bool true)/\i (pre++[x]) W'/\fE G W W')\/(e= .returned (.bool false)/\M (pre++[x]) W')):
  ∀(t:Tm) (n:Nat) (a:Option Addr) (cap d:Nat) (pre:List (jB S w0)) (W:World),aG S w0 t.kids (.slice a t.kids.length cap)->fE G w0 W->W.heap[p]?=some (.cells #[(.func (.func 187) #[] #[.pointer (az p)])] 219 (0,0))->i pre W->E<=W.heap.size->pre.length+t.size<=N->((d+t.size:Nat):Int)<=4611686018427387904->
   CallsIn F n Tryz.prog 187 #[tV t (.slice a t.kids.length cap),.int .i64 (d:Int),.func (.yield l) #[] #[],.pointer (az p)] W fun e W'=>
    (e= .returned (.bool true)/\∃xs:List (jB S w0),xs.map jB.pr=di d t/\i (pre++xs) W'/\fE G W W')\/(e= .returned (.bool false)/\∃q:List (jB S w0),q.map jB.pr <+:di d t/\M (pre++q) W'):=by
 have hdd: ∀k:Nat,(F.depth.isSome=true->1<=k):=fun k h=>by rw[hd] at h;cases h
 refine Tm.ind (fun nm so L aw=>?_);intro n a cap d pre W hR T hV U aE ax aA;have I:=size_eq (.mk nm so L);dsimp only[tV,Tm.name,Tm.sort,Tm.kids] at hR I⊢;rw[I] at ax aA;have hb:=aj W (af nm so a L.length cap);obtain⟨aJ,c1,c2⟩:=ah hb;have V:fE G W (W.alloc (af nm so a L.length cap)):=fE.qM ((au.refl _ W).alloc _);have X: ¬G W.heap.size:=fun h=>by have:=ar _ h;omega
 obtain⟨fn,tmps,assign,body,hy,J⟩:=av (n-1) pre ⟨.mk nm so L,a,cap,d,hR⟩ (W.alloc (af nm so a L.length cap)) (Ej O _ U) (by omega);dsimp only[jB.encs,tV,Tm.name,Tm.sort,Tm.kids] at hy;refine callsIn_of_wp Tryz.func187 rfl (hf 187) ?_ hro;simp only[Tryz.ntmps187,List.size_toArray,List.length_cons,List.length_nil,Nat.reduceAdd,Nat.reduceSub,Array.replicate_succ,Array.replicate_zero,List.push_toArray,List.append_toArray,List.nil_append,List.cons_append]
 gi_wp2
 refine J.mono ?_;clear J;rintro e aK (⟨rfl,Y,K⟩|⟨rfl,Z⟩)
 .have aa:=K.cells _ _ _ _ X hb;have d2:=ag aa 2 (.slice a L.length cap) rfl
  gi_wp2
  gi_loopg [18] (L.length) (fun gk aB wr=> ∃(k:Nat) (xs:List (jB S w0)),aB= .int .i64 (k:Int)/\gk=L.length-k/\k<=L.length/\xs.map jB.pr=dh (d+1) (L.take k)/\i (pre++[⟨.mk nm so L,a,cap,d,hR⟩]++xs) wr/\fE G W wr)
  case atStart=>exact⟨0,[],rfl,rfl,Nat.zero_le _,rfl,by simpa using Y,V.trans K⟩
  case round=>
   obtain⟨k,xs,rfl,rfl,hk,u,P,o⟩:=hrel;by_cases c:k<L.length
   .obtain ⟨g,off,rfl,C,ab⟩:=hR.at_ (by omega);obtain⟨a',j,D,z,A,Q⟩:=ab k c;have w:=T.trans o;have D:=w.cell (hS _ C) rfl D;have z:=w.cell (hS _ C) rfl z;have A:=w.cell (hS _ C) rfl A;have z0:(0:Int)<=(k:Int):=by omega
    have aC:(k:Int)< (L.length:Int):=by omega
    have z2:decide ((k:Int)< (L.length:Int))=true:=dT aC;have hv:=o.cells _ _ _ _ aq hV;have H:tg L k∈L:=by unfold tg;rw[gZ c];exact List.getElem_mem c
    have R:sizes (L.take k)+(tg L k).size<=sizes L:=by
     have h1:L=L.take k++tg L k::L.drop (k+1):=by
      unfold tg;rw[List.getD_eq_getElem?_getD,List.getElem?_eq_getElem c];simp
     have b:=congrArg sizes h1;rw[nX] at b;simp only[sizes] at b;omega
    have aF:xs.length=sizes (L.take k):=by have:=congrArg List.length u;rw[List.length_map,Hl] at this;exact this
    obtain⟨x,hx⟩:=ay (tg L k);rw[hx] at D z A Q H R;rw[<-Nat.add_assoc] at z A;have ad:=aj wr (tO x a' j);obtain⟨aL,aM,aN⟩:=ah ad;have aO:=ag (ak hv (tO x a' j)) 0 (.func (.func 187) #[] #[.pointer (az p)]) rfl;have B:fE G wr (wr.alloc (tO x a' j)):=fE.qM ((au.refl _ wr).alloc _);have hlen:(L.length:Int)<=4611686018427387904:=by have:=bz L;omega
    have y:=aw x H (n-1) a' j (d+1) _ _ Q (w.trans B) (ak hv (tO x a' j)) (Ej O _ P) (by have h1:=o.size;have b:=B.size;omega) (by simp only[List.length_append,List.length_singleton];omega) (by omega);have aH:IntKind.i64.wrap ((d:Int)+1)=(d:Int)+1:=IntWalk.i64_in _ (by omega);have aI:wrap64 ((d:Int)+1)=(d:Int)+1:=IntWalk.wrap64_in _ (by omega);rw[show(((d+1:Nat)):Int)=(d:Int)+1 by omega] at y;dsimp only[tV] at y
    gi_wp2_with (gi_at_call 187;refine y.mono ?_;clear y;rintro e aP (⟨rfl,ys,ae,ai,al⟩|⟨rfl,q,aD,an⟩))
    .gi_roundg (L.length- (k+1))
     case measure=>omega
     case rel=>
      refine⟨k+1,xs++ys,by go_num,rfl,by omega,?_,by rw[<-List.append_assoc];exact ai,(o.trans B).trans al⟩;rw[List.map_append,u,ae,List.take_add_one,rC];have:L[k]?.toList=[x]:=by rw[<-hx];unfold tg;rw[List.getD_eq_getElem?_getD,List.getElem?_eq_getElem c];rfl
      rw[this];simp[dh]
    .go_ret;refine .inr ⟨rfl,⟨.mk nm so L,some ⟨g,off,none⟩,cap,d,hR⟩::(xs++q),?_,by simpa using an⟩;obtain⟨r,hr⟩:=aD;refine⟨r++dh (d+1) (L.drop (k+1)),?_⟩;rw[jF];simp only[Tm.kids,List.map_cons,List.map_append,u,List.cons_append,List.append_assoc];rw[<-List.append_assoc (List.map jB.pr q) r,hr];have h1:L=L.take k++x::L.drop (k+1):=by
      rw[<-hx];unfold tg;rw[List.getD_eq_getElem?_getD,List.getElem?_eq_getElem c];simp
     have b:=congrArg (dh (d+1)) h1;rw[rC] at b;simp only[dh] at b;rw[b];rfl
   .obtain rfl:k=L.length:=by omega
    gi_wp2
    go_ret;refine .inl ⟨rfl,⟨.mk nm so L,a,cap,d,hR⟩::xs,?_,by simpa using P,o⟩;rw[List.map_cons,u,List.take_length,jF];rfl
 .gi_wp2
  go_ret;exact .inr ⟨rfl,[⟨.mk nm so L,a,cap,d,hR⟩],⟨dh (d+1) L,by rw[jF];rfl⟩,Z⟩
theorem Xg (F:Fence) (hd:F.depth=none) (n:Nat) (hf: ∀k,F.fn k) (hro:F.round=none) (l b i d j:Nat) (G S:Nat->Prop) (hS: ∀k,S k->¬G k) (y: ¬G b) (z: ∀k,G k->k<d) (w0:World) (c g:List (jB S w0)->World->Prop) (A:AbidesFrom j c)
  (t:Tm) (a:Option Addr) (cap:Nat)
  (B: ∀pre x W,c pre W->pre.length<t.size->YieldAt F (n-1) Tryz.prog l x.encs W fun e W'=>(e= .returned (.bool true)/\c (pre++[x]) W'/\fE G W W')\/(e= .returned (.bool false)/\g (pre++[x]) W'))
  (W:World) (hR:aG S w0 t.kids (.slice a t.kids.length cap)) (o:fE G w0 W) (hV:W.heap[b]?=some (.cells #[(.func (.func 187) #[] #[.pointer (az b)])] 219 (0,0))) (C:W.heap[i]?=some (tO t a cap)) (h0:c [] W) (p:d<=W.heap.size) (r:((1+t.size:Nat):Int)<=4611686018427387904):
  CallsIn F n Tryz.prog 188 #[.func (.yield l) #[] #[],.pointer (az b),.pointer (az i)] W fun e W'=>(∃v,e= .returned v)/\((∃xs:List (jB S w0),xs.map jB.pr=di 1 t/\c xs W')\/(∃pre:List (jB S w0),pre.map jB.pr <+:di 1 t/\g pre W')):=by
 have hdd: ∀k:Nat,(F.depth.isSome=true->1<=k):=fun k h=>by rw[hd] at h;cases h
 have hp:=Zy F hd hf hro l b d t.size j G S hS y z w0 c g A (fun m pre x W D hl=>YieldAt.anyDepth hd m (B pre x W D hl)) t (n-1) a cap 1 [] W hR o hV h0 p (by simp) r;obtain⟨H,c1,c2⟩:=ah C;have v0:=ag hV 0 (.func (.func 187) #[] #[.pointer (az b)]) rfl;dsimp only[tV] at hp;refine callsIn_of_wp Tryz.func188 rfl (hf 188) ?_ hro;simp only[Tryz.ntmps188,List.size_toArray,List.length_cons,List.length_nil,Nat.reduceAdd,Nat.reduceSub,Array.replicate_succ,Array.replicate_zero,List.push_toArray,List.append_toArray,List.nil_append,List.cons_append]
 gi_wp2_with (gi_at_call 187;refine hp.mono ?_;clear hp;rintro e I (⟨rfl,xs,u,w,_⟩|⟨rfl,q,E,hx⟩))
 .go_end0;exact⟨⟨_,rfl⟩,.inl ⟨xs,u,by simpa using w⟩⟩
 .go_end0;exact⟨⟨_,rfl⟩,.inr ⟨q,E,by simpa using hx⟩⟩
theorem TB (F:Fence) (hd:F.depth=none) (n:Nat) (hf: ∀k,F.fn k) (hro:F.round=none) (b c:Nat) (G S:Nat->Prop) (w:World) (hS: ∀k,S k->¬G k) (g: ¬G b) (h: ∀k,G k->k<w.heap.size) (hSw: ∀k,S k->k<w.heap.size) (t:Tm) (a:Option Addr) (cap:Nat)
  (hR:aG S w t.kids (.slice a t.kids.length cap)) (hV:w.heap[b]?=some (.cells #[(.func (.func 187) #[] #[.pointer (az b)])] 219 (0,0))) (i:w.heap[c]?=some (tO t a cap)) (e:((1+t.size:Nat):Int)<=4611686018427387904):
  SeqStopsK F n Tryz.prog 188 #[.pointer (az b),.pointer (az c)] jB.encs (fE G) (fun xs:List (jB S w)=>xs.map jB.pr=di 1 t) (fun pre=>pre.map jB.pr <+:di 1 t) t.size w:=fun l q j W hW o _ p h0=>
 have d:Ext w W:=⟨hW.os,hW.tape,hW.output,hW.size,fun k hk _=>hW.block k hk⟩
 Xg F hd n hf hro l b c w.heap.size W.heap.size G S hS g h w q j o t a cap p W hR (fE.qM d) (d.heap hV id) (d.heap i id) h0 hW.size e
end
def mr (g:Sg) (t:Tm):By×Int:=if lh aC g=false\/wf aC t=false then(ai,1) else if ed g t≠0 then(ai,ed g t) else(fZ g t,0)
theorem adS (g:Sg) (t:Tm) (v u:Value) (S T:Nat->Prop) (w:World) (p:xN S w g v) (q:bQ T w t u) (I:g.1.length<=1000000) (y:g.2.length<=1000000):Calls Tryz.prog 125 #[v,u] w fun e w'=>e= .returned (.tuple #[.string (mr g t).1,.int .i64 (mr g t).2])/\Ext w w':=by
 have A:=ae (fun W (hW:Ext w W)=>XG g v S W (p.ext hW) I y);have r:=ae (fun W (hW:Ext w W)=>zV t u T W (q.ext hW));have x:=ae (fun(hw:wf aC t=true) W (hW:Ext w W)=>adR g t v u S T W (p.ext hW) (q.ext hW) y I (by have:=qg hw;omega));have J:=ae (fun W (hW:Ext w W)=>ace g t v u S T W (p.ext hW) (q.ext hW) y);have d:Hid (lh aC g=false\/wf aC t=false->mr g t=(ai,1)):=ae (fun h=>by unfold mr;rw[if_pos h]);have i:Hid (lh aC g=true->wf aC t=true->mr g t=if ed g t≠0 then(ai,ed g t) else(fZ g t,0)):=ae (fun h ad=>by unfold mr;rw[if_neg (by rw[h,ad];simp)]);obtain⟨B,sc,C,D,rfl,_,_⟩:=p;obtain⟨a,cap,rfl,_⟩:=q;have O:=ae (((uR w).alloc (bU B g.1.length sc C g.2.length D)).alloc (tO t a cap));have P:=ae (ak (aj w (bU B g.1.length sc C g.2.length D)) (tO t a cap));have Q:=ae (alloc_at (w.alloc (bU B g.1.length sc C g.2.length D)) (tO t a cap) (n:=w.heap.size+1) (by simp));dsimp only[tV] at r x J⊢;obtain⟨V,hV⟩:=ay (mr g t);rw[hV] at d i⊢;obtain⟨af,K⟩:=ay (lh aC g);rw[K] at A d i;obtain⟨ag,L⟩:=ay (wf aC t);rw[L] at r x d i;clear hV K L;obtain⟨b,c1⟩:=aV P.o;obtain⟨t0,t1,t2⟩:=ah Q.o;go_enter Tryz.func125,Tryz.ntmps125;go_wp2_with fail;refine(A.o _ O.o).mono ?_;rintro e aq ⟨rfl,j⟩;have E:=ae (O.o.trans j);have R:=ae (j.heap P.o id);have M:=ae (j.heap Q.o id);clear j b c1 t0 t1 t2;obtain⟨b,c1⟩:=aV R.o;obtain⟨t0,t1,t2⟩:=ah M.o;cases af
 .have c:=ae (d.o (.inl (by simp)));go_wp2_with fail;all_goals go_ret2
  all_goals (rw[c.o];exact⟨rfl,E.o⟩)
 go_wp2_with fail;refine(r.o _ E.o).mono ?_;rintro e ar ⟨rfl,k⟩;have F:=ae (E.o.trans k);have U:=ae (k.heap R.o id);have Z:=ae (k.heap M.o id);clear k b c1 t0 t1 t2;obtain⟨b,c1⟩:=aV U.o;obtain⟨t0,t1,t2⟩:=ah Z.o;cases ag
 .have c:=ae (d.o (.inr (by simp)));go_wp2_with fail;all_goals go_ret2
  all_goals (rw[c.o];exact⟨rfl,F.o⟩)
 have z:=ae (i.o (by simp) (by simp));have G:=ae (x.o (by simp) _ F.o);clear d i x A r;obtain⟨X,aa⟩:=ay (ed g t);rw[aa] at G z;clear aa;go_wp2_with fail;refine G.o.mono ?_;rintro e au ⟨rfl,l⟩;have H:=ae (F.o.trans l);have al:=ae (l.heap U.o id);have ab:=ae (l.heap Z.o id);clear l b c1 t0 t1 t2;obtain⟨b,c1⟩:=aV al.o;obtain⟨t0,t1,t2⟩:=ah ab.o;clear G;by_cases hx:X=0;case neg=>
  have c:Hid (V=(ai,X)):=ae (by rw[z.o,if_pos hx]);have av:(X==0)=false:=beq_eq_false_iff_ne.2 hx;have aw:(X !=0)=true:=by simp[hx]
  go_wp2_with fail;all_goals go_ret2
  all_goals (rw[c.o];exact⟨rfl,H.o⟩)
 subst hx;have c:Hid (V=(fZ g t,0)):=ae (by rw[z.o,if_neg (by simp)]);have an:=ae (J.o _ H.o);generalize fZ g t=Y at*;go_wp2_with fail;refine an.o.mono ?_;rintro e ax ⟨rfl,N⟩;have ao:=ae (H.o.trans N);clear N b c1 t0 t1 t2;go_wp2_with fail;all_goals go_ret2
 all_goals (rw[c.o];exact⟨rfl,ao.o⟩)
section
open Go.Shelf
attribute [local go_sem] Oper.semAt_some
theorem Zz {g:Sg} {l:List Tm} {x:Tm} (h:kV g l=0):kV g (l++[x])=Lh g x:=by
 rw[Js,if_neg (fun b=>b h),kV];by_cases a:Lh g x=0
 .rw [if_neg (fun c=>c a),a];rfl
 .rw [if_pos a]
theorem aeY {S:Nat->Prop} {w0:World} {xs:List (jB S w0)} {t:Tm} (h:xs.map jB.pr=di 1 t):xs.map jB.t=bu t:=by
 have h1:=congrArg (List.map (·.1)) h;rw[List.map_map] at h1;unfold bu;rw[oW t 0 1,<-h1];rfl
theorem aeZ {g:Sg} {S:Nat->Prop} {w0:World} {pre:List (jB S w0)} {t:Tm} (h:pre.map jB.pr <+:di 1 t) (a:kV g (pre.map jB.t)≠0):Jr g t=kV g (pre.map jB.t):=by
 obtain⟨r,hr⟩:=h;have h1:=congrArg (List.map (·.1)) hr;rw[List.map_append,List.map_map] at h1;unfold Jr bu;rw[oW t 0 1,<-h1,Js,if_pos (by exact a)];rfl
theorem abZ {g:Sg} (h:lh aC g=true):O8 g:=by
 unfold lh at h;rw[Bool.and_eq_true,Bool.and_eq_true,Bool.and_eq_true] at h;obtain⟨_,_,h1,i⟩:=h;have k:=((OL aC g.1).1 h1).2.1;intro o ho e;obtain⟨j,b,rfl⟩:=List.mem_iff_getElem.1 ho;have a:=List.all_eq_true.1 i j (List.mem_range.2 b);unfold okD at a;rw[Bool.and_eq_true,Bool.and_eq_true,Bool.and_eq_true,Bool.and_eq_true] at a;have c:=of_decide_eq_true a.2.2.2.1;rw[wo b,e] at c;have d:=k _ c;rw[I8 ai rfl] at d;cases d
theorem aeK (g:Sg) (t:Tm) (v u:Value) (S:Nat->Prop) (w:World) (aA:xN S w g v) (hS: ∀k,S k->k<w.heap.size) (hR:bQ (fun k=>k<w.heap.size) w t u) (ba:dI w) (bC:(t.size:Int)<=1000000000000) (bc:g.1.length<=1000000) (aF:g.2.length<=1000000) (bd: ∀d∈g.2,d.2.1.length<=1000000):
  Calls Tryz.prog 57 #[v,u] w fun e w'=>e= .returned (.tuple #[.string (mr g t).1,.int .i64 (mr g t).2])/\Ext w w':=by
 have bq:=ae (fun W (hW:Ext w W)=>Vh g v S W (aA.ext hW) (aT ba hW) bc aF bd);have br:=ae (fun W (hW:Ext w W)=>zf t u W (aT ba hW) ((hR.ext hW).weaken (bW hW)) bC);have bs:=ae (fun(hr:O8 g) x y T W (hW:Ext w W) (hx:bQ T W x y)=>abY g x v y S T W (aA.ext hW) (fun k hk=>aP (hS k hk) hW.size) hx hr bc aF bd);have bf:=ae (fun W (hW:Ext w W)=>Zw g t v u S _ W (aA.ext hW) (fun k hk=>aP (hS k hk) hW.size) (hR.ext hW) aF);obtain⟨A,sc,B,C,rfl,_,_⟩:=aA;obtain⟨a,cap,rfl,bK⟩:=hR;dsimp only[tV] at bq br bs bf⊢;obtain⟨V,hV⟩:=ay (mr g t);have aG:Hid (V=if lh aC g=false\/wf aC t=false then(ai,1) else if ed g t≠0 then(ai,ed g t) else(fZ g t,0)):=ae (by rw[<-hV];rfl);rw[hV];clear hV;have aX:Ext w ((((w.alloc (bU A g.1.length sc B g.2.length C)).alloc (tO t a cap)).alloc (qx ⟨#[]⟩)).alloc (DC 0)):=((((uR w).alloc _).alloc _).alloc _).alloc _;have b1:((((w.alloc (bU A g.1.length sc B g.2.length C)).alloc (tO t a cap)).alloc (qx ⟨#[]⟩)).alloc (DC 0)).heap.size=w.heap.size+4:=by simp
 have aH:((((w.alloc (bU A g.1.length sc B g.2.length C)).alloc (tO t a cap)).alloc (qx ⟨#[]⟩)).alloc (DC 0)).heap[w.heap.size]?=some (bU A g.1.length sc B g.2.length C):=ak (ak (ak (aj _ _) _) _) _;have aI:((((w.alloc (bU A g.1.length sc B g.2.length C)).alloc (tO t a cap)).alloc (qx ⟨#[]⟩)).alloc (DC 0)).heap[w.heap.size+1]?=some (tO t a cap):=ak (ak (alloc_at _ _ (by simp)) _) _;have bg:Boxed ((((w.alloc (bU A g.1.length sc B g.2.length C)).alloc (tO t a cap)).alloc (qx ⟨#[]⟩)).alloc (DC 0)) (w.heap.size+1+1) 9 (.string ⟨#[]⟩):=ak (alloc_at _ _ (by simp)) _;have bh:Boxed ((((w.alloc (bU A g.1.length sc B g.2.length C)).alloc (tO t a cap)).alloc (qx ⟨#[]⟩)).alloc (DC 0)) (w.heap.size+1+1+1) 28 (.int .i64 0):=alloc_at _ _ (by simp);refine(callsIn_wide (n:=9)).1 ?_;have hro:Fence.wide.round=none:=rfl;have hd:Fence.wide.depth=none:=rfl;have hf: ∀k,Fence.wide.fn k:=fun _=>trivial;have h1:1<=9:=by omega
 refine callsIn_of_wp_marks Tryz.func57 rfl trivial ?_ hro;obtain⟨H,c1⟩:=aV aH;obtain⟨t0,t1,t2⟩:=ah aI;simp only[Tryz.ntmps57,List.size_toArray,List.length_cons,List.length_nil,Nat.reduceAdd,Nat.reduceSub,Array.replicate_succ,Array.replicate_zero,List.push_toArray,List.append_toArray,List.nil_append,List.cons_append]
 gi_wp2
 generalize ((((w.alloc (bU A g.1.length sc B g.2.length C)).alloc (tO t a cap)).alloc (qx ⟨#[]⟩)).alloc (DC 0))=w3 at*;generalize b2:w.heap.size+1+1+1=j at*;generalize b3:w.heap.size+1+1=b at*;generalize b4:w.heap.size+1=bL at*;generalize aw:w.heap.size=N at*;refine(callsIn_wide.2 (bq.o _ aX)).mono ?_;rintro e U ⟨rfl,O⟩;have aJ:=O.heap aH id;have aY:=O.heap aI id;have ag:Boxed U b 9 (.string ⟨#[]⟩):=O.heap bg id;have al:Boxed U j 28 (.int .i64 0):=O.heap bh id;have P:=aX.ext O;have b7:=O.size;clear H c1 t0 t1 t2;obtain⟨H,c1⟩:=aV aJ;obtain⟨t0,t1,t2⟩:=ah aY;have r2:=ag.cell;have an:=al.cell;have s2:=ag.frozen;have ao:=al.frozen;clear O aX aH aI bg bh;cases aK:lh aC g
 .have L:Hid (V=(ai,1)):=ae (by rw[aG.o,if_pos (.inl aK)])
  gi_wp2
  have i2:Boxed (U.setCell ⟨b,0,none⟩ (.string ⟨#[]⟩)) b 9 (.string ⟨#[]⟩):=setBlock ag 0 _;have i3:Boxed (U.setCell ⟨b,0,none⟩ (.string ⟨#[]⟩)) j 28 (.int .i64 0):=Boxed.other al (by omega) _;have aZ:Boxed ((U.setCell ⟨b,0,none⟩ (.string ⟨#[]⟩)).setCell ⟨j,0,none⟩ (.int .i64 1)) b 9 (.string ⟨#[]⟩):=Boxed.other i2 (by omega) _;have a1:Boxed ((U.setCell ⟨b,0,none⟩ (.string ⟨#[]⟩)).setCell ⟨j,0,none⟩ (.int .i64 1)) j 28 (.int .i64 1):=setBlock i3 0 _;have a6:=aZ.cell;have a7:=a1.cell;exact⟨.tuple #[.string ⟨#[]⟩,.int .i64 1],by simp[results,Tryz.f57,go_sem,a6,a7],by rw[L.o];rfl,(P.jJ (show w.heap.size<=b by omega) _).jJ (show w.heap.size<=j by omega) _⟩
 gi_wp2
 refine(callsIn_wide.2 (br.o _ P)).mono ?_;rintro e M ⟨rfl,Q⟩;have aL:=Q.heap aJ id;have aM:=Q.heap aY id;have aq:Boxed M b 9 (.string ⟨#[]⟩):=Q.heap ag id;have aa:Boxed M j 28 (.int .i64 0):=Q.heap al id;have aN:=P.ext Q;have bz:=Q.size;clear H c1 t0 t1 t2 r2 an s2 ao aJ aY ag al P Q;obtain⟨H,c1⟩:=aV aL;obtain⟨t0,t1,t2⟩:=ah aM;have r2:=aq.cell;have an:=aa.cell;have s2:=aq.frozen;have ao:=aa.frozen;cases aO:wf aC t
 .have L:Hid (V=(ai,1)):=ae (by rw[aG.o,if_pos (.inr aO)])
  gi_wp2
  have i2:Boxed (M.setCell ⟨b,0,none⟩ (.string ⟨#[]⟩)) b 9 (.string ⟨#[]⟩):=setBlock aq 0 _;have i3:Boxed (M.setCell ⟨b,0,none⟩ (.string ⟨#[]⟩)) j 28 (.int .i64 0):=Boxed.other aa (by omega) _;have aZ:Boxed ((M.setCell ⟨b,0,none⟩ (.string ⟨#[]⟩)).setCell ⟨j,0,none⟩ (.int .i64 1)) b 9 (.string ⟨#[]⟩):=Boxed.other i2 (by omega) _;have a1:Boxed ((M.setCell ⟨b,0,none⟩ (.string ⟨#[]⟩)).setCell ⟨j,0,none⟩ (.int .i64 1)) j 28 (.int .i64 1):=setBlock i3 0 _;have a6:=aZ.cell;have a7:=a1.cell;exact⟨.tuple #[.string ⟨#[]⟩,.int .i64 1],by simp[results,Tryz.f57,go_sem,a6,a7],by rw[L.o];rfl,(aN.jJ (show w.heap.size<=b by omega) _).jJ (show w.heap.size<=j by omega) _⟩
 have bt:Hid (V=if ed g t≠0 then(ai,ed g t) else(fZ g t,0)):=ae (by rw[aG.o,if_neg (by rw[aK,aO];simp)]);have bD:=abZ aK;have bu:=ae (ajT g t (y_ aO))
 gi_wp2
 refine(callsIn_wide.2 (GH t (.slice a t.kids.length cap) M ⟨_,_,_,rfl⟩)).mono ?_;rintro e I ⟨rfl,ab,bE,bj,bk⟩;have bl:=ab.heap aL id;have bA:=ab.heap aM id;have bF:Boxed I b 9 (.string ⟨#[]⟩):=ab.heap aq id;have bG:Boxed I j 28 (.int .i64 0):=ab.heap aa id;have ax:=aN.ext ab;have bM:=aa.lt;clear H c1 t0 t1 t2 r2 an s2 ao aL aM aq aa aN ab;obtain⟨Z,bN⟩:=ay M.heap.size;rw[bN] at bE bj bk bz bM⊢
 gi_wp2
 refine wpIn_rangeFunc_ownH hro h1 (gf:=188) (lb:= #[.pointer (some ⟨Z+1,0,none⟩),.pointer (az Z)]) rfl trivial (enters_of Tryz.func188 (by kernel_rfl) rfl)
  (TB Fence.wide hd (9-1) hf hro (Z+1) Z (fun k=>k=b\/k=j) (fun k=>k<N) I (by omega) (by omega) (by omega) (by omega) t a cap (aw▸bK.ext ax) bk bj (by omega)) (fun h k=>fE.trans h k) (fun W l o o' _ hl hc _=>fE.putObj W l o o' hl hc) (Below.refl _ _) (fun _=>rfl)
  (fun pre W=>(kV g (pre.map jB.t)=0/\Boxed W b 9 (.string ⟨#[]⟩))/\(Boxed W j 28 (.int .i64 0)/\Below b I W))
  (fun c pre W=>((c= .ret/\kV g (pre.map jB.t)≠0)/\Boxed W b 9 (.string ⟨#[]⟩))/\(Boxed W j 28 (.int .i64 (kV g (pre.map jB.t)))/\Below b I W))
  (OwnFrom.and (OwnFrom.and (ownFrom_pure _ _) (Own.from (boxed_own b 9 (fun _=>Value.string ⟨#[]⟩)) _)) (OwnFrom.and (Own.from (boxed_own j 28 (fun _=>Value.int .i64 0)) _) (ownFrom_below (by omega) (by omega))))
  (fun c=>OwnFrom.and (OwnFrom.and (ownFrom_pure _ _) (Own.from (boxed_own b 9 (fun _=>Value.string ⟨#[]⟩)) _)) (OwnFrom.and (Own.from (boxed_own j 28 (fun pre:List (jB (fun k=>k<N) I)=>Value.int .i64 (kV g (pre.map jB.t)))) _) (ownFrom_below (by omega) (by omega))))
  ⟨⟨rfl,bF⟩,bG,Below.refl _ _⟩
  (fun x a' W=> ∃Bx,W.heap[Bx]?=some (af x.t.name x.t.sort x.a x.t.kids.length x.cap)/\a'={tmps:= #[(.agg #[.slice A g.1.length sc,.slice B g.2.length C]),(.agg #[.string t.name,.string t.sort,.slice a t.kids.length cap]),.pointer (az N),.pointer (az bL),.pointer (az b),.pointer (az j),.pointer (az Bx),undef,undef,undef,(.agg #[.slice A g.1.length sc,.slice B g.2.length C]),.bool true,.bool false,.bool false,(.agg #[.string t.name,.string t.sort,.slice a t.kids.length cap]),.bool true,.bool false,.bool false,(.agg #[.string t.name,.string t.sort,.slice a t.kids.length cap]),(.func (.func 188) #[] #[.pointer (some ⟨Z+1,0,none⟩),.pointer (az Z)]),(.agg #[.string x.t.name,.string x.t.sort,.slice x.a x.t.kids.length x.cap]),.int .i64 (x.d:Int),undef,undef,undef,undef,undef,undef,undef,undef,undef,undef,undef,undef,undef],defers:=[]})
  (fun x a' _ X Y row hs bO hr=>by
   obtain⟨Bx,bw,bP⟩:=hs;refine⟨Bx,(au.jQ bO).heap bw (fun e=>?_),bP⟩;obtain⟨o,ho,hc⟩:=(hr Bx e.symm).2;rw[bw] at ho;cases ho;cases hc) ?assign ?body ?done ?stop
 case assign=>
  rintro l pre x W K ⟨⟨i0,R⟩,i2,i3⟩ hK;dsimp only[jB.encs,tV];have aQ:=aj W (af x.t.name x.t.sort x.a x.t.kids.length x.cap)
  gi_wp2
  exact hK _ _ (jI _ ((au.refl _ W).alloc _)) (fE.qM ((au.refl _ W).alloc _)) ⟨⟨i0,R.alloc _⟩,i2.alloc _,i3.alloc (by have:=i3.size;omega) _⟩ ⟨W.heap.size,aQ,rfl⟩
 case body=>
  rintro l pre x a' W hl bB ⟨⟨i0,R⟩,i2,i3⟩ ⟨Bx,aQ,rfl⟩ b5;have ad:Ext w W:=qV (n:=N) ((aw▸Ext.below ax).trans (i3.mono (by omega))) (by omega);have ar:au (fun k=>b<=k) I W:=⟨i3.os,i3.tape,i3.output,i3.size,fun k hk hf=>i3.block k (by omega)⟩
  have aR:=ar.heap bl (by omega);obtain⟨bR,bS,bT⟩:=ah aQ;obtain⟨H,c1⟩:=aV aR;have aB:=ae (bs.o bD x.t (tV x.t (.slice x.a x.t.kids.length x.cap)) (fun k=>k<N) W ad ⟨x.a,x.cap,rfl,x.ok.kept ar (fun k hk e=>by omega)⟩);have av:=ae (Zz (x:=x.t) i0);have b6:=ae i0;dsimp only[tV] at aB;clear bB i0;obtain⟨E,P⟩:=ay (Lh g x.t);rw[P] at aB av;clear P
  gi_wp2
  refine(CallsIn.inRound l (callsIn_wide.2 aB.o)).mono ?_;rintro e q ⟨rfl,z⟩;have F:Boxed q b 9 (.string ⟨#[]⟩):=z.heap R id;have G:Boxed q j 28 (.int .i64 0):=z.heap i2 id;have bx:Below b I q:=i3.trans ⟨z.os,z.tape,z.output,z.size,fun k hk=>z.block k (by have:=i3.size;omega) id⟩;clear bR bS bT H c1 aB;have bb:(pre++[x]).map jB.t=pre.map jB.t++[x.t]:=by rw[List.map_append];rfl
  by_cases he:E=0
  .have bV:(E==0)=true:=by rw[he];rfl
   have bX:(E !=0)=false:=by rw[he];rfl
   have aD:Hid (kV g ((pre++[x]).map jB.t)=0):=ae (by rw[bb,av.o,he]);clear he av
   gi_wp2
   exact⟨jI _ z,fE.qM z,⟨aD.o,F⟩,G,bx⟩
  .have bV:(E==0)=false:=beq_eq_false_iff_ne.2 he;have bX:(E !=0)=true:=bne_iff_ne.2 he;have aD:Hid (kV g ((pre++[x]).map jB.t)=E):=ae (by rw[bb,av.o]);have bY:=ae he;have r2:=F.cell;have an:=G.cell;have s2:=F.frozen;have ao:=G.frozen;clear he av
   gi_wp2
   have st:=((au.refl (fun k=>k=b\/k=j) q).setCell (p:=⟨b,0,none⟩) (.inl (.inl rfl)) (.string ⟨#[]⟩)).setCell (p:=⟨j,0,none⟩) (.inl (.inr rfl)) (.int .i64 E);have u1:Boxed (q.setCell ⟨b,0,none⟩ (.string ⟨#[]⟩)) b 9 (.string ⟨#[]⟩):=setBlock F 0 _;have u2:Boxed (q.setCell ⟨b,0,none⟩ (.string ⟨#[]⟩)) j 28 (.int .i64 0):=Boxed.other G (by omega) _;refine⟨(jI _ z).trans (jd _ st (fun k o e ho=>?_)),⟨⟨rfl,by rw[aD.o];exact bY.o⟩,Boxed.other u1 (by omega) _⟩,by rw[aD.o];exact setBlock u2 0 _,(bx.setCell (p:=⟨b,0,none⟩) (Nat.le_refl _) _).setCell (p:=⟨j,0,none⟩) (by show b<=j;omega) _⟩;rcases e with e|e
   .subst e;rw[show q.heap[k]?=_ from F] at ho;cases ho;rfl
   .subst e;rw[show q.heap[k]?=_ from G] at ho;cases ho;rfl
 case done=>
  rintro D xs W bZ bm ⟨⟨i0,R⟩,i2,i3⟩ hK;have ad:Ext w W:=qV (n:=N) ((aw▸Ext.below ax).trans (i3.mono (by omega))) (by omega);have ar:au (fun k=>b<=k) I W:=⟨i3.os,i3.tape,i3.output,i3.size,fun k hk hf=>i3.block k (by omega)⟩
  have aR:=ar.heap bl (by omega);have bH:=ar.heap bA (by omega);obtain⟨H,c1⟩:=aV aR;obtain⟨t0,t1,t2⟩:=ah bH;have bn:ed g t=0:=by rw[<-bu.o];unfold Jr;rw[<-aeY bm];exact i0
  have L:Hid (V=(fZ g t,0)):=ae (by rw[bt.o,if_neg (fun h=>h bn)]);have a8:=ae (bf.o W ad);rw[TA] at a8;clear bn i0 bm
  gi_wp2
  refine(callsIn_wide.2 a8.o).mono ?_;rintro e q ⟨rfl,z⟩;have F:Boxed q b 9 (.string ⟨#[]⟩):=z.heap R id;have G:Boxed q j 28 (.int .i64 0):=z.heap i2 id;have bI:=z.heap hK id;have bJ:=ad.trans z;have r2:=F.cell;have an:=G.cell;have s2:=F.frozen;have ao:=G.frozen;obtain⟨J,bo⟩:=ay (fZ g t);rw[bo] at L⊢;clear H c1 t0 t1 t2 a8 bo
  gi_wp2
  have st:=((au.refl (fun k=>k=b\/k=j) q).setCell (p:=⟨b,0,none⟩) (.inl (.inl rfl)) (.string J)).setCell (p:=⟨j,0,none⟩) (.inl (.inr rfl)) (.int .i64 0);have hK':=(jd 0 st (fun k o e ho=>by
   rcases e with e|e
   .subst e;rw[show q.heap[k]?=_ from F] at ho;cases ho;rfl
   .subst e;rw[show q.heap[k]?=_ from G] at ho;cases ho;rfl)).same D _ (Nat.zero_le _) bI rfl
  have u1:Boxed (q.setCell ⟨b,0,none⟩ (.string J)) b 9 (.string J):=setBlock F 0 _;have u2:Boxed (q.setCell ⟨b,0,none⟩ (.string J)) j 28 (.int .i64 0):=Boxed.other G (by omega) _;have u3:Boxed ((q.setCell ⟨b,0,none⟩ (.string J)).setCell ⟨j,0,none⟩ (.int .i64 0)) b 9 (.string J):=Boxed.other u1 (by omega) _;have u4:Boxed ((q.setCell ⟨b,0,none⟩ (.string J)).setCell ⟨j,0,none⟩ (.int .i64 0)) j 28 (.int .i64 0):=setBlock u2 0 _;refine⟨by simp,.inl ⟨_,_,rfl,run_takeDeferred hK',?_⟩⟩;have aS:=cell_kept u3.cell (grownBy_putObj' _ D (.deferred none)) (fun r e=>by cases e;exact⟨_,hK',rfl⟩);have aU:=cell_kept u4.cell (grownBy_putObj' _ D (.deferred none)) (fun r e=>by cases e;exact⟨_,hK',rfl⟩);refine⟨.tuple #[.string J,.int .i64 0],by simp[results,Tryz.f57,go_sem,aS,aU],by rw[L.o],?_⟩;have b0:Ext w ((q.setCell ⟨b,0,none⟩ (.string J)).setCell ⟨j,0,none⟩ (.int .i64 0)):=(bJ.jJ (show w.heap.size<=b by omega) _).jJ (show w.heap.size<=j by omega) _;exact b0.trans' (au.jQ (grownBy_putObj' _ D (.deferred none))) (fun i hi e=>by cases e;omega)
 case stop=>
  rintro D c pre W bZ bp ⟨⟨⟨rfl,aE⟩,R⟩,i2,i3⟩ hK;have ad:Ext w W:=qV (n:=N) ((aw▸Ext.below ax).trans (i3.mono (by omega))) (by omega);have aW:=aeZ bp aE;rw[bu.o] at aW;have L:Hid (V=(ai,kV g (pre.map jB.t))):=ae (by rw[bt.o,aW,if_pos aE]);generalize kV g (pre.map jB.t)=E at*;clear aW aE bp
  gi_wp2
  refine⟨by simp,.inl ⟨_,_,rfl,run_takeDeferred hK,?_⟩⟩;have aS:=cell_kept R.cell (grownBy_putObj' _ D (.deferred none)) (fun r e=>by cases e;exact⟨_,hK,rfl⟩);have aU:=cell_kept i2.cell (grownBy_putObj' _ D (.deferred none)) (fun r e=>by cases e;exact⟨_,hK,rfl⟩);refine⟨.tuple #[.string ⟨#[]⟩,.int .i64 E],by simp[results,Tryz.f57,go_sem,aS,aU],by rw[L.o];rfl,?_⟩;exact ad.trans' (au.jQ (grownBy_putObj' _ D (.deferred none))) (fun i hi e=>by cases e;omega)
end
section
open Go.Sort Go.Proofs Go.ChangeMaps
def zS (g:Sg) (r:Rl):Bool:=decide ((mr g r.1).2=0/\(mr g r.2).2=0/\(mr g r.1).1=(mr g r.2).1)
def SY (g:Sg) (l:List Rl):Bool:=lh aC g&&dQ l&&l.all (zS g)
theorem WY (g:Sg) (l:List Rl) (v lv:Value) (S:Nat->Prop) (w:World) (al:xN S w g v) (hS: ∀k,S k->k<w.heap.size) (O:jH (fun k=>k<w.heap.size) w l lv) (K:dI w) (aS:l.length<=1000000) (af: ∀r∈l,r.1.size<=100000/\r.2.size<=100000) (aF:g.1.length<=1000000) (aG:g.2.length<=1000000) (aH: ∀d∈g.2,d.2.1.length<=1000000):
  Calls Tryz.prog 51 #[v,lv] w fun e w'=>e= .returned (.bool (SY g l))/\Ext w w':=by
 have an:=ae (fun W (hW:Ext w W)=>Vh g v S W (al.ext hW) (aT K hW) aF aG aH);have P:=ae (fun W (hW:Ext w W)=>GI l lv W ((O.ext hW).weaken (bW hW)) (aT K hW) aS af);have D:=ae (fun(x:Tm) (u:Value) (hx:x.size<=100000) W (hW:Ext w W) (hR:bQ (fun k=>k<W.heap.size) W x u)=>aeK g x v u S W (al.ext hW) (fun k hk=>aP (hS k hk) hW.size) hR (aT K hW) (by omega) aF aG aH);have aX:=ae O;have aY:=ae af;obtain⟨Q,sc,R,T,rfl,_,_⟩:=al;obtain⟨a8,lc,rfl⟩:=O.shape;obtain⟨Z,p⟩:=ay (SY g l);rw[p];unfold SY at p;obtain⟨A,hA⟩:=ay (lh aC g);obtain⟨B,aQ⟩:=ay (dQ l);rw[hA] at an p;rw[aQ] at P p;have q:=ae p.symm;have ao:=ae ((uR w).alloc (bU Q g.1.length sc R g.2.length T));have ag:=ae (aj w (bU Q g.1.length sc R g.2.length T));clear p hA aQ O af K;obtain⟨E,F⟩:=aV ag.o;go_enter Tryz.func51,Tryz.ntmps51;go_wp2_with fail;generalize w.alloc (bU Q g.1.length sc R g.2.length T)=w1 at*;refine(an.o _ ao.o).mono ?_;rintro e w2 ⟨rfl,hw⟩;have L:=ae (ao.o.trans hw);have aI:=ae (hw.heap ag.o id);clear hw an ao ag E F;cases A with
 |false=>
  obtain rfl:Z=false:=q.o;clear q P D;go_wp2_with fail;go_ret;exact⟨rfl,L.o⟩
 |true=>
  go_wp2_with fail;refine(P.o _ L.o).mono ?_;rintro e w3 ⟨rfl,hw⟩;have aq:=ae (L.o.trans hw);have aJ:=ae (hw.heap aI.o id);clear hw P L aI;cases B with
  |false=>
   obtain rfl:Z=false:=q.o;clear q D;go_wp2_with fail;go_ret;exact⟨rfl,aq.o⟩
  |true=>
   have i:Hid (Z=l.all (zS g)):=ae q.o;clear q;go_wp2_with fail;go_loopg [21] l.length (fun gk aZ wr=> ∃k:Nat,aZ= .int .i64 (k:Int)/\gk=l.length-k/\k<=l.length/\Hid (Ext w wr)/\Hid (wr.heap[w.heap.size]?=some (bU Q g.1.length sc R g.2.length T))/\Hid (∀j,j<k->zS g (Go.Hw.rg l j)=true));case atStart=>exact⟨0,rfl,rfl,Nat.zero_le _,aq,aJ,ae (fun j h=>absurd h (Nat.not_lt_zero _))⟩
   case round=>
    clear aq aJ;obtain⟨k,rfl,rfl,hk,n,aR,U⟩:=hrel;by_cases t:k<l.length;rotate_left
    .obtain rfl:k=l.length:=by omega
     have z2:decide ((l.length:Int)< (l.length:Int))=false:=dF (by omega);obtain rfl:Z=true:=by
      rw[i.o,List.all_eq_true];intro r hr;obtain⟨j,V,e⟩:=List.getElem_of_mem hr;have h:=U.o j V;rw[show Go.Hw.rg l j=r by unfold Go.Hw.rg;rw[gZ V];exact e] at h;exact h
     clear i U t;go_wp2_with fail;go_ret;exact⟨rfl,n.o⟩
    obtain⟨g2,ba,aU,_,aK⟩:=(aX.o.ext n.o).at_ (by omega);subst aU;obtain⟨G,H,I,J,ar,au,av,aw,ax,az,hx,hy⟩:=aK k t;obtain⟨z0,bb,z2,a7⟩:=bH t;have C:=aY.o _ (nZ t);have a:Hid (zS g (Go.Hw.rg l k)=false->l.all (zS g)=false):=ae (fun h=>by
     rw[List.all_eq_false];exact⟨_,nZ t,by rw[h];decide⟩)
    have b:Hid (zS g (Go.Hw.rg l k)=true->∀j,j<k+1->zS g (Go.Hw.rg l j)=true):=ae (fun h j V=>by
     rcases Nat.lt_succ_iff_lt_or_eq.1 V with c|c
     .exact U.o j c
     .rw [c];exact h)
    obtain⟨⟨x,y⟩,aL⟩: ∃r,Go.Hw.rg l k=r:=⟨_,rfl⟩
    rw[aL] at ar au av aw ax az hx hy C a b;unfold zS at a b;dsimp only at ar au av aw ax az hx hy C a b;have X:=ae (fun W (hW:Ext wr W)=>D.o x (.agg #[.string x.name,.string x.sort,.slice G x.kids.length H]) C.1 W (n.o.trans hW) ⟨G,H,rfl,(hx.ext hW).weaken (fun k hk=>aP hk (n.o.trans hW).size)⟩);have M:=ae (fun W (hW:Ext wr W)=>D.o y (.agg #[.string y.name,.string y.sort,.slice I y.kids.length J]) C.2 W (n.o.trans hW) ⟨I,J,rfl,(hy.ext hW).weaken (fun k hk=>aP hk (n.o.trans hW).size)⟩);obtain⟨⟨s1,Y⟩,aM⟩: ∃z,mr g x=z:=⟨_,rfl⟩
    obtain⟨⟨s2,aa⟩,aN⟩: ∃z,mr g y=z:=⟨_,rfl⟩
    rw[aM] at X a b;rw[aN] at M a b;dsimp only at X M a b;have aB:=(uR wr).alloc (aA x.name x.sort G x.kids.length H y.name y.sort I y.kids.length J);have aD:=ae aB;have ah:=ae (aB.heap aR.o id);have N:=ae (aj wr (aA x.name x.sort G x.kids.length H y.name y.sort I y.kids.length J));obtain⟨bc,ai⟩:=ay wr.heap.size;rw[ai] at N;clear aB aK hx hy C aL aM aN U aR;go_upto_region 6 with fail;try rw[ai]
    clear ai;generalize wr.alloc (aA x.name x.sort G x.kids.length H y.name y.sort I y.kids.length J)=w1 at*;clear ar au av aw ax az;obtain⟨E,F⟩:=aV ah.o;obtain⟨m0,m1,m2,m3,m4,m5⟩:=eY N.o;go_wp2_with fail;refine(X.o _ aD.o).mono ?_;rintro e w2 ⟨rfl,hw⟩;have aE:=ae (aD.o.trans hw);have ak:=ae (hw.heap ah.o id);have aO:=ae (hw.heap N.o id);clear hw X aD ah N E F m0 m1 m2 m3 m4 m5;obtain⟨E,F⟩:=aV ak.o;obtain⟨m0,m1,m2,m3,m4,m5⟩:=eY aO.o;go_wp2_with fail;refine(M.o _ aE.o).mono ?_;rintro e w3 ⟨rfl,hw⟩;have ab:=ae (n.o.trans (aE.o.trans hw));have aW:=ae (hw.heap ak.o id);clear hw M aE ak aO E F m0 m1 m2 m3 m4 m5 D n;by_cases h1:Y=0;rotate_left
    .have a1:(Y==0)=false:=beq_eq_false_iff_ne.2 h1;have a2:decide (Y=0)=false:=dF h1;have a3:(Y !=0)=true:=bne_iff_ne.2 h1;obtain rfl:Z=false:=by rw[i.o];exact a.o (dF (fun h=>h1 h.1))
     clear i a b h1;go_wp2_with fail;go_ret;exact⟨rfl,ab.o⟩
    subst h1;by_cases c:aa=0;rotate_left
    .have a1:(aa==0)=false:=beq_eq_false_iff_ne.2 c;have a2:decide (aa=0)=false:=dF c;have a3:(aa !=0)=true:=bne_iff_ne.2 c;obtain rfl:Z=false:=by rw[i.o];exact a.o (dF (fun h=>c h.2.1))
     clear i a b c;go_wp2_with fail;go_ret;exact⟨rfl,ab.o⟩
    subst c;have c1:=kR s1 s2;by_cases ad:s1=s2;rotate_left
    .rw [dF ad] at c1;have c2:(ByteArray.toList s1 !=ByteArray.toList s2)=true:=by rw[bne,c1];rfl
     have c3:decide (ByteArray.toList s1=ByteArray.toList s2)=false:=dF (beq_eq_false_iff_ne.1 c1);have c4: ¬ByteArray.toList s1=ByteArray.toList s2:=beq_eq_false_iff_ne.1 c1;obtain rfl:Z=false:=by rw[i.o];exact a.o (dF (fun h=>ad h.2.2))
     clear i a b ad;go_wp2_with fail;all_goals
      go_ret;exact⟨rfl,ab.o⟩
    subst ad;have a6:=ae (b.o (dT ⟨rfl,rfl,rfl⟩));clear a b c1;go_wp2_with fail;go_roundg (l.length- (k+1));case measure=>omega
    case rel=>exact⟨k+1,by go_num,rfl,by omega,ab,aW,a6⟩
theorem WZ (g:Sg) (l:List Rl) (v lv:Value) (S:Nat->Prop) (w:World) (ak:xN S w g v) (hS: ∀k,S k->k<w.heap.size) (H:jH (fun k=>k<w.heap.size) w l lv) (aN:dI w) (aO:l.length<=1000000) (az: ∀r∈l,r.1.size<=100000/\r.2.size<=100000) (aA:g.1.length<=1000000) (aB:g.2.length<=1000000):
  Calls Tryz.prog 52 #[v,lv] w fun e w'=>e= .returned (.bool (SY g l))/\Ext w w':=by
 have al:=ae (fun W (hW:Ext w W)=>XG g v S W (ak.ext hW) aA aB);have I:=ae (fun W (hW:Ext w W)=>Kt l lv (fun k=>k<w.heap.size) W (H.ext hW) aO);have E:=ae (fun(x:Tm) (u:Value) (hx:x.size<=100000) W (hW:Ext w W) (hR:bQ (fun k=>k<W.heap.size) W x u)=>adS g x v u S (fun k=>k<W.heap.size) W (ak.ext hW) hR aA aB);have aS:=ae H;have aT:=ae az;obtain⟨J,sc,K,L,rfl,_,_⟩:=ak;obtain⟨a7,lc,rfl⟩:=H.shape;obtain⟨Z,p⟩:=ay (SY g l);rw[p];unfold SY at p;obtain⟨A,hA⟩:=ay (lh aC g);obtain⟨B,aI⟩:=ay (dQ l);rw[hA] at al p;rw[aI] at I p;have q:=ae p.symm;have an:=ae ((uR w).alloc (bU J g.1.length sc K g.2.length L));have ad:=ae (aj w (bU J g.1.length sc K g.2.length L));clear p hA aI H az aN;obtain⟨ao,aq⟩:=aV ad.o;go_enter Tryz.func52,Tryz.ntmps52;go_wp2_with fail;generalize w.alloc (bU J g.1.length sc K g.2.length L)=w1 at*;refine(al.o _ an.o).mono ?_;rintro e w2 ⟨rfl,hw⟩;have F:=ae (an.o.trans hw);have aD:=ae (hw.heap ad.o id);clear hw al an ad ao aq;cases A with
 |false=>
  obtain rfl:Z=false:=q.o;clear q I E;go_wp2_with fail;go_ret;exact⟨rfl,F.o⟩
 |true=>
  go_wp2_with fail;refine(I.o _ F.o).mono ?_;rintro e w3 ⟨rfl,hw⟩;have ar:=ae (F.o.trans hw);have t:=ae (hw.heap aD.o id);clear hw I F aD;cases B with
  |false=>
   obtain rfl:Z=false:=q.o;clear q E;go_wp2_with fail;go_ret;exact⟨rfl,ar.o⟩
  |true=>
   have d:Hid (Z=l.all (zS g)):=ae q.o;clear q;go_wp2_with fail;go_loopg [5] l.length (fun gk aU wr=> ∃k:Nat,aU= .int .i64 (k:Int)/\gk=l.length-k/\k<=l.length/\Hid (Ext w wr)/\Hid (wr.heap[w.heap.size]?=some (bU J g.1.length sc K g.2.length L))/\Hid (∀j,j<k->zS g (Go.Hw.rg l j)=true));case atStart=>exact⟨0,rfl,rfl,Nat.zero_le _,ar,t,ae (fun j h=>absurd h (Nat.not_lt_zero _))⟩
   case round=>
    clear ar t;obtain⟨k,rfl,rfl,hk,i,av,M⟩:=hrel;by_cases C:k<l.length;rotate_left
    .obtain rfl:k=l.length:=by omega
     have z2:decide ((l.length:Int)< (l.length:Int))=false:=dF (by omega);obtain rfl:Z=true:=by
      rw[d.o,List.all_eq_true];intro r hr;obtain⟨j,N,e⟩:=List.getElem_of_mem hr;have h:=M.o j N;rw[show Go.Hw.rg l j=r by unfold Go.Hw.rg;rw[gZ N];exact e] at h;exact h
     clear d M C;go_wp2_with fail;go_ret;exact⟨rfl,i.o⟩
    obtain⟨g2,a8,aQ,_,aE⟩:=(aS.o.ext i.o).at_ (by omega);subst aQ;obtain⟨aJ,aK,aL,aM,O,P,Q,R,T,U,hx,hy⟩:=aE k C;obtain⟨z0,ba,z2,aZ⟩:=bH C;have D:=aT.o _ (nZ C);have a:Hid (zS g (Go.Hw.rg l k)=false->l.all (zS g)=false):=ae (fun h=>by
     rw[List.all_eq_false];exact⟨_,nZ C,by rw[h];decide⟩)
    have b:Hid (zS g (Go.Hw.rg l k)=true->∀j,j<k+1->zS g (Go.Hw.rg l j)=true):=ae (fun h j N=>by
     rcases Nat.lt_succ_iff_lt_or_eq.1 N with c|c
     .exact M.o j c
     .rw [c];exact h)
    obtain⟨⟨x,y⟩,aF⟩: ∃r,Go.Hw.rg l k=r:=⟨_,rfl⟩
    rw[aF] at O P Q R T U hx hy D a b;unfold zS at a b;dsimp only at O P Q R T U hx hy D a b;have V:=ae (fun W (hW:Ext wr W)=>E.o x (.agg #[.string x.name,.string x.sort,.slice aJ x.kids.length aK]) D.1 W (i.o.trans hW) ⟨aJ,aK,rfl,(hx.ext hW).weaken (fun k hk=>aP hk (i.o.trans hW).size)⟩);have G:=ae (fun W (hW:Ext wr W)=>E.o y (.agg #[.string y.name,.string y.sort,.slice aL y.kids.length aM]) D.2 W (i.o.trans hW) ⟨aL,aM,rfl,(hy.ext hW).weaken (fun k hk=>aP hk (i.o.trans hW).size)⟩);obtain⟨⟨s1,X⟩,aG⟩: ∃z,mr g x=z:=⟨_,rfl⟩
    obtain⟨⟨s2,Y⟩,aH⟩: ∃z,mr g y=z:=⟨_,rfl⟩
    rw[aG] at V a b;rw[aH] at G a b;dsimp only at V G a b;clear aE hx hy D aF aG aH M;obtain⟨af,ag⟩:=aV av.o;have ao:=fun x:XW wr=>x.ext.cell O id;have aq:=fun x:XW wr=>x.ext.cell P id;have aW:=fun x:XW wr=>x.ext.cell Q id;have aw:=fun x:XW wr=>x.ext.cell af id;have ax:=fun x:XW wr=>x.ext.cell ag id;have a1:Ext wr wr:=au.refl _ _
    go_upto_region 6 with fail;refine bI wr (by assumption) (by kernel_rfl) (by kernel_rfl) ?_;repeat (first|go_big_quiet_skip|(go_big_quiet_want;go_big_quiet_op;first|go_big_quiet_on|(apply Exists.intro;refine⟨fun x=>?_,?_⟩;((go_at_call 125;with_reducible exact XW.call (V.o x.val x.ext)));go_big_quiet_on)))
    refine wpQuiet_nil ?_;rintro w3 ⟨⟨_,ah⟩,rfl⟩;try dsimp only
    have n:=ae ah;have t:=ae (ah.heap av.o id);clear ah ao aq aW aw ax;have v3:=fun x:XW w3=>x.ext.cell (n.o.cell R id) id;have v4:=fun x:XW w3=>x.ext.cell (n.o.cell T id) id;have v5:=fun x:XW w3=>x.ext.cell (n.o.cell U id) id;have aw:=fun x:XW w3=>x.ext.cell (n.o.cell af id) id;have ax:=fun x:XW w3=>x.ext.cell (n.o.cell ag id) id;clear O P Q R T U af ag;have a6:Ext w3 w3:=au.refl _ _
    go_upto_region 7 with fail;refine bI w3 (by assumption) (by kernel_rfl) (by kernel_rfl) ?_;repeat (first|go_big_quiet_skip|(go_big_quiet_want;go_big_quiet_op;first|go_big_quiet_on|(apply Exists.intro;refine⟨fun x=>?_,?_⟩;((go_at_call 125;with_reducible exact XW.call (G.o x.val (n.o.trans x.ext))));go_big_quiet_on)))
    refine wpQuiet_nil ?_;rintro bb ⟨⟨_,ai⟩,rfl⟩;try dsimp only
    have aa:=ae (i.o.trans (n.o.trans ai));have aR:=ae (ai.heap t.o id);clear ai v3 v4 v5 aw ax V G E i n t av;by_cases h1:X=0;rotate_left
    .have aX:(X==0)=false:=beq_eq_false_iff_ne.2 h1;have a2:decide (X=0)=false:=dF h1;have a3:(X !=0)=true:=bne_iff_ne.2 h1;obtain rfl:Z=false:=by rw[d.o];exact a.o (dF (fun h=>h1 h.1))
     clear d a b h1;go_wp2_with fail;go_ret;exact⟨rfl,aa.o⟩
    subst h1;by_cases c:Y=0;rotate_left
    .have aX:(Y==0)=false:=beq_eq_false_iff_ne.2 c;have a2:decide (Y=0)=false:=dF c;have a3:(Y !=0)=true:=bne_iff_ne.2 c;obtain rfl:Z=false:=by rw[d.o];exact a.o (dF (fun h=>c h.2.1))
     clear d a b c;go_wp2_with fail;go_ret;exact⟨rfl,aa.o⟩
    subst c;have c1:=kR s1 s2;by_cases ab:s1=s2;rotate_left
    .rw [dF ab] at c1;have c2:(ByteArray.toList s1 !=ByteArray.toList s2)=true:=by rw[bne,c1];rfl
     have c3:decide (ByteArray.toList s1=ByteArray.toList s2)=false:=dF (beq_eq_false_iff_ne.1 c1);have c4: ¬ByteArray.toList s1=ByteArray.toList s2:=beq_eq_false_iff_ne.1 c1;obtain rfl:Z=false:=by rw[d.o];exact a.o (dF (fun h=>ab h.2.2))
     clear d a b ab;go_wp2_with fail;all_goals
      go_ret;exact⟨rfl,aa.o⟩
    subst ab;have aY:=ae (b.o (dT ⟨rfl,rfl,rfl⟩));clear a b c1;go_wp2_with fail;go_roundg (l.length- (k+1));case measure=>omega
    case rel=>exact⟨k+1,by go_num,rfl,by omega,aa,aR,aY⟩
def KC (base:Nat) (z:Tm) (b:Bool):PG.dG ((Option Addr×Nat)×Nat×(Nat->Prop)):=⟨fun x=> .tuple #[tV z (.slice x.1.1 z.kids.length x.1.2),.bool b],fun x W=>aG x.2.2 W z.kids (.slice x.1.1 z.kids.length x.1.2)/\∀j,x.2.2 j->base<=j/\j<W.heap.size,fun x W W' h a=>⟨h.1.ext a,fun j c=>⟨(h.2 j c).1,aP (h.2 j c).2 a.size⟩⟩,fun x j=>x.2.2 j,fun x W k h e=>(h.2 k e).2⟩
def O5 (base:Nat) (c:Obj):PG.dG ((Option Addr×Nat)×Nat×(Nat->Prop)):=⟨fun x=> .pointer (az x.2.1),fun x W=>base<=x.2.1/\W.heap[x.2.1]?=some c,fun x W W' h a=>⟨h.1,a.heap h.2 id⟩,fun x j=>j=x.2.1,fun x W k h e=>by rw[e];exact(Array.getElem?_eq_some_iff.1 h.2).1⟩
theorem akj (l:List Rl) (t:Tm) (c:Int) (A:List Int) (lv v pv:Value) (S:Nat->Prop) (w:World) (b1:jH (fun k=>k<w.heap.size) w l lv) (au:bQ S w t v) (hS: ∀k,S k->k<w.heap.size) (bC:tC (fun k=>k<w.heap.size) w pv A) (hr:dQ l=true) (b2:wf aC t=true) (cR:l.length<=1000000) (ct: ∀r∈l,r.1.size<=100000/\r.2.size<=100000) (cu:A.length<=1000000):
  Calls Tryz.prog 121 #[lv,v,.agg #[.int .i64 c,pv]] w fun e w'=> ∃r,e= .returned (.tuple #[tV (C_ l t (c,A)).1 r,.int .i64 (C_ l t (c,A)).2])/\aG (fun k=>S k\/(w.heap.size<=k/\k<w'.heap.size)) w' (C_ l t (c,A)).1.kids r/\Ext w w':=by
 obtain⟨Z,bD⟩:=ay (C_ l t (c,A));rw[bD];have br:=(aew (x:=(c,A)) hr b2).symm.trans bD;dsimp only at br;have aZ:=ae br;have aJ:=ae (fun W (hW:Ext w W)=>ahy t A v pv S (fun k=>k<w.heap.size) W (au.ext hW) (fun k hk=>aP (hS k hk) hW.size) (aB.kept bC hW (fun _ _ h=>h)) (bW hW) cu);have bE:=ae hS;have cD:=ae b1;have cE:=ae ct;have cF:=ae hr;have cv:=ae b2;have cw:=ae bC;obtain⟨pa,N,rfl⟩:=bC.shape;obtain⟨cU,lc,rfl⟩:=b1.shape;obtain⟨a,cap,rfl,cx⟩:=au;have bP:=(((uR w).alloc (tO t a cap)).alloc (aH c pa A.length N)).alloc zO;have av:=ae bP;have aK:=ae (ak (ak (aj w (tO t a cap)) (aH c pa A.length N)) zO);have aL:=ae (ak (alloc_at (w.alloc (tO t a cap)) (aH c pa A.length N) (n:=w.heap.size+1) (by simp)) zO);have aM:=ae (alloc_at ((w.alloc (tO t a cap)).alloc (aH c pa A.length N)) zO (n:=w.heap.size+2) (by simp));have bR:w.heap.size+3<=(((w.alloc (tO t a cap)).alloc (aH c pa A.length N)).alloc zO).heap.size:=by simp
 have a1:=ae bR;obtain⟨X,Y,aa⟩:=ah aK.o;obtain⟨ab,a6⟩:=aV aL.o;dsimp only[tV] at aJ⊢;have cG:=ae cx;clear br bD bP bR;go_enter Tryz.func121,Tryz.ntmps121;go_wp2_with fail;generalize (((w.alloc (tO t a cap)).alloc (aH c pa A.length N)).alloc zO)=w1 at*;refine(aJ.o _ av.o).mono ?_;rintro e w3 ⟨aR,aS⟩;rcases aR with⟨bS,rfl⟩|⟨u,r,hu,rfl,bF⟩
 .have O:=aZ.o;rw[bS] at O;have C:=aS.alloc zO;have M:=ae (av.o.trans C);have L:=ae (C.heap aM.o id);have aw:=ae (Nat.le_trans a1.o C.size);obtain rfl:Z=(dD,2):=O.symm;clear O aZ bS aS C aK aL aM av a1 aJ X Y aa ab a6;have f2:=fun i=>ax L.o i;obtain⟨d0,d1,d2⟩:=ah L.o
  go_wp2_with fail;have D:=aO L.o (.string ⟨#[]⟩) (.string ⟨#[]⟩) (.slice none 0 0);have hu:=aN (w3.alloc zO) (w.heap.size+2) (.string ⟨#[]⟩) (.string ⟨#[]⟩) (.slice none 0 0);obtain⟨E,F,G⟩:=ah D;refine bodyPost_ret (v:= .tuple #[.agg #[.string ⟨#[]⟩,.string ⟨#[]⟩,.slice none 0 0],.int .i64 2]) (by simp[results,Tryz.results121,go_sem,E,F,G]) rfl ?_;have B:=M.o.trans' hu (fun j p e=>by omega);exact⟨.slice none 0 0,rfl,aG.nil _ _,B⟩
 have O:=aZ.o;rw[hu] at O;obtain⟨ua,uc,hr⟩:=bF.shape;subst hr;simp only at O;have aT:=ae O;have C:=aS.alloc (tO u ua uc);have M:=ae (av.o.trans C);have b3:=ae (C.heap aK.o id);have a7:=ae (C.heap aL.o id);have L:=ae (C.heap aM.o id);have bG:=ae (aj w3 (tO u ua uc));have aw:=ae (Nat.le_trans a1.o C.size);have b4:=ae (bF.ext ((uR w3).alloc (tO u ua uc)));have bT:=ae (MI hu);clear O aZ aS C hu bF aK aL aM av a1 aJ X Y aa ab a6;dsimp only[tV];obtain⟨cV,an⟩:=ay w3.heap.size;rw[an] at bG;have ab:=ag a7.o 0 (.int .i64 c) rfl;by_cases aU:c<0
 .have t1:decide (c<0)=true:=dT aU;obtain rfl:Z=(dD,2):=by have h:=aT.o;rw[if_pos (.inl aU)] at h;exact h.symm
  clear an;have f2:=fun i=>ax L.o i;obtain⟨d0,d1,d2⟩:=ah L.o
  go_wp2_with fail;have D:=aO L.o (.string ⟨#[]⟩) (.string ⟨#[]⟩) (.slice none 0 0);have hu:=aN (w3.alloc (tO u ua uc)) (w.heap.size+2) (.string ⟨#[]⟩) (.string ⟨#[]⟩) (.slice none 0 0);obtain⟨E,F,G⟩:=ah D;refine bodyPost_ret (v:= .tuple #[.agg #[.string ⟨#[]⟩,.string ⟨#[]⟩,.slice none 0 0],.int .i64 2]) (by simp[results,Tryz.results121,go_sem,E,F,G]) rfl ?_;have B:=M.o.trans' hu (fun j p e=>by omega);exact⟨.slice none 0 0,rfl,aG.nil _ _,B⟩
 have t1:decide (c<0)=false:=dF aU;by_cases aW:(l.length:Int)<=c
 .have t2:decide ((l.length:Int)<=c)=true:=dT aW;obtain rfl:Z=(dD,2):=by have h:=aT.o;rw[if_pos (.inr aW)] at h;exact h.symm
  clear an;have f2:=fun i=>ax L.o i;obtain⟨d0,d1,d2⟩:=ah L.o
  go_wp2_with fail;have D:=aO L.o (.string ⟨#[]⟩) (.string ⟨#[]⟩) (.slice none 0 0);have hu:=aN (w3.alloc (tO u ua uc)) (w.heap.size+2) (.string ⟨#[]⟩) (.string ⟨#[]⟩) (.slice none 0 0);obtain⟨E,F,G⟩:=ah D;refine bodyPost_ret (v:= .tuple #[.agg #[.string ⟨#[]⟩,.string ⟨#[]⟩,.slice none 0 0],.int .i64 2]) (by simp[results,Tryz.results121,go_sem,E,F,G]) rfl ?_;have B:=M.o.trans' hu (fun j p e=>by omega);exact⟨.slice none 0 0,rfl,aG.nil _ _,B⟩
 have t2:decide ((l.length:Int)<=c)=false:=dF aW;have bs:=ae (aT.o.symm.trans (if_neg (by omega))).symm;obtain⟨i,rfl⟩: ∃i:Nat,c=(i:Int):=⟨c.toNat,by omega⟩
 have ao:i<l.length:=by omega
 rw[Int.toNat_natCast] at bs;obtain⟨g,off,cy,_,aR⟩:=(cD.o.ext M.o).at_ (by omega);subst cy;obtain⟨b5,b6,b7,b8,a8,ba,bb,bc,bd,bg,hx,hy⟩:=aR i ao;have aq:=xu (zN cF.o ao);have ar:=cE.o _ (nZ ao);obtain⟨q,bh,bt,B⟩:=bT.o;have bu:=oH.1 cv.o;have bU:u.size<=1000:=by rw[B];exact Nat.le_trans (Dl q t bt) bu.1
 have hlen:A.length=q.length:=by rw[bh,List.length_map]
 have bO:A.map (Value.int .i64)=q.map (fun i:Nat=>Value.int .i64 (i:Int)):=by rw[bh,List.map_map];rfl
 have bw:=bs.o;rw[show A.map Int.toNat=q by rw[bh,Kv]] at bw;have cH:Hid (aB (fun k=>k<w.heap.size) w 1 (.slice pa A.length N) q.length (q.map fun i:Nat=>Value.int .i64 (i:Int))):=ae (by rw[<-hlen,<-bO];exact cw.o);have bI:=ae bw;have cI:=ae bt;have cJ:=ae (And.intro bu.1 bU);have cz:q.length<=1000000:=by omega
 obtain⟨⟨x,y⟩,bV⟩: ∃r,Go.Hw.rg l i=r:=⟨_,rfl⟩
 rw[bV] at a8 ba bb bc bd bg bI hx hy aq ar;dsimp only at a8 ba bb bc bd bg hx hy aq ar;have bj: ∀W,Ext (w3.alloc (tO u ua uc)) W->Calls Tryz.prog 176 #[.agg #[.string x.name,.string x.sort,.slice b5 x.kids.length b6,.string y.name,.string y.sort,.slice b7 y.kids.length b8],.agg #[.string u.name,.string u.sort,.slice ua u.kids.length uc]] W fun e w'=> ∃r,e= .returned (.tuple #[tV (xw (x,y) u).1 r,.bool (xw (x,y) u).2])/\aG (fun k=>W.heap.size<=k/\k<w'.heap.size) w' (xw (x,y) u).1.kids r/\Ext W w':=fun W hW=>by
  have ad:=M.o.trans hW;exact ahz x y u b5 b7 b6 b8 _ W ((hx.ext hW).weaken (bW ad)) ((hy.ext hW).weaken (bW ad)) ⟨ua,uc,rfl,(b4.o.ext hW).weaken (fun k hk=>by
   first
    |exact aP hk hW.size
    |exact aP hk ad.size
    |exact aP (bE.o k hk) ad.size)⟩ (y_ aq.1) (y_ aq.2.1) ar.1 ar.2 (by omega)
 obtain⟨⟨z,b⟩,bX⟩: ∃r,xw (x,y) u=r:=⟨_,rfl⟩
 have aX:=bI.o;rw[bX] at bj aX;dsimp only at bj aX;have b9:=ae bj;have az:=ae aX;obtain⟨z0,cW,z2,cS⟩:=bH ao;have bY:=ag a7.o 0 (.int .i64 (i:Int)) rfl;obtain⟨n0,ca,cb⟩:=ah bG.o;clear aR aq ar bh bt B bu bU hlen bO bw bI bV bj bX aX bT bs aT aU aW ao hx hy ab;go_upto_region 4 with fail;try rw[an]
 generalize w3.alloc (tO u ua uc)=H at*;have X:=fun x:XW H=>x.ext.cell a8 id;have Y:=fun x:XW H=>x.ext.cell ba id;have aa:=fun x:XW H=>x.ext.cell bb id;have cK:=fun x:XW H=>x.ext.cell bc id;have cL:=fun x:XW H=>x.ext.cell bd id;have cM:=fun x:XW H=>x.ext.cell bg id;have m0:=fun x:XW H=>x.ext.cell n0 id;have m1:=fun x:XW H=>x.ext.cell ca id;have m2:=fun x:XW H=>x.ext.cell cb id;have v0:=fun x:XW H=>x.ext.cell bY id;clear a8 ba bb bc bd bg n0 ca cb bY;refine PG.dw (α:=(Option Addr×Nat)×Nat×(Nat->Prop)) 11 [9] 12 [(11,1),(12,2)] [[],[],[1],[0,1,2],[0,1,2,3],[],[0,1,2,3,4,5],[0,1,2,3,4,5,6],[0,1,2,3,4,5,6,7],[0,1,2,3,4,5,6,7],[],[0,1,2,3,4,5,6,7,8,10],[0,1,2,3,4,5,6,7,8,9,10,11]]
  [none,none,none,none,none,none,some (KC H.heap.size z b),none,none,none,some (O5 H.heap.size zO)]
  [false,false,false,false,false,false,true,false,false,false,true] (by kernel_rfl) (by kernel_rfl) rfl (fun _ _ d _ _ h=>by cases d<;>exact h) ?_
 simp only[List.take_succ_cons,List.take_zero,fA,List.getElem?_cons_zero,List.getElem?_cons_succ];iterate 6(refine PG.bf rfl (fun K hK=>?_);go_simp;refine hK _ ?_;clear hK K)
 refine PG.aQ _ rfl (by go_simp) (fun W hW aA K hK=>?_) (fun K cN hK=>?_)
 .go_simp;refine(b9.o W hW).mono ?_;rintro e w' ⟨r,rfl,au,ad⟩;obtain⟨a',cO,hr⟩:=au.shape;subst hr;exact hK ((a',cO),0,fun j=>W.heap.size<=j/\j<w'.heap.size) w' ad ⟨au,fun j p=>⟨Nat.le_trans hW.size p.1,p.2⟩⟩ (fun k e=>e.1)
 refine hK _ ?_;clear hK K;dsimp only[KC,O5];iterate 3(refine PG.bf rfl (fun K hK=>?_);go_simp;refine hK _ ?_;clear hK K)
 refine PG.aQ _ rfl (by go_simp) (fun W hW aA K hK=>?_) (fun K cA hK=>?_)
 .go_simp;exact hK ((none,0),W.heap.size,fun _=>False) _ ((uR W).alloc _) ⟨hW.size,aj _ _⟩ (fun k e=>by rw[e];exact Nat.le_refl _)
 refine hK _ ?_;clear hK K;dsimp only[KC,O5];refine PG.jg (fun cc hW aA bk=>?_);have g6:=aA _ (List.mem_append_left _ (List.mem_append_right _ (List.mem_singleton.2 rfl)));have g10:=aA _ (List.mem_append_right _ (List.mem_singleton.2 rfl));unfold PG.vH PI.vH at bk;simp only[List.nil_append,List.singleton_append,List.cons_append,List.pairwise_cons] at bk;have bx:=bk.1 _ (List.mem_cons_self ..);dsimp only[KC,O5] at g6 g10 bx;clear aA bk X Y aa cK cL cM m0 m1 m2 v0;obtain⟨cd,cf,cg⟩:=ah g10.2;have fl:=fun i=>ax g10.2 i;have aD:=ae g6;have bl:=ae g10;have bJ:=ae hW;have bz:=ae bx;clear g6 g10 hW bx;refine mY (fun K hK _=>?_) trivial;rw[if_pos (by rfl)];go_simp;refine hK _ _ trivial ?_;clear hK K;refine fD ?_;intro K hK;go_simp;refine hK _ _ ?_;clear hK K;simp only[dA];obtain⟨⟨af,zc⟩,cX,cY⟩:=cN;obtain⟨cZ,bn,cT⟩:=cA;dsimp only at aD bl bz cd cf cg fl⊢;have ch:=aO bl.o.2 (.string z.name) (.string z.sort) (.slice af z.kids.length zc);have aE:=aN cc bn (.string z.name) (.string z.sort) (.slice af z.kids.length zc);clear cd cf cg fl;generalize ((cc.setCell ⟨bn,0,none⟩ (.string z.name)).setCell ⟨bn,1,none⟩ (.string z.sort)).setCell ⟨bn,2,none⟩ (.slice af z.kids.length zc)=T at*;have cj:=ae ch;have bZ:=bl.o.1;have cB:=M.o.size;have P:=ae ((M.o.trans bJ.o).trans' aE (fun j p e=>by omega));have aF:Ext H T:=bJ.o.trans' aE (fun j p e=>by omega);have ck:=ae (aF.heap b3.o id);have cm:=ae (aF.heap a7.o id);have Q:=ae (aF.heap L.o id);have b0:Hid (aG (fun k=>(S k\/w.heap.size+3<=k)/\k<T.heap.size) T z.kids (.slice af z.kids.length zc)):=ae ((aD.o.1.kept aE (fun j p e=>bz.o j p e)).weaken (fun j p=>⟨.inr (by have:=(aD.o.2 j p).1;have:=aw.o;omega),aP (aD.o.2 j p).2 aE.size⟩));have cn:=ae (Nat.le_trans aw.o aF.size);have c0:Hid (w.heap.size+3<=bn):=ae (Nat.le_trans aw.o bZ);clear ch aE aD bl bz bJ bZ cB aF M b3 a7 L bG aw b4 b9 an;cases b with
 |false=>
  obtain rfl:Z=(dD,12):=by have h:=az.o.symm;simpa using h
  clear az;have f2:=fun i=>ax Q.o i;obtain⟨d0,d1,d2⟩:=ah Q.o
  go_wp2_with fail;have D:=aO Q.o (.string ⟨#[]⟩) (.string ⟨#[]⟩) (.slice none 0 0);have hu:=aN T (w.heap.size+2) (.string ⟨#[]⟩) (.string ⟨#[]⟩) (.slice none 0 0);obtain⟨E,F,G⟩:=ah D;refine bodyPost_ret (v:= .tuple #[.agg #[.string ⟨#[]⟩,.string ⟨#[]⟩,.slice none 0 0],.int .i64 12]) (by simp[results,Tryz.results121,go_sem,E,F,G]) rfl ?_;have B:=P.o.trans' hu (fun j p e=>by omega);exact⟨.slice none 0 0,rfl,aG.nil _ _,B⟩
 |true=>
  have U:=az.o;simp only[Bool.true_eq_false,if_false] at U;have t5:=lV z.name;have t6:=kR z.name ai;obtain⟨bm,bo,bp⟩:=ah cj.o;by_cases hn:z.name=ai
  .rw [if_pos hn] at U;obtain rfl:Z=(dD,4):=U.symm;rw[dT hn] at t5 t6;clear az hn;have f2:=fun i=>ax Q.o i;obtain⟨d0,d1,d2⟩:=ah Q.o
   go_wp2_with fail;have D:=aO Q.o (.string ⟨#[]⟩) (.string ⟨#[]⟩) (.slice none 0 0);have hu:=aN T (w.heap.size+2) (.string ⟨#[]⟩) (.string ⟨#[]⟩) (.slice none 0 0);obtain⟨E,F,G⟩:=ah D;refine bodyPost_ret (v:= .tuple #[.agg #[.string ⟨#[]⟩,.string ⟨#[]⟩,.slice none 0 0],.int .i64 4]) (by simp[results,Tryz.results121,go_sem,E,F,G]) rfl ?_;have B:=P.o.trans' hu (fun j p e=>by omega);exact⟨.slice none 0 0,rfl,aG.nil _ _,B⟩
  .rw [if_neg hn] at U;rw[dF hn] at t5 t6;have bK:=ae (aeu z q t (.agg #[.string t.name,.string t.sort,.slice a t.kids.length cap]) (.slice pa A.length N) (.agg #[.string z.name,.string z.sort,.slice af z.kids.length zc]) (fun k=>(S k\/w.heap.size+3<=k)/\k<T.heap.size) T ⟨a,cap,rfl,(cG.o.ext P.o).weaken (fun k hk=>⟨.inl hk,aP (bE.o k hk) P.o.size⟩)⟩ ⟨af,zc,rfl,b0.o⟩ (fun k hk=>hk.2) ((aB.kept cH.o P.o (fun _ _ h=>h)).weaken (bW P.o)) cI.o (by have:=cJ.o;omega) cz);obtain⟨o,ho⟩:=ay (putAt t q z);rw[ho] at bK U;have aI:=ae U;clear az hn U ho;obtain⟨X,Y,aa⟩:=ah ck.o;obtain⟨ab,a6⟩:=aV cm.o;go_wp2_with fail;refine bK.o.mono ?_;rintro e R ⟨r,rfl,bA,aY⟩;obtain⟨I,J,hr⟩:=bA.shape;subst hr;have C:=aY.alloc (tO o I J);have cp:=ae (P.o.trans C);have cq:=ae (C.heap Q.o id);have bq:=ae (aj R (tO o I J));have bB:=ae ((bA.ext ((uR R).alloc (tO o I J))).weaken (fun k hk=>(by
    have h1:=((uR R).alloc (tO o I J)).size;have c3:=aY.size;have c4:=cn.o;rcases hk with hk|hk
    .exact ⟨hk.1,by omega⟩
    .exact ⟨.inr (by omega),by omega⟩:(S k\/w.heap.size+3<=k)/\k< (R.alloc (tO o I J)).heap.size)))
   have cP:Hid (w.heap.size+3<=R.heap.size):=ae (Nat.le_trans cn.o aY.size);clear bA aY C bK X Y aa ab a6 bm bo bp t5 t6 P ck cm Q b0 cj;dsimp only[tV];obtain⟨c5,bL⟩:=ay R.heap.size;rw[bL] at bq cP;have bM:=ae (YO o (.agg #[.string o.name,.string o.sort,.slice I o.kids.length J]) _ (R.alloc (tO o I J)) ⟨I,J,rfl,bB.o⟩);obtain⟨b,hb⟩:=ay (formed aC o);rw[hb] at bM aI;clear hb;obtain⟨bm,bo,bp⟩:=ah bq.o;go_wp2_with fail;try rw[bL]
   generalize R.alloc (tO o I J)=c6 at*;clear bL;refine bM.o.mono ?_;rintro e bN ⟨rfl,V⟩;have cr:=ae (cp.o.trans V);have al:=ae (V.heap cq.o id);have cC:=ae (V.heap bq.o id);have cQ:=ae ((bB.o.ext V).weaken (fun k hk=>(⟨hk.1,aP hk.2 V.size⟩:(S k\/w.heap.size+3<=k)/\k<bN.heap.size)));clear V bM cp cq bq bB bm bo bp;cases b with
   |false=>
    obtain rfl:Z=(dD,4):=by have h:=aI.o.symm;simpa using h
    clear aI;have f2:=fun i=>ax al.o i;obtain⟨d0,d1,d2⟩:=ah al.o
    go_wp2_with fail;have D:=aO al.o (.string ⟨#[]⟩) (.string ⟨#[]⟩) (.slice none 0 0);have hu:=aN bN (w.heap.size+2) (.string ⟨#[]⟩) (.string ⟨#[]⟩) (.slice none 0 0);obtain⟨E,F,G⟩:=ah D;refine bodyPost_ret (v:= .tuple #[.agg #[.string ⟨#[]⟩,.string ⟨#[]⟩,.slice none 0 0],.int .i64 4]) (by simp[results,Tryz.results121,go_sem,E,F,G]) rfl ?_;have B:=cr.o.trans' hu (fun j p e=>by omega);exact⟨.slice none 0 0,rfl,aG.nil _ _,B⟩
   |true=>
    obtain rfl:Z=(o,0):=by have h:=aI.o.symm;simpa using h
    clear aI;dsimp only;obtain⟨bm,bo,bp⟩:=ah cC.o;have f2:=fun i=>ax al.o i;obtain⟨d0,d1,d2⟩:=ah al.o
    go_wp2_with fail;have D:=aO al.o (.string o.name) (.string o.sort) (.slice I o.kids.length J);have hu:=aN bN (w.heap.size+2) (.string o.name) (.string o.sort) (.slice I o.kids.length J);obtain⟨E,F,G⟩:=ah D;refine bodyPost_ret (v:= .tuple #[.agg #[.string o.name,.string o.sort,.slice I o.kids.length J],.int .i64 0]) (by simp[results,Tryz.results121,go_sem,E,F,G]) rfl ?_;have B:=cr.o.trans' hu (fun j p e=>by omega);exact⟨.slice I o.kids.length J,rfl,(cQ.o.kept hu (fun j p e=>by rcases p.1 with h|h;have:=bE.o j h;omega;omega)).weaken (fun j p=>p.1.imp id (fun h=>⟨by omega,aP p.2 hu.size⟩)),B⟩
section
variable (n0:Nat)
def Gg:PH.dG ((Option Addr×Nat)×Nat×(Nat->Prop)) n0:=⟨fun x=> .slice x.1.1 0 0,fun x W=>W.ownsRow n0 3 1 (.slice x.1.1 0 0) 0 [],fun x W W' h a=>bM h a (fun _ _ h=>h),fun x k=>(Value.slice x.1.1 0 0).ownBlock=some k,fun x W k h e=>(World.ownsRow.lt h k e).2,none,true,fun _ x W W' F h b hF=>bM h b (fun k hk c=>(hF k c).2 hk)⟩
def Ar (n:Nat) (xs:List Value):PH.dG ((Option Addr×Nat)×Nat×(Nat->Prop)) n0:=⟨fun x=> .slice x.1.1 n x.1.2,fun x W=>W.ownsRow n0 3 1 (.slice x.1.1 n x.1.2) n xs/\(n=0->x.1.2=0),fun x W W' h a=>⟨bM h.1 a (fun _ _ h=>h),h.2⟩,fun x k=>0<n/\(Value.slice x.1.1 n x.1.2).ownBlock=some k,fun x W k h e=>(World.ownsRow.lt h.1 k e.2).2,none,false,fun h=>by cases h⟩
def Gh (k:Nat):PH.dG ((Option Addr×Nat)×Nat×(Nat->Prop)) n0:=⟨fun x=> .slice (az x.2.1) 1 1,fun x W=>n0<=x.2.1/\W.heap[x.2.1]?=some (iE (k:Int)),fun x W W' h a=>⟨h.1,a.heap h.2 id⟩,fun x j=>j=x.2.1,fun x W k h e=>by rw[e];exact(Array.getElem?_eq_some_iff.1 h.2).1,none,true,fun _ x W W' F h b hF=>⟨h.1,b.heap h.2 (fun c=>(hF _ c).2 rfl)⟩⟩
def Au (n:Nat) (xs:List Value):PH.dG ((Option Addr×Nat)×Nat×(Nat->Prop)) n0:=⟨fun x=> .slice x.1.1 n x.1.2,fun x W=>W.ownsRow n0 3 1 (.slice x.1.1 n x.1.2) n xs,fun x W W' h a=>bM h a (fun _ _ h=>h),fun _ _=>False,fun _ _ _ _ h=>h.elim,some 8,false,fun h=>by cases h⟩
def Gi (o:Option (Nat×List Nat×Tm)) (Q:List Nat):PH.dG ((Option Addr×Nat)×Nat×(Nat->Prop)) n0:=⟨fun x=> .tuple #[.agg #[.int .i64 (fi o:Int),.slice x.1.1 (fq o Q).length x.1.2],.bool o.isSome],fun x W=>aB (fun j=>n0<=j/\rU W j) W 1 (.slice x.1.1 (fq o Q).length x.1.2) (fq o Q).length ((fq o Q).map (fun i:Nat=>Value.int .i64 (i:Int))),fun x W W' h a=>(aB.kept h a (fun _ _ h=>h)).weaken (fun j b=>⟨b.1,b.2.ext a⟩),fun _ _=>False,fun _ _ _ _ h=>h.elim,none,false,fun h=>by cases h⟩
def Gj (c:Obj):PH.dG ((Option Addr×Nat)×Nat×(Nat->Prop)) n0:=⟨fun x=> .pointer (az x.2.1),fun x W=>n0<=x.2.1/\W.heap[x.2.1]?=some c,fun x W W' h a=>⟨h.1,a.heap h.2 id⟩,fun x j=>j=x.2.1,fun x W k h e=>by rw[e];exact(Array.getElem?_eq_some_iff.1 h.2).1,none,true,fun _ x W W' F h b hF=>⟨h.1,b.heap h.2 (fun d=>(hF _ d).2 rfl)⟩⟩
end
theorem aaQ (l:List Rl) (cy:l.length<=1000000) (bh: ∀r∈l,r.1.size<=100000/\r.2.size<=100000) (hr:dQ l=true): ∀(t:Tm) (v lv pv:Value) (S T U:Nat->Prop) (P:List Nat) (w:World),bQ T w t v->jH S w l lv->aB U w 1 pv P.length (P.map (fun i:Nat=>Value.int .i64 (i:Int)))->(∀k,S k->k<w.heap.size)->(∀k,T k->k<w.heap.size)->(∀k,U k->k<w.heap.size)->t.size<=100000->P.length+t.size<=200000->
  Calls Tryz.prog 127 #[lv,v,pv] w fun e w'=> ∃a c,e= .returned (.tuple #[.agg #[.int .i64 (fi (jk l t):Int),.slice a (fq (jk l t) P).length c],.bool (jk l t).isSome])/\aB (fun j=>U j\/(w.heap.size<=j/\rU w' j)) w' 1 (.slice a (fq (jk l t) P).length c) (fq (jk l t) P).length ((fq (jk l t) P).map (fun i:Nat=>Value.int .i64 (i:Int)))/\Ext w w':=by
 refine Tm.ind (fun nm so L bt=>?_);intro v lv pv S T U P w I hR ao hS bj bu N bk;obtain⟨a,cap,rfl,I⟩:=I;obtain⟨b6,lc,rfl⟩:=hR.shape;obtain⟨pa,ab,rfl⟩:=aB.shape ao;dsimp only[tV,Tm.name,Tm.sort,Tm.kids] at I⊢;have bw:=ae I;have bx:=ae hR;have bA:=ae ao;have bl:=ae bt;have aJ:=ae (And.intro hS bj);have b7:=ae bu;have b8:=ae bh;have b9:=ae hr;have bB:sizes L+1<=100000:=by rw[size_eq] at N;simp only[Tm.kids] at N;omega
 have bC:=ae bB;have ca:L.length<=100000:=by have h1:=bz L;omega
 have cA:=ae ca;have cb:=ae bk;have cz:P.length<=200000:=by omega
 have bD:=ae (((uR w).alloc (af nm so a L.length cap)).alloc (aH 0 none 0 0));have F:=ae (ak (aj w (af nm so a L.length cap)) (aH 0 none 0 0));have D:=ae (alloc_at (w.alloc (af nm so a L.length cap)) (aH 0 none 0 0) (n:=w.heap.size+1) (by simp));have Z:((w.alloc (af nm so a L.length cap)).alloc (aH 0 none 0 0)).heap.size=w.heap.size+2:=by simp
 have bm:=ae Z;obtain⟨V,hV⟩:=ay (qo l 0 L);have bE:=ae hV;have aT:=LV l nm so L;rw[hV] at aT;have aK:=ae aT;clear bt I hR ao hS bj bu N bB Z hV aT bk bh;go_enter Tryz.func127,Tryz.ntmps127;go_wp2_with fail;generalize ((w.alloc (af nm so a L.length cap)).alloc (aH 0 none 0 0))=cB at*;go_loopg [8] L.length (fun gk a8 wr=> ∃k:Nat,a8= .int .i64 (k:Int)/\gk=L.length-k/\k<=L.length/\Hid (qo l k (L.drop k)=V)/\Hid (Ext w wr)/\Hid (wr.heap[w.heap.size]?=some (af nm so a L.length cap))/\Hid (wr.heap[w.heap.size+1]?=some (aH 0 none 0 0))/\Hid (w.heap.size+2<=wr.heap.size));case atStart=>exact⟨0,rfl,rfl,Nat.zero_le _,bE,bD,F,D,ae (by rw[bm.o];exact Nat.le_refl _)⟩
 case round=>
  clear F D bD bm bE;obtain⟨k,rfl,rfl,hk,J,q,F,D,M⟩:=hrel;have c2:=ag F.o 2 (.slice a L.length cap) rfl;by_cases H:k<L.length
  .obtain ⟨g,off,aU,_,ai⟩:=(bw.o.ext q.o).at_ (by omega);subst aU;obtain⟨aq,ar,X,O,Q,bG⟩:=ai k H;rw[<-Nat.add_assoc] at O Q;obtain⟨z0,cc,z2,b0⟩:=bH H;have G:=ae (J.o.symm.trans (LW l L k H));have bI:=ae bG;have bK:=ae (cZ L k H);have ba:Hid ((tg L k).size<=100000/\P.length+1+(tg L k).size<=200000):=ae (by have h1:=bC.o;have bL:=jP L k H;have bM:=fM L (k+1);have bN:=cb.o;rw[size_eq] at bN;simp only[Tm.kids] at bN;omega);obtain⟨x,hx⟩:=ay (tg L k);have cC:=ae hx;rw[hx] at X O Q G bI bK ba;have bb:=ae (fun W (hW:Ext wr W) (bn:Value) (bc:Nat->Prop) (ao:aB bc W 1 bn (P.length+1) (P.map (fun i:Nat=>Value.int .i64 (i:Int))++[.int .i64 (k:Int)])) (b1: ∀j,bc j->j<W.heap.size)=>bl.o x bK.o (.agg #[.string x.name,.string x.sort,.slice aq x.kids.length ar]) (.slice b6 l.length lc) bn S T bc (P++[k]) W ⟨aq,ar,rfl,bI.o.ext hW⟩ (bx.o.ext (q.o.trans hW)) (by rw[List.length_append,List.map_append];exact ao) (fun j b=>aP (aJ.o.1 j b) (q.o.trans hW).size) (fun j b=>aP (aJ.o.2 j b) (q.o.trans hW).size) b1 (ba.o).1 (by rw[List.length_append];exact ba.o.2));have bO:=ae (fun W (hW:Ext wr W)=>aB.kept bA.o (q.o.trans hW) (fun _ _ h=>h));have cd:=fun x:XW wr=>x.ext.cell X id;have cf:=fun x:XW wr=>x.ext.cell O id;have cg:=fun x:XW wr=>x.ext.cell Q id;have v2:=fun x:XW wr=>x.ext.cell c2 id;obtain⟨o,ho⟩:=ay (jk l x)
   have cD:=ae ho;rw[ho] at bb G;clear ho ai bG hx J;go_upto_region 4 with fail;clear c2;refine PH.dw (α:=(Option Addr×Nat)×Nat×(Nat->Prop)) 17 [15] 18 [(17,1),(18,2)] [[],[],[1],[],[1,2,3],[1,2,3,4],[],[],[6,7],[],[9],[6,7,8,9,10],[0,1,2,3,4,5,6,7,8,9,10,11],[0,1,2,3,4,5,6,7,8,9,10,11,12],[0,1,2,3,4,5,6,7,8,9,10,11,12,13],[0,1,2,3,4,5,6,7,8,9,10,11,12,13],[],[0,1,2,3,4,5,6,7,8,9,10,11,12,13,14,16],[0,1,2,3,4,5,6,7,8,9,10,11,12,13,14,15,16,17]]
    [none,none,none,none,none,none,some (Gg wr.heap.size),none,some (Ar wr.heap.size P.length (P.map (fun i:Nat=>Value.int .i64 (i:Int)))),none,some (Gh wr.heap.size k),some (Au wr.heap.size (P.length+1) (P.map (fun i:Nat=>Value.int .i64 (i:Int))++[.int .i64 (k:Int)])),some (Gi wr.heap.size o (P++[k])),none,none,none,some (Gj wr.heap.size (aH 0 none 0 0))]
    [false,false,false,false,false,false,true,false,true,false,true,true,true,false,false,false,true] (by kernel_rfl) (by kernel_rfl) rfl (fun _ _ d _ _ h=>by cases d<;>exact h)
    (PH.ad3 11 8 (fun i A h hne=>by
      have hi:i<17:=by
       refine Nat.lt_of_not_le (fun aW=>?_);change List.getD _ i none=some _ at h;rw[List.getD_eq_getElem?_getD,List.getElem?_eq_none (by simpa using aW)] at h;cases h
      rcases(by omega:i=0\/i=1\/i=2\/i=3\/i=4\/i=5\/i=6\/i=7\/i=8\/i=9\/i=10\/i=11\/i=12\/i=13\/i=14\/i=15\/i=16) with rfl|rfl|rfl|rfl|rfl|rfl|rfl|rfl|rfl|rfl|rfl|rfl|rfl|rfl|rfl|rfl|rfl<;>first|(cases h;done)|exact absurd rfl hne|(injection h with h;subst h;rfl))
     (fun A h=>by injection h with h;subst h;rfl) (by decide) (fun i B h h1 bL bM=>by
      have hi:i<17:=by
       refine Nat.lt_of_not_le (fun aW=>?_);change List.getD _ i none=some _ at h;rw[List.getD_eq_getElem?_getD,List.getElem?_eq_none (by simpa using aW)] at h;cases h
      rcases(by omega:i=0\/i=1\/i=2\/i=3\/i=4\/i=5\/i=6\/i=7\/i=8\/i=9\/i=10\/i=11\/i=12\/i=13\/i=14\/i=15\/i=16) with rfl|rfl|rfl|rfl|rfl|rfl|rfl|rfl|rfl|rfl|rfl|rfl|rfl|rfl|rfl|rfl|rfl<;>first|(cases h;done)|exact absurd rfl h1|exact absurd rfl bM|exact absurd (by decide) bL|(injection h with h;subst h;rfl))) ?_
   simp only[List.take_succ_cons,List.take_zero,fA,List.getElem?_cons_zero,List.getElem?_cons_succ];iterate 6(refine PH.bf rfl (fun K hK=>?_);go_simp;refine hK _ ?_;clear hK K)
   refine PH.aQ _ rfl (by go_simp) (fun W hW E K hK=>?_) (fun K cE hK=>?_)
   .go_simp;exact hK ((some ⟨W.heap.size,0,none⟩,0),0,fun _=>False) _ ((uR W).alloc _) (World.ownsRow_lit (base:=wr.heap.size) (e:=3) (size:=1) W #[] 0 hW.size (by unfold maxLen;omega) (by simp)) (fun k e=>by injection e with e;exact Nat.le_of_eq e)
   refine hK _ ?_;clear hK K;dsimp only[Gg,Ar,Gh,Au,Gi,Gj];refine PH.bf rfl (fun K hK=>?_);go_simp;refine hK _ ?_;clear hK K;refine PH.aQ _ rfl (by go_simp) (fun W hW E K hK=>?_) (fun K cF hK=>?_)
   .have g6:=E _ (List.mem_append_right _ (List.mem_singleton.2 rfl)) (by show(6:Nat)∈_;decide);obtain⟨bd,hi,Z,aX,aY⟩:=info_parts O0;refine Ji W (.tmp 28) (.tmp 29) 63 rfl wr.heap.size 3 bd (.int .i64 0) 1 8 Tryz.underlying63 hi Z aX aY rfl (by decide) _ rfl g6 U _ P.length _ rfl (bO.o W hW) (by intro u hu;obtain⟨j,_,rfl⟩:=List.mem_map.1 hu;rfl) (by unfold maxLen;omega) (by omega) hW.size ?_;intro v' w' av hO ch aw;obtain⟨a',Y,hv⟩:=bF hO;subst hv;by_cases aZ:P.length=0
    .have a1:=ch aZ;injection a1 with _ _ a1
     exact hK ((a',Y),0,fun _=>False) w' av ⟨hO,fun _=>a1⟩ (fun k e=>absurd e.1 (by omega))
    .refine hK ((a',Y),0,fun _=>False) w' av ⟨hO,fun h=>absurd h aZ⟩ (fun k e=>?_);rcases aw with aw|aw
     .exact absurd aw aZ
     .have h:=e.2;rw[aw] at h;injection h with h;exact Nat.le_of_eq h
   refine hK _ ?_;clear hK K;dsimp only[Gg,Ar,Gh,Au,Gi,Gj];refine PH.bf rfl (fun K hK=>?_);go_simp;refine hK _ ?_;clear hK K;refine PH.aQ _ rfl (by go_simp) (fun W hW E K hK=>?_) (fun K b2 hK=>?_)
   .go_simp;exact hK ((none,0),W.heap.size,fun _=>False) _ ((uR W).alloc _) ⟨hW.size,aj _ _⟩ (fun k e=>by rw[e];exact Nat.le_refl _)
   refine hK _ ?_;clear hK K;dsimp only[Gg,Ar,Gh,Au,Gi,Gj];refine PH.aQ _ rfl (by go_simp) (fun W hW E K hK=>?_) (fun K bo hK=>?_)
   .have g8:=E _ (List.mem_append_left _ (List.mem_append_right _ (List.mem_singleton.2 rfl))) (by show(8:Nat)∈_;decide);have g10:=E _ (List.mem_append_right _ (List.mem_singleton.2 rfl)) (by show(10:Nat)∈_;decide);obtain⟨bd,hi,Z,aX,aY⟩:=info_parts O0;refine Jj W (.tmp 30) (.tmp 32) 63 rfl wr.heap.size 3 bd (.int .i64 0) 1 8 Tryz.underlying63 hi Z aX aY rfl (by decide) _ P.length _ rfl g8.1 ⟨b2.2.1,0,none⟩ 1 1 [.int .i64 (k:Int)] rfl rfl (by
     intro j u b;match j,b with
     |0,b=>simp only[List.getElem?_cons_zero,Option.some.injEq] at b;subst b;exact ag g10.2 0 _ rfl
     |j+1,b=>simp at b) (by intro u hu;simp at hu;subst hu;rfl) (by unfold maxLen;omega) (by omega) hW.size ?_
    intro v' w' I hO b3;obtain⟨a',Y,hv⟩:=bF hO;subst hv;refine hK ((a',Y),0,fun _=>False) w' ⟨_,List.mem_append_left _ (List.mem_append_right _ (List.mem_singleton.2 rfl)),rfl,?_,b3,g8.2⟩ hO (fun k e=>e.elim);rcases I with I|⟨I,a2,c2,e,hle⟩
    .exact I.mono (fun _ _ h=>h.elim)
    .injection e with _ _ e
     exact I.mono (fun k _ h=>⟨by
      by_cases h0:P.length=0
      .have:=g8.2 h0;omega
      .omega,h⟩)
   refine hK _ ?_;clear hK K;dsimp only[Gg,Ar,Gh,Au,Gi,Gj];refine PH.aQ _ rfl (by go_simp) (fun W hW E K hK=>?_) (fun K z12 hK=>?_)
   .have g11:=E _ (List.mem_append_right _ (List.mem_singleton.2 rfl)) (by show(11:Nat)∈_;decide);have hrow:aB (fun j=>wr.heap.size<=j/\rU W j) W 1 (.slice bo.1.1 (P.length+1) bo.1.2) (P.length+1) (P.map (fun i:Nat=>Value.int .i64 (i:Int))++[.int .i64 (k:Int)]):=(aB.gG g11).weaken (fun j b=>⟨(World.ownsRow.lt g11 j b).1,U7 g11 b⟩);go_simp;refine(bb.o W hW _ _ hrow (fun j b=>rU.lt b.2)).mono ?_;rintro e w' ⟨a',Y,rfl,hS,av⟩;have cj:aB (fun j=>wr.heap.size<=j/\rU w' j) w' 1 (.slice a' (fq o (P++[k])).length Y) (fq o (P++[k])).length ((fq o (P++[k])).map (fun i:Nat=>Value.int .i64 (i:Int))):=hS.weaken (fun j b=>by
     rcases b with b|b
     .exact ⟨b.1,b.2.ext av⟩
     .exact ⟨Nat.le_trans hW.size b.1,b.2⟩)
    exact hK ((a',Y),0,fun _=>False) w' av cj (fun k e=>e.elim)
   refine hK _ ?_;clear hK K;dsimp only[Gg,Ar,Gh,Au,Gi,Gj];iterate 3(refine PH.bf rfl (fun K hK=>?_);go_simp;refine hK _ ?_;clear hK K)
   refine PH.aQ _ rfl (by go_simp) (fun W hW E K hK=>?_) (fun K z hK=>?_)
   .go_simp;exact hK ((none,0),W.heap.size,fun _=>False) _ ((uR W).alloc _) ⟨hW.size,aj _ _⟩ (fun k e=>by rw[e];exact Nat.le_refl _)
   refine hK _ ?_;clear hK K;dsimp only[Gg,Ar,Gh,Au,Gi,Gj];refine PH.jg (fun R hW E ck=>?_);have g12:=E _ (List.mem_append_left _ (List.mem_append_right _ (List.mem_singleton.2 rfl)));have g16:=E _ (List.mem_append_right _ (List.mem_singleton.2 rfl));dsimp only[Gg,Ar,Gh,Au,Gi,Gj] at g12 g16;clear E ck cd cf cg X O Q v2;obtain⟨cm,cn⟩:=aV g16.2;have fl:=fun i=>ax g16.2 i;have bP:=ae g12;have az:=ae g16;have bR:=ae hW;clear g12 g16 hW;refine mY (fun K hK _=>?_) trivial;rw[if_pos (by rfl)];go_simp;refine hK _ _ trivial ?_;clear hK K;refine fD ?_;intro K hK;go_simp;refine hK _ _ ?_;clear hK K;simp only[dA];have bS:((R.setCell ⟨z.2.1,0,none⟩ (.int .i64 (fi o:Int))).setCell ⟨z.2.1,1,none⟩ (.slice z12.1.1 (fq o (P++[k])).length z12.1.2)).heap[z.2.1]?=some (aH (fi o:Int) z12.1.1 ((fq o (P++[k])).length) z12.1.2):=by simpa using setBlock (setBlock az.o.2 0 (.int .i64 (fi o:Int))) 1 (.slice z12.1.1 (fq o (P++[k])).length z12.1.2)
   have aL:au (fun j=>j=z.2.1) R ((R.setCell ⟨z.2.1,0,none⟩ (.int .i64 (fi o:Int))).setCell ⟨z.2.1,1,none⟩ (.slice z12.1.1 (fq o (P++[k])).length z12.1.2)):=((au.refl (fun j=>j=z.2.1) R).setCell (p:=⟨z.2.1,0,none⟩) (.inl rfl) _).setCell (p:=⟨z.2.1,1,none⟩) (.inl rfl) _;have hne: ∀j,rU R j->¬j=z.2.1:=fun j b e=>by
    obtain⟨cs,aM,h⟩:=b;rw[e,az.o.2] at h;injection h with h
    injection h with _ h
    cases h
   have cp:Hid (aB (fun j=>w.heap.size+2<=j/\rU ((R.setCell ⟨z.2.1,0,none⟩ (.int .i64 (fi o:Int))).setCell ⟨z.2.1,1,none⟩ (.slice z12.1.1 (fq o (P++[k])).length z12.1.2)) j) ((R.setCell ⟨z.2.1,0,none⟩ (.int .i64 (fi o:Int))).setCell ⟨z.2.1,1,none⟩ (.slice z12.1.1 (fq o (P++[k])).length z12.1.2)) 1 (.slice z12.1.1 (fq o (P++[k])).length z12.1.2) (fq o (P++[k])).length ((fq o (P++[k])).map (fun i:Nat=>Value.int .i64 (i:Int)))):=ae ((aB.kept bP.o aL (fun j b e=>hne j b.2 e)).weaken (fun j b=>⟨Nat.le_trans M.o b.1,by
    obtain⟨cs,aM,h⟩:=b.2;exact⟨cs,aM,aL.heap h (hne j b.2)⟩⟩))
   generalize ((R.setCell ⟨z.2.1,0,none⟩ (.int .i64 (fi o:Int))).setCell ⟨z.2.1,1,none⟩ (.slice z12.1.1 (fq o (P++[k])).length z12.1.2))=aA at*;have cq:=ae bS;have aC:Ext wr aA:=bR.o.trans' aL (fun j b e=>by have:=az.o.1;omega);have bT:=ae (q.o.trans aC);have cr:=ae (aC.heap F.o id);have aN:=ae (aC.heap D.o id);have b4:=ae (Nat.le_trans M.o aC.size);have cG:Hid (w.heap.size+2<=z.2.1):=ae (Nat.le_trans M.o az.o.1);clear bS aL hne aC cm cn fl bP az bR q F D M bb bO;cases o with
   |none=>
    have ad:Hid (qo l (k+1) (L.drop (k+1))=V):=ae G.o.symm;simp only[Option.isSome_none];go_wp2_with fail;go_roundg (L.length- (k+1));case measure=>omega
    case rel=>exact⟨k+1,by go_num,rfl,by omega,ad,bT,cr,aN,b4⟩
   |some y=>
    simp only[Option.isSome_some];obtain⟨cH,cI⟩:=aV cq.o;obtain⟨bU,r1⟩:=aV aN.o;have fr:=fun i=>ax aN.o i
    go_wp2_with fail;have al:((aA.setCell ⟨w.heap.size+1,0,none⟩ (.int .i64 (fi (some y):Int))).setCell ⟨w.heap.size+1,1,none⟩ (.slice z12.1.1 (fq (some y) (P++[k])).length z12.1.2)).heap[w.heap.size+1]?=some (aH (fi (some y):Int) z12.1.1 ((fq (some y) (P++[k])).length) z12.1.2):=by simpa using setBlock (setBlock aN.o 0 (.int .i64 (fi (some y):Int))) 1 (.slice z12.1.1 (fq (some y) (P++[k])).length z12.1.2)
    have hu:au (fun j=>j=w.heap.size+1) aA ((aA.setCell ⟨w.heap.size+1,0,none⟩ (.int .i64 (fi (some y):Int))).setCell ⟨w.heap.size+1,1,none⟩ (.slice z12.1.1 (fq (some y) (P++[k])).length z12.1.2)):=((au.refl (fun j=>j=w.heap.size+1) aA).setCell (p:=⟨w.heap.size+1,0,none⟩) (.inl rfl) _).setCell (p:=⟨w.heap.size+1,1,none⟩) (.inl rfl) _;obtain⟨aD,aE⟩:=aV al;have bV:fq (some (y.1,k::y.2.1,y.2.2)) P=fq (some y) (P++[k]):=by simp[fq]
    refine bodyPost_ret (v:= .tuple #[.agg #[.int .i64 (fi (some y):Int),.slice z12.1.1 (fq (some y) (P++[k])).length z12.1.2],.bool true]) (by simp[results,Tryz.results127,go_sem,aD,aE]) rfl ⟨z12.1.1,z12.1.2,?_,?_,bT.o.trans' hu (fun j b e=>by omega)⟩
    .rw [aK.o,G.o];simp only[bV];rfl
    .rw [aK.o,G.o];simp only[bV];refine(aB.kept cp.o hu (fun j b e=>by have:=b.1;omega)).weaken (fun j b=> .inr ⟨by have:=b.1;omega,?_⟩);obtain⟨h0,cs,aM,h⟩:=b;exact⟨cs,aM,hu.heap h (by omega)⟩
  .obtain rfl:k=L.length:=by omega
   have z2:decide ((L.length:Int)< (L.length:Int))=false:=dF (by omega);have an:V=none:=by
    rw[<-J.o,List.drop_length];unfold qo;rfl
   have a6:=aK.o;rw[an] at a6;have aF:Hid (jk l (mk nm so L)=(r_ 0 l (mk nm so L)).map (fun x=>(x.1,[],x.2))):=ae a6;obtain⟨aO,a7⟩:=ay (r_ 0 l (mk nm so L));rw[a7] at aF;have bW:=ae a7;clear an a6 a7 J aK bl hk;go_wp2_with fail;clear c2;obtain⟨bX,ct⟩: ∃bX,bX=wr:=⟨_,rfl⟩
   subst ct;go_loopg [11] l.length (fun gk a8 wr=> ∃k:Nat,a8= .int .i64 (k:Int)/\gk=l.length-k/\k<=l.length/\Hid (r_ k (l.drop k) (mk nm so L)=aO)/\Hid (Ext w wr)/\Hid (wr.heap[w.heap.size]?=some (af nm so a L.length cap))/\Hid (wr.heap[w.heap.size+1]?=some (aH 0 none 0 0))/\Hid (w.heap.size+2<=wr.heap.size));case atStart=>exact⟨0,rfl,rfl,Nat.zero_le _,bW,q,F,D,M⟩
   case round=>
    clear F D q M bW;obtain⟨k,rfl,rfl,hk,J,q,F,D,M⟩:=hrel;by_cases H:k<l.length
    .obtain ⟨g,off,aU,_,ai⟩:=(bx.o.ext q.o).at_ (by omega);subst aU;obtain⟨aq,ar,cJ,cK,X,O,Q,cu,cv,cw,hx,hy⟩:=ai k H;obtain⟨z0,cc,z2,b0⟩:=bH H;have G:=ae (J.o.symm.trans (LZ l (mk nm so L) k H));have N:=(b8.o _ (nZ H)).1;have aa:=xu (zN b9.o H);have bp:qm (rg l k) (mk nm so L)=(kJ (rg l k).1 (mk nm so L) []).map fun B=>bJ B (rg l k).2:=YI aa.1 aa.2.2.2;rw[bp] at G;obtain⟨⟨x,y⟩,bq⟩: ∃r,rg l k=r:=⟨_,rfl⟩
     rw[bq] at X O Q G N hx aa;dsimp only at X O Q G N hx aa;have br:(dL x).length<=100000:=Nat.le_trans (U6 x) N;have aR:=ae (fun W (hW:Ext wr W)=>N8 br x (mk nm so L) (tV x (.slice aq x.kids.length ar)) (.agg #[.string nm,.string so,.slice a L.length cap]) (.slice none 0 0) [] W ⟨aq,ar,rfl,(hx.ext hW).weaken (fun j b=>aP (aJ.o.1 j b) (q.o.trans hW).size)⟩ ⟨a,cap,rfl,(bw.o.ext (q.o.trans hW)).weaken (fun j b=>aP (aJ.o.2 j b) (q.o.trans hW).size)⟩ (jb.nil _ _ _) (by omega) (by rw[size_eq];exact bC.o) (y_ aa.1) (fun f hf=>hf) (rQ.nil _ _));obtain⟨o,ho⟩:=ay (kJ x (mk nm so L) []);rw[ho] at aR G;obtain⟨t0,t1,t2⟩:=ah F.o;have bY:Hid (Ext wr wr):=ae (au.refl _ _);dsimp only[tV] at aR;clear ai hx hy bq aa bp N br ho J;go_upto_region 10 with fail;go_region_law (first
      |(go_simp;refine(aR.o wr.drew bY.o.drew).mono ?_;rintro e aG ⟨cL,rfl,_,bs⟩;have aI:Hid (Ext wr aG):=ae (((uR wr).drewN' 1).trans bs);clear bs aR))
     all_goals
      have bg:=ae (q.o.trans aI.o);have cx:=ae (aI.o.heap F.o id);have aS:=ae (aI.o.heap D.o id);have b5:=ae (Nat.le_trans M.o aI.o.size);clear t0 t1 t2 X O Q cu cv cw F D q M bY aI;cases o with
      |none=>
       have ad:Hid (r_ (k+1) (l.drop (k+1)) (mk nm so L)=aO):=ae G.o.symm;simp only[Option.isSome_none];go_wp2_with fail;go_roundg (l.length- (k+1));case measure=>omega
       case rel=>exact⟨k+1,by go_num,rfl,by omega,ad,bg,cx,aS,b5⟩
      |some C=>
       have ad:Hid (aO=some (k,bJ C y)):=ae G.o;simp only[Option.isSome_some];obtain⟨bU,r1⟩:=aV aS.o;have fr:=fun i=>ax aS.o i
       go_wp2_with fail;have al:((aG.setCell ⟨w.heap.size+1,0,none⟩ (.int .i64 (k:Int))).setCell ⟨w.heap.size+1,1,none⟩ (.slice pa P.length ab)).heap[w.heap.size+1]?=some (aH (k:Int) pa P.length ab):=by simpa using setBlock (setBlock aS.o 0 (.int .i64 (k:Int))) 1 (.slice pa P.length ab)
       have hu:au (fun j=>j=w.heap.size+1) aG ((aG.setCell ⟨w.heap.size+1,0,none⟩ (.int .i64 (k:Int))).setCell ⟨w.heap.size+1,1,none⟩ (.slice pa P.length ab)):=((au.refl (fun j=>j=w.heap.size+1) aG).setCell (p:=⟨w.heap.size+1,0,none⟩) (.inl rfl) _).setCell (p:=⟨w.heap.size+1,1,none⟩) (.inl rfl) _;obtain⟨aD,aE⟩:=aV al;refine bodyPost_ret (v:= .tuple #[.agg #[.int .i64 (k:Int),.slice pa P.length ab],.bool true]) (by simp[results,Tryz.results127,go_sem,aD,aE]) rfl ⟨pa,ab,?_,?_,bg.o.trans' hu (fun j b e=>by omega)⟩
       .rw [aF.o,ad.o];simp only[Option.map_some,fq,fi,List.append_nil];rfl
       .rw [aF.o,ad.o];simp only[Option.map_some,fq,List.append_nil];exact(aB.kept (aB.kept bA.o bg.o (fun _ _ h=>h)) hu (fun j b e=>by have:=b7.o j b;omega)).weaken (fun j b=> .inl b)
    .obtain rfl:k=l.length:=by omega
     have z3:decide ((l.length:Int)< (l.length:Int))=false:=dF (by omega);have an:aO=none:=by
      rw[<-J.o,List.drop_length];rfl
     have bZ:Hid (jk l (mk nm so L)=none):=ae (by rw[aF.o,an];rfl);clear an J aF;obtain⟨bU,r1⟩:=aV D.o;have fr:=fun i=>ax D.o i
     go_wp2_with fail;have al:((wr.setCell ⟨w.heap.size+1,0,none⟩ (.int .i64 0)).setCell ⟨w.heap.size+1,1,none⟩ (.slice none 0 0)).heap[w.heap.size+1]?=some (aH 0 none 0 0):=by simpa using setBlock (setBlock D.o 0 (.int .i64 0)) 1 (.slice none 0 0)
     have hu:au (fun j=>j=w.heap.size+1) wr ((wr.setCell ⟨w.heap.size+1,0,none⟩ (.int .i64 0)).setCell ⟨w.heap.size+1,1,none⟩ (.slice none 0 0)):=((au.refl (fun j=>j=w.heap.size+1) wr).setCell (p:=⟨w.heap.size+1,0,none⟩) (.inl rfl) _).setCell (p:=⟨w.heap.size+1,1,none⟩) (.inl rfl) _;obtain⟨aD,aE⟩:=aV al;refine bodyPost_ret (v:= .tuple #[.agg #[.int .i64 0,.slice none 0 0],.bool false]) (by simp[results,Tryz.results127,go_sem,aD,aE]) rfl ⟨none,0,?_,?_,q.o.trans' hu (fun j b e=>by omega)⟩
     .rw [bZ.o];rfl
     .rw [bZ.o];exact aB.nil _ _ _
end
end Go.Proofs.YtlkcjmaiahnodaaGreatDoor
