/- The texts I7 I8 I9 I10 I11 I12 I13 I14 I15 I16 I17 I70 I90 I30 I31 I32 I33 I34 I35 I36 I37 I38 I91, one behind the other. -/
import Derived.Test.YtlkcjmaiahnodaaGreatDoorSAB
import Derived.Test.YtlkcjmaiahnodaaGreatDoorSAG
import Derived.Sort.Walk0
import Derived.Laws.Cover1
import Derived.BigQuiet
import Derived.Test.YtlkcjmaiahnodaaGreatDoorSAC
import Derived.Deep.RegionHeld3
import Derived.Test.YtlkcjmaiahnodaaGreatDoorProg
import Derived.WalkKit
import Derived.Deep.SlicePairs
import Derived.Deep.DeepCutAuto
import Derived.Lib.AppendIntMem
set_option maxRecDepth 100000
set_option maxHeartbeats 8000000
set_option linter.unusedVariables false
set_option linter.unusedSimpArgs false
namespace Go.Proofs.YtlkcjmaiahnodaaGreatDoor
open Go.RowKit Go.Hw Go Tm
theorem JH (x y:ByteArray):Op.bytesLess x.toList y.toList=blt x y:=by
 unfold blt;rw[bytesLess_eq,Lib.toList_data,Lib.toList_data]
theorem T_ (x y:ByteArray) (w:World):Calls Tryz.prog 149 #[.string x,.string y] w fun e w'=>e= .returned (.int .i64 (eU x y))/\Ext w w':=by
 have d:=ae (uR w);have t1:=JH x y;have t2:=JH y x;have hb:eU x y=if blt x y=true then -1 else if blt y x=true then 1 else 0:=rfl;generalize eU x y=Z at*;cases h1:blt x y
 .rw [h1] at t1 hb;cases a:blt y x
  .rw [a] at t2 hb;have b:Z=0:=hb;subst b;have c:x=y:=by
    by_cases e:x=y
    .exact e
    .rcases Bo x y e with g|g
     .rw [g] at h1;cases h1
     .rw [g] at a;cases a
   have t3:(x.toList==y.toList)=true:=by rw[c];simp
   clear hb h1 a c;go_enter Tryz.func149,Tryz.ntmps149;go_wp2_with fail;go_ret;exact⟨rfl,d.o⟩
  .rw [a] at t2 hb;have b:Z=1:=hb;subst b;have t3:(x.toList==y.toList)=false:=by
    rw[beq_eq_false_iff_ne];intro e;have c:x=y:=lU (by rw[Lib.toList_data,Lib.toList_data] at e;exact e);rw[c,iO] at a;cases a
   clear hb h1 a;go_enter Tryz.func149,Tryz.ntmps149;go_wp2_with fail;go_ret;exact⟨rfl,d.o⟩
 .rw [h1] at t1 hb;have b:Z= -1:=hb;subst b;clear hb h1;go_enter Tryz.func149,Tryz.ntmps149;go_wp2_with fail;go_ret;exact⟨rfl,d.o⟩
theorem Xz: ∀(t u:Tm) (v v':Value) (S T:Nat->Prop) (w:World),bQ S w t v->bQ T w u v'->t.size<=1000000->
  Calls Tryz.prog 85 #[v,v'] w fun e w'=>e= .returned (.int .i64 (gK t u))/\Ext w w':=by
 refine Tm.ind (fun n s L br=>?_);intro u v v' S T w hR bt aM;obtain⟨m,r,M⟩:=u;obtain⟨aE,ca,rfl,a6⟩:=hR;obtain⟨ab,aF,rfl,aP⟩:=bt;dsimp only[tV,Tm.name,Tm.sort,Tm.kids] at a6 aP⊢;have aO:=ae (And.intro a6 aP);have bo:=ae br;clear br a6 aP;have H:=ae (((uR w).alloc (af n s aE L.length ca)).alloc (af m r ab M.length aF));have E:=ae (ak (aj w (af n s aE L.length ca)) (af m r ab M.length aF));have F:=ae (alloc_at (w.alloc (af n s aE L.length ca)) (af m r ab M.length aF) (n:=w.heap.size+1) (by simp));have K:=ae (fun W=>T_ n m W);have O:=ae (fun W=>T_ s r W);have bp:=(uR _).heap E.o id;have bq:=(uR _).heap F.o id;obtain⟨a0,b,a2⟩:=ah bp;obtain⟨b0,c,a⟩:=ah bq;clear bp bq;have i:=ae (adP n s L m r M);by_cases hs:s.size=0
 .have aQ:=gJ _ hs;by_cases hr:r.size=0
  .have aN:=gJ _ hr;subst aQ aN;rw[if_neg (by simp)] at i;by_cases h1:eU n m=0;rotate_left
   .have t1:(eU n m !=0)=true:=by simpa using h1
    have aR:decide (eU n m=0)=false:=dF h1;have hv:gK (.mk n ⟨#[]⟩ L) (.mk m ⟨#[]⟩ M)=eU n m:=by rw[i.o,if_pos h1]
    rw[hv];clear hv h1 i;generalize eU n m=Z at*;go_enter Tryz.func85,Tryz.ntmps85;go_wp2_with fail;refine(K.o _).mono ?_;rintro e P ⟨rfl,p⟩;have d:=ae (p);clear p;clear a0 b a2 b0 c a;have z:=d.o.heap E.o id;have q:=d.o.heap F.o id;obtain⟨a0,b,a2⟩:=ah z;obtain⟨b0,c,a⟩:=ah q;clear z q;go_wp2_with fail;go_ret;exact⟨rfl,H.o.ext d.o⟩
   rw[if_neg (by simp[h1])] at i;rw[h1] at K;clear h1;by_cases A:eU ⟨#[]⟩ ⟨#[]⟩=0;rotate_left
   .have t1:(eU ⟨#[]⟩ ⟨#[]⟩ !=0)=true:=by simpa using A
    have aR:decide (eU ⟨#[]⟩ ⟨#[]⟩=0)=false:=dF A;have hv:gK (.mk n ⟨#[]⟩ L) (.mk m ⟨#[]⟩ M)=eU ⟨#[]⟩ ⟨#[]⟩:=by rw[i.o,if_pos A]
    rw[hv];clear hv A i;generalize eU ⟨#[]⟩ ⟨#[]⟩=Z at*;go_enter Tryz.func85,Tryz.ntmps85;go_wp2_with fail;refine(K.o _).mono ?_;rintro e P ⟨rfl,p⟩;have d:=ae (p);clear p;clear a0 b a2 b0 c a;have z:=d.o.heap E.o id;have q:=d.o.heap F.o id;obtain⟨a0,b,a2⟩:=ah z;obtain⟨b0,c,a⟩:=ah q;clear z q;go_wp2_with fail;refine(O.o _).mono ?_;rintro e an ⟨rfl,B⟩;have l:=ae (d.o.ext B);clear B;clear a0 b a2 b0 c a;have D:=l.o.heap E.o id;have C:=l.o.heap F.o id;obtain⟨a0,b,a2⟩:=ah D;obtain⟨b0,c,a⟩:=ah C;clear D C;go_wp2_with fail;go_ret;exact⟨rfl,H.o.ext l.o⟩
   rw[if_neg (by simp[A])] at i;rw[A] at O;clear A;by_cases I:L.length=M.length;rotate_left
   .have u1:((L.length:Int) !=(M.length:Int))=true:=by simp;omega
    have aS:decide ((L.length:Int)=(M.length:Int))=false:=dF (by omega);have a7:decide (L.length=M.length)=false:=dF I;rw[if_pos I] at i;by_cases Q:L.length<M.length
    .have u2:decide ((L.length:Int)< (M.length:Int))=true:=dT (by omega);have aT:decide (L.length<M.length)=true:=dT Q;have hv:gK (.mk n ⟨#[]⟩ L) (.mk m ⟨#[]⟩ M)= -1:=by rw[i.o,if_pos Q]
     rw[hv];clear hv i;go_enter Tryz.func85,Tryz.ntmps85;go_wp2_with fail;refine(K.o _).mono ?_;rintro e P ⟨rfl,p⟩;have d:=ae (p);clear p;clear a0 b a2 b0 c a;have z:=d.o.heap E.o id;have q:=d.o.heap F.o id;obtain⟨a0,b,a2⟩:=ah z;obtain⟨b0,c,a⟩:=ah q;clear z q;go_wp2_with fail;refine(O.o _).mono ?_;rintro e an ⟨rfl,B⟩;have l:=ae (d.o.ext B);clear B;clear a0 b a2 b0 c a;have D:=l.o.heap E.o id;have C:=l.o.heap F.o id;obtain⟨a0,b,a2⟩:=ah D;obtain⟨b0,c,a⟩:=ah C;clear D C;go_wp2_with fail;go_ret;exact⟨rfl,H.o.ext l.o⟩
    .have u2:decide ((L.length:Int)< (M.length:Int))=false:=dF (by omega);have aT:decide (L.length<M.length)=false:=dF Q;have hv:gK (.mk n ⟨#[]⟩ L) (.mk m ⟨#[]⟩ M)=1:=by rw[i.o,if_neg Q]
     rw[hv];clear hv i;go_enter Tryz.func85,Tryz.ntmps85;go_wp2_with fail;refine(K.o _).mono ?_;rintro e P ⟨rfl,p⟩;have d:=ae (p);clear p;clear a0 b a2 b0 c a;have z:=d.o.heap E.o id;have q:=d.o.heap F.o id;obtain⟨a0,b,a2⟩:=ah z;obtain⟨b0,c,a⟩:=ah q;clear z q;go_wp2_with fail;refine(O.o _).mono ?_;rintro e an ⟨rfl,B⟩;have l:=ae (d.o.ext B);clear B;clear a0 b a2 b0 c a;have D:=l.o.heap E.o id;have C:=l.o.heap F.o id;obtain⟨a0,b,a2⟩:=ah D;obtain⟨b0,c,a⟩:=ah C;clear D C;go_wp2_with fail;go_ret;exact⟨rfl,H.o.ext l.o⟩
   rw[if_neg (by simp[I])] at i;have u1:((L.length:Int) !=(M.length:Int))=false:=by simp;omega
   have aS:decide ((L.length:Int)=(M.length:Int))=true:=dT (by omega);have a7:decide (L.length=M.length)=true:=dT I;have ao:=ae I;clear I;go_enter Tryz.func85,Tryz.ntmps85;go_wp2_with fail;refine(K.o _).mono ?_;rintro e P ⟨rfl,p⟩;have d:=ae (p);clear p;clear a0 b a2 b0 c a;have z:=d.o.heap E.o id;have q:=d.o.heap F.o id;obtain⟨a0,b,a2⟩:=ah z;obtain⟨b0,c,a⟩:=ah q;clear z q;go_wp2_with fail;refine(O.o _).mono ?_;rintro e an ⟨rfl,B⟩;have l:=ae (d.o.ext B);clear B;clear a0 b a2 b0 c a;have D:=l.o.heap E.o id;have C:=l.o.heap F.o id;obtain⟨a0,b,a2⟩:=ah D;obtain⟨b0,c,a⟩:=ah C;clear D C;go_wp2_with fail;clear a0 b a2 b0 c a;have bw:L.length<=1000000:=by have h1:=bz L;have A:=aM;rw[size_eq] at A;exact Nat.le_trans h1 (Nat.le_of_succ_le A)
   go_loopg [7] L.length (fun gk a8 wr=> ∃k:Nat,a8= .int .i64 (k:Int)/\gk=L.length-k/\k<=L.length/\Hid (∀j,j<k->gK (tg L j) (tg M j)=0)/\Hid (Ext ((w.alloc (af n ⟨#[]⟩ aE L.length ca)).alloc (af m ⟨#[]⟩ ab M.length aF)) wr));case atStart=>exact⟨0,rfl,rfl,Nat.zero_le _,ae (fun j h=>absurd h (Nat.not_lt_zero _)),l⟩
   case round=>
    obtain⟨k,rfl,rfl,hk,aq,U⟩:=hrel;have ar:=ae (H.o.ext U.o);have aB:=U.o.heap E.o id;have aC:=U.o.heap F.o id;obtain⟨a0,b,a2⟩:=ah aB;obtain⟨b0,c,a⟩:=ah aC;clear aB aC;by_cases N:k<L.length
    .have aG:k<M.length:=by have:=ao.o;omega
     obtain⟨g,off,rfl,_,aD⟩:=(aO.o.1.ext ar.o).at_ (by omega);obtain⟨g',bs,rfl,_,aA⟩:=(aO.o.2.ext ar.o).at_ (by omega);obtain⟨ba,bb,au,V,X,aH⟩:=aD k N;obtain⟨aU,aV,av,Y,aa,aI⟩:=aA k aG;obtain⟨z0,bx,z2,bu⟩:=bH N;have z3:(k:Int)< (M.length:Int):=by omega
     have ad:tg L k∈L:=by unfold tg;rw[gZ N];exact List.getElem_mem N
     have aJ:(tg L k).size<=1000000:=by have h1:=gQ ad;have A:=aM;rw[size_eq] at A;exact Nat.le_trans h1 (Nat.le_of_succ_le A)
     have J:=ae (fun W (hW:Ext wr W)=>bo.o (tg L k) ad (tg M k) _ _ S T W ⟨ba,bb,rfl,aH.ext hW⟩ ⟨aU,aV,rfl,aI.ext hW⟩ aJ);have aW:=ae (Lt L M k ao.o N aq.o);have bc:=ae (fun h:gK (tg L k) (tg M k)=0=>fun j (bd:j<k+1)=>by
      rcases Nat.lt_succ_iff_lt_or_eq.1 bd with aw|aw
      .exact aq.o j aw
      .rw [aw];exact h)
     dsimp only[tV] at J;obtain⟨R,hR⟩:=ay (gK (tg L k) (tg M k));rw[hR] at J;have ag:=ae hR;clear hR ad aD aA aH aI;obtain⟨x,hx⟩:=ay (tg L k);obtain⟨y,hy⟩:=ay (tg M k);rw[hx] at au V X J;rw[hy] at av Y aa J;clear hx hy aJ aG;rw[<-Nat.add_assoc] at V X Y aa;have bf:=fun x:XW wr=>x.ext.cell au id;have bg:=fun x:XW wr=>x.ext.cell V id;have bh:=fun x:XW wr=>x.ext.cell X id;have bj:=fun x:XW wr=>x.ext.cell av id;have bk:=fun x:XW wr=>x.ext.cell Y id;have bl:=fun x:XW wr=>x.ext.cell aa id;have aX:=fun x:XW wr=>x.ext.cell a2 id;have aY:=fun x:XW wr=>x.ext.cell a id;have bm:=uR wr;clear au V X av Y aa a0 b b0 c a
     go_wp2_with fail;clear a2;refine bI wr (by assumption) (by kernel_rfl) (by kernel_rfl) ?_;repeat (first|go_big_quiet_skip|(go_big_quiet_want;go_big_quiet_op;first|go_big_quiet_on|(apply Exists.intro;refine⟨fun x=>?_,?_⟩;(go_at_call 85;exact XW.call (J.o x.val x.ext));go_big_quiet_on)))
     refine wpQuiet_nil ?_;rintro bA ⟨⟨_,aK⟩,rfl⟩;try dsimp only
     have aL:=ae (U.o.ext aK);clear bf bg bh bj bk bl aX aY bm aK J;by_cases G:R=0
     .have aZ:(R !=0)=false:=by simp[G]
      have bn:=ae (bc.o (ag.o.trans G));have a1:=ae G;clear G;go_wp2_with fail;go_roundg (L.length- (k+1));case measure=>omega
      case rel=>exact⟨k+1,by go_num,rfl,by omega,bn,aL⟩
     .have aZ:(R !=0)=true:=by simpa using G
      have ax:Hid (gK (.mk n ⟨#[]⟩ L) (.mk m ⟨#[]⟩ M)=R):=ae (by rw[i.o,aW.o (by show gK (tg L k) (tg M k)≠0;rw[ag.o];exact G)];exact ag.o);have a1:=ae G;clear G;go_wp2_with fail;go_ret;rw[ax.o];exact⟨rfl,H.o.ext aL.o⟩
    .obtain rfl:k=L.length:=by omega
     have ax:Hid (gK (.mk n ⟨#[]⟩ L) (.mk m ⟨#[]⟩ M)=0):=ae (by rw[i.o];exact IU L M ao.o aq.o);go_wp2_with fail;go_ret;rw[ax.o];exact⟨rfl,ar.o⟩
  .have az:r≠ai:=fun e=>hr (by rw[e];rfl);have al: ¬s≠ai:=fun h=>h aQ;have hdd:decide (s≠ai)≠decide (r≠ai):=by rw[dF al,dT az];decide
   have hv:gK (.mk n s L) (.mk m r M)=1:=by rw[i.o,if_pos hdd,if_neg al]
   clear al hdd;obtain⟨bB,bC,bD,bE⟩:=eG r (Nat.pos_of_ne_zero hr);rw[hv];subst aQ;clear hv i;go_enter Tryz.func85,Tryz.ntmps85;go_wp2_with fail;go_ret;exact⟨rfl,H.o⟩
 .have al:s≠ai:=fun e=>hs (by rw[e];rfl);obtain⟨bB,bC,bD,bE⟩:=eG s (Nat.pos_of_ne_zero hs);by_cases hr:r.size=0
  .have aN:=gJ _ hr;have az: ¬r≠ai:=fun h=>h aN;have hdd:decide (s≠ai)≠decide (r≠ai):=by rw[dT al,dF az];decide
   have hv:gK (.mk n s L) (.mk m r M)= -1:=by rw[i.o,if_pos hdd,if_pos al]
   clear az hdd;rw[hv];subst aN;clear hv i;go_enter Tryz.func85,Tryz.ntmps85;go_wp2_with fail;go_ret;exact⟨rfl,H.o⟩
  .have az:r≠ai:=fun e=>hr (by rw[e];rfl);obtain⟨f1,f2,f3,f4⟩:=eG r (Nat.pos_of_ne_zero hr);rw[if_neg (by simp[al,az])] at i;by_cases h1:eU n m=0
   rotate_left
   .have t1:(eU n m !=0)=true:=by simpa using h1
    have aR:decide (eU n m=0)=false:=dF h1;have hv:gK (.mk n s L) (.mk m r M)=eU n m:=by rw[i.o,if_pos h1]
    rw[hv];clear hv h1 i;generalize eU n m=Z at*;go_enter Tryz.func85,Tryz.ntmps85;go_wp2_with fail;refine(K.o _).mono ?_;rintro e P ⟨rfl,p⟩;have d:=ae (p);clear p;clear a0 b a2 b0 c a;have z:=d.o.heap E.o id;have q:=d.o.heap F.o id;obtain⟨a0,b,a2⟩:=ah z;obtain⟨b0,c,a⟩:=ah q;clear z q;go_wp2_with fail;go_ret;exact⟨rfl,H.o.ext d.o⟩
   rw[if_neg (by simp[h1])] at i;rw[h1] at K;clear h1;by_cases A:eU s r=0;rotate_left
   .have t1:(eU s r !=0)=true:=by simpa using A
    have aR:decide (eU s r=0)=false:=dF A;have hv:gK (.mk n s L) (.mk m r M)=eU s r:=by rw[i.o,if_pos A]
    rw[hv];clear hv A i;generalize eU s r=Z at*;go_enter Tryz.func85,Tryz.ntmps85;go_wp2_with fail;refine(K.o _).mono ?_;rintro e P ⟨rfl,p⟩;have d:=ae (p);clear p;clear a0 b a2 b0 c a;have z:=d.o.heap E.o id;have q:=d.o.heap F.o id;obtain⟨a0,b,a2⟩:=ah z;obtain⟨b0,c,a⟩:=ah q;clear z q;go_wp2_with fail;refine(O.o _).mono ?_;rintro e an ⟨rfl,B⟩;have l:=ae (d.o.ext B);clear B;clear a0 b a2 b0 c a;have D:=l.o.heap E.o id;have C:=l.o.heap F.o id;obtain⟨a0,b,a2⟩:=ah D;obtain⟨b0,c,a⟩:=ah C;clear D C;go_wp2_with fail;go_ret;exact⟨rfl,H.o.ext l.o⟩
   rw[if_neg (by simp[A])] at i;rw[A] at O;clear A;by_cases I:L.length=M.length;rotate_left
   .have u1:((L.length:Int) !=(M.length:Int))=true:=by simp;omega
    have aS:decide ((L.length:Int)=(M.length:Int))=false:=dF (by omega);have a7:decide (L.length=M.length)=false:=dF I;rw[if_pos I] at i;by_cases Q:L.length<M.length
    .have u2:decide ((L.length:Int)< (M.length:Int))=true:=dT (by omega);have aT:decide (L.length<M.length)=true:=dT Q;have hv:gK (.mk n s L) (.mk m r M)= -1:=by rw[i.o,if_pos Q]
     rw[hv];clear hv i;go_enter Tryz.func85,Tryz.ntmps85;go_wp2_with fail;refine(K.o _).mono ?_;rintro e P ⟨rfl,p⟩;have d:=ae (p);clear p;clear a0 b a2 b0 c a;have z:=d.o.heap E.o id;have q:=d.o.heap F.o id;obtain⟨a0,b,a2⟩:=ah z;obtain⟨b0,c,a⟩:=ah q;clear z q;go_wp2_with fail;refine(O.o _).mono ?_;rintro e an ⟨rfl,B⟩;have l:=ae (d.o.ext B);clear B;clear a0 b a2 b0 c a;have D:=l.o.heap E.o id;have C:=l.o.heap F.o id;obtain⟨a0,b,a2⟩:=ah D;obtain⟨b0,c,a⟩:=ah C;clear D C;go_wp2_with fail;go_ret;exact⟨rfl,H.o.ext l.o⟩
    .have u2:decide ((L.length:Int)< (M.length:Int))=false:=dF (by omega);have aT:decide (L.length<M.length)=false:=dF Q;have hv:gK (.mk n s L) (.mk m r M)=1:=by rw[i.o,if_neg Q]
     rw[hv];clear hv i;go_enter Tryz.func85,Tryz.ntmps85;go_wp2_with fail;refine(K.o _).mono ?_;rintro e P ⟨rfl,p⟩;have d:=ae (p);clear p;clear a0 b a2 b0 c a;have z:=d.o.heap E.o id;have q:=d.o.heap F.o id;obtain⟨a0,b,a2⟩:=ah z;obtain⟨b0,c,a⟩:=ah q;clear z q;go_wp2_with fail;refine(O.o _).mono ?_;rintro e an ⟨rfl,B⟩;have l:=ae (d.o.ext B);clear B;clear a0 b a2 b0 c a;have D:=l.o.heap E.o id;have C:=l.o.heap F.o id;obtain⟨a0,b,a2⟩:=ah D;obtain⟨b0,c,a⟩:=ah C;clear D C;go_wp2_with fail;go_ret;exact⟨rfl,H.o.ext l.o⟩
   rw[if_neg (by simp[I])] at i;have u1:((L.length:Int) !=(M.length:Int))=false:=by simp;omega
   have aS:decide ((L.length:Int)=(M.length:Int))=true:=dT (by omega);have a7:decide (L.length=M.length)=true:=dT I;have ao:=ae I;clear I;go_enter Tryz.func85,Tryz.ntmps85;go_wp2_with fail;refine(K.o _).mono ?_;rintro e P ⟨rfl,p⟩;have d:=ae (p);clear p;clear a0 b a2 b0 c a;have z:=d.o.heap E.o id;have q:=d.o.heap F.o id;obtain⟨a0,b,a2⟩:=ah z;obtain⟨b0,c,a⟩:=ah q;clear z q;go_wp2_with fail;refine(O.o _).mono ?_;rintro e an ⟨rfl,B⟩;have l:=ae (d.o.ext B);clear B;clear a0 b a2 b0 c a;have D:=l.o.heap E.o id;have C:=l.o.heap F.o id;obtain⟨a0,b,a2⟩:=ah D;obtain⟨b0,c,a⟩:=ah C;clear D C;go_wp2_with fail;clear a0 b a2 b0 c a;have bw:L.length<=1000000:=by have h1:=bz L;have A:=aM;rw[size_eq] at A;exact Nat.le_trans h1 (Nat.le_of_succ_le A)
   go_loopg [7] L.length (fun gk a8 wr=> ∃k:Nat,a8= .int .i64 (k:Int)/\gk=L.length-k/\k<=L.length/\Hid (∀j,j<k->gK (tg L j) (tg M j)=0)/\Hid (Ext ((w.alloc (af n s aE L.length ca)).alloc (af m r ab M.length aF)) wr));case atStart=>exact⟨0,rfl,rfl,Nat.zero_le _,ae (fun j h=>absurd h (Nat.not_lt_zero _)),l⟩
   case round=>
    obtain⟨k,rfl,rfl,hk,aq,U⟩:=hrel;have ar:=ae (H.o.ext U.o);have aB:=U.o.heap E.o id;have aC:=U.o.heap F.o id;obtain⟨a0,b,a2⟩:=ah aB;obtain⟨b0,c,a⟩:=ah aC;clear aB aC;by_cases N:k<L.length
    .have aG:k<M.length:=by have:=ao.o;omega
     obtain⟨g,off,rfl,_,aD⟩:=(aO.o.1.ext ar.o).at_ (by omega);obtain⟨g',bs,rfl,_,aA⟩:=(aO.o.2.ext ar.o).at_ (by omega);obtain⟨ba,bb,au,V,X,aH⟩:=aD k N;obtain⟨aU,aV,av,Y,aa,aI⟩:=aA k aG;obtain⟨z0,bx,z2,bu⟩:=bH N;have z3:(k:Int)< (M.length:Int):=by omega
     have ad:tg L k∈L:=by unfold tg;rw[gZ N];exact List.getElem_mem N
     have aJ:(tg L k).size<=1000000:=by have h1:=gQ ad;have A:=aM;rw[size_eq] at A;exact Nat.le_trans h1 (Nat.le_of_succ_le A)
     have J:=ae (fun W (hW:Ext wr W)=>bo.o (tg L k) ad (tg M k) _ _ S T W ⟨ba,bb,rfl,aH.ext hW⟩ ⟨aU,aV,rfl,aI.ext hW⟩ aJ);have aW:=ae (Lt L M k ao.o N aq.o);have bc:=ae (fun h:gK (tg L k) (tg M k)=0=>fun j (bd:j<k+1)=>by
      rcases Nat.lt_succ_iff_lt_or_eq.1 bd with aw|aw
      .exact aq.o j aw
      .rw [aw];exact h)
     dsimp only[tV] at J;obtain⟨R,hR⟩:=ay (gK (tg L k) (tg M k));rw[hR] at J;have ag:=ae hR;clear hR ad aD aA aH aI;obtain⟨x,hx⟩:=ay (tg L k);obtain⟨y,hy⟩:=ay (tg M k);rw[hx] at au V X J;rw[hy] at av Y aa J;clear hx hy aJ aG;rw[<-Nat.add_assoc] at V X Y aa;have bf:=fun x:XW wr=>x.ext.cell au id;have bg:=fun x:XW wr=>x.ext.cell V id;have bh:=fun x:XW wr=>x.ext.cell X id;have bj:=fun x:XW wr=>x.ext.cell av id;have bk:=fun x:XW wr=>x.ext.cell Y id;have bl:=fun x:XW wr=>x.ext.cell aa id;have aX:=fun x:XW wr=>x.ext.cell a2 id;have aY:=fun x:XW wr=>x.ext.cell a id;have bm:=uR wr;clear au V X av Y aa a0 b b0 c a
     go_wp2_with fail;clear a2;refine bI wr (by assumption) (by kernel_rfl) (by kernel_rfl) ?_;repeat (first|go_big_quiet_skip|(go_big_quiet_want;go_big_quiet_op;first|go_big_quiet_on|(apply Exists.intro;refine⟨fun x=>?_,?_⟩;(go_at_call 85;exact XW.call (J.o x.val x.ext));go_big_quiet_on)))
     refine wpQuiet_nil ?_;rintro bA ⟨⟨_,aK⟩,rfl⟩;try dsimp only
     have aL:=ae (U.o.ext aK);clear bf bg bh bj bk bl aX aY bm aK J;by_cases G:R=0
     .have aZ:(R !=0)=false:=by simp[G]
      have bn:=ae (bc.o (ag.o.trans G));have a1:=ae G;clear G;go_wp2_with fail;go_roundg (L.length- (k+1));case measure=>omega
      case rel=>exact⟨k+1,by go_num,rfl,by omega,bn,aL⟩
     .have aZ:(R !=0)=true:=by simpa using G
      have ax:Hid (gK (.mk n s L) (.mk m r M)=R):=ae (by rw[i.o,aW.o (by show gK (tg L k) (tg M k)≠0;rw[ag.o];exact G)];exact ag.o);have a1:=ae G;clear G;go_wp2_with fail;go_ret;rw[ax.o];exact⟨rfl,H.o.ext aL.o⟩
    .obtain rfl:k=L.length:=by omega
     have ax:Hid (gK (.mk n s L) (.mk m r M)=0):=ae (by rw[i.o];exact IU L M ao.o aq.o);go_wp2_with fail;go_ret;rw[ax.o];exact⟨rfl,ar.o⟩
theorem zo (t u:Tm) (v v':Value) (S T:Nat->Prop) (w:World) (hR:bQ S w t v) (c:bQ T w u v') (k:t.size<=1000000):
  Calls Tryz.prog 25 #[v,v'] w fun e w'=>e= .returned (.bool (decide (t=u)))/\Ext w w':=by
 have g:=ae (And.intro hR c);obtain⟨a,ca,rfl,p⟩:=hR;obtain⟨ab,b,rfl,l⟩:=c;have h:=ae (fun W (hW:Ext w W)=>Xz t u _ _ S T W (g.o.1.ext hW) (g.o.2.ext hW) k);dsimp only[tV] at h⊢;have i:=ae (((uR w).alloc (tO t a ca)).alloc (tO u ab b));have q:=ae (ak (aj w (tO t a ca)) (tO u ab b));have r:=ae (alloc_at (w.alloc (tO t a ca)) (tO u ab b) (n:=w.heap.size+1) (by simp));obtain⟨a0,x,a2⟩:=ah q.o;obtain⟨b0,y,z⟩:=ah r.o;have j:decide (t=u)=(gK t u==0):=by
  rw[Bool.eq_iff_iff,decide_eq_true_eq,beq_iff_eq,XA]
 rw[j];clear j p l;generalize gK t u=Z at*;go_enter Tryz.func25,Tryz.ntmps25;go_wp2_with fail;refine(h.o _ i.o).mono ?_;rintro e B ⟨rfl,d⟩;have A:=ae (i.o.ext d);clear d a0 x a2 b0 y z;go_wp2_with fail;go_ret;exact⟨rfl,A.o⟩
theorem JJ:(Tryz.prog.info? 116).map (fun i=>(i.zero,i.size,i.bytes))=some (some (.agg #[.string ⟨#[]⟩,.string ⟨#[]⟩]),2,32):=by kernel_rfl
theorem Ud {S:Nat->Prop} {base e:Nat} {W:World} {v:Value} {l:List Vd} {f:Vd} {k:Nat} (hk:k<=l.length) (h:W.ownsRow base e 2 v (k+1+(l.length-k)) (bZ (l.take k)++(bZ [f]++bZ (l.drop k)))):
  dM (fun j=>S j\/base<=j) W v (l.take k++f::l.drop k):=by
 have h1:(l.take k++f::l.drop k).length=k+1+(l.length-k):=by simp only[List.length_append,List.length_take,List.length_cons,List.length_drop];omega
 have a:bZ (l.take k++f::l.drop k)=bZ (l.take k)++(bZ [f]++bZ (l.drop k)):=by
  rw[tN,show f::l.drop k=[f]++l.drop k from rfl,tN]
 unfold dM;rw[h1,a];exact aB.weaken (aB.gG h) (fun j b=> .inr (h.lt j b).1)
theorem aj9 (l:List Vd) (f:Vd) (v:Value) (S:Nat->Prop) (w:World) (hR:dM S w v l) (hl:l.length<=100000):
  Calls Tryz.prog 148 #[v,.agg #[.string f.1,.string f.2]] w fun e w'=> ∃r,e= .returned (.tuple #[r,.bool (iY l f).2])/\dM (fun k=>S k\/w.heap.size<=k) w' r (iY l f).1/\Ext w w':=by
 have y:=ae hR;obtain⟨a,cap,rfl⟩:=hR.shape;have aJ:=ae ((uR w).alloc (dC f.1 f.2));have aK:=ae (aj w (dC f.1 f.2));have av:=ae (Ue f l);clear hR;go_enter Tryz.func148,Tryz.ntmps148;go_wp2_with fail;go_loopg [6] l.length (fun gk aL wr=> ∃k:Nat,aL= .int .i64 (k:Int)/\gk=l.length-k/\k<=l.length/\Hid (∀j,j<k->blt (vg l j).1 f.1=true)/\Hid (Ext w wr)/\Hid (wr.heap[w.heap.size]?=some (dC f.1 f.2)));case atStart=>exact⟨0,rfl,rfl,Nat.zero_le _,ae (fun j h=>absurd h (Nat.not_lt_zero _)),aJ,aK⟩
 case round=>
  obtain⟨k,rfl,rfl,hk,V,G,H⟩:=hrel;obtain⟨f0,f1⟩:=aV H.o;by_cases F:k<l.length
  .obtain ⟨g,off,rfl,aq⟩:=(y.o.ext G.o).at_ (by omega);obtain⟨X,Y⟩:=aq k F;have aA:k<=cap:=Nat.le_trans hk (aB.EH y.o rfl);obtain⟨z0,aO,z2,aC⟩:=bH F;have t1:=JH (vg l k).1 f.1;have ar:=PZ l f k hk V.o;have au:blt (vg l k).1 f.1=true->∀j,j<k+1->blt (vg l j).1 f.1=true:=fun h j Z=>by
    rcases Nat.lt_succ_iff_lt_or_eq.1 Z with aa|aa
    .exact V.o j aa
    .rw [aa];exact h
   have aw:=ae ar;have ax:=ae au;clear ar au aq;obtain⟨x,hx⟩:=ay (vg l k);have ab:=ae hx;rw[hx] at X Y t1 aw ax;clear hx;cases hb:blt x.1 f.1
   .rw [hb] at t1;have ad:Hid (oP l f=k):=ae (aw.o (fun _=>hb));clear hb;have af:=ae av.o;rw[ad.o] at af;go_wp2_with fail;go_quiet (fail);generalize c:wr.drewN nq=t at*;have HEq:Hid (Ext w t):=ae (by rw[<-c];exact G.o.drewN' nq);have I:Hid (t.heap[w.heap.size]?=some (dC f.1 f.2)):=ae (by rw[<-c];exact H.o);have aD:t.cell? ⟨g,off+k*2,none⟩=some (.string x.1):=by rw[<-c];exact X
    have aE:t.cell? ⟨g,off+k*2+1,none⟩=some (.string x.2):=by rw[<-c];exact Y
    clear c G H X Y f0 f1;obtain⟨f0,f1⟩:=aV I.o;by_cases he:x.1=f.1
    .have t3:(x.1.toList==f.1.toList)=true:=by rw[he];simp
     have J:Hid (iY l f=(l,decide (x.2=f.2))):=ae (by rw[af.o,if_pos ⟨F,by rw[ab.o];exact he⟩,ab.o]);clear he;have t4:(x.2.toList==f.2.toList)=decide (x.2=f.2):=by
      rw[Bool.eq_iff_iff,beq_iff_eq,decide_eq_true_eq];exact⟨fun e=>lU (by rw[Lib.toList_data,Lib.toList_data] at e;exact e),fun e=>by rw[e]⟩
     obtain⟨aP,az⟩:=ay (decide (x.2=f.2));rw[az] at t4 J;clear az;go_wp2_with fail;go_quiet (fail);go_wp2_with fail;go_quiet (fail);go_wp2_with fail;go_ret2;rw[J.o];exact⟨_,rfl,aB.weaken (aB.drewN (aB.drewN (dM.ext y.o HEq.o) _) _) (fun k h=> .inl h),(HEq.o.drewN' _).drewN' _⟩
    .have t3:(x.1.toList==f.1.toList)=false:=by
      rw[beq_eq_false_iff_ne];intro e;exact he (lU (by rw[Lib.toList_data,Lib.toList_data] at e;exact e))
     have J:Hid (iY l f=(l.take k++f::l.drop k,true)):=ae (by rw[af.o,if_neg (fun h=>he (by rw[<-ab.o];exact h.2))]);clear he;go_wp2_with fail;go_quiet (fail);generalize c:t.drewN nq=u at*;have n:Hid (Ext w u):=ae (by rw[<-c];exact HEq.o.drewN' nq);have R:Hid (u.heap[w.heap.size]?=some (dC f.1 f.2)):=ae (by rw[<-c];exact I.o);clear c HEq I aD aE f0 f1 t1 t3;obtain⟨f0,f1⟩:=aV R.o;have aF:=fun x:XW u=>x.ext.cell f0 id;have aG:=fun x:XW u=>x.ext.cell f1 id;clear f0 f1
     go_wp2_with fail;refine dw (α:=Option Addr×Nat) 7 [] 7 [(7,2),(8,2)] [[],[],[],[1,2],[0,1,2,3],[],[5],[0,1,2,3,4,5,6],[0,1,2,3,4,5,6,7]]
      [some ⟨fun x=> .slice x.1 0 0,fun x W=>W.ownsRow w.heap.size 116 2 (.slice x.1 0 0) 0 [],fun x W W' h p=>bM h p (fun _ _ h=>h)⟩,none,none,none,some ⟨fun x=> .slice x.1 k x.2,fun x W=>W.ownsRow w.heap.size 116 2 (.slice x.1 k x.2) k (bZ (l.take k)),fun x W W' h p=>bM h p (fun _ _ h=>h)⟩,none,some ⟨fun x=> .slice x.1 1 x.2,fun x W=>dM (fun j=>w.heap.size<=j) W (.slice x.1 1 x.2) [f],fun x W W' h p=>dM.ext h p⟩]
      [true,false,false,false,true,false,true] (by kernel_rfl) (by kernel_rfl) rfl (fun _ _ d _ _ h=>by cases d<;>exact h) ?_
     simp only[List.take_succ_cons,List.take_zero,fA,List.getElem?_cons_zero,List.getElem?_cons_succ];refine aQ _ rfl (by go_simp) (fun W hW b K hK=>?_) (fun K aH hK=>?_)
     .go_simp;exact hK (some ⟨W.heap.size,0,none⟩,0) _ ((uR W).alloc _) (World.ownsRow_lit (base:=w.heap.size) (e:=116) (size:=2) W #[] 0 (Nat.le_trans n.o.size hW.size) (by unfold maxLen;omega) (by simp))
     refine hK _ ?_;clear hK K;dsimp only;iterate 3(refine bf rfl (fun K hK=>?_);go_simp;refine hK _ ?_;clear hK K)
     obtain⟨iS,hi,z,A,B⟩:=info_parts JJ;refine aQ _ rfl (by go_simp) (fun W hW b K hK=>?_) (fun K N hK=>?_)
     .have g0:=b _ (List.mem_singleton.2 rfl) (by show(0:Nat)∈_;decide);have T:aB S W 2 (.slice (some ⟨g,off,none⟩) k cap) k (bZ (l.take k)):=by
       have h:=(y.o.ext n.o).ext hW|>.to rfl k hk;rw[Ie] at h;exact h
      refine qG _ (.tmp 47) (.tmp 50) 111 rfl w.heap.size 116 iS (.agg #[.string ⟨#[]⟩,.string ⟨#[]⟩]) 2 32 Tryz.underlying111 hi z A B rfl (by decide) _ rfl g0 S _ k _ rfl T (nz _) (by unfold maxLen;omega) (by omega) (Nat.le_trans n.o.size hW.size) ?_;intro v' w' ag L;obtain⟨ah,c4,rfl⟩:=bF L;exact hK (ah,c4) _ ag L
     refine hK _ ?_;clear hK K;dsimp only;refine bf rfl (fun K hK=>?_);go_simp;refine hK _ ?_;clear hK K;refine aQ _ rfl (by go_simp) (fun W hW b K hK=>?_) (fun K O hK=>?_)
     .go_simp;exact hK (some ⟨W.heap.size,0,none⟩,1) _ ((uR W).alloc _) (aB.weaken (aB.gG (World.ownsRow_lit (base:=w.heap.size) (e:=116) (size:=2) W #[.string f.1,.string f.2] 1 (Nat.le_trans n.o.size hW.size) (by unfold maxLen;omega) (by simp))) (fun k hk=>by injection hk with hk;rw[<-hk];exact Nat.le_trans n.o.size hW.size))
     refine hK _ ?_;clear hK K;dsimp only;refine jg (fun ai hW b=>?_);have g4:=b _ (List.mem_append_left _ (List.mem_append_right _ (List.mem_singleton.2 rfl)));have g6:=b _ (List.mem_append_right _ (List.mem_singleton.2 rfl));dsimp only at g4 g6;have C:Hid (Ext w ai):=ae (n.o.trans hW);clear b hW;refine fD (fun K hK=>?_);rw[if_pos (by go_simp)];refine oz _ (.tmp 51) (.tmp 53) 111 rfl w.heap.size 116 iS (.agg #[.string ⟨#[]⟩,.string ⟨#[]⟩]) 2 32 Tryz.underlying111 hi z A B rfl (by decide) (.slice N.1 k N.2) k _ rfl g4 (fun j=>w.heap.size<=j) (.slice O.1 1 O.2) 1 _ rfl g6 (nz _) (by unfold maxLen;omega) (by omega) C.o.size ?_;intro aM P D;refine hK _ _ ?_;clear hK K;refine fD (fun K hK=>?_);go_simp;refine hK _ _ ?_;clear hK K;simp only[dA];have E:Hid (Ext w P):=ae (C.o.trans' D.upd (fun j Z h=>absurd (g4.lt j h).1 (by omega)));have g9:=ae D.own;clear D g4 g6 C;obtain⟨ak,al,rfl⟩:=bF g9.o;have Q:aB S P 2 (.slice (some ⟨g,off,none⟩) l.length cap) l.length (bZ l):=y.o.ext E.o;have M:=E.o.size;go_wp2_with(with_reducible (refine BA (o:=⟨some 58,_,_,_,_,_⟩) ?_))
     refine Stop.go ?_;refine yG _ rfl 111 _ _ rfl 2 (by kernel_rfl) (fun _=>by kernel_rfl) _ _ _ _ rfl Q k .i64 (k:Int) rfl rfl hk (fun sv q=>?_);rw[Ig] at q;obtain⟨ps,cs,rfl⟩:=q.shape;go_wp2_with(at_builtin;refine kG _ rfl (.tmp 55) (.tmp 58) 111 rfl w.heap.size 116 iS (.agg #[.string ⟨#[]⟩,.string ⟨#[]⟩]) 2 32 Tryz.underlying111 hi z A B rfl (by decide) (.slice ak (k+1) al) (k+1) _ rfl g9.o S (.slice ps (l.length-k) cs) (l.length-k) (bZ (l.drop k)) rfl q (nz _) ?c3 ?c4 M ?_)
     case c3=>unfold maxLen;omega
     case c4=>omega
     intro v10 U b;have an:=ae b.own;have ao:Hid (Ext w U):=ae (E.o.trans' b.upd (fun i hi e=>by have:=(g9.o.lt i e).1;omega));clear b Q M q;go_wp2_with fail;go_ret2;rw[J.o];exact⟨v10,rfl,Ud hk an.o,ao.o⟩
   .rw [hb] at t1;have aN:=ae (ax.o hb);clear hb;go_wp2_with fail;go_quiet (fail);go_wp2_with fail;go_roundg (l.length- (k+1));case measure=>omega
    case rel=>exact⟨k+1,by go_num,rfl,by omega,aN,ae (G.o.drewN' nq),ae H.o⟩
  .have aI:k=l.length:=by omega
   have ad:Hid (oP l f=k):=ae (PZ l f k hk V.o (fun h=>absurd h F));have J:Hid (iY l f=(l.take k++f::l.drop k,true)):=ae (by rw[av.o,ad.o,if_neg (fun h=>absurd h.1 F)]);have z0:(0:Int)<=(k:Int):=by omega
   have z2:decide ((k:Int)< (l.length:Int))=false:=dF (by omega);have aC:decide (k<l.length)=false:=dF F;have aA:k<=cap:=Nat.le_trans hk (aB.EH y.o rfl);clear aI;go_wp2_with fail;go_quiet (fail);generalize c:wr.drewN nq=t at*;have HEq:Hid (Ext w t):=ae (by rw[<-c];exact G.o.drewN' nq);have I:Hid (t.heap[w.heap.size]?=some (dC f.1 f.2)):=ae (by rw[<-c];exact H.o);clear c G H f0 f1;go_wp2_with fail;go_quiet (fail);generalize c:t.drewN nq=u at*;have n:Hid (Ext w u):=ae (by rw[<-c];exact HEq.o.drewN' nq);have R:Hid (u.heap[w.heap.size]?=some (dC f.1 f.2)):=ae (by rw[<-c];exact I.o);clear c HEq I;obtain⟨f0,f1⟩:=aV R.o;have aF:=fun x:XW u=>x.ext.cell f0 id;have aG:=fun x:XW u=>x.ext.cell f1 id;clear f0 f1
   go_wp2_with fail;refine dw (α:=Option Addr×Nat) 7 [] 7 [(7,2),(8,2)] [[],[],[],[1,2],[0,1,2,3],[],[5],[0,1,2,3,4,5,6],[0,1,2,3,4,5,6,7]]
    [some ⟨fun x=> .slice x.1 0 0,fun x W=>W.ownsRow w.heap.size 116 2 (.slice x.1 0 0) 0 [],fun x W W' h p=>bM h p (fun _ _ h=>h)⟩,none,none,none,some ⟨fun x=> .slice x.1 k x.2,fun x W=>W.ownsRow w.heap.size 116 2 (.slice x.1 k x.2) k (bZ (l.take k)),fun x W W' h p=>bM h p (fun _ _ h=>h)⟩,none,some ⟨fun x=> .slice x.1 1 x.2,fun x W=>dM (fun j=>w.heap.size<=j) W (.slice x.1 1 x.2) [f],fun x W W' h p=>dM.ext h p⟩]
    [true,false,false,false,true,false,true] (by kernel_rfl) (by kernel_rfl) rfl (fun _ _ d _ _ h=>by cases d<;>exact h) ?_
   simp only[List.take_succ_cons,List.take_zero,fA,List.getElem?_cons_zero,List.getElem?_cons_succ];refine aQ _ rfl (by go_simp) (fun W hW b K hK=>?_) (fun K aH hK=>?_)
   .go_simp;exact hK (some ⟨W.heap.size,0,none⟩,0) _ ((uR W).alloc _) (World.ownsRow_lit (base:=w.heap.size) (e:=116) (size:=2) W #[] 0 (Nat.le_trans n.o.size hW.size) (by unfold maxLen;omega) (by simp))
   refine hK _ ?_;clear hK K;dsimp only;iterate 3(refine bf rfl (fun K hK=>?_);go_simp;refine hK _ ?_;clear hK K)
   obtain⟨iS,hi,z,A,B⟩:=info_parts JJ;refine aQ _ rfl (by go_simp) (fun W hW b K hK=>?_) (fun K N hK=>?_)
   .have g0:=b _ (List.mem_singleton.2 rfl) (by show(0:Nat)∈_;decide);have T:aB S W 2 (.slice a k cap) k (bZ (l.take k)):=by
     have h:=(y.o.ext n.o).ext hW|>.to rfl k hk;rw[Ie] at h;exact h
    refine qG _ (.tmp 47) (.tmp 50) 111 rfl w.heap.size 116 iS (.agg #[.string ⟨#[]⟩,.string ⟨#[]⟩]) 2 32 Tryz.underlying111 hi z A B rfl (by decide) _ rfl g0 S _ k _ rfl T (nz _) (by unfold maxLen;omega) (by omega) (Nat.le_trans n.o.size hW.size) ?_;intro v' w' ag L;obtain⟨ah,c4,rfl⟩:=bF L;exact hK (ah,c4) _ ag L
   refine hK _ ?_;clear hK K;dsimp only;refine bf rfl (fun K hK=>?_);go_simp;refine hK _ ?_;clear hK K;refine aQ _ rfl (by go_simp) (fun W hW b K hK=>?_) (fun K O hK=>?_)
   .go_simp;exact hK (some ⟨W.heap.size,0,none⟩,1) _ ((uR W).alloc _) (aB.weaken (aB.gG (World.ownsRow_lit (base:=w.heap.size) (e:=116) (size:=2) W #[.string f.1,.string f.2] 1 (Nat.le_trans n.o.size hW.size) (by unfold maxLen;omega) (by simp))) (fun k hk=>by injection hk with hk;rw[<-hk];exact Nat.le_trans n.o.size hW.size))
   refine hK _ ?_;clear hK K;dsimp only;refine jg (fun ai hW b=>?_);have g4:=b _ (List.mem_append_left _ (List.mem_append_right _ (List.mem_singleton.2 rfl)));have g6:=b _ (List.mem_append_right _ (List.mem_singleton.2 rfl));dsimp only at g4 g6;have C:Hid (Ext w ai):=ae (n.o.trans hW);clear b hW;refine fD (fun K hK=>?_);rw[if_pos (by go_simp)];refine oz _ (.tmp 51) (.tmp 53) 111 rfl w.heap.size 116 iS (.agg #[.string ⟨#[]⟩,.string ⟨#[]⟩]) 2 32 Tryz.underlying111 hi z A B rfl (by decide) (.slice N.1 k N.2) k _ rfl g4 (fun j=>w.heap.size<=j) (.slice O.1 1 O.2) 1 _ rfl g6 (nz _) (by unfold maxLen;omega) (by omega) C.o.size ?_;intro aM P D;refine hK _ _ ?_;clear hK K;refine fD (fun K hK=>?_);go_simp;refine hK _ _ ?_;clear hK K;simp only[dA];have E:Hid (Ext w P):=ae (C.o.trans' D.upd (fun j Z h=>absurd (g4.lt j h).1 (by omega)));have g9:=ae D.own;clear D g4 g6 C;obtain⟨ak,al,rfl⟩:=bF g9.o;have Q:aB S P 2 (.slice a l.length cap) l.length (bZ l):=y.o.ext E.o;have M:=E.o.size;go_wp2_with(with_reducible (refine BA (o:=⟨some 58,_,_,_,_,_⟩) ?_))
   refine Stop.go ?_;refine yG _ rfl 111 _ _ rfl 2 (by kernel_rfl) (fun _=>by kernel_rfl) _ _ _ _ rfl Q k .i64 (k:Int) rfl rfl hk (fun sv q=>?_);rw[Ig] at q;obtain⟨ps,cs,rfl⟩:=q.shape;go_wp2_with(at_builtin;refine kG _ rfl (.tmp 55) (.tmp 58) 111 rfl w.heap.size 116 iS (.agg #[.string ⟨#[]⟩,.string ⟨#[]⟩]) 2 32 Tryz.underlying111 hi z A B rfl (by decide) (.slice ak (k+1) al) (k+1) _ rfl g9.o S (.slice ps (l.length-k) cs) (l.length-k) (bZ (l.drop k)) rfl q (nz _) ?c3 ?c4 M ?_)
   case c3=>unfold maxLen;omega
   case c4=>omega
   intro v10 U b;have an:=ae b.own;have ao:Hid (Ext w U):=ae (E.o.trans' b.upd (fun i hi e=>by have:=(g9.o.lt i e).1;omega));clear b Q M q;go_wp2_with fail;go_ret2;rw[J.o];exact⟨v10,rfl,Ud hk an.o,ao.o⟩
theorem O9 (f:Vd): ∀l:List Vd,(iY l f).1.length<=l.length+1
 |[]=>by simp[iY]
 |g::l=>by
  simp only[iY];split
  .simp only [List.length_cons];have:=O9 f l;omega
  .split<;>simp
theorem Ep: ∀(fs l:List Vd),(dO l fs).1.length<=l.length+fs.length
 |[],l=>by simp[dO]
 |f::fs,l=>by
  simp only[dO];split
  .have h1:=Ep fs (iY l f).1;have a:=O9 f l;simp only[List.length_cons];omega
  .simp
theorem Es: ∀(fs gs l:List Vd),dO l (fs++gs)=if(dO l fs).2=true then dO (dO l fs).1 gs else dO l fs
 |[],gs,l=>by simp[dO]
 |f::fs,gs,l=>by
  by_cases h:(iY l f).2=true
  .have a: ∀x,dO l (f::x)=dO (iY l f).1 x:=fun x=>by rw[dO,if_pos h]
   rw[List.cons_append,a,a];exact Es fs gs _
  .have a: ∀x,dO l (f::x)=(l,false):=fun x=>by rw[dO,if_neg h]
   rw[List.cons_append,a,a];rfl
def VL (t:Tm):Prop:= ∀x∈bu t,x.sort≠ai->x.kids=[]
theorem VL.kid {t x:Tm} (h:VL t) (hx:x∈t.kids):VL x:=fun y hy=>h y (lX hx hy)
theorem adG (n:By) (L:List Tm):vl (bu (.mk n ai L))=L.flatMap (fun x=>vl (bu x)):=by
 rw[lS];have h1: ∀M:List Tm,vl (M.flatMap bu)=M.flatMap (fun x=>vl (bu x)):=by
  intro M
  induction M with
  |nil=>rfl
  |cons x M a=>rw[List.flatMap_cons,uw,a,List.flatMap_cons]
 have b:vl [Tm.mk n ai L]=[]:=rfl;rw[<-List.singleton_append,uw,b,h1];rfl
theorem adH (n s:By) (h:s≠ai):vl (bu (.mk n s []))=[(n,s)]:=by
 rw[lS];simp[vl,Tm.sort,Tm.name,Tm.kids,h]
theorem Xn (t:Tm):(vl (bu t)).length<=t.size:=by
 have h1:(vl (bu t)).length<=(bu t).length:=List.length_filterMap_le _ _;have a:(bu t).length=t.size:=by rw[bu,List.length_map,lH]
 omega
abbrev uU (L:List Tm):List Vd:=L.flatMap fun x=>vl (bu x)
theorem TM: ∀L:List Tm,(uU L).length<=sizes L
 |[]=>by simp[sizes]
 |x::L=>by
  have h1:=Xn x;have a:=TM L;simp only[uU,List.flatMap_cons,List.length_append,sizes] at a⊢;omega
theorem yO (L:List Tm) (k:Nat) (h:k<L.length):L.take (k+1)=L.take k++[tg L k]:=by
 rw[List.take_add_one];have:L[k]?.toList=[tg L k]:=by unfold tg;rw[List.getD_eq_getElem?_getD,List.getElem?_eq_getElem h];rfl
 rw[this]
theorem cZ (L:List Tm) (k:Nat) (h:k<L.length):tg L k∈L:=by
 unfold tg;rw[gZ h];exact List.getElem_mem h
theorem ZE (L:List Tm) (k:Nat) (h:k<L.length):uU (L.take (k+1))=uU (L.take k)++vl (bu (tg L k)):=by
 rw[yO L k h];unfold uU;rw[List.flatMap_append,List.flatMap_cons,List.flatMap_nil,List.append_nil]
theorem ZF (L:List Tm) (k:Nat) (h:k<L.length):(uU (L.take k)).length+(tg L k).size<=sizes L:=by
 have h1:=TM (L.take k);have a:sizes L=sizes (L.take (k+1))+sizes (L.drop (k+1)):=by rw[<-nX,List.take_append_drop]
 rw[yO L k h,nX] at a;have b:sizes [tg L k]=(tg L k).size:=by simp[sizes]
 omega
theorem ZG (L:List Tm) (l cur:List Vd) (k:Nat) (h:k<L.length) (hc:dO l (uU (L.take k))=(cur,true)):
  (∀m,dO cur (vl (bu (tg L k)))=(m,true)->dO l (uU (L.take (k+1)))=(m,true))/\
  ((dO cur (vl (bu (tg L k)))).2=false->(dO l (uU L)).2=false):=by
 have h1:dO l (uU (L.take (k+1)))=dO cur (vl (bu (tg L k))):=by
  rw[ZE L k h,Es,hc,if_pos rfl]
 refine⟨fun m hm=>by rw[h1,hm],fun hf=>?_⟩;have a:uU L=uU (L.take (k+1))++uU (L.drop (k+1)):=by
  unfold uU;rw[<-List.flatMap_append,List.take_append_drop]
 rw[a,Es,h1,if_neg (by rw[hf];simp)];exact hf
theorem Xo: ∀(t:Tm) (l:List Vd) (v v':Value) (S T:Nat->Prop) (w:World),bQ T w t v'->dM S w v l->VL t->l.length+t.size<=100000->
  Calls Tryz.prog 84 #[v,v'] w fun e w'=> ∃r,e= .returned (.tuple #[r,.bool (dO l (vl (bu t))).2])/\((dO l (vl (bu t))).2=true->dM (fun k=>S k\/w.heap.size<=k) w' r (dO l (vl (bu t))).1)/\Ext w w':=by
 refine Tm.ind (fun nm so L R=>?_);intro l v v' S T w i hF hV D;obtain⟨a,cap,rfl,i⟩:=i;dsimp only[tV,Tm.name,Tm.sort,Tm.kids] at i⊢;have av:=ae i;have ab:=ae R;have U:=ae hF;have F:=ae hV;obtain⟨fa,aL,rfl⟩:=hF.shape;clear R i hF hV;have n:=ae ((uR w).alloc (af nm so a L.length cap));have G:=ae (aj w (af nm so a L.length cap));by_cases u:so.size=0
 .have ad:=gJ _ u;subst ad;rw[show vl (bu (.mk nm ⟨#[]⟩ L))=uU L from adG nm L];have M:l.length+sizes L+1<=100000:=by rw[size_eq] at D;exact D
  have ak:=ae M;have aM:L.length<=100000:=by have h1:=bz L;omega
  clear D M;obtain⟨H,c1,c2⟩:=ah G.o;have N: ∀x∈L,VL x:=fun x hx=>VL.kid (t:= .mk nm ⟨#[]⟩ L) F.o hx;have aw:=ae N;clear N F
  go_enter Tryz.func84,Tryz.ntmps84;go_wp2_with fail;clear H c1 c2;go_loopg [0,6] L.length (fun gk lv ax wr=> ∃(k:Nat) (cur:List Vd),ax= .int .i64 (k:Int)/\gk=L.length-k/\k<=L.length/\Hid (dO l (uU (L.take k))=(cur,true))/\Hid (dM (fun j=>S j\/w.heap.size<=j) wr lv cur)/\Hid (Ext w wr)/\Hid (wr.heap[w.heap.size]?=some (af nm ⟨#[]⟩ a L.length cap)));case atStart=>exact⟨0,l,rfl,rfl,Nat.zero_le _,ae rfl,ae (aB.weaken (dM.ext U.o n.o) (fun j h=> .inl h)),n,G⟩
  case round=>
   obtain⟨k,cur,rfl,rfl,hk,I,O,A,V⟩:=hrel;have c2:=ag V.o 2 (.slice a L.length cap) rfl;by_cases d:k<L.length
   .obtain ⟨g,off,rfl,_,P⟩:=(av.o.ext A.o).at_ (by omega);obtain⟨az,aA,X,J,K,Y⟩:=P k d;obtain⟨z0,aN,z2,aK⟩:=bH d;have C:=cZ L k d;have al:=ZF L k d;have an:cur.length<=l.length+(uU (L.take k)).length:=by have:=Ep (uU (L.take k)) l;rw[I.o] at this;exact this
    obtain⟨y,z⟩:=ZG L l cur k d I.o;have c:=ae (ab.o (tg L k) C cur _ _ _ T wr ⟨az,aA,rfl,Y⟩ O.o (aw.o _ C) (by have:=ak.o;omega));dsimp only[tV] at c;generalize vl (bu (tg L k))=ff at y z c;obtain⟨⟨m,b⟩,hm⟩: ∃p,dO cur ff=p:=⟨_,rfl⟩
    rw[hm] at y z c;have aC:=ae y;have aD:=ae z;obtain⟨x,hx⟩:=ay (tg L k);rw[hx] at X J K c;rw[<-Nat.add_assoc] at J K;clear C al an y z hm hx P Y;go_wp2_with fail;refine c.o.mono ?_;rintro e aE ⟨r,rfl,hr,E⟩;have Z:=ae (A.o.ext E);have aF:=ae (E.heap V.o id);have ao:Hid (b=true->dM (fun j=>S j\/w.heap.size<=j) aE r m):=ae (fun hb=>aB.weaken (hr hb) (fun j h=>by
     rcases h with h|h
     .exact h
     .exact .inr (Nat.le_trans A.o.size h)))
    clear hr E c2 X J K c;cases b
    .have aG:=ae (aD.o rfl);go_wp2_with fail;go_ret2;rw[aG.o];exact⟨_,rfl,fun h=>(by cases h),Z.o⟩
    .have aH:=ae (aC.o m rfl);go_wp2_with fail;go_roundg (L.length- (k+1));case measure=>omega
     case rel=>exact⟨k+1,m,by go_num,rfl,by omega,aH,ae (ao.o trivial),Z,aF⟩
   .obtain rfl:k=L.length:=by omega
    have aI:Hid (dO l (uU L)=(cur,true)):=ae (by rw[<-I.o,List.take_length]);have z2:decide ((L.length:Int)< (L.length:Int))=false:=dF (by omega);go_wp2_with fail;go_ret2;rw[aI.o];exact⟨_,rfl,fun _=>O.o,A.o⟩
 .have aq:L=[]:=F.o _ (jo _) (fun e=>u (by show so.size=0;rw[show so=ai from e];rfl));subst aq;obtain⟨aO,aP,aQ,aR⟩:=eG so (Nat.pos_of_ne_zero u);rw[adH nm so (fun e=>u (by rw[e];rfl))];have q:dO l [(nm,so)]=if(iY l (nm,so)).2=true then((iY l (nm,so)).1,true) else(l,false):=by rw[dO];rfl
  have B:=ae (fun W hW=>aj9 l (nm,so) _ S W (U.o.ext hW) (by omega));obtain⟨H,c1,c2⟩:=ah G.o;dsimp only at B;obtain⟨⟨m,b⟩,hm⟩: ∃p,iY l (nm,so)=p:=⟨_,rfl⟩
  rw[hm] at B q;dsimp only at B q;have ar:=ae q;clear q hm;go_enter Tryz.func84,Tryz.ntmps84;go_wp2_with fail;refine(B.o _ n.o).mono ?_;rintro e aJ ⟨r,rfl,hr,Q⟩;have au:=ae (aB.weaken hr (fun j h=>by
   rcases h with h|h
   .exact Or.inl h
   .exact Or.inr (Nat.le_trans n.o.size h)):dM (fun j=>S j\/w.heap.size<=j) aJ r m)
  have aa:=ae (n.o.ext Q);clear hr Q H c1 c2;go_wp2_with fail;go_ret2;rw[ar.o];cases b
  .exact ⟨r,rfl,fun h=>by simp at h,aa.o⟩
  .exact ⟨r,rfl,fun _=>au.o,aa.o⟩
abbrev nP (S:Nat->Prop) (w:World) (v:Value) (l:List By):Prop:=aB S w 1 v l.length (l.map Value.string)
abbrev bg (l:List By) (i:Nat):By:=l.getD i ai
theorem ab7 (l:List By) (i:Nat) (h:i<l.length):bg l i=l[i]:=by unfold bg;rw[gZ h];rfl
theorem nP.ext {S:Nat->Prop} {w w':World} {v:Value} {l:List By} (h:nP S w v l) (hu:Ext w w'):nP S w' v l:=aB.kept h hu (fun _ _ h=>h)
theorem nP.at_ {S:Nat->Prop} {w:World} {a:Option Addr} {n cap:Nat} {l:List By} (h:nP S w (.slice a n cap) l) (hl:0<l.length):
  ∃g off,a=some ⟨g,off,none⟩/\S g/\∀i,i<l.length->w.cell? ⟨g,off+i,none⟩=some (.string (bg l i)):=by
 obtain⟨g,off,c,e,_,hS,b⟩:=aB.pos h hl;injection e with d j k
 refine⟨g,off,d,hS,fun i hi=>?_⟩;rw[b i (by omega),ab7 l i hi,List.getElem?_map,List.getElem?_eq_getElem hi];rfl
theorem nP.to {S:Nat->Prop} {w:World} {a:Option Addr} {n cap:Nat} {l:List By} (h:nP S w (.slice a n cap) l) {k:Nat} (hk:k<=l.length):nP S w (.slice a k cap) (l.take k):=by
 have h1:=aB.to h rfl k hk;unfold nP;rw[Nat.mul_one,<-List.map_take] at h1;rw[List.length_take,Nat.min_eq_left hk];exact h1
theorem yZ {a b:By} (h:a≠b):(a.toList==b.toList)=false:=beq_eq_false_iff_ne.2 (fun e=>h (lU (by rw[Lib.toList_data,Lib.toList_data] at e;exact e)))
theorem TT (a b:By):(a.toList==b.toList)=decide (a=b):=by
 by_cases h:a=b
 .rw [dT h,h];simp
 .rw [dF h,yZ h]
def uA (l:List By) (s:By):Int:=if s∈l then(Ho l s:Int) else -1
theorem aff (l:List By) (s:By):(decide ((0:Int)<=uA l s))=decide (s∈l):=by
 unfold uA;by_cases h:s∈l
 .rw [if_pos h,dT h,dT (by omega)]
 .rw [if_neg h,dF h];rfl
theorem Lp (l:List By) (s:By):(decide (uA l s< (0:Int)))=!decide (s∈l):=by
 unfold uA;by_cases h:s∈l
 .rw [if_pos h,dT h,dF (by omega)];rfl
 .rw [if_neg h,dF h];rfl
theorem xJ {t:Tm} (h:wf aC t=true):formed aC t=true:=by
 unfold wf at h;rw[Bool.and_eq_true] at h;exact h.1
theorem Eu {t:Tm} (h:formed aC t=true):t.size<=1000/\∀x∈bu t,aC x.name=true/\x.kids.length<=6/\(x.sort=ai\/aC x.sort=true/\x.kids=[]):=by
 obtain⟨h1,c⟩:=(uY aC t).1 h;refine⟨h1,fun x hx=>?_⟩;have b:x∈(di 1 t).map (·.1):=by rw[oW t 1 0];exact hx
 obtain⟨p,hp,rfl⟩:=List.mem_map.1 b;have a:=c p hp;unfold lZ at a;simp only[Bool.and_eq_true,Bool.or_eq_true,decide_eq_true_eq] at a;refine⟨a.2.1,a.2.2.1,?_⟩;rcases a.2.2.2 with h|h
 .exact .inl h
 .exact .inr ⟨h.1,List.eq_nil_of_length_eq_zero h.2⟩
theorem Ew {t:Tm} (h:formed aC t=true):VL t:=fun x hx hs=>by
 rcases((Eu h).2 x hx).2.2 with e|e
 .exact absurd e hs
 .exact e.2
theorem zV (t:Tm) (v:Value) (S:Nat->Prop) (w:World) (hR:bQ S w t v):Calls Tryz.prog 24 #[v] w fun e w'=>e= .returned (.bool (wf aC t))/\Ext w w':=by
 have k:=ae hR;obtain⟨a,cap,rfl,l⟩:=hR;have h:=ae (fun W (hW:Ext w W)=>Bj t 1 1000 _ S W (k.o.ext hW) (by omega) (by omega) (by omega));have n:=ae (qU aC t);dsimp only[tV] at h⊢;have c:=ae ((uR w).alloc (tO t a cap));have p:=ae (aj w (tO t a cap));obtain⟨d,c1,c2⟩:=ah p.o;by_cases hf:formed aC t=true
 .have u:=(Eu hf).1;have q:=ae (fun W (hW:Ext w W)=>Xo t [] (.slice none 0 0) _ S S W (k.o.ext hW) (aB.nil S W 2) (Ew hf) (by show 0+t.size<=100000;omega));have i:Hid (wf aC t=(dO [] (vl (bu t))).2):=ae (by unfold wf;rw[hf,Bool.true_and,Pj]);have y: ¬(small aC 1 1000 t<0):=by
   have:=n.o;rw[hf] at this;have:=of_decide_eq_true this.symm;omega
  dsimp only[tV] at q;clear l hf u;generalize small aC 1 1000 t=R at*;generalize (dO [] (vl (bu t))).2=B at*;go_enter Tryz.func24,Tryz.ntmps24;go_wp2_with fail;refine(h.o _ c.o).mono ?_;rintro e z ⟨rfl,b⟩;have g:=ae (c.o.ext b);have x:=ae (b.heap p.o id);clear b d c1 c2;obtain⟨d,c1,c2⟩:=ah x.o;go_wp2_with fail;refine(q.o _ g.o).mono ?_;rintro e C ⟨r,rfl,_,j⟩;have A:=ae (g.o.ext j);clear j d c1 c2;go_wp2_with fail;go_ret;rw[i.o];exact⟨rfl,A.o⟩
 .have i:Hid (wf aC t=false):=ae (by unfold wf;rw[Bool.eq_false_iff.2 hf];rfl);have y:small aC 1 1000 t<0:=by
   have h1:=n.o;rw[Bool.eq_false_iff.2 hf] at h1;have:=of_decide_eq_false h1.symm;omega
  clear l hf;generalize small aC 1 1000 t=R at*;go_enter Tryz.func24,Tryz.ntmps24;go_wp2_with fail;refine(h.o _ c.o).mono ?_;rintro e z ⟨rfl,b⟩;have g:=ae (c.o.ext b);clear b d c1 c2;go_wp2_with fail;go_ret;rw[i.o];exact⟨rfl,g.o⟩
theorem O0:(Tryz.prog.info? 3).map (fun i=>(i.zero,i.size,i.bytes))=some (some (.int .i64 0),1,8):=by kernel_rfl
theorem uZ:(Tryz.prog.info? 24).map (fun i=>(i.zero,i.size,i.bytes))=some (some (.agg #[.string ⟨#[]⟩,.string ⟨#[]⟩,.slice none 0 0]),3,56):=by kernel_rfl
theorem jP (L:List Tm) (k:Nat) (h:k<L.length):sizes (L.take (k+1))=sizes (L.take k)+(tg L k).size:=by
 rw[yO L k h,nX];simp[sizes]
theorem fM (L:List Tm) (k:Nat):sizes (L.take k)<=sizes L:=by
 have:sizes L=sizes (L.take k)+sizes (L.drop k):=by rw[<-nX,List.take_append_drop]
 omega
theorem aU.shape {te:TypeId} {w:World} {B:Nat->Prop} {L:List Tm} {v:Value} (h:aU te w B L v): ∃a cap,v= .slice a L.length cap:=h.read.shape
theorem AA (w:World) (u0 u1 u2:Value) (t:TypeId): ∀(j:Nat) (u:Value),[u0,u1,u2][j]?=some u->(w.alloc (.cells #[u0,u1,u2] t)).cell? ((⟨w.heap.size,0,none⟩:Addr).add j)=some u:=fun j u a=>by
 match j,a with
 |0,a=>simp only[List.getElem?_cons_zero,Option.some.injEq] at a;subst a;simp only[Addr.add];exact ag (aj _ _) 0 _ rfl
 |1,a=>simp at a;subst a;simp only[Addr.add];exact ag (aj _ _) 1 _ rfl
 |2,a=>simp at a;subst a;simp only[Addr.add];exact ag (aj _ _) 2 _ rfl
structure oN (te:TypeId) (n0:Nat) (wr:World) (L:List Tm) (lv:Value) (us:List Value) (Bk:Nat->Nat->Prop) (k:Nat):Prop where
 len:us.length=k
 own:wr.ownsRow n0 te 3 lv k (dK (L.take k) us)
 kid: ∀i,i<k->aU te wr (Bk i) (tg L i).kids (ug us i)
 blk: ∀i j,i<k->Bk i j->n0<=j/\j<wr.heap.size/\lv.ownBlock≠some j
 dis: ∀i i' j,i<k->i'<k->i≠i'->Bk i j->¬Bk i' j
theorem oN.grow {te:TypeId} {n0 B k:Nat} {wr p d C n q:World} {L:List Tm} {lv o u:Value} {us:List Value} {Bk:Nat->Nat->Prop} {Bx:Nat->Prop} {x:Tm} (h:oN te n0 wr L lv us Bk k) (hk:k<L.length) (hx:tg L k=x) (hn:B<n0) (h0:n0<=wr.heap.size) (g:Ext wr p) (D:Ext p d)
  (G:aU te d Bx x.kids u) (l: ∀j,Bx j->p.heap.size<=j/\j<d.heap.size) (hA:Ext d C) (c:Grew n0 te 3 lv (k+1) (dK (L.take k) us++[.string x.name,.string x.sort,u]) C n o) (r:au (fun j=>j=B) n q):
  oN te n0 q L o (us++[u]) (fun i=>if i=k then Bx else Bk i) (k+1):=by
 have H:au (fun j=>lv.ownBlock=some j) wr n:=(((g.trans D).trans hA).mono (fun _ _ x=>x.elim)).trans c.upd;have z:=fun j a=>h.own.lt j a;have hF: ∀(P:Nat->Prop) (t:List Tm) (w:Value),aU te n P t w->(∀j,P j->n0<=j)->aU te q P t w:=fun P t w I hp=>I.kept r (fun j a e=>by have:=hp j a;omega);refine⟨by rw[List.length_append,h.len];rfl,?_,fun i hi=>?_,fun i j hi a=>?_,fun i i' j hi K hne a=>?_⟩
 .rw [yO L k hk,H_ _ _ _ _ (by rw[h.len,List.length_take];omega),hx];exact bM c.own r (fun j a e=>by have:=(c.own.lt j a).1;omega)
 .by_cases e:i=k
  .subst e;rw[if_pos rfl,hx];have y:ug (us++[u]) i=u:=by unfold ug;rw[List.getD_eq_getElem?_getD,List.getElem?_append_right (by rw[h.len];exact Nat.le_refl _),h.len,Nat.sub_self];rfl
   rw[y];refine hF _ _ _ ((G.kept hA (fun _ _ x=>x)).kept c.upd (fun j a e=>?_)) (fun j a=>by have h1:=l j a;have:=g.size;omega);have h1:=(l j a).1;have b:=(z j e).2;have:=g.size;omega
  .rw [if_neg e];have y:ug (us++[u]) i=ug us i:=by unfold ug;rw[List.getD_eq_getElem?_getD,List.getD_eq_getElem?_getD,List.getElem?_append_left (by rw[h.len];omega)]
   rw[y];exact hF _ _ _ ((h.kid i (by omega)).kept H (fun j a e=>(h.blk i j (by omega) a).2.2 e)) (fun j a=>(h.blk i j (by omega) a).1)
 .have M:=r.size;have N:=c.upd.size;have O:=hA.size;have Q:=D.size;have J:=g.size;have A: ∀j,o.ownBlock=some j->lv.ownBlock=some j\/d.heap.size<=j:=fun j e=>by
   rcases c.xK with h|h
   .rw [h] at e;exact .inl e
   .rw [h] at e;injection e with e;exact .inr (by omega)
  by_cases e:i=k
  .subst e;rw[if_pos rfl] at a;have h1:=l j a;refine⟨by omega,by omega,fun e=>?_⟩;rcases A j e with b|b
   .have:=(z j b).2;omega
   .omega
  .rw [if_neg e] at a;obtain⟨h1,b,E⟩:=h.blk i j (by omega) a;refine⟨h1,by omega,fun e=>?_⟩;rcases A j e with F|F
   .exact E F
   .omega
 .have J:=g.size;by_cases e:i=k
  .subst e;rw[if_pos rfl] at a;have h1:=l j a;rw[if_neg (fun e=>hne e.symm)];intro b;have:=(h.blk i' j (by omega) b).2.1;omega
  .rw [if_neg e] at a;by_cases e':i'=k
   .subst e';rw[if_pos rfl];intro b;have E:=l j b;have:=(h.blk i j (by omega) a).2.1;omega
   .rw [if_neg e'];exact h.dis i i' j (by omega) (by omega) hne a
theorem oN.fin {te:TypeId} {n0:Nat} {wr:World} {L:List Tm} {lv:Value} {us:List Value} {Bk:Nat->Nat->Prop} (h:oN te n0 wr L lv us Bk L.length):aU te wr (fun j=>n0<=j/\j<wr.heap.size) L lv:=by
 have ho:=h.own;rw[List.take_length] at ho;exact⟨_,L,us,lv,Bk,h.len,⟨ho.1,ho.2.imp id (fun⟨g,c,cur,e,_,a⟩=>⟨g,c,cur,e,Nat.zero_le _,a⟩)⟩,fun k hk=>⟨(ho.lt k hk).1,(ho.lt k hk).2⟩,fun i k hi hk=>⟨(h.blk i k hi hk).1,(h.blk i k hi hk).2.1⟩,fun i k hi hk=>(h.blk i k hi hk).2.2,fun i j k hi b=>h.dis i j k hi b,h.kid⟩
theorem aO {W:World} {z:Nat} {t:TypeId} {v0 v1 v2:Value} (h:W.heap[z]?=some (.cells #[v0,v1,v2] t (0,0))) (u0 u1 u2:Value):(((W.setCell ⟨z,0,none⟩ u0).setCell ⟨z,1,none⟩ u1).setCell ⟨z,2,none⟩ u2).heap[z]?=some (.cells #[u0,u1,u2] t (0,0)):=by
 have:=setBlock (setBlock (setBlock h 0 u0) 1 u1) 2 u2;simpa using this
theorem aN (W:World) (z:Nat) (u0 u1 u2:Value):au (fun k=>k=z) W (((W.setCell ⟨z,0,none⟩ u0).setCell ⟨z,1,none⟩ u1).setCell ⟨z,2,none⟩ u2):=
 (((au.refl (fun k=>k=z) W).setCell (p:=⟨z,0,none⟩) (.inl rfl) u0).setCell (p:=⟨z,1,none⟩) (.inl rfl) u1).setCell (p:=⟨z,2,none⟩) (.inl rfl) u2
theorem ZT: ∀(t:Tm) (v:Value) (S:Nat->Prop) (w:World),bQ S w t v->(∀k,S k->k<w.heap.size)->t.size<=100000->
  Calls Tryz.prog 172 #[v] w fun e w'=> ∃r B,e= .returned (tV t r)/\aU 24 w' B t.kids r/\(∀j,B j->w.heap.size<=j/\j<w'.heap.size)/\Ext w w':=by
 refine Tm.ind (fun nm so L az=>?_);intro v S w K hS T;obtain⟨a,cap,rfl,K⟩:=K;dsimp only[tV,Tm.name,Tm.sort,Tm.kids] at K⊢;have aY:=ae K;have aR:=ae az;have aZ:=ae hS;have aA:sizes L+1<=100000:=by rw[size_eq] at T;simp only[Tm.kids] at T;omega
 have a1:=ae aA;have bC:L.length<=100000:=by have h1:=bz L;omega
 have al:=(((uR w).alloc (af nm so a L.length cap)).alloc zO).alloc (af nm so none 0 0);have an:=ak (alloc_at (w.alloc (af nm so a L.length cap)) zO (n:=w.heap.size+1) (by simp)) (af nm so none 0 0);have ao:=alloc_at ((w.alloc (af nm so a L.length cap)).alloc zO) (af nm so none 0 0) (n:=w.heap.size+1+1) (by simp);have N:(((w.alloc (af nm so a L.length cap)).alloc zO).alloc (af nm so none 0 0)).heap.size=w.heap.size+3:=by simp
 have D:=ae an;have H:=ae ao;have aB:=ae al;have aq:=ae N;clear az K hS T aA;clear an ao al N;go_enter Tryz.func172,Tryz.ntmps172;go_wp2_with fail;generalize (((w.alloc (af nm so a L.length cap)).alloc zO).alloc (af nm so none 0 0))=aC at*;obtain⟨b,U⟩:=ay (w.heap.size+1+1);rw[U] at H⊢;have O:=ae U;clear U;have aD:Hid (oN 24 (w.heap.size+3) aC L (.slice none 0 0) [] (fun _ _=>False) 0):=ae ⟨rfl,⟨rfl,.inl ⟨rfl,rfl⟩⟩,fun i hi=>absurd hi (Nat.not_lt_zero _),fun i j hi=>absurd hi (Nat.not_lt_zero _),fun i i' j hi=>absurd hi (Nat.not_lt_zero _)⟩;have aE:Hid (w.heap.size+3<=aC.heap.size):=ae (by rw[aq.o];exact Nat.le_refl _);clear aq;go_loopg [11] L.length (fun gk a6 wr=> ∃(k:Nat) (lv:Value) (us:List Value) (Bk:Nat->Nat->Prop),a6= .int .i64 (k:Int)/\gk=L.length-k/\k<=L.length/\Hid (oN 24 (w.heap.size+3) wr L lv us Bk k)/\Hid (wr.heap[w.heap.size+1]?=some zO)/\Hid (wr.heap[b]?=some (kW nm so lv))/\Hid (Ext w wr)/\Hid (w.heap.size+3<=wr.heap.size));case atStart=>exact⟨0,_,_,_,rfl,rfl,Nat.zero_le _,aD,D,H,aB,aE⟩
 case round=>
  clear aD D H aB aE;obtain⟨k,lv,us,Bk,rfl,rfl,hk,E,D,H,P,aF⟩:=hrel;obtain⟨l,lc,aS⟩:=bF E.o.own;subst aS;by_cases J:k<L.length
  .obtain ⟨g,off,aT,_,ar⟩:=(aY.o.ext P.o).at_ (by omega);subst aT;obtain⟨q,y,aG,V,X,aH⟩:=ar k J;rw[<-Nat.add_assoc] at V X;obtain⟨z0,bD,z2,bB⟩:=bH J;have Y:=ae (fun W (hW:Ext (wr.alloc (af ((tg L k).name) ((tg L k).sort) q ((tg L k).kids.length) y)) W)=>aR.o (tg L k) (cZ L k J) _ S W ⟨q,y,rfl,(aH.ext ((uR wr).alloc _)).ext hW⟩ (fun j A=>aP (aZ.o j A) (Nat.le_trans P.o.size (Nat.le_trans ((uR wr).alloc (af ((tg L k).name) ((tg L k).sort) q ((tg L k).kids.length) y)).size hW.size))) (by have h1:=a1.o;have a7:=jP L k J;have bE:=fM L (k+1);omega));dsimp only[tV] at Y;obtain⟨x,hx⟩:=ay (tg L k);have a8:=ae hx;rw[hx] at aG V X Y;have hQ:=(uR wr).alloc (tO x q y);have aI:=aj wr (tO x q y);obtain⟨b0,bG,bI⟩:=ah aI;have Z:=ak H.o (tO x q y);have c2:=ag Z 2 (.slice l k lc) rfl;have ba:=ae Z;have aa:=ae hQ;have bb:=ae (ak D.o (tO x q y));have bc:=ae (E.o.own.alloc (tO x q y));have bd:Hid (¬(Value.slice l k lc).ownBlock=some b):=ae (fun e=>by have h1:=(E.o.own.lt b e).1;have:=O.o;omega);have aJ:Hid (k<=100000):=ae (by omega);obtain⟨bf,hi,N,aV,aW⟩:=info_parts uZ;clear ar aH hx hQ aI Z;go_wp2_with fail;generalize wr.alloc (tO x q y)=C at*;have bg:Hid (Ext C C):=ae (au.refl _ _);have aK:Hid (w.heap.size+3<=C.heap.size):=ae (Nat.le_trans aF.o aa.o.size);clear aG V X;go_region_law (first
 |(refine d_ _ (.tmp 16) (.tmp 19) 22 rfl (w.heap.size+3) 24 bf (.agg #[.string ⟨#[]⟩,.string ⟨#[]⟩,.slice none 0 0]) 3 56 Tryz.underlying22 hi N aV aW rfl (by decide) _ _ _ rfl bh.o _ 1 1 [.string x.name,.string x.sort,.slice c x.kids.length d] rfl rfl bj.o bk.o ab.o.1 ab.o.2.1 ab.o.2.2 ?_;intro bJ M Q;obtain⟨F,G,aX⟩:=bF Q.own;subst aX;have R:=Q.upd.heap (ak bl.o (tO x c d)) bd.o;have f7:=fun i=>ax R i;have c2:=ag R 2 (.slice l k lc) rfl;have bm:=ae R;have aL:=ae Q;clear Q R)
 |(go_simp;refine(Y.o C.drew bg.o.drew).mono ?_;rintro e z ⟨r,Bx,rfl,ad,av,aw⟩;obtain⟨c,d,bn⟩:=aU.shape ad;subst bn;have I:Hid (Ext C z):=ae (((uR C).drewN' 1).trans aw);have bo:=ae ad;have bp:Hid (∀j,Bx j->C.heap.size<=j/\j<z.heap.size):=ae av;have bl:=ae (I.o.heap ba.o id);have bh:Hid ((z.alloc (tO x c d)).ownsRow (w.heap.size+3) 24 3 (.slice l k lc) k (dK (L.take k) us)):=ae ((bM bc.o I.o (fun _ _ h=>h)).alloc _);have bj:Hid (∀(j:Nat) (u:Value),[Value.string x.name,.string x.sort,.slice c x.kids.length d][j]?=some u->(z.alloc (tO x c d)).cell? ((⟨z.heap.size,0,none⟩:Addr).add j)=some u):=ae (AA z _ _ _ 24);have bk:Hid (∀u∈[Value.string x.name,.string x.sort,.slice c x.kids.length d],u.oneCell'=true):=ae (fun u hu=>by simp at hu;rcases hu with h|h|h<;>(subst h;rfl));have ab:Hid (k+1<=maxLen/\(k+1)*56<=140737488355328/\w.heap.size+3<=(z.alloc (tO x c d)).heap.size):=ae ⟨by unfold maxLen;have:=aJ.o;omega,by have:=aJ.o;omega,by have h1:=I.o.size;have a7:=aK.o;simp;omega⟩;have c5:=I.o.cell c2 id;have bK:=((uR z).alloc (tO x c d)).cell c5 id;clear ad av aw))
   all_goals
    go_wp2_with fail;have aM:=ae ((au.refl (fun j=>j=b) M).setCell (p:=⟨b,2,none⟩) (.inl rfl) (.slice F (k+1) G));have ai:Hid (au (fun j=>(Value.slice l k lc).ownBlock=some j\/j=b) C (M.setCell ⟨b,2,none⟩ (.slice F (k+1) G))):=ae (((((I.o.alloc (tO x c d)).mono (fun _ _ x=>x.elim)).trans (aL.o.upd.mono (fun _ _ e=> .inl e)))).trans (aM.o.mono (fun _ _ e=> .inr e)));have bq:=ae (E.o.grow J a8.o (by have:=O.o;omega) aF.o aa.o I.o bo.o bp.o ((uR z).alloc (tO x c d)) aL.o aM.o);have br:Hid (Ext w (M.setCell ⟨b,2,none⟩ (.slice F (k+1) G))):=ae ((P.o.trans aa.o).trans' ai.o (fun j A e=>by
     rcases e with e|e
     .have h1:=(E.o.own.lt j e).1;omega
     .have:=O.o;omega))
    have bs:=ae (ai.o.heap bb.o (fun e=>by
     rcases e with e|e
     .have h1:=(E.o.own.lt _ e).1;omega
     .have:=O.o;omega))
    have aQ:=setBlock bm.o 2 (.slice F (k+1) G);have bt:Hid ((M.setCell ⟨b,2,none⟩ (.slice F (k+1) G)).heap[b]?=some (af nm so F (k+1) G)):=ae (by simpa using aQ);have bu:Hid (w.heap.size+3<=(M.setCell ⟨b,2,none⟩ (.slice F (k+1) G)).heap.size):=ae (Nat.le_trans aK.o ai.o.size);clear aQ c2 f7;go_roundg (L.length- (k+1));case measure=>omega
    case rel=>exact⟨k+1,_,_,_,by go_num,rfl,by omega,bq,bs,bt,br,bu⟩
  .obtain rfl:k=L.length:=by omega
   have z2:decide ((L.length:Int)< (L.length:Int))=false:=dF (by omega);obtain⟨bL,c1,c2⟩:=ah H.o;have f2:=fun i=>ax D.o i;obtain⟨d0,d1,d2⟩:=ah D.o
   go_wp2_with fail;have hr:=aO D.o (.string nm) (.string so) (.slice l L.length lc);have hu:=aN wr (w.heap.size+1) (.string nm) (.string so) (.slice l L.length lc);obtain⟨bw,bx,bA⟩:=ah hr;refine bodyPost_ret (v:= .agg #[.string nm,.string so,.slice l L.length lc]) (by simp[results,Tryz.results172,go_sem,bw,bx,bA]) rfl ⟨.slice l L.length lc,_,rfl,E.o.fin.kept hu (fun j A e=>by have h1:=A.1;omega),fun j A=>⟨by have h1:=A.1;omega,aP A.2 hu.size⟩,P.o.trans' hu (fun j A e=>by omega)⟩
theorem EK: ∀(t:Tm) (v:Value) (S:Nat->Prop) (w:World),bQ S w t v->(∀k,S k->k<w.heap.size)->t.size<=100000->
  Calls Tryz.prog 117 #[v] w fun e w'=> ∃r B,e= .returned (tV t r)/\aU 24 w' B t.kids r/\(∀j,B j->w.heap.size<=j/\j<w'.heap.size)/\Ext w w':=by
 refine Tm.ind (fun nm so L az=>?_);intro v S w K hS T;obtain⟨a,cap,rfl,K⟩:=K;dsimp only[tV,Tm.name,Tm.sort,Tm.kids] at K⊢;have aY:=ae K;have aR:=ae az;have aZ:=ae hS;have aA:sizes L+1<=100000:=by rw[size_eq] at T;simp only[Tm.kids] at T;omega
 have a1:=ae aA;have bC:L.length<=100000:=by have h1:=bz L;omega
 have al:=(((uR w).alloc (af nm so a L.length cap)).alloc zO).alloc (af nm so none 0 0);have an:=ak (alloc_at (w.alloc (af nm so a L.length cap)) zO (n:=w.heap.size+1) (by simp)) (af nm so none 0 0);have ao:=alloc_at ((w.alloc (af nm so a L.length cap)).alloc zO) (af nm so none 0 0) (n:=w.heap.size+1+1) (by simp);have N:(((w.alloc (af nm so a L.length cap)).alloc zO).alloc (af nm so none 0 0)).heap.size=w.heap.size+3:=by simp
 have D:=ae an;have H:=ae ao;have aB:=ae al;have aq:=ae N;clear az K hS T aA;clear an ao al N;go_enter Tryz.func117,Tryz.ntmps117;go_wp2_with fail;generalize (((w.alloc (af nm so a L.length cap)).alloc zO).alloc (af nm so none 0 0))=aC at*;obtain⟨b,U⟩:=ay (w.heap.size+1+1);rw[U] at H⊢;have O:=ae U;clear U;have aD:Hid (oN 24 (w.heap.size+3) aC L (.slice none 0 0) [] (fun _ _=>False) 0):=ae ⟨rfl,⟨rfl,.inl ⟨rfl,rfl⟩⟩,fun i hi=>absurd hi (Nat.not_lt_zero _),fun i j hi=>absurd hi (Nat.not_lt_zero _),fun i i' j hi=>absurd hi (Nat.not_lt_zero _)⟩;have aE:Hid (w.heap.size+3<=aC.heap.size):=ae (by rw[aq.o];exact Nat.le_refl _);clear aq;go_loopg [14] L.length (fun gk a6 wr=> ∃(k:Nat) (lv:Value) (us:List Value) (Bk:Nat->Nat->Prop),a6= .int .i64 (k:Int)/\gk=L.length-k/\k<=L.length/\Hid (oN 24 (w.heap.size+3) wr L lv us Bk k)/\Hid (wr.heap[w.heap.size+1]?=some zO)/\Hid (wr.heap[b]?=some (kW nm so lv))/\Hid (Ext w wr)/\Hid (w.heap.size+3<=wr.heap.size));case atStart=>exact⟨0,_,_,_,rfl,rfl,Nat.zero_le _,aD,D,H,aB,aE⟩
 case round=>
  clear aD D H aB aE;obtain⟨k,lv,us,Bk,rfl,rfl,hk,E,D,H,P,aF⟩:=hrel;obtain⟨l,lc,aS⟩:=bF E.o.own;subst aS;by_cases J:k<L.length
  .obtain ⟨g,off,aT,_,ar⟩:=(aY.o.ext P.o).at_ (by omega);subst aT;obtain⟨q,y,aG,V,X,aH⟩:=ar k J;rw[<-Nat.add_assoc] at V X;obtain⟨z0,bD,z2,bB⟩:=bH J;have Y:=ae (fun W (hW:Ext (wr.alloc (af ((tg L k).name) ((tg L k).sort) q ((tg L k).kids.length) y)) W)=>aR.o (tg L k) (cZ L k J) _ S W ⟨q,y,rfl,(aH.ext ((uR wr).alloc _)).ext hW⟩ (fun j A=>aP (aZ.o j A) (Nat.le_trans P.o.size (Nat.le_trans ((uR wr).alloc (af ((tg L k).name) ((tg L k).sort) q ((tg L k).kids.length) y)).size hW.size))) (by have h1:=a1.o;have a7:=jP L k J;have bE:=fM L (k+1);omega));dsimp only[tV] at Y;obtain⟨x,hx⟩:=ay (tg L k);have a8:=ae hx;rw[hx] at aG V X Y;have hQ:=(uR wr).alloc (tO x q y);have aI:=aj wr (tO x q y);obtain⟨b0,bG,bI⟩:=ah aI;have Z:=ak H.o (tO x q y);have c2:=ag Z 2 (.slice l k lc) rfl;have ba:=ae Z;have aa:=ae hQ;have bb:=ae (ak D.o (tO x q y));have bc:=ae (E.o.own.alloc (tO x q y));have bd:Hid (¬(Value.slice l k lc).ownBlock=some b):=ae (fun e=>by have h1:=(E.o.own.lt b e).1;have:=O.o;omega);have aJ:Hid (k<=100000):=ae (by omega);obtain⟨bf,hi,N,aV,aW⟩:=info_parts uZ;clear ar aH hx hQ aI Z;go_wp2_with fail;generalize wr.alloc (tO x q y)=C at*;have bg:Hid (Ext C C):=ae (au.refl _ _);have aK:Hid (w.heap.size+3<=C.heap.size):=ae (Nat.le_trans aF.o aa.o.size);clear aG V X;go_region_law (first
 |(refine d_ _ (.tmp 19) (.tmp 22) 22 rfl (w.heap.size+3) 24 bf (.agg #[.string ⟨#[]⟩,.string ⟨#[]⟩,.slice none 0 0]) 3 56 Tryz.underlying22 hi N aV aW rfl (by decide) _ _ _ rfl bh.o _ 1 1 [.string x.name,.string x.sort,.slice c x.kids.length d] rfl rfl bj.o bk.o ab.o.1 ab.o.2.1 ab.o.2.2 ?_;intro bJ M Q;obtain⟨F,G,aX⟩:=bF Q.own;subst aX;have R:=Q.upd.heap (ak bl.o (tO x c d)) bd.o;have f7:=fun i=>ax R i;have c2:=ag R 2 (.slice l k lc) rfl;have bm:=ae R;have aL:=ae Q;clear Q R)
 |(go_simp;refine(Y.o C.drew bg.o.drew).mono ?_;rintro e z ⟨r,Bx,rfl,ad,av,aw⟩;obtain⟨c,d,bn⟩:=aU.shape ad;subst bn;have I:Hid (Ext C z):=ae (((uR C).drewN' 1).trans aw);have bo:=ae ad;have bp:Hid (∀j,Bx j->C.heap.size<=j/\j<z.heap.size):=ae av;have bl:=ae (I.o.heap ba.o id);have bh:Hid ((z.alloc (tO x c d)).ownsRow (w.heap.size+3) 24 3 (.slice l k lc) k (dK (L.take k) us)):=ae ((bM bc.o I.o (fun _ _ h=>h)).alloc _);have bj:Hid (∀(j:Nat) (u:Value),[Value.string x.name,.string x.sort,.slice c x.kids.length d][j]?=some u->(z.alloc (tO x c d)).cell? ((⟨z.heap.size,0,none⟩:Addr).add j)=some u):=ae (AA z _ _ _ 24);have bk:Hid (∀u∈[Value.string x.name,.string x.sort,.slice c x.kids.length d],u.oneCell'=true):=ae (fun u hu=>by simp at hu;rcases hu with h|h|h<;>(subst h;rfl));have ab:Hid (k+1<=maxLen/\(k+1)*56<=140737488355328/\w.heap.size+3<=(z.alloc (tO x c d)).heap.size):=ae ⟨by unfold maxLen;have:=aJ.o;omega,by have:=aJ.o;omega,by have h1:=I.o.size;have a7:=aK.o;simp;omega⟩;have c5:=I.o.cell c2 id;have bK:=((uR z).alloc (tO x c d)).cell c5 id;clear ad av aw))
   all_goals
    go_wp2_with fail;have aM:=ae ((au.refl (fun j=>j=b) M).setCell (p:=⟨b,2,none⟩) (.inl rfl) (.slice F (k+1) G));have ai:Hid (au (fun j=>(Value.slice l k lc).ownBlock=some j\/j=b) C (M.setCell ⟨b,2,none⟩ (.slice F (k+1) G))):=ae (((((I.o.alloc (tO x c d)).mono (fun _ _ x=>x.elim)).trans (aL.o.upd.mono (fun _ _ e=> .inl e)))).trans (aM.o.mono (fun _ _ e=> .inr e)));have bq:=ae (E.o.grow J a8.o (by have:=O.o;omega) aF.o aa.o I.o bo.o bp.o ((uR z).alloc (tO x c d)) aL.o aM.o);have br:Hid (Ext w (M.setCell ⟨b,2,none⟩ (.slice F (k+1) G))):=ae ((P.o.trans aa.o).trans' ai.o (fun j A e=>by
     rcases e with e|e
     .have h1:=(E.o.own.lt j e).1;omega
     .have:=O.o;omega))
    have bs:=ae (ai.o.heap bb.o (fun e=>by
     rcases e with e|e
     .have h1:=(E.o.own.lt _ e).1;omega
     .have:=O.o;omega))
    have aQ:=setBlock bm.o 2 (.slice F (k+1) G);have bt:Hid ((M.setCell ⟨b,2,none⟩ (.slice F (k+1) G)).heap[b]?=some (af nm so F (k+1) G)):=ae (by simpa using aQ);have bu:Hid (w.heap.size+3<=(M.setCell ⟨b,2,none⟩ (.slice F (k+1) G)).heap.size):=ae (Nat.le_trans aK.o ai.o.size);clear aQ c2 f7;go_roundg (L.length- (k+1));case measure=>omega
    case rel=>exact⟨k+1,_,_,_,by go_num,rfl,by omega,bq,bs,bt,br,bu⟩
  .obtain rfl:k=L.length:=by omega
   have z2:decide ((L.length:Int)< (L.length:Int))=false:=dF (by omega);obtain⟨bL,c1,c2⟩:=ah H.o;have f2:=fun i=>ax D.o i;obtain⟨d0,d1,d2⟩:=ah D.o
   go_wp2_with fail;have hr:=aO D.o (.string nm) (.string so) (.slice l L.length lc);have hu:=aN wr (w.heap.size+1) (.string nm) (.string so) (.slice l L.length lc);obtain⟨bw,bx,bA⟩:=ah hr;refine bodyPost_ret (v:= .agg #[.string nm,.string so,.slice l L.length lc]) (by simp[results,Tryz.results172,go_sem,bw,bx,bA]) rfl ⟨.slice l L.length lc,_,rfl,E.o.fin.kept hu (fun j A e=>by have h1:=A.1;omega),fun j A=>⟨by have h1:=A.1;omega,aP A.2 hu.size⟩,P.o.trans' hu (fun j A e=>by omega)⟩
theorem VC (l:List By) (x:By) (v:Value) (S:Nat->Prop) (w:World) (hR:nP S w v l) (hl:l.length<=1000000):
  Calls Tryz.prog 179 #[v,.string x] w fun e w'=>e= .returned (.bool (decide (x∈l)))/\Ext w w':=by
 obtain⟨a,cap,rfl⟩:=aB.shape hR;by_cases h0:0<l.length
 .obtain ⟨g,off,b,_,c⟩:=aB.ve (d:=ai) hR h0;subst b;refine(Tryz.slices_Contains_string g off l.length cap l x w (Nat.le_refl _) (by omega) (fun j k=>c j k)).mono ?_;rintro e w' ⟨rfl,rfl⟩;refine⟨?_,au.refl _ _⟩;rw[List.take_length]
  suffices h:Lib.containsS l x=decide (x∈l) by rw[h]
  rw[Bool.eq_iff_iff,decide_eq_true_eq,Lib.containsS_iff]
 .have i:l=[]:=List.eq_nil_of_length_eq_zero (by omega);subst i;refine(Tryz.slices_Contains_string_empty a cap x w).mono ?_;rintro e w' ⟨rfl,rfl⟩;exact⟨rfl,au.refl _ _⟩
theorem afz {L M:List Tm} (hl:L.length=M.length) (h: ∀j,j<L.length->tg L j=tg M j):L=M:=by
 refine List.ext_getElem hl (fun i h1 a=>?_);have:=h i h1;unfold tg at this;rw[List.getD_eq_getElem?_getD,List.getD_eq_getElem?_getD,List.getElem?_eq_getElem h1,List.getElem?_eq_getElem a] at this;exact this
theorem aj_ (L M:List Tm) (v v':Value) (S T:Nat->Prop) (w:World) (hR:aG S w L v) (C:aG T w M v') (hl:L.length<=1000000)
  (hf: ∀t∈L,∀u v1 v2 W,Ext w W->bQ S W t v1->bQ T W u v2->Calls Tryz.prog 216 #[v1,v2] W fun e W'=>e= .returned (.bool (decide (t=u)))/\Ext W W'):
  Calls Tryz.prog 190 #[v,v',.func (.func 216) #[] #[]] w fun e w'=>e= .returned (.bool (decide (L=M)))/\Ext w w':=by
 obtain⟨aB,ca,rfl⟩:=hR.shape;obtain⟨ab,aC,rfl⟩:=C.shape;have Q:=ae (And.intro hR C);have ag:=ae hf;have ai:=ae hl;clear hR C hf hl;by_cases hlen:L.length=M.length
 .have N:((L.length:Int) !=(M.length:Int))=false:=by simp[hlen]
  have R:=ae hlen;clear hlen;go_enter Tryz.func190,Tryz.ntmps190;go_wp2_with fail;clear N;go_loopg [17] L.length (fun gk al wr=> ∃k:Nat,al= .int .i64 (k:Int)/\gk=L.length-k/\k<=L.length/\Hid (∀j,j<k->tg L j=tg M j)/\Hid (Ext w wr));case atStart=>exact⟨0,rfl,rfl,Nat.zero_le _,ae (fun j h=>absurd h (Nat.not_lt_zero _)),ae (au.refl _ _)⟩
  case round=>
   obtain⟨k,rfl,rfl,hk,p,a⟩:=hrel;by_cases D:k<L.length
   .have an:k<M.length:=by have:=R.o;omega
    obtain⟨g,off,af,_,O⟩:=(Q.o.1.ext a.o).at_ (by omega);obtain⟨g',az,ao,_,K⟩:=(Q.o.2.ext a.o).at_ (by omega);subst af;subst ao;obtain⟨q,r,U,E,F,V⟩:=O k D;obtain⟨z,A,B,c,d,X⟩:=K k an;obtain⟨z0,aD,z2,aA⟩:=bH D;have z3:(k:Int)< (M.length:Int):=by omega
    have i:=ae (fun W (hW:Ext wr W)=>ag.o (tg L k) (cZ L k D) (tg M k) _ _ W (a.o.trans hW) ⟨q,r,rfl,V.ext hW⟩ ⟨z,A,rfl,X.ext hW⟩);have G:Hid (tg L k=tg M k->∀j,j<k+1->tg L j=tg M j):=ae (fun h j aq=>by
     rcases Nat.lt_succ_iff_lt_or_eq.1 aq with H|H
     .exact p.o j H
     .rw [H];exact h)
    have I:Hid (tg L k≠tg M k->decide (L=M)=false):=ae (fun h=>dF (fun e=>h (by rw[e])));dsimp only[tV] at i;clear O K V X;obtain⟨x,hx⟩:=ay (tg L k);obtain⟨y,hy⟩:=ay (tg M k);rw[hx] at U E F i G I;rw[hy] at B c d i G I;clear hx hy p;rw[<-Nat.add_assoc] at E F c d;have hA:=(uR wr).alloc (tO x q r);have B:=hA.cell B id;have c:=hA.cell c id;have d:=hA.cell d id;have J:=ae (hA.alloc (tO y z A));have Y:=ae (ak (aj wr (tO x q r)) (tO y z A));have Z:=ae (alloc_at (wr.alloc (tO x q r)) (tO y z A) (n:=wr.heap.size+1) (by simp));obtain⟨a0,ar,a2⟩:=ah Y.o;obtain⟨b0,av,aw⟩:=ah Z.o;clear hA Y Z;go_wp2_with fail;refine(i.o _ J.o).mono ?_;rintro e aE ⟨rfl,P⟩;have aa:=ae (a.o.trans (J.o.trans P));obtain⟨b,hb⟩:=ay (decide (x=y));rw[hb];have ad:=ae hb;clear P hb i J U E F B c d a0 ar a2 b0 av aw;cases b
    .have l:=ae (I.o (of_decide_eq_false ad.o));go_wp2_with fail;go_ret;rw[l.o];exact⟨rfl,aa.o⟩
    .have ax:=ae (G.o (of_decide_eq_true ad.o));have aF:=ai.o;go_wp2_with fail;go_roundg (L.length- (k+1));case measure=>omega
     case rel=>exact⟨k+1,by go_num,rfl,by omega,ax,aa⟩
   .obtain rfl:k=L.length:=by omega
    have z2:decide ((L.length:Int)< (L.length:Int))=false:=dF (by omega);have l:Hid (decide (L=M)=true):=ae (dT (afz R.o p.o));clear p;go_wp2_with fail;go_ret;rw[l.o];exact⟨rfl,a.o⟩
 .have N:((L.length:Int) !=(M.length:Int))=true:=by simp;exact fun e=>hlen (Int.ofNat.inj e)
  have l:Hid (decide (L=M)=false):=ae (dF (fun e=>hlen (by rw[e])));clear hlen;go_enter Tryz.func190,Tryz.ntmps190;go_wp2_with fail;go_ret;rw[l.o];exact⟨rfl,au.refl _ _⟩
theorem adT: ∀(t u:Tm) (v v':Value) (S T:Nat->Prop) (w:World),bQ S w t v->bQ T w u v'->t.size<=1000000->
  Calls Tryz.prog 216 #[v,v'] w fun e w'=>e= .returned (.bool (decide (t=u)))/\Ext w w':=by
 refine Tm.ind (fun n s L k=>?_);intro u v v' S T w hR q c;obtain⟨m,r,M⟩:=u;obtain⟨g,ca,rfl,h⟩:=hR;obtain⟨ab,i,rfl,d⟩:=q;dsimp only[tV,Tm.name,Tm.sort,Tm.kids] at h d⊢;have x:L.length<=1000000:=by have h1:=bz L;have a:=c;rw[size_eq] at a;exact Nat.le_trans h1 (Nat.le_of_succ_le a)
 have y:=ae (fun W (hW:Ext w W)=>aj_ L M _ _ S T W (h.ext hW) (d.ext hW) x (fun t l u v1 v2 W' F h1 a=>k t l u v1 v2 S T W' h1 a (by have h1:=gQ l;have a:=c;rw[size_eq] at a;exact Nat.le_trans h1 (Nat.le_of_succ_le a))));have b:=ae (((uR w).alloc (af n s g L.length ca)).alloc (af m r ab M.length i));have z:=ae (ak (aj w (af n s g L.length ca)) (af m r ab M.length i));have A:=ae (alloc_at (w.alloc (af n s g L.length ca)) (af m r ab M.length i) (n:=w.heap.size+1) (by simp));obtain⟨a0,B,a2⟩:=ah z.o;obtain⟨b0,C,D⟩:=ah A.o;have p:decide (Tm.mk n s L= .mk m r M)=(decide (n=m)&&(decide (s=r)&&decide (L=M))):=by
  rw[Bool.eq_iff_iff];simp
 rw[p];clear p h d k c;by_cases h1:n=m
 .have t1:(n.toList==m.toList)=true:=by rw[h1];simp
  have d1:decide (n=m)=true:=dT h1;rw[d1];clear h1 d1;by_cases a:s=r
  .have t2:(s.toList==r.toList)=true:=by rw[a];simp
   have d2:decide (s=r)=true:=dT a;rw[d2];clear a d2;generalize decide (L=M)=Z at*;go_enter Tryz.func216,Tryz.ntmps216;go_wp2_with fail;refine(y.o _ b.o).mono ?_;rintro e G ⟨rfl,j⟩;have E:=ae (b.o.trans j);clear j a0 B a2 b0 C D;go_wp2_with fail;go_ret;exact⟨rfl,E.o⟩
  .have t2:(s.toList==r.toList)=false:=by rw[beq_eq_false_iff_ne];exact fun e=>a (lU (by rw[Lib.toList_data,Lib.toList_data] at e;exact e))
   have d2:decide (s=r)=false:=dF a;rw[d2];clear a d2;go_enter Tryz.func216,Tryz.ntmps216;go_wp2_with fail;go_ret;exact⟨rfl,b.o⟩
 .have t1:(n.toList==m.toList)=false:=by rw[beq_eq_false_iff_ne];exact fun e=>h1 (lU (by rw[Lib.toList_data,Lib.toList_data] at e;exact e))
  have d1:decide (n=m)=false:=dF h1;rw[d1];clear h1 d1;go_enter Tryz.func216,Tryz.ntmps216;go_wp2_with fail;go_ret;exact⟨rfl,b.o⟩
end Go.Proofs.YtlkcjmaiahnodaaGreatDoor
