/- The texts N66 NR N67 N80 N85, one behind the other. -/
import Derived.Test.YtlkcjmaiahnodaaGreatDoorSAT
import Derived.Test.YtlkcjmaiahnodaaGreatDoorSAQ
import Derived.Test.YtlkcjmaiahnodaaGreatDoorSAE
import Derived.Test.YtlkcjmaiahnodaaGreatDoorSAS
set_option maxRecDepth 100000
set_option maxHeartbeats 8000000
set_option linter.unusedVariables false
set_option linter.unusedSimpArgs false
namespace Go.Proofs.YtlkcjmaiahnodaaGreatDoor
open Go.RowKit Go.Hw Go Tm
section
open Go.Sort Go.Proofs Go.ChangeMaps
def AZ (l:List Rl) (t:Tm):Tm×Rx×Int:=match jk l t with
 |none=>(dD,(0,[]),12)
 |some x=>if(iD t x.2.1 x.2.2).2=0 then((iD t x.2.1 x.2.2).1,kU x.1 x.2.1,0) else(dD,(0,[]),(iD t x.2.1 x.2.2).2)
theorem aex (l:List Rl) (t:Tm) (lv v:Value) (S:Nat->Prop) (w:World) (ar:jH (fun k=>k<w.heap.size) w l lv) (aQ:bQ S w t v) (hS: ∀k,S k->k<w.heap.size) (hr:dQ l=true) (av:wf aC t=true) (aZ:l.length<=1000000) (aE: ∀r∈l,r.1.size<=100000/\r.2.size<=100000):
  Calls Tryz.prog 54 #[lv,v] w fun e w'=> ∃r pr,e= .returned (.tuple #[tV (AZ l t).1 r,.agg #[.int .i64 (AZ l t).2.1.1,pr],.int .i64 (AZ l t).2.2])/\aG (fun k=>S k\/(w.heap.size<=k/\k<w'.heap.size)) w' (AZ l t).1.kids r/\tC (fun k=>w.heap.size<=k/\k<w'.heap.size) w' pr (AZ l t).2.1.2/\Ext w w':=by
 obtain⟨Z,aR⟩:=ay (AZ l t);rw[aR];have bg:=ae aR;have a1:=oH.1 av;have bs:=ae hS;have aw:=ae (fun W (hW:Ext w W)=>aaQ l aZ aE hr t v lv (.slice none 0 0) (fun k=>k<w.heap.size) S (fun _=>False) [] W (aQ.ext hW) (ar.ext hW) (aB.nil _ _ _) (bW hW) (fun k hk=>aP (hS k hk) hW.size) (fun _ h=>h.elim) (by omega) (by simp;omega));have az:=ae (fun(i:Nat) (p:List Nat) pv W (hW:Ext w W) (hp:tC (fun k=>k<W.heap.size) W pv (p.map fun j:Nat=>(j:Int))) (aF:p.length<=1000000)=>akj l t (i:Int) (p.map fun j:Nat=>(j:Int)) lv v pv S W ((ar.ext hW).weaken (bW hW)) (aQ.ext hW) (fun k hk=>aP (hS k hk) hW.size) hp hr av aZ aE (by rw[List.length_map];exact aF));have aS:=ae (fun(i:Nat) (p:List Nat) (u:Tm) (h:jk l t=some (i,p,u))=>(ahk hr av:C_ l t (kU i p)=Ry l t (kU i p)).trans (aer h));have bt:=ae a1.1;obtain⟨bK,lc,rfl⟩:=ar.shape;obtain⟨a,cap,rfl,bo⟩:=aQ;have a6:=(((uR w).alloc (tO t a cap)).alloc zO).alloc (aH 0 none 0 0);have V:=ae a6;have al:=ae (ak (ak (aj w (tO t a cap)) zO) (aH 0 none 0 0));have an:=ae (ak (alloc_at (w.alloc (tO t a cap)) zO (n:=w.heap.size+1) (by simp)) (aH 0 none 0 0));have ao:=ae (alloc_at ((w.alloc (tO t a cap)).alloc zO) (aH 0 none 0 0) (n:=w.heap.size+2) (by simp));have a7:w.heap.size+3<=(((w.alloc (tO t a cap)).alloc zO).alloc (aH 0 none 0 0)).heap.size:=by simp
 have bh:=ae a7;obtain⟨aT,aU,aW⟩:=ah al.o;dsimp only[tV] at aw az⊢;clear aR a1 bo a6 a7 ar hS hr av aE;go_enter Tryz.func54,Tryz.ntmps54;go_wp2_with fail;generalize (((w.alloc (tO t a cap)).alloc zO).alloc (aH 0 none 0 0))=w1 at*;refine(aw.o _ V.o).mono ?_;rintro e w3 ⟨pa,d,rfl,X,N⟩;obtain⟨o,ho⟩:=ay (jk l t);have aA:=ae ho;rw[ho] at X⊢;cases o with
 |none=>
  obtain rfl:Z=(dD,(0,[]),12):=by rw[<-bg.o];unfold AZ;rw[aA.o]
  rw[show((fi none:Nat):Int)=0 from rfl,show(fq none []).length=0 from rfl];have x:=N.alloc (aH 0 pa 0 d);have I:=ae (V.o.trans x);have J:=ae (x.heap an.o id);have H:=ae (x.heap ao.o id);simp only[Option.isSome_none];clear ho X x N aw az aS V al an ao aT aU aW;obtain⟨d0,d1,d2⟩:=ah J.o;obtain⟨g0,g1⟩:=aV H.o;have f1:=fun i=>ax J.o i;have f2:=fun i=>ax H.o i;have c:=aN (w3.alloc (aH 0 pa 0 d)) (w.heap.size+1) (.string ⟨#[]⟩) (.string ⟨#[]⟩) (.slice none 0 0);have z: ¬w.heap.size+2=w.heap.size+1:=by omega
  have a8:=c.cell g0 z;have ba:=c.cell g1 z;have f3:=fun i=>ax (c.heap H.o z) i;have C:=ae c;clear c
  go_wp2_with fail;have O:=aO J.o (.string ⟨#[]⟩) (.string ⟨#[]⟩) (.slice none 0 0);have P:=C.o.heap H.o z;have Q:(((((w3.alloc (aH 0 pa 0 d)).setCell ⟨w.heap.size+1,0,none⟩ (.string ⟨#[]⟩)).setCell ⟨w.heap.size+1,1,none⟩ (.string ⟨#[]⟩)).setCell ⟨w.heap.size+1,2,none⟩ (.slice none 0 0)).setCell ⟨w.heap.size+2,0,none⟩ (.int .i64 0)|>.setCell ⟨w.heap.size+2,1,none⟩ (.slice none 0 0)).heap[w.heap.size+2]?=some (aH 0 none 0 0):=by simpa using setBlock (setBlock P 0 (.int .i64 0)) 1 (.slice none 0 0)
  have D:au (fun j=>j=w.heap.size+2) ((((w3.alloc (aH 0 pa 0 d)).setCell ⟨w.heap.size+1,0,none⟩ (.string ⟨#[]⟩)).setCell ⟨w.heap.size+1,1,none⟩ (.string ⟨#[]⟩)).setCell ⟨w.heap.size+1,2,none⟩ (.slice none 0 0)) (((((w3.alloc (aH 0 pa 0 d)).setCell ⟨w.heap.size+1,0,none⟩ (.string ⟨#[]⟩)).setCell ⟨w.heap.size+1,1,none⟩ (.string ⟨#[]⟩)).setCell ⟨w.heap.size+1,2,none⟩ (.slice none 0 0)).setCell ⟨w.heap.size+2,0,none⟩ (.int .i64 0)|>.setCell ⟨w.heap.size+2,1,none⟩ (.slice none 0 0)):=((au.refl (fun j=>j=w.heap.size+2) _).setCell (p:=⟨w.heap.size+2,0,none⟩) (.inl rfl) _).setCell (p:=⟨w.heap.size+2,1,none⟩) (.inl rfl) _;have R:=D.heap O (by omega);have hu:au (fun j=>j=w.heap.size+1\/j=w.heap.size+2) (w3.alloc (aH 0 pa 0 d)) _:=(C.o.mono (fun _ _ h=> .inl h)).trans (D.mono (fun _ _ h=> .inr h));obtain⟨Y,aa,ab⟩:=ah R;obtain⟨ad,af⟩:=aV Q;refine bodyPost_ret (v:= .tuple #[.agg #[.string ⟨#[]⟩,.string ⟨#[]⟩,.slice none 0 0],.agg #[.int .i64 0,.slice none 0 0],.int .i64 (12)]) (by simp[results,Tryz.results54,go_sem,Y,aa,ab,ad,af]) rfl ?_;have F:=I.o.trans' hu (fun j B e=>by omega);exact⟨.slice none 0 0,.slice none 0 0,rfl,aG.nil _ _,aB.nil _ _ _,F⟩
 |some y=>
  obtain⟨i,p,u⟩:=y;have aX:fq (some (i,p,u)) []=p:=by simp[fq]
  have bb:fi (some (i,p,u))=i:=rfl;rw[aX] at X;rw[aX,bb];have bc:=yP l t i p u aA.o;have aF:=Bi p t bc.1;have x:=N.alloc (aH (i:Int) pa p.length d);have I:=ae (V.o.trans x);have bj:=ae (x.heap al.o id);have J:=ae (x.heap an.o id);have H:=ae (x.heap ao.o id);have K:=ae (aj w3 (aH (i:Int) pa p.length d));have ag:Hid (w.heap.size+3<=w3.heap.size):=ae (Nat.le_trans bh.o N.size);have bd:=(aB.kept X ((uR w3).alloc (aH (i:Int) pa p.length d)) (fun _ _ h=>h)).weaken (fun k hk=>(by
   have h1:=((uR w3).alloc (aH (i:Int) pa p.length d)).size;have bu:=bh.o;rcases hk with hk|⟨hk,bp⟩
   .exact hk.elim
   .have:=bp.lt;exact⟨by omega,by omega⟩:w.heap.size+3<=k/\k< (w3.alloc (aH (i:Int) pa p.length d)).heap.size))
  have aI:=ae (Ky bd);simp only[Option.isSome_some];have aq:Hid (Z=if(iD t p u).2=0 then((iD t p u).1,kU i p,0) else(dD,(0,[]),(iD t p u).2)):=ae (by rw[<-bg.o];unfold AZ;rw[aA.o]);have T:=ae (az.o i p (.slice pa p.length d) _ I.o (aB.weaken aI.o (fun k hk=>hk.2)) (by have:=bt.o;omega));have aJ:=aS.o i p u aA.o;unfold kU at aJ;rw[aJ] at T;obtain⟨G,bk⟩:=ay (iD t p u);rw[bk] at T aq;obtain⟨b,L⟩:=G;dsimp only at T aq;obtain⟨bw,aK⟩:=ay w3.heap.size;rw[aK] at K ag;obtain⟨aT,aU,aW⟩:=ah bj.o;obtain⟨m0,m1⟩:=aV K.o;clear ho X bd x N aw az aS V al an ao aX bb bc aF aJ bk;go_wp2_with fail;try rw[aK]
  generalize w3.alloc (aH (i:Int) pa p.length d)=bL at*;clear aK;refine T.o.mono ?_;rintro e A ⟨r,rfl,aL,aM⟩;obtain⟨g,q,bq⟩:=aL.shape;subst bq;have x:=aM.alloc (tO b g q);have bl:=ae (I.o.trans x);have M:=ae (x.heap J.o id);have E:=ae (x.heap H.o id);have bx:=ae (x.heap K.o id);have bm:=ae (aj A (tO b g q));have bn:Hid (w.heap.size+3<=A.heap.size):=ae (by have h:=I.o.size;have h1:=(Array.getElem?_eq_some_iff.1 K.o).1;have bu:=ag.o;have bM:=aM.size;omega);have br:=ae ((aB.kept aI.o x (fun _ _ h=>h)).weaken (fun k hk=>(⟨hk.1,aP hk.2 x.size⟩:w.heap.size+3<=k/\k< (A.alloc (tO b g q)).heap.size)));have bz:=ae ((aL.ext ((uR A).alloc (tO b g q))).weaken (fun k hk=>(by
   have h1:=((uR A).alloc (tO b g q)).size;have bN:=(Array.getElem?_eq_some_iff.1 K.o).1;have bO:=ag.o;rcases hk with hk|hk
   .exact .inl hk
   .exact .inr ⟨by omega,by omega⟩:S k\/(w.heap.size+3<=k/\k< (A.alloc (tO b g q)).heap.size))))
  clear aL aM x T aT aU aW m0 m1 I bj J H K aI;dsimp only[tV];obtain⟨bA,aD⟩:=ay A.heap.size;rw[aD] at bm bn;by_cases U:L=0;rotate_left
  .have t1:(L==0)=false:=beq_eq_false_iff_ne.2 U;have t3:(L !=0)=true:=bne_iff_ne.2 U;have t2:decide (L=0)=false:=dF U;obtain rfl:Z=(dD,(0,[]),L):=by rw[aq.o,if_neg U]
   clear aD;obtain⟨d0,d1,d2⟩:=ah M.o;obtain⟨g0,g1⟩:=aV E.o;have f1:=fun i=>ax M.o i;have f2:=fun i=>ax E.o i;have c:=aN (A.alloc (tO b g q)) (w.heap.size+1) (.string ⟨#[]⟩) (.string ⟨#[]⟩) (.slice none 0 0);have z: ¬w.heap.size+2=w.heap.size+1:=by omega
   have a8:=c.cell g0 z;have ba:=c.cell g1 z;have f3:=fun i=>ax (c.heap E.o z) i;have C:=ae c;clear c
   go_wp2_with fail;have O:=aO M.o (.string ⟨#[]⟩) (.string ⟨#[]⟩) (.slice none 0 0);have P:=C.o.heap E.o z;have Q:(((((A.alloc (tO b g q)).setCell ⟨w.heap.size+1,0,none⟩ (.string ⟨#[]⟩)).setCell ⟨w.heap.size+1,1,none⟩ (.string ⟨#[]⟩)).setCell ⟨w.heap.size+1,2,none⟩ (.slice none 0 0)).setCell ⟨w.heap.size+2,0,none⟩ (.int .i64 0)|>.setCell ⟨w.heap.size+2,1,none⟩ (.slice none 0 0)).heap[w.heap.size+2]?=some (aH 0 none 0 0):=by simpa using setBlock (setBlock P 0 (.int .i64 0)) 1 (.slice none 0 0)
   have D:au (fun j=>j=w.heap.size+2) ((((A.alloc (tO b g q)).setCell ⟨w.heap.size+1,0,none⟩ (.string ⟨#[]⟩)).setCell ⟨w.heap.size+1,1,none⟩ (.string ⟨#[]⟩)).setCell ⟨w.heap.size+1,2,none⟩ (.slice none 0 0)) (((((A.alloc (tO b g q)).setCell ⟨w.heap.size+1,0,none⟩ (.string ⟨#[]⟩)).setCell ⟨w.heap.size+1,1,none⟩ (.string ⟨#[]⟩)).setCell ⟨w.heap.size+1,2,none⟩ (.slice none 0 0)).setCell ⟨w.heap.size+2,0,none⟩ (.int .i64 0)|>.setCell ⟨w.heap.size+2,1,none⟩ (.slice none 0 0)):=((au.refl (fun j=>j=w.heap.size+2) _).setCell (p:=⟨w.heap.size+2,0,none⟩) (.inl rfl) _).setCell (p:=⟨w.heap.size+2,1,none⟩) (.inl rfl) _;have R:=D.heap O (by omega);have hu:au (fun j=>j=w.heap.size+1\/j=w.heap.size+2) (A.alloc (tO b g q)) _:=(C.o.mono (fun _ _ h=> .inl h)).trans (D.mono (fun _ _ h=> .inr h));obtain⟨Y,aa,ab⟩:=ah R;obtain⟨ad,af⟩:=aV Q;refine bodyPost_ret (v:= .tuple #[.agg #[.string ⟨#[]⟩,.string ⟨#[]⟩,.slice none 0 0],.agg #[.int .i64 0,.slice none 0 0],.int .i64 (L)]) (by simp[results,Tryz.results54,go_sem,Y,aa,ab,ad,af]) rfl ?_;have F:=bl.o.trans' hu (fun j B e=>by omega);exact⟨.slice none 0 0,.slice none 0 0,rfl,aG.nil _ _,aB.nil _ _ _,F⟩
  subst U;obtain rfl:Z=(b,kU i p,0):=by rw[aq.o,if_pos rfl]
  obtain⟨m0,m1⟩:=aV bx.o;obtain⟨bB,bC,bD⟩:=ah bm.o;have bf: ¬bw=w.heap.size+1:=by have:=ag.o;omega
  have aY: ¬bA=w.heap.size+1:=by have:=bn.o;omega
  go_upto_region 7 with fail;try rw[aD]
  generalize A.alloc (tO b g q)=ai at*;clear aD;obtain⟨d0,d1,d2⟩:=ah M.o;obtain⟨g0,g1⟩:=aV E.o;have f1:=fun i=>ax M.o i;have f2:=fun i=>ax E.o i;have c:=aN ai (w.heap.size+1) (.string b.name) (.string b.sort) (.slice g b.kids.length q);have z: ¬w.heap.size+2=w.heap.size+1:=by omega
  have a8:=c.cell g0 z;have ba:=c.cell g1 z;have f3:=fun i=>ax (c.heap E.o z) i;have bE:=c.cell bB aY;have bF:=c.cell bC aY;have bG:=c.cell bD aY;have bH:=c.cell m0 bf;have bI:=c.cell m1 bf;have C:=ae c;clear c
  go_wp2_with fail;go_region
  all_goals (go_wp2_with fail)
  have O:=aO M.o (.string b.name) (.string b.sort) (.slice g b.kids.length q);have P:=C.o.heap E.o z;have Q:((((ai.setCell ⟨w.heap.size+1,0,none⟩ (.string b.name)).setCell ⟨w.heap.size+1,1,none⟩ (.string b.sort)).setCell ⟨w.heap.size+1,2,none⟩ (.slice g b.kids.length q)).setCell ⟨w.heap.size+2,0,none⟩ (.int .i64 (i:Int))|>.setCell ⟨w.heap.size+2,1,none⟩ (.slice pa p.length d)).heap[w.heap.size+2]?=some (aH (i:Int) pa p.length d):=by simpa using setBlock (setBlock P 0 (.int .i64 (i:Int))) 1 (.slice pa p.length d)
  have D:au (fun j=>j=w.heap.size+2) (((ai.setCell ⟨w.heap.size+1,0,none⟩ (.string b.name)).setCell ⟨w.heap.size+1,1,none⟩ (.string b.sort)).setCell ⟨w.heap.size+1,2,none⟩ (.slice g b.kids.length q)) ((((ai.setCell ⟨w.heap.size+1,0,none⟩ (.string b.name)).setCell ⟨w.heap.size+1,1,none⟩ (.string b.sort)).setCell ⟨w.heap.size+1,2,none⟩ (.slice g b.kids.length q)).setCell ⟨w.heap.size+2,0,none⟩ (.int .i64 (i:Int))|>.setCell ⟨w.heap.size+2,1,none⟩ (.slice pa p.length d)):=((au.refl (fun j=>j=w.heap.size+2) _).setCell (p:=⟨w.heap.size+2,0,none⟩) (.inl rfl) _).setCell (p:=⟨w.heap.size+2,1,none⟩) (.inl rfl) _;have R:=D.heap O (by omega);have hu:au (fun j=>j=w.heap.size+1\/j=w.heap.size+2) ai _:=(C.o.mono (fun _ _ h=> .inl h)).trans (D.mono (fun _ _ h=> .inr h));obtain⟨Y,aa,ab⟩:=ah R;obtain⟨ad,af⟩:=aV Q;refine bodyPost_ret (v:= .tuple #[.agg #[.string b.name,.string b.sort,.slice g b.kids.length q],.agg #[.int .i64 (i:Int),.slice pa p.length d],.int .i64 (0)]) (by simp[results,Tryz.results54,go_sem,Y,aa,ab,ad,af]) rfl ?_;have F:=bl.o.trans' hu (fun j B e=>by omega);replace hu:=hu.drew;replace F:=F.drew;have bJ:=ag.o;refine⟨.slice g b.kids.length q,.slice pa p.length d,by simp[kU],?_,?_,F⟩
  .exact (bz.o.kept hu (fun j B e=>by rcases B with B|B;have:=bs.o j B;omega;omega)).weaken (fun j B=>B.imp id (fun h=>⟨by omega,aP h.2 hu.size⟩))
  .exact (aB.kept br.o hu (fun j B e=>by omega)).weaken (fun j B=>⟨by omega,aP B.2 hu.size⟩)
theorem ajy {t:Tm} (h:wf aC t=true):qA [t]=false:=by
 obtain⟨h1,b,a,_⟩:=oH.1 h;unfold qA Am;show decide (mJ t 80 1100<0)=false;rw[YA t 80 1100 (by omega) (by omega) (fun x hx=>by
  obtain⟨g1,g2,g3⟩:=a x hx;have c:=(acd g1).2;refine⟨by omega,?_,by omega⟩;rcases g3 with g3|g3
  .rw [g3];decide
  .have:=(acd g3.1).2;omega)]
 exact dF (by omega)
theorem aeL:qA [dD]=false:=by decide+kernel
theorem TJ {l:List Rl} (h:F6 l=false):l.length<=110/\(∀r∈l,r.1.size<=1100/\r.2.size<=1100)/\(dQ l=true->∀r∈l,r.2.size<=60):=by
 unfold F6 at h;simp only[Bool.or_eq_false_iff,decide_eq_false_iff_not] at h;have b: ∀r∈l,wR r=false:=fun r hr=>by
  cases c:wR r with
  |false=>rfl
  |true=>
   have:l.any wR=true:=List.any_eq_true.2 ⟨r,hr,c⟩;rw[h.2] at this;cases this
 refine⟨by omega,fun r hr=>?_,fun d r hr=>?_⟩
 .have:=b r hr;unfold wR at this;simp only[Bool.or_eq_false_iff] at this;exact⟨uQ this.1.1.1,uQ this.1.1.2⟩
 .have:=b r hr;unfold wR at this;simp only[Bool.or_eq_false_iff] at this;obtain⟨i,hi,e⟩:=List.getElem_of_mem hr;have g:Go.Hw.rg l i=r:=by unfold Go.Hw.rg;rw[gZ hi];exact e
  have a:=xu (zN d hi);rw[g] at a;have hf:=xJ a.2.1;have j:=this.2;rw[hf,Bool.true_and,decide_eq_false_iff_not] at j;omega
theorem TK {t:Tm} (h:IA t=false):t.size<=1100:=by
 unfold IA at h;simp only[Bool.or_eq_false_iff] at h;exact uQ h.1
theorem ajl (x:Dc) (a:Option Addr) (b:Nat) (w:World):
  Calls Tryz.prog 50 #[.agg #[.string x.1,.slice a x.2.1.length b,.string x.2.2]] w fun e w'=>e= .returned (.bool (decide (40<x.2.1.length)))/\Ext w w':=by
 have hb:=aj w (eP x.1 a x.2.1.length b x.2.2);have c:=ae ((uR w).alloc (eP x.1 a x.2.1.length b x.2.2));have d:=ag hb 1 (.slice a x.2.1.length b) rfl;have hn:decide ((40:Int)< (x.2.1.length:Int))=decide (40<x.2.1.length):=decide_eq_decide.2 (by omega);clear hb;go_enter Tryz.func50,Tryz.ntmps50;go_wp2_with fail;go_ret;exact⟨by first|rfl|rw[hn]|simp[hn],c.o⟩
theorem abD (p:Dc->Bool) (l:List Dc) (v:Value) (S:Nat->Prop) (w:World) (hR:tJ S w v l) (hl:l.length<=1000000)
  (hf: ∀x∈l,∀u y W,Ext w W->yA S W (.slice u x.2.1.length y) x.2.1->Calls Tryz.prog 50 #[.agg #[.string x.1,.slice u x.2.1.length y,.string x.2.2]] W fun e W'=>e= .returned (.bool (p x))/\Ext W W'):
  Calls Tryz.prog 122 #[v,.func (.func 50) #[] #[]] w fun e w'=>e= .returned (.int .i64 (wV p l))/\Ext w w':=by
 obtain⟨a,cap,rfl⟩:=hR.shape;have L:=ae hR;have M:=ae hf;obtain⟨V,hV⟩:=ay (wV p l);rw[hV];have I:=ae hV;clear hR hf hV;go_enter Tryz.func122,Tryz.ntmps122;go_wp2_with fail;go_loopg [8] l.length (fun gk N wr=> ∃k:Nat,N= .int .i64 (k:Int)/\gk=l.length-k/\k<=l.length/\Hid (Ext w wr)/\Hid (∀j,j<k->p (dg l j)=false));case atStart=>exact⟨0,rfl,rfl,Nat.zero_le _,ae (au.refl _ _),ae (fun j h=>absurd h (Nat.not_lt_zero _))⟩
 case round=>
  obtain⟨k,rfl,rfl,hk,i,z⟩:=hrel;by_cases c:k<l.length
  .obtain ⟨g,off,K,_,F⟩:=(L.o.ext i.o).at_ (by omega);subst K;obtain⟨u,y,A,B,C,G⟩:=F k c;obtain⟨z0,U,z2,T⟩:=bH c;have n:=ae (M.o (dg l k) (by rw[wo c];exact List.getElem_mem c) u y wr i.o G);have q:Hid (p (dg l k)=false->∀j,j<k+1->p (dg l j)=false):=ae (fun h j r=>by
    rcases Nat.lt_succ_iff_lt_or_eq.1 r with D|D
    .exact z.o j D
    .rw [D];exact h)
   have t:Hid (p (dg l k)=true->V=(k:Int)):=ae (fun h=>by rw[<-I.o];exact La (d:=(ai,[],ai)) c (fun j r=>z.o j r) h);obtain⟨x,hx⟩:=ay (dg l k);rw[hx] at A B C n q t;obtain⟨O,P,Q⟩:=x;dsimp only at A B C n;obtain⟨b,hb⟩:=ay (p (O,P,Q));rw[hb] at n q t;clear F hx hb z G;go_wp2_with fail;refine n.o.mono ?_;rintro e X ⟨rfl,H⟩;have J:=ae (i.o.trans H);clear H A B C n i;cases b
   .have R:=ae (q.o rfl);clear q t;go_wp2_with fail;go_roundg (l.length- (k+1));case measure=>omega
    case rel=>exact⟨k+1,by go_num,rfl,by omega,J,R⟩
   .have E:=ae (t.o rfl);clear q t;go_wp2_with fail;go_ret;rw[E.o];exact⟨rfl,J.o⟩
  .obtain rfl:k=l.length:=by omega
   have z2:decide ((l.length:Int)< (l.length:Int))=false:=dF (by omega);have E:Hid (V= -1):=ae (by rw[<-I.o];exact Dz (d:=(ai,[],ai)) (fun j r=>z.o j r));go_wp2_with fail;go_ret;rw[E.o];exact⟨rfl,i.o⟩
theorem abE (p:Dc->Bool) (l:List Dc) (v:Value) (S:Nat->Prop) (w:World) (hR:tJ S w v l) (hl:l.length<=1000000)
  (hf: ∀x∈l,∀b c W,Ext w W->yA S W (.slice b x.2.1.length c) x.2.1->Calls Tryz.prog 50 #[.agg #[.string x.1,.slice b x.2.1.length c,.string x.2.2]] W fun e W'=>e= .returned (.bool (p x))/\Ext W W'):
  Calls Tryz.prog 49 #[v,.func (.func 50) #[] #[]] w fun e w'=>e= .returned (.bool (l.any p))/\Ext w w':=by
 have d:=ae (abD p l v S w hR hl hf);have g:=ae (MR p l);generalize wV p l=X at*;clear hR hf;go_enter Tryz.func49,Tryz.ntmps49;go_wp2_with fail;refine d.o.mono ?_;rintro e i ⟨rfl,a⟩;have h:=ae a;clear a;go_wp2_with fail;go_ret;rw[<-g.o];exact⟨rfl,h.o⟩
theorem akw (l:List Int) (a b:Option Addr) (c d:Nat) (S T:Nat->Prop) (w:World) (hA:tC S w (.slice a l.length c) l) (p:tC T w (.slice b l.length d) l) (hl:l.length<=1000000):
  Calls Tryz.prog 55 #[.slice a l.length c,.slice b l.length d] w fun e w'=>e= .returned (.bool true)/\Ext w w':=by
 have r:=ae hA;have t:=ae p;clear hA p;go_enter Tryz.func55,Tryz.ntmps55;go_wp2_with fail;go_loopg [13] l.length (fun gk u wr=> ∃k:Nat,u= .int .i64 (k:Int)/\gk=l.length-k/\k<=l.length/\Hid (Ext w wr));case atStart=>exact⟨0,rfl,rfl,Nat.zero_le _,ae (au.refl _ _)⟩
 case round=>
  obtain⟨k,rfl,rfl,hk,i⟩:=hrel;by_cases j:k<l.length
  .obtain ⟨g,off,E,e,_,_,q⟩:=aB.pos (aB.kept r.o i.o (fun _ _ h=>h)) (by omega);injection e with e y z
   subst e;obtain⟨g2,A,d',e,_,_,n⟩:=aB.pos (aB.kept t.o i.o (fun _ _ h=>h)) (by omega);injection e with e B C
   subst e;obtain⟨x,hx⟩: ∃x,l[k]?=some x:=⟨_,List.getElem?_eq_getElem j⟩
   have F:wr.cell? ⟨g,off+k,none⟩=some (.int .i64 x):=by rw[q k (by omega),List.getElem?_map,hx];rfl
   have G:wr.cell? ⟨g2,A+k,none⟩=some (.int .i64 x):=by rw[n k (by omega),List.getElem?_map,hx];rfl
   obtain⟨z0,H,z2,D⟩:=bH j;clear q n y z B C hx;go_wp2_with fail;go_quiet (fail);go_wp2_with fail;go_roundg (l.length- (k+1));case measure=>omega
   case rel=>exact⟨k+1,by go_num,rfl,by omega,ae (i.o.drewN' _)⟩
  .obtain rfl:k=l.length:=by omega
   have z2:decide ((l.length:Int)< (l.length:Int))=false:=dF (by omega);go_wp2_with fail;go_ret;exact⟨rfl,i.o⟩
theorem ajm (l:List Rl) (t:Tm):AZ l t=((nU l t).1,kU (nU l t).2.1.1 (nU l t).2.1.2,(nU l t).2.2):=by
 unfold AZ nU;cases jk l t with
 |none=>rfl
 |some x=>
  simp only;by_cases h:(iD t x.2.1 x.2.2).2=0
  .rw [if_pos h];first|rfl|(rw[if_pos h])|simp[h,kU]
  .rw [if_neg h];first|rfl|(rw[if_neg h];rfl)|simp[h,kU]
theorem Zb {l:List Rl} {t:Tm} (b:wf aC t=true):((nU l t).2.2=0/\wf aC (nU l t).1=true\/(nU l t).1=dD)/\(nU l t).2.1.2.length<=1000:=by
 unfold nU;cases hf:jk l t with
 |none=>exact⟨.inr rfl,by simp⟩
 |some x=>
  obtain⟨i,p,u⟩:=x;have a:=(yP l t i p u hf).1;have c:=Bi p t a;have d:=qg b;simp only;by_cases h:(iD t p u).2=0
  .have hp:=Oi h;have hw:wf aC (iD t p u).1=true:=by rw[hp.1];exact hp.2
   first
    |(rw[if_pos h];exact⟨.inl ⟨rfl,hw⟩,by simp only;omega⟩)
    |(simp only[h,if_true];exact⟨.inl ⟨trivial,hw⟩,by omega⟩)
  .first
    |(rw[if_neg h];exact⟨.inr rfl,by simp⟩)
    |simp[h]
theorem abG {t:Tm} (h:IA t=false) (hw:wf aC t=true):t.size<=300:=by
 unfold IA at h;simp only[Bool.or_eq_false_iff] at h;have a:=h.2;rw[xJ hw,Bool.true_and,decide_eq_false_iff_not] at a;omega
theorem abH (g:Sg) (l:List Rl) (t:Tm) (aE lv v:Value) (w:World) (bc:xN (fun k=>k<w.heap.size) w g aE) (U:jH (fun k=>k<w.heap.size) w l lv) (bx:l.length<=maxLen) (bd:bQ (fun k=>k<w.heap.size) w t v) (ab:dI w):
  Calls Tryz.prog 11 #[aE,lv,v] w fun e w'=>e= .returned (.bool true)/\Ext w w':=by
 have bf:=ae U;have cb:=ae bd;have cN:=ae ab;have bz:=ae (fun W (hW:Ext w W)=>abq W (aT ab hW));have cc:=ae (fun W (hW:Ext w W)=>aet l lv W ((U.ext hW).weaken (bW hW)) bx);have aM:=ae (fun W (hW:Ext w W)=>aek t v W ((bd.ext hW).weaken (bW hW)));have bA:=ae (fun(h1:l.length<=1000000) (bg: ∀r∈l,r.1.size<=100000/\r.2.size<=100000) (bh:g.1.length<=1000000) (bj:g.2.length<=1000000) (cO: ∀d∈g.2,d.2.1.length<=1000000) W (hW:Ext w W)=>WY g l aE lv (fun k=>k<w.heap.size) W (bc.ext hW) (bW hW) ((U.ext hW).weaken (bW hW)) (aT ab hW) h1 bg bh bj cO);have bB:=ae (fun(h1:l.length<=1000000) (bg: ∀r∈l,r.1.size<=100000/\r.2.size<=100000) (bh:g.1.length<=1000000) (bj:g.2.length<=1000000) W (hW:Ext w W)=>WZ g l aE lv (fun k=>k<w.heap.size) W (bc.ext hW) (bW hW) ((U.ext hW).weaken (bW hW)) (aT ab hW) h1 bg bh bj);obtain⟨bk,lc,rfl⟩:=U.shape;obtain⟨a,cap,rfl,bC⟩:=bd;obtain⟨aF,sc,ag,al,rfl,cB,hdr⟩:=bc;have cd:=ae (fun(h:g.2.length<=1000000) W (hW:Ext w W)=>abE (fun x=>decide (40<x.2.1.length)) g.2 (.slice ag g.2.length al) (fun k=>k<w.heap.size) W (hdr.ext hW) h (fun x hx c q cP c4 _=>ajl x c q cP));have cf:=((uR w).alloc (bU aF g.1.length sc ag g.2.length al)).alloc (tO t a cap);have bl:=ae cf;have V:=ae (ak (aj w (bU aF g.1.length sc ag g.2.length al)) (tO t a cap));have cg:=ae (alloc_at (w.alloc (bU aF g.1.length sc ag g.2.length al)) (tO t a cap) (n:=w.heap.size+1) (by simp));dsimp only[tV] at aM⊢;have cQ:=ae bC;clear U bC ab cf bx cB hdr;go_enter Tryz.func11,Tryz.ntmps11;go_wp2_with fail;generalize ((w.alloc (bU aF g.1.length sc ag g.2.length al)).alloc (tO t a cap))=w1 at*;refine(bz.o _ bl.o).mono ?_;rintro e w2 ⟨rfl,hw⟩;have aN:=ae (bl.o.trans hw);have bD:=ae (hw.heap cg.o id);have ch:=ae (hw.heap V.o id);clear hw bl cg bz V;go_wp2_with fail;refine(cc.o _ aN.o).mono ?_;rintro e w3 ⟨rfl,hw⟩;have aG:=ae (aN.o.trans hw);have aO:=ae (hw.heap bD.o id);have bE:=ae (hw.heap ch.o id);clear hw aN bD cc ch;obtain⟨cR,av⟩:=ay (F6 l);rw[av];cases cR with
 |true=>
  have z:=aG;clear av;go_wp2_with fail;go_ret;exact⟨rfl,z.o⟩
 |false=>
  have bF:=TJ av;have D:=ae bF;clear av bF;obtain⟨u,y,A⟩:=ah aO.o;go_wp2_with fail;refine(aM.o _ aG.o).mono ?_;rintro e c6 ⟨rfl,hw⟩;have X:=ae (aG.o.trans hw);have bG:=ae (hw.heap aO.o id);have bm:=ae (hw.heap bE.o id);clear hw aG aO aM bE u y A;obtain⟨cS,af⟩:=ay (IA t);rw[af];cases cS with
  |true=>
   have z:=X;clear af;go_wp2_with fail;go_ret;exact⟨rfl,z.o⟩
  |false=>
   have cj:=ae (And.intro (TK af) (abG af));clear af;obtain⟨J,K⟩:=aV bm.o;by_cases aQ:60<g.1.length
   .have t1:decide ((60:Int)< (g.1.length:Int))=true:=dT (by omega);have z:=X;clear aQ;go_wp2_with fail;go_ret;exact⟨rfl,z.o⟩
   have t1:decide ((60:Int)< (g.1.length:Int))=false:=dF (by omega);by_cases aR:120<g.2.length
   .have t2:decide ((120:Int)< (g.2.length:Int))=true:=dT (by omega);have z:=X;clear aR;go_wp2_with fail;go_ret;exact⟨rfl,z.o⟩
   have t2:decide ((120:Int)< (g.2.length:Int))=false:=dF (by omega);have bn:=ae (cd.o (by omega) _ X.o);have aI:=ae (And.intro aQ aR);have aJ:Hid ((g.2.any fun x=>decide (40<x.2.1.length))=false->∀d∈g.2,d.2.1.length<=40):=ae (fun h x hx=>by
    rw[List.any_eq_false] at h;have:=h x hx;simpa using this)
   obtain⟨cT,bH⟩:=ay ((g.2.any fun x=>decide (40<x.2.1.length)));rw[bH] at bn aJ;clear bH aQ aR cd;go_wp2_with fail;refine bn.o.mono ?_;rintro e an ⟨rfl,hw⟩;have ao:=ae (X.o.trans hw);have ck:=ae (hw.heap bG.o id);have cm:=ae (hw.heap bm.o id);clear hw X bG bm bn J K t1 t2;cases cT with
   |true=>
    have z:=ao;clear aJ;go_wp2_with fail;go_ret;exact⟨rfl,z.o⟩
   |false=>
   have cU:=ae (aJ.o rfl);have bo:=ae (fun W hW=>bA.o (by have:=D.o.1;omega) (fun r hr=>by have:=D.o.2.1 r hr;omega) (by have:=aI.o.1;omega) (by have:=aI.o.2;omega) (fun d hd=>by have:=cU.o d hd;omega) W hW);have bp:=ae (fun W hW=>bB.o (by have:=D.o.1;omega) (fun r hr=>by have:=D.o.2.1 r hr;omega) (by have:=aI.o.1;omega) (by have:=aI.o.2;omega) W hW);obtain⟨Y,bJ⟩:=ay (SY g l);rw[bJ] at bo bp;clear aJ bA bB bJ;obtain⟨g0,g1⟩:=aV cm.o;have J:=fun x:XW an=>x.ext.cell g0 id;have K:=fun x:XW an=>x.ext.cell g1 id;have c1:(Y==Y)=true:=beq_self_eq_true _;have c2:(Y !=Y)=false:=by simp
   have c3:decide (Y=Y)=true:=dT rfl;clear g0 g1;have c5:Ext an an:=au.refl _ _;go_upto_region 5 with fail;refine bI an (by assumption) (by kernel_rfl) (by kernel_rfl) ?_;repeat (first|go_big_quiet_skip|(go_big_quiet_want;go_big_quiet_op;first|go_big_quiet_on|(apply Exists.intro;refine⟨fun x=>?_,?_⟩;((first|(go_at_call 51;with_reducible exact XW.call (bo.o x.val (ao.o.trans x.ext)))|(go_at_call 52;with_reducible exact XW.call (bp.o x.val (ao.o.trans x.ext)))));go_big_quiet_on)))
   refine wpQuiet_nil ?_;rintro cV ⟨⟨_,aS⟩,rfl⟩;try dsimp only
   have L:=ae (ao.o.trans aS);have bq:=ae (aS.heap ck.o id);clear aS ao ck cm J K bo bp;have aU:=ae (TS l t (.slice bk l.length lc) (.agg #[.string t.name,.string t.sort,.slice a t.kids.length cap]) cV ((bf.o.ext L.o).weaken (bW L.o)) ((cb.o.ext L.o).weaken (bW L.o)) (aT cN.o L.o) (by have:=D.o.1;omega) (fun r hr=>by have:=D.o.2.1 r hr;omega) (by have:=cj.o.1;omega) (fun h=>⟨60,D.o.2.2 h.1,by have:=cj.o.2 h.2;omega⟩));obtain⟨F,hF⟩:=ay (stepG l t);rw[hF] at aU;have cn:=ae hF;obtain⟨x,⟨i,p⟩,aK⟩:=F;obtain⟨u,y,A⟩:=ah bq.o;clear hF;go_wp2_with fail;refine aU.o.mono ?_;rintro e E ⟨⟨r,pv,rfl,aw,ax⟩,bK⟩;dsimp only at aw ax⊢;obtain⟨c,q,hr⟩:=aw.shape;subst hr;obtain⟨pa,M,hr⟩:=aB.shape ax;subst hr;have B:=((uR E).alloc (tO x c q)).alloc (aH (i:Int) pa p.length M);have b:=bK.trans B;have cp:=ae (L.o.trans b);have br:=ae (b.heap bq.o id);have bs:=ae (ak (aj E (tO x c q)) (aH (i:Int) pa p.length M));have aW:=ae (alloc_at (E.alloc (tO x c q)) (aH (i:Int) pa p.length M) (n:=E.heap.size+1) (by simp));have bL:=ae ((aw.ext B).weaken (fun k hk=>(aP hk.2 B.size:k< ((E.alloc (tO x c q)).alloc (aH (i:Int) pa p.length M)).heap.size)));have bM:=ae (Ky (aB.weaken (aB.kept ax B (fun _ _ h=>h)) (fun k hk=>(aP hk.2 B.size:k< ((E.alloc (tO x c q)).alloc (aH (i:Int) pa p.length M)).heap.size))));obtain⟨c7,aX⟩:=ay E.heap.size;rw[aX] at bs aW;clear b B bK aw ax aU L bq u y A;go_upto_region 8 with fail;try rw[aX]
   clear aX;generalize ((E.alloc (tO x c q)).alloc (aH (i:Int) pa p.length M))=N at*;have b:=(uR N).alloc (tO t a cap);have aq:=ae (cp.o.trans b);have cq:=ae (b.heap br.o id);have cr:=ae (b.heap bs.o id);have ct:=ae (b.heap aW.o id);have bN:=ae ((bL.o.ext b).weaken (fun k hk=>(aP hk b.size:k< (N.alloc (tO t a cap)).heap.size)));have bO:=ae (aB.kept bM.o b (fun _ _ h=>h));have cu:=ae (aeo l 0 [t] (.slice bk l.length lc) (.slice (az N.heap.size) 1 1) _ (fun k=>k< (N.alloc (tO t a cap)).heap.size) (N.alloc (tO t a cap)) (bf.o.ext aq.o) (mZ (aj N (tO t a cap)) (by simp) ((cQ.o.ext aq.o).weaken (bW aq.o))) (by have:=D.o.1;omega) (by decide) (by simp));obtain⟨u,y,A⟩:=ah br.o;clear b cp;go_wp2_with fail;generalize N.alloc (tO t a cap)=c8 at*;clear br bs aW bL bM u y A;refine cu.o.mono ?_;rintro e bP ⟨rfl,G⟩;have O:=ae (aq.o.trans G);have cv:=ae (G.heap cq.o id);have bt:=ae (G.heap cr.o id);have bu:=ae (G.heap ct.o id);have bR:=ae ((bN.o.ext G).weaken (fun k hk=>(aP hk G.size:k<bP.heap.size)));have bS:=ae (aB.kept bO.o G (fun _ _ h=>h));clear G cu aq cq cr ct bN bO;have aA:=ae (fun W=>ahi dD c q W);dsimp only[tV] at aA;obtain⟨f,hf⟩:=ay (oI l 0 [t]);rw[hf];have H:=cn.o;unfold stepG at H;by_cases I:f=0;rotate_left
   .have cC:f=1:=by
     rw[<-hf] at I⊢;unfold oI at I⊢;split
     .rfl
     .rename_i h;rw[if_neg h] at I;exact absurd rfl I
    rw[if_neg (fun h=>I (by rw[Bool.and_eq_true] at h;rw[<-hf];unfold oI;simp[h.1,h.2]))] at H;injection H with cW ar
    injection ar with ar cX
    injection ar with ar cY
    subst cW ar cX cY;subst cC;obtain⟨cw,cx⟩:=aV bu.o;clear hf I;obtain⟨u,y,A⟩:=ah bt.o;go_wp2_with fail;refine(aA.o _).mono ?_;rintro e c9 ⟨rfl,aC⟩;have hb:(decide (dD.name=ai)&&decide (dD.sort=ai)&&decide (dD.kids.length=0))=true:=by decide
    rw[hb];have z:=ae (O.o.trans aC);have cw:=aC.cell cw id;have cx:=aC.cell cx id;clear hb aC aA u y A;go_wp2_with fail;go_ret;exact⟨rfl,z.o⟩
   subst I;obtain⟨aY,aD,_,_⟩:=Kw hf;rw[if_pos (by rw[aY,aD];rfl)] at H;have ad:=Zb (l:=l) aD;rw[H] at ad;dsimp only at ad;have bT:qA [x]=false/\x.size<=1000:=by
    rcases ad.1 with h|h
    .exact ⟨ajy h.2,qg h.2⟩
    .rw [h];exact⟨aeL,by decide⟩
   have aL:=ae (aex l t (.slice bk l.length lc) (.agg #[.string t.name,.string t.sort,.slice a t.kids.length cap]) (fun k=>k<w.heap.size) bP ((bf.o.ext O.o).weaken (bW O.o)) (cb.o.ext O.o) (bW O.o) aY aD (by have:=D.o.1;omega) (fun r hr=>by have:=D.o.2.1 r hr;omega));rw[ajm,H] at aL;dsimp only[tV,kU] at aL;have bw:=ae (And.intro bT ad.2);clear aY aD H bT ad aA hf cn;obtain⟨u,y,A⟩:=ah cv.o;go_wp2_with fail;refine aL.o.mono ?_;rintro e P ⟨r,pr,rfl,aZ,a1,cy⟩;obtain⟨Q,R,hr⟩:=aZ.shape;subst hr;obtain⟨Z,aa,hr⟩:=a1.shape;rw[List.length_map] at hr;subst hr;have B:=((uR P).alloc (tO x Q R)).alloc (aH (i:Int) Z p.length aa);have b:=cy.trans B;have bV:=ae (O.o.trans b);have a6:=ae (b.heap bt.o id);have bX:=ae (b.heap bu.o id);have a7:=ae (ak (aj P (tO x Q R)) (aH (i:Int) Z p.length aa));have a8:=ae (alloc_at (P.alloc (tO x Q R)) (aH (i:Int) Z p.length aa) (n:=P.heap.size+1) (by simp));have bY:=ae ((bR.o.ext b).weaken (fun k hk=>(aP hk b.size:k< ((P.alloc (tO x Q R)).alloc (aH (i:Int) Z p.length aa)).heap.size)));have bZ:=ae (aZ.ext B);have b0:=ae (aB.kept bS.o b (fun _ _ h=>h));have b1:=ae (aB.kept a1 B (fun _ _ h=>h));obtain⟨da,ba⟩:=ay P.heap.size;rw[ba] at a7 a8;clear b B cy aZ a1 aL O cv bt bu bR bS u y A;dsimp only;go_upto_region 12 with fail;try rw[ba]
   clear ba;generalize ((P.alloc (tO x Q R)).alloc (aH (i:Int) Z p.length aa))=S at*;have b:=(uR S).alloc (tO x c q);have b2:=ae (bV.o.trans b);have b3:=ae (b.heap a6.o id);have b4:=ae (b.heap bX.o id);have b5:=ae (b.heap a7.o id);have b6:=ae (b.heap a8.o id);have bb:=ae ((bY.o.ext b).weaken (fun k hk=>(aP hk b.size:k< (S.alloc (tO x c q)).heap.size)));have b7:=ae (bZ.o.ext b);have b8:=ae (aB.kept b0.o b (fun _ _ h=>h));have b9:=ae (aB.kept b1.o b (fun _ _ h=>h));have V:=ae (O4 [x] (.slice (az S.heap.size) 1 1) (fun k=>k< (S.alloc (tO x c q)).heap.size) (S.alloc (tO x c q)) (mZ (aj S (tO x c q)) (by simp) bb.o) (fun k hk=>hk) (by simp));rw[bw.o.1.1] at V;obtain⟨u,y,A⟩:=ah a6.o;clear b;go_wp2_with fail;generalize S.alloc (tO x c q)=wc at*;clear a6 a7 bY bZ bV bX a8 b0 b1 u y A;refine V.o.mono ?_;rintro e wd ⟨rfl,C⟩;have cz:=ae (zo x x (.agg #[.string x.name,.string x.sort,.slice c x.kids.length q]) (.agg #[.string x.name,.string x.sort,.slice Q x.kids.length R]) _ _ wd ⟨c,q,rfl,bb.o.ext C⟩ ⟨Q,R,rfl,b7.o.ext C⟩ (by have:=bw.o.1.2;omega));have cD:=ae (b2.o.trans C);have cE:=ae (C.heap b3.o id);have cF:=ae (C.heap b5.o id);have cG:=ae (C.heap b4.o id);have cH:=ae (C.heap b6.o id);have cI:=ae (aB.kept b8.o C (fun _ _ h=>h));have cJ:=ae (aB.kept b9.o C (fun _ _ h=>h));clear C V b2 b3 b5 bb b7 b4 b6 b8 b9;obtain⟨u,y,A⟩:=ah cE.o;obtain⟨J,K,cZ⟩:=ah cF.o;go_wp2_with fail;refine cz.o.mono ?_;rintro e c0 ⟨he,T⟩;obtain rfl:e= .returned (.bool true):=by simpa using he
   have cK:=ae (cD.o.trans T);have heq:=akw (p.map fun j:Nat=>(j:Int)) pa Z M aa _ _ c0 (by have h:=aB.kept cI.o T (fun _ _ h=>h);rw[List.length_map];exact h) (by have h:=aB.kept cJ.o T (fun _ _ h=>h);rw[List.length_map];exact h) (by have:=bw.o.2;rw[List.length_map];omega);rw[List.length_map] at heq;have cA:=ae heq;have cL:=ae (T.heap cG.o id);have cM:=ae (T.heap cH.o id);have t4:(aK==aK)=true:=beq_self_eq_true _;have t5:decide (aK=aK)=true:=dT rfl;have t6:((i:Int)==(i:Int))=true:=beq_self_eq_true _;have t7:decide ((i:Int)=(i:Int))=true:=dT rfl;clear T cz he heq u y A J K cZ;obtain⟨u,y⟩:=aV cL.o;obtain⟨J,K⟩:=aV cM.o;go_wp2_with fail;refine cA.o.mono ?_;rintro e db ⟨rfl,ca⟩;have z:=ae (cK.o.trans ca);clear ca cA u y J K;go_wp2_with fail;go_ret;exact⟨rfl,z.o⟩
end
end Go.Proofs.YtlkcjmaiahnodaaGreatDoor
