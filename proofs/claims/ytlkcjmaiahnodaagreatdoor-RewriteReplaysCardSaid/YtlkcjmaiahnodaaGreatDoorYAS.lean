/- The texts N82 N65 N66 N67 N80 N83, one behind the other. -/
import Derived.Test.YtlkcjmaiahnodaaGreatDoorYAR
import Derived.Test.YtlkcjmaiahnodaaGreatDoorYAE
import Derived.Test.YtlkcjmaiahnodaaGreatDoorYAL
import Derived.Test.YtlkcjmaiahnodaaGreatDoorYAP
set_option maxRecDepth 100000
set_option maxHeartbeats 8000000
set_option linter.unusedVariables false
set_option linter.unusedSimpArgs false
namespace Go.Proofs.YtlkcjmaiahnodaaGreatDoor
open Go.RowKit Go.Hw Go Tm
section
open Go.Sort Go.Proofs Go.ChangeMaps
def IK (S:Nat->Prop) (base:Nat) (z:Tm) (en:Int):PG.dN ((Option Addr×Nat)×Nat×(Nat->Prop)):=⟨fun x=> .tuple #[tV z (.slice x.1.1 z.kids.length x.1.2),.int .i64 en],fun x W=>ay (fun j=>S j\/x.2.2 j) W z.kids (.slice x.1.1 z.kids.length x.1.2)/\∀j,x.2.2 j->base<=j/\j<W.heap.size,fun x W W' h hE=>⟨h.1.ext hE,fun j hj=>⟨(h.2 j hj).1,ax (h.2 j hj).2 hE.size⟩⟩,fun x j=>x.2.2 j,fun x W k h e=>(h.2 k e).2⟩
theorem WE (l:List Rl) (t:Tm) (tr:List Rx) (lv v xv:Value) (w:World) (hL:iJ (fun k=>k<w.heap.size) w l lv) (hT:bG (fun k=>k<w.heap.size) w t v) (hX:l7 (fun k=>k<w.heap.size) (fun k=>k<w.heap.size) w xv tr) (hr:dA l=true) (ht:wf aB t=true) (hll:l.length<=1000000) (hls: ∀r∈l,r.1.size<=100000/\r.2.size<=100000) (hxl:tr.length<=1000000) (hxp: ∀x∈tr,x.2.length<=1000000):
  Calls Tryz.prog 48 #[lv,v,xv] w fun e w'=> ∃r,e= .returned (.tuple #[tV (lU l tr t 0).1 r,.int .i64 ((lU l tr t 0).2.1:Int),.int .i64 (lU l tr t 0).2.2])/\ay (fun k=>k<w'.heap.size) w' (lU l tr t 0).1.kids r/\Ext w w':=by
 obtain⟨Z,hZ⟩: ∃Z,lU l tr t 0=Z:=⟨_,rfl⟩
 rw[hZ];have Ih:=ae hZ;have lX:=ae ht;have xZ:=ae hX;have KQ:=ae (And.intro hxl hxp);have ZQ:=ae (fun(c:Tm) (cv:Value) (xi:Int) (xp:List Int) (pv:Value) (S:Nat->Prop) (W:World) (hW:Ext w W) (hc:bG S W c cv) (hS: ∀k,S k->k<W.heap.size) (hP:pG (fun k=>k<W.heap.size) W pv xp) (hcw:wf aB c=true) (hp:xp.length<=1000000)=>(ael (l:=l) (t:=c) (x:=(xi,xp)) hr hcw)▸agP l c xi xp lv cv pv S W ((hL.ext hW).weaken (fun k hk=>ax hk hW.size)) hc hS hP hr hcw hll hls hp);obtain⟨la,lc,rfl⟩:=hL.shape;obtain⟨xa,xc,rfl⟩:=hX.shape;obtain⟨a,cap,rfl,hTL⟩:=hT;have Cm:=((uR w).alloc (tO t a cap)).alloc zO;have dB:=ae Cm;have HB0:=ae (ak (aj w (tO t a cap)) zO);have HB1:=ae (alloc_at (w.alloc (tO t a cap)) zO (n:=w.heap.size+1) (by simp));have hz2:w.heap.size+2<=((w.alloc (tO t a cap)).alloc zO).heap.size:=by simp
 have DJ:=ae hz2;have HT0:Hid (ay (fun j=>j≠w.heap.size/\j≠w.heap.size+1/\j< ((w.alloc (tO t a cap)).alloc zO).heap.size) ((w.alloc (tO t a cap)).alloc zO) t.kids (.slice a t.kids.length cap)):=ae ((hTL.ext Cm).weaken (fun j hj=>⟨by omega,by omega,by omega⟩));dsimp only[tV] at ZQ⊢;clear hL hr ht hls hTL Cm hz2 hZ hX hxl hxp
 go_enter Tryz.func48,Tryz.ntmps48
 go_wp2_with fail
 generalize ((w.alloc (tO t a cap)).alloc zO)=w1 at*
 go_loopg [9] tr.length (fun gk iv wr=> ∃(k:Nat) (cur:Tm) (ca:Option Addr) (cc:Nat),iv= .int .i64 (k:Int)/\gk=tr.length-k/\k<=tr.length/\Hid (wr.heap[w.heap.size]?=some (tO cur ca cc))/\Hid (wr.heap[w.heap.size+1]?=some zO)/\Hid (ay (fun j=>j≠w.heap.size/\j≠w.heap.size+1/\j<wr.heap.size) wr cur.kids (.slice ca cur.kids.length cc))/\Hid (Ext w wr)/\Hid (w.heap.size+2<=wr.heap.size)/\Hid (wf aB cur=true)/\Hid (lU l (tr.drop k) cur k=Z))
 case atStart=>exact⟨0,t,a,cap,rfl,rfl,Nat.zero_le _,HB0,HB1,HT0,dB,DJ,lX,Ih⟩
 case round=>
  clear HB0 HB1 HT0 dB DJ lX Ih;obtain⟨k,cur,ca,cc,rfl,rfl,hk,HB0,HB1,yj,HE,HS,HW,zL⟩:=hrel;by_cases hlt:k<tr.length
  rotate_left
  .obtain rfl:k=tr.length:=by omega
   obtain rfl:Z=(cur,tr.length,0):=by rw[<-zL.out,List.drop_length];rfl
   have z2:decide ((tr.length:Int)< (tr.length:Int))=false:=dF (by omega);clear hlt zL;obtain⟨x0,x1,x2⟩:=af HB0.out;have f2:=fun i=>ai HB1.out i;obtain⟨d0,d1,d2⟩:=af HB1.out
   go_wp2_with fail
   have hr3:=aF HB1.out (.string cur.name) (.string cur.sort) (.slice ca cur.kids.length cc);have hu:=aC wr (w.heap.size+1) (.string cur.name) (.string cur.sort) (.slice ca cur.kids.length cc);obtain⟨e0,e1,e2⟩:=af hr3;refine bodyPost_ret (v:= .tuple #[.agg #[.string cur.name,.string cur.sort,.slice ca cur.kids.length cc],.int .i64 (tr.length),.int .i64 (0)]) (by simp[results,Tryz.results48,go_sem,e0,e1,e2]) rfl ?_;have hue:=HE.out.trans' hu (fun j hj e=>by omega);exact⟨.slice ca cur.kids.length cc,rfl,(yj.out.kept hu (fun j hj e=>by have:=hj.2.1;omega)).weaken (fun j hj=>ax hj.2.2 hu.size),hue⟩
  obtain⟨g,off,hga,hxg,hat⟩:=(xZ.out.ext HE.out).at_ (by omega);subst hga;obtain⟨pa,pc,q0,q1,hpx⟩:=hat k hlt;have hmem:=O6 hlt;have AY:=KQ.out.2 _ hmem;have hrg:=zL.out;rw[Ro tr k hlt] at hrg
  conv at hrg=>lhs;unfold lU
  obtain⟨⟨xi,xp⟩,hx⟩: ∃x,xg tr k=x:=⟨_,rfl⟩
  rw[hx] at q0 q1 hpx AY hrg;dsimp only at q0 q1 hpx AY;have hap: ∀W,Ext wr W->Calls Tryz.prog 121 #[.slice la l.length lc,.agg #[.string cur.name,.string cur.sort,.slice ca cur.kids.length cc],.agg #[.int .i64 xi,.slice pa xp.length pc]] W fun e w'=> ∃r,e= .returned (.tuple #[tV (mJ l cur (xi,xp)).1 r,.int .i64 (mJ l cur (xi,xp)).2])/\ay (fun k=>(k≠w.heap.size/\k≠w.heap.size+1/\k<wr.heap.size)\/(W.heap.size<=k/\k<w'.heap.size)) w' (mJ l cur (xi,xp)).1.kids r/\Ext W w':=fun W hW=>ZQ.out cur (tV cur (.slice ca cur.kids.length cc)) xi xp (.slice pa xp.length pc) (fun j=>j≠w.heap.size/\j≠w.heap.size+1/\j<wr.heap.size) W (HE.out.trans hW) ⟨ca,cc,rfl,yj.out.ext hW⟩ (fun k hk=>ax hk.2.2 hW.size) ((aA.kept hpx hW (fun _ _ h=>h)).weaken (fun k hk=>ax hk (HE.out.trans hW).size)) HW.out AY;have hgz:(mJ l cur (xi,xp)).2=0->wf aB (mJ l cur (xi,xp)).1=true:=fun h=>WG h;obtain⟨⟨nx,en⟩,hD⟩: ∃D,mJ l cur (xi,xp)=D:=⟨_,rfl⟩
  rw[hD] at hrg hap hgz;dsimp only at hap hgz;have rF:=ae hrg.symm;have uX:=ae hap;have KR:=ae hgz;obtain⟨z0,z1,z2,z2'⟩:=bJ hlt;obtain⟨n0,n1,n2⟩:=af HB0.out;clear hat hmem hrg hx hD AY zL hxg hap hgz hpx
  go_upto_region 4 with fail
  have x0:=fun x:XW wr=>x.ext.cell q0 (fun h=>h);have x1:=fun x:XW wr=>x.ext.cell q1 (fun h=>h);have m0:=fun x:XW wr=>x.ext.cell n0 (fun h=>h);have m1:=fun x:XW wr=>x.ext.cell n1 (fun h=>h);have m2:=fun x:XW wr=>x.ext.cell n2 (fun h=>h);clear q0 q1 n0 n1 n2;refine PG.bP (α:=(Option Addr×Nat)×Nat×(Nat->Prop)) 11 [9] 12 [(11,1),(12,2)] [[],[],[],[],[2,3],[2,3,4],[0,1,2,3,4,5],[0,1,2,3,4,5,6],[0,1,2,3,4,5,6,7],[0,1,2,3,4,5,6,7],[],[0,1,2,3,4,5,6,7,8,10],[0,1,2,3,4,5,6,7,8,9,10,11]]
   [none,none,none,none,none,none,some (IK (fun j=>j≠w.heap.size/\j≠w.heap.size+1/\j<wr.heap.size) wr.heap.size nx en),none,none,none,some (qB wr.heap.size zO)]
   [false,false,false,false,false,false,true,false,false,false,true] (by kernel_rfl) (by kernel_rfl) rfl (fun _ _ d _ _ h=>by cases d<;>exact h) ?_
  simp only[List.take_succ_cons,List.take_zero,fF,List.getElem?_cons_zero,List.getElem?_cons_succ]
  iterate 6(refine PG.aS rfl (fun K hK=>?_);go_simp;refine hK _ ?_;clear hK K)
  refine PG.aH _ rfl (by go_simp) (fun W hW hG K hK=>?_) (fun K z6 hK=>?_)
  .go_simp;refine(uX.out W hW).mono ?_;rintro e w' ⟨r,rfl,hT,hE⟩;obtain⟨a',c',hr⟩:=hT.shape;subst hr;exact hK ((a',c'),0,fun j=>W.heap.size<=j/\j<w'.heap.size) w' hE ⟨hT,fun j hj=>⟨Nat.le_trans hW.size hj.1,hj.2⟩⟩ (fun k e=>e.1)
  refine hK _ ?_;clear hK K;dsimp only[IK,qB]
  iterate 3(refine PG.aS rfl (fun K hK=>?_);go_simp;refine hK _ ?_;clear hK K)
  refine PG.aH _ rfl (by go_simp) (fun W hW hG K hK=>?_) (fun K z10 hK=>?_)
  .go_simp;exact hK ((none,0),W.heap.size,fun _=>False) _ ((uR W).alloc _) ⟨hW.size,aj _ _⟩ (fun k e=>by rw[e];exact Nat.le_refl _)
  refine hK _ ?_;clear hK K;dsimp only[IK,qB];refine PG.gJ (fun w8 hW hG ji=>?_);have g6:=hG _ (List.mem_append_left _ (List.mem_append_right _ (List.mem_singleton.2 rfl)));have g10:=hG _ (List.mem_append_right _ (List.mem_singleton.2 rfl));unfold PG.su PI.su at ji;simp only[List.nil_append,List.singleton_append,List.cons_append,List.pairwise_cons] at ji;have xG:=ji.1 _ (List.mem_cons_self ..);dsimp only[IK,qB] at g6 g10 xG;clear hG ji x0 x1 m0 m1 m2;obtain⟨l0,l1,l2⟩:=af g10.2;have fl:=fun i=>ai g10.2 i;have G6:=ae g6;have qp:=ae g10;have WA:=ae hW;have xH:=ae xG;clear g6 g10 hW xG;refine kE (fun K hK _=>?_) trivial;rw[if_pos (by rfl)];go_simp;refine hK _ _ trivial ?_;clear hK K;refine dM ?_;intro K hK;go_simp;refine hK _ _ ?_;clear hK K;simp only[bW];obtain⟨⟨na,nc⟩,zn,B6⟩:=z6;obtain⟨zq,bn,B10⟩:=z10;dsimp only at G6 qp xH l0 l1 l2 fl⊢;have Ea:=aF qp.out.2 (.string nx.name) (.string nx.sort) (.slice na nx.kids.length nc);have xI:=aC w8 bn (.string nx.name) (.string nx.sort) (.slice na nx.kids.length nc);clear l0 l1 l2 fl;generalize ((w8.setCell ⟨bn,0,none⟩ (.string nx.name)).setCell ⟨bn,1,none⟩ (.string nx.sort)).setCell ⟨bn,2,none⟩ (.slice na nx.kids.length nc)=w9 at*;have hbn:=qp.out.1;have nO:Ext wr w9:=WA.out.trans' xI (fun j hj e=>by omega);have fD:=ae (HE.out.trans nO);have tq:=ae (nO.heap HB0.out (fun h=>h));have lg:=ae (nO.heap HB1.out (fun h=>h));have Dn:=ae Ea;have mX:Hid (wr.heap.size<=bn):=ae hbn;have xu:Hid (ay (fun j=>j≠w.heap.size/\j≠w.heap.size+1/\j<w9.heap.size) w9 nx.kids (.slice na nx.kids.length nc)):=ae ((G6.out.1.kept xI (fun j hj e=>by
   rcases hj with hj|hj
   .have:=hj.2.2;omega
   .exact xH.out j hj e)).weaken (fun j hj=>by
   have h1:=nO.size;have h2:=HS.out;rcases hj with hj|hj
   .exact ⟨hj.1,hj.2.1,by have:=hj.2.2;omega⟩
   .have h3:=G6.out.2 j hj;have h4:=xI.size;exact⟨by omega,by omega,by omega⟩))
  have jy:=ae (Nat.le_trans HS.out nO.size);clear Ea xI G6 qp xH WA hbn nO HB0 HB1 uX yj;by_cases hen:en=0
  rotate_left
  .have u1:(en==0)=false:=beq_eq_false_iff_ne.2 hen;have u2:decide (en=0)=false:=dF hen;have u3:(en !=0)=true:=bne_iff_ne.2 hen;obtain rfl:Z=(a_,k,en):=by rw[rF.out];exact if_neg hen
   clear hen rF KR;have f2:=fun i=>ai lg.out i;obtain⟨d0,d1,d2⟩:=af lg.out
   go_wp2_with fail
   have hr3:=aF lg.out (.string ⟨#[]⟩) (.string ⟨#[]⟩) (.slice none 0 0);have hu:=aC w9 (w.heap.size+1) (.string ⟨#[]⟩) (.string ⟨#[]⟩) (.slice none 0 0);obtain⟨e0,e1,e2⟩:=af hr3;refine bodyPost_ret (v:= .tuple #[.agg #[.string ⟨#[]⟩,.string ⟨#[]⟩,.slice none 0 0],.int .i64 ((k:Int)),.int .i64 (en)]) (by simp[results,Tryz.results48,go_sem,e0,e1,e2]) rfl ?_;have hue:=fD.out.trans' hu (fun j hj e=>by omega);exact⟨.slice none 0 0,rfl,ay.nil _ _,hue⟩
  subst hen;have VU:=ae (KR.out rfl);have g_:Hid (lU l (tr.drop (k+1)) nx (k+1)=Z):=ae (by rw[rF.out];rfl);clear KR rF;have VV:=ae (aF tq.out (.string nx.name) (.string nx.sort) (.slice na nx.kids.length nc));have bQ:=ae (aC w9 w.heap.size (.string nx.name) (.string nx.sort) (.slice na nx.kids.length nc));have bU:=ae (fD.out.trans' bQ.out (fun j hj e=>by omega));have vN:=ae (bQ.out.heap lg.out (by omega));have Q3:=ae ((xu.out.kept bQ.out (fun j hj e=>hj.1 e)).weaken (fun j hj=>(⟨hj.1,hj.2.1,ax hj.2.2 bQ.out.size⟩:j≠w.heap.size/\j≠w.heap.size+1/\j<_)));have fO:Hid (w.heap.size+2<=_):=ae (Nat.le_trans jy.out bQ.out.size);have f7:=fun i=>ai tq.out i;obtain⟨n0,n1,n2⟩:=af Dn.out;obtain⟨x0,x1,x2⟩:=af tq.out;have hxl:=KQ.out.1
  go_wp2_with fail
  go_roundg (tr.length- (k+1))
  case measure=>omega
  case rel=>exact⟨k+1,nx,na,nc,by go_num,rfl,by omega,VV,vN,Q3,bU,fO,VU,g_⟩
theorem PO {l:List Rl} (h:D6 l=false):l.length<=110/\(∀r∈l,r.1.size<=1100/\r.2.size<=1100)/\(dA l=true->∀r∈l,r.2.size<=60):=by
 unfold D6 at h;simp only[Bool.or_eq_false_iff,decide_eq_false_iff_not] at h;have hg: ∀r∈l,uk r=false:=fun r hr=>by
  cases hgr:uk r with
  |false=>rfl
  |true=>
   have:l.any uk=true:=List.any_eq_true.2 ⟨r,hr,hgr⟩;rw[h.2] at this;cases this
 refine⟨by omega,fun r hr=>?_,fun hrt r hr=>?_⟩
 .have:=hg r hr;unfold uk at this;simp only[Bool.or_eq_false_iff] at this;exact⟨rH this.1.1.1,rH this.1.1.2⟩
 .have:=hg r hr;unfold uk at this;simp only[Bool.or_eq_false_iff] at this;obtain⟨i,hi,e⟩:=List.getElem_of_mem hr;have e2:Go.Hw.rg l i=r:=by unfold Go.Hw.rg;rw[List.getD_eq_getElem?_getD,List.getElem?_eq_getElem hi];exact e
  have hrr:=xC (Ap hrt hi);rw[e2] at hrr;have hf:=xQ hrr.2.1;have h2:=this.2;rw[hf,Bool.true_and,decide_eq_false_iff_not] at h2;omega
theorem PQ {t:Tm} (h:Kr t=false):t.size<=1100:=by
 unfold Kr at h;simp only[Bool.or_eq_false_iff] at h;exact rH h.1
theorem Rq {l:List Rl}: ∀{tr:List Rx} {t:Tm} {n:Nat},(lU l tr t n).2.2≠0->(lU l tr t n).1=a_
 |[],t,n,h=>absurd rfl h
 |x::tr,t,n,h=>by
  unfold lU at h⊢;by_cases hz:(mJ l t x).2=0
  .rw [if_pos hz] at h⊢;exact Rq h
  .rw [if_neg hz]
theorem agh (xi:Int) (xp:List Int) (pa:Option Addr) (pc:Nat) (w:World):
  Calls Tryz.prog 46 #[.agg #[.int .i64 xi,.slice pa xp.length pc]] w fun e w'=>e= .returned (.bool (decide (100<xp.length)))/\Ext w w':=by
 have hb:=aj w (.cells #[.int .i64 xi,.slice pa xp.length pc] 65);have HE:=ae ((uR w).alloc (.cells #[.int .i64 xi,.slice pa xp.length pc] 65));obtain⟨x0,x1⟩:=df hb;have hn:decide ((100:Int)< (xp.length:Int))=decide (100<xp.length):=decide_eq_decide.2 (by omega);clear hb
 go_enter Tryz.func46,Tryz.ntmps46
 go_wp2_with fail
 go_ret;exact⟨by first|rfl|rw[hn]|simp[hn],HE.out⟩
theorem YX (L:List Rx) (v:Value) (w:World) (hR:l7 (fun k=>k<w.heap.size) (fun k=>k<w.heap.size) w v L) (hl:L.length<=1000000):
  Calls Tryz.prog 114 #[v,.func (.func 46) #[] #[]] w fun e w'=> ∃r:Int,e= .returned (.int .i64 r)/\decide (0<=r)=(L.any fun x=>decide (100<x.2.length))/\Ext w w':=by
 obtain⟨a,cap,rfl⟩:=hR.shape;have HR:=ae hR;clear hR
 go_enter Tryz.func114,Tryz.ntmps114
 go_wp2_with fail
 go_loopg [8] L.length (fun gk iv wr=> ∃k:Nat,iv= .int .i64 (k:Int)/\gk=L.length-k/\k<=L.length/\Hid (Ext w wr)/\Hid ((L.take k).any (fun x=>decide (100<x.2.length))=false))
 case atStart=>exact⟨0,rfl,rfl,Nat.zero_le _,ae (au.refl _ _),ae rfl⟩
 case round=>
  obtain⟨k,rfl,rfl,hk,HE,HM⟩:=hrel;by_cases hlt:k<L.length
  .obtain ⟨g,off,hga,_,hat⟩:=(HR.out.ext HE.out).at_ (by omega);subst hga;obtain⟨pa,pc,q0,q1,_⟩:=hat k hlt;obtain⟨z0,z1,z2,z2'⟩:=bJ hlt;have hmem:=O6 hlt;have eu:=ae (agh (xg L k).1 (xg L k).2 pa pc wr);have HN:Hid (decide (100< (xg L k).2.length)=false->(L.take (k+1)).any (fun x=>decide (100<x.2.length))=false):=ae (fun h=>by
    rw[abH L k hlt,List.any_append,HM.out,List.any_cons,List.any_nil,h];rfl)
   have HY:Hid (decide (100< (xg L k).2.length)=true->(L.any fun x=>decide (100<x.2.length))=true):=ae (fun h=>List.any_eq_true.2 ⟨_,hmem,h⟩);obtain⟨⟨xi,xp⟩,hx⟩: ∃x,xg L k=x:=⟨_,rfl⟩
   rw[hx] at q0 q1 eu HN HY;dsimp only at q0 q1 eu HN HY;obtain⟨b,hb⟩: ∃b,decide (100<xp.length)=b:=⟨_,rfl⟩
   rw[hb] at eu HN HY;clear hat hmem hx hb HM
   go_wp2_with fail
   refine eu.out.mono ?_;rintro e w4 ⟨rfl,hw4⟩;have H4:=ae (HE.out.trans hw4);clear hw4 q0 q1 eu HE;cases b
   .have jh:=ae (HN.out rfl);clear HN HY
    go_wp2_with fail
    go_roundg (L.length- (k+1))
    case measure=>omega
    case rel=>exact⟨k+1,by go_num,rfl,by omega,H4,jh⟩
   .have yX:=ae (HY.out rfl);clear HN HY
    go_wp2_with fail
    go_ret;exact⟨_,rfl,by rw[yX.out];exact dT z0,H4.out⟩
  .obtain rfl:k=L.length:=by omega
   have z2:decide ((L.length:Int)< (L.length:Int))=false:=dF (by omega);have ku:=HM.out;rw[List.take_length] at ku;have EX:=ae ku;clear ku
   go_wp2_with fail
   go_ret;exact⟨_,rfl,by rw[EX.out];rfl,HE.out⟩
theorem YY (L:List Rx) (v:Value) (w:World) (hR:l7 (fun k=>k<w.heap.size) (fun k=>k<w.heap.size) w v L) (hl:L.length<=1000000):
  Calls Tryz.prog 45 #[v,.func (.func 46) #[] #[]] w fun e w'=>e= .returned (.bool (L.any fun x=>decide (100<x.2.length)))/\Ext w w':=by
 have HI:=ae (YX L v w hR hl);clear hR
 go_enter Tryz.func45,Tryz.ntmps45
 go_wp2_with fail
 refine HI.out.mono ?_;rintro e w4 ⟨r,rfl,hr,hw4⟩;have H4:=ae hw4;have HRR:=ae hr;clear hw4 hr
 go_wp2_with fail
 go_ret;rw[<-HRR.out];exact⟨rfl,H4.out⟩
theorem YZ (l:List Rl) (t:Tm) (tr:List Rx) (lv v xv:Value) (w:World) (hL:iJ (fun k=>k<w.heap.size) w l lv) (hlm:l.length<=maxLen) (hT:bG (fun k=>k<w.heap.size) w t v) (hX:l7 (fun k=>k<w.heap.size) (fun k=>k<w.heap.size) w xv tr) (htab:cO w):
  Calls Tryz.prog 10 #[lv,v,xv] w fun e w'=>e= .returned (.bool true)/\Ext w w':=by
 have BI:=ae hL;have tX:=ae hT;have xZ:=ae hX;have je:=ae htab;have HAW:=ae (fun W (hW:Ext w W)=>YN W (aJ htab hW));have Va:=ae (fun W (hW:Ext w W)=>abn l lv W ((hL.ext hW).weaken (fun k hk=>ax hk hW.size)) hlm);have HHV:=ae (fun W (hW:Ext w W)=>abe t v W ((hT.ext hW).weaken (fun k hk=>ax hk hW.size)));have HCX:=ae (fun(h:tr.length<=1000000) W (hW:Ext w W)=>YY tr xv W ((hX.ext hW).weaken (fun k hk=>ax hk hW.size) (fun k hk=>ax hk hW.size)) h);obtain⟨la,lc,rfl⟩:=hL.shape;obtain⟨ta,tc,rfl⟩:=hX.shape;obtain⟨a,cap,rfl,hTL⟩:=hT;have hE:=(uR w).alloc (tO t a cap);have HE:=ae hE;have HB:=ae (aj w (tO t a cap));dsimp only[tV] at HHV⊢;have cZ:=ae hTL;clear hL hTL htab hE hlm hX
 go_enter Tryz.func10,Tryz.ntmps10
 go_wp2_with fail
 generalize w.alloc (tO t a cap)=w1 at*;refine(HAW.out _ HE.out).mono ?_;rintro e w2 ⟨rfl,hw⟩;have HE2:=ae (HE.out.trans hw);have HB2:=ae (hw.heap HB.out (fun h=>h));clear hw HE HB HAW
 go_wp2_with fail
 refine(Va.out _ HE2.out).mono ?_;rintro e w3 ⟨rfl,hw⟩;have aT:=ae (HE2.out.trans hw);have HB3:=ae (hw.heap HB2.out (fun h=>h));clear hw HE2 HB2 Va;obtain⟨b1,hb1⟩: ∃b,D6 l=b:=⟨_,rfl⟩
 rw[hb1];cases b1 with
 |true=>
  have vC:=aT;clear hb1
  go_wp2_with fail
  go_ret;exact⟨rfl,vC.out⟩
 |false=>
  have hgs:=PO hb1;have Rt:=ae hgs;clear hb1 hgs;obtain⟨x0,x1,x2⟩:=af HB3.out
  go_wp2_with fail
  refine(HHV.out _ aT.out).mono ?_;rintro e w4 ⟨rfl,hw⟩;have bD:=ae (aT.out.trans hw);have HB4:=ae (hw.heap HB3.out (fun h=>h));clear hw aT HB3 HHV x0 x1 x2;obtain⟨b2,hb2⟩: ∃b,Kr t=b:=⟨_,rfl⟩
  rw[hb2];cases b2 with
  |true=>
   have vC:=bD;clear hb2
   go_wp2_with fail
   go_ret;exact⟨rfl,vC.out⟩
  |false=>
   have QQ:=ae (PQ hb2);clear hb2;by_cases hf1:40<tr.length/\tr.length<=2000
   .have t1:decide ((40:Int)< (tr.length:Int))=true:=dT (by omega);have t2:decide ((tr.length:Int)<=(2000:Int))=true:=dT (by omega);have vC:=bD;clear hf1
    go_wp2_with fail
    go_ret;exact⟨rfl,vC.out⟩
   .have htt:decide ((40:Int)< (tr.length:Int))=false\/(decide ((40:Int)< (tr.length:Int))=true/\decide ((tr.length:Int)<=(2000:Int))=false):=by
     by_cases h:(40:Int)< (tr.length:Int)
     .exact .inr ⟨dT h,dF (by omega)⟩
     .exact .inl (dF h)
    by_cases hf3:3000<tr.length
    .have t3:decide ((3000:Int)< (tr.length:Int))=true:=dT (by omega);have vC:=bD;clear hf1;rcases htt with t1|⟨t1,t2⟩
     all_goals
      go_wp2_with fail
      go_ret;exact⟨rfl,vC.out⟩
    have t3:decide ((3000:Int)< (tr.length:Int))=false:=dF (by omega);have mQ:=ae hf1;have HF3:=ae hf3;have HCY:=ae (HCX.out (by omega) _ bD.out);clear HCX hf1 hf3;have Ue:=ae (fun(hp: ∀x∈tr,x.2.length<=100) W (hW:Ext w W)=>YV l t tr (.slice la l.length lc) (.agg #[.string t.name,.string t.sort,.slice a t.kids.length cap]) (.slice ta tr.length tc) W ((BI.out.ext hW).weaken (fun k hk=>ax hk hW.size)) ((tX.out.ext hW).weaken (fun k hk=>ax hk hW.size)) ((xZ.out.ext hW).weaken (fun k hk=>ax hk hW.size) (fun k hk=>ax hk hW.size)) (aJ je.out hW) (by have:=Rt.out.1;omega) (fun r hr=>by have:=Rt.out.2.1 r hr;omega) Rt.out.2.2 (by have:=QQ.out;omega) (by have:=HF3.out;omega) (fun x hx=>by have:=hp x hx;omega));obtain⟨Z,hZ⟩: ∃Z,xN l t tr=Z:=⟨_,rfl⟩
    have HZ:=ae hZ;rw[hZ] at Ue;obtain⟨x,n,en⟩:=Z;dsimp only[tV] at Ue;have Y0:Hid ((tr.any fun x=>decide (100<x.2.length))=false->∀x∈tr,x.2.length<=100):=ae (fun h x hx=>by
     rw[List.any_eq_false] at h;have:=h x hx;simpa using this)
    obtain⟨b3,hb3⟩: ∃b,(tr.any fun x=>decide (100<x.2.length))=b:=⟨_,rfl⟩
    rw[hb3] at HCY Y0;clear hZ hb3;rcases htt with t1|⟨t1,t2⟩
    all_goals
     go_wp2_with fail
     refine HCY.out.mono ?_;rintro e w5 ⟨rfl,hw⟩;have di:=ae (bD.out.trans hw);have dW:=ae (hw.heap HB4.out (fun h=>h));clear hw bD HB4 HCY;cases b3
     rotate_left
     .have vC:=di
      go_wp2_with fail
      go_ret;exact⟨rfl,vC.out⟩
     have KQ:=ae (Y0.out rfl);have BF:=ae (Ue.out KQ.out);clear Y0 Ue t1 t3
     try clear t2
     obtain⟨x0,x1,x2⟩:=af dW.out
     go_wp2_with fail
     refine(BF.out _ di.out).mono ?_;rintro e w6 ⟨r,rfl,hTx,hw6⟩;obtain⟨xa,xc,hr⟩:=hTx.shape;subst hr;have hX:=hw6.alloc (tO x xa xc);have dS:=ae (di.out.trans hX);have gX:=ae (hX.heap dW.out (fun h=>h));have sQ:=ae (aj w6 (tO x xa xc));have agk:=ae ((hTx.ext ((uR w6).alloc (tO x xa xc))).weaken (fun k hk=>(ax hk.2 ((uR w6).alloc (tO x xa xc)).size:k< (w6.alloc (tO x xa xc)).heap.size)));obtain⟨xb,hxb⟩: ∃n,w6.heap.size=n:=⟨_,rfl⟩
     rw[hxb] at sQ;clear hX hw6 hTx BF di dW x0 x1 x2
     go_upto_region 6 with fail
     try rw[hxb]
     clear hxb;generalize w6.alloc (tO x xa xc)=w7 at*;have hX:=(uR w7).alloc (tO t a cap);have bU:=ae (dS.out.trans hX);have jK:=ae (hX.heap gX.out (fun h=>h));have Qz:=ae (hX.heap sQ.out (fun h=>h));have agl:=ae ((agk.out.ext hX).weaken (fun k hk=>(ax hk hX.size:k< (w7.alloc (tO t a cap)).heap.size)));have GX:=ae (abj l 0 [t] (.slice la l.length lc) (.slice (some ⟨w7.heap.size,0,none⟩) 1 1) _ (fun k=>k< (w7.alloc (tO t a cap)).heap.size) (w7.alloc (tO t a cap)) (BI.out.ext bU.out) (lu (aj w7 (tO t a cap)) (by simp) ((cZ.out.ext bU.out).weaken (fun k hk=>ax hk bU.out.size))) (by have:=Rt.out.1;omega) (by decide) (by simp));obtain⟨x0,x1,x2⟩:=af gX.out;clear hX dS
     go_wp2_with fail
     generalize w7.alloc (tO t a cap)=w8 at*;clear gX sQ agk x0 x1 x2;refine GX.out.mono ?_;rintro e w9 ⟨rfl,iy⟩;have fD:=ae (bU.out.trans iy);have lK:=ae (iy.heap jK.out (fun h=>h));have Kw:=ae (iy.heap Qz.out (fun h=>h));have agm:=ae ((agl.out.ext iy).weaken (fun k hk=>(ax hk iy.size:k<w9.heap.size)));clear iy GX bU jK Qz agl;have Rw:=ae (fun W=>aej a_ xa xc W);dsimp only[tV] at Rw;obtain⟨f,hf⟩: ∃f,mG l 0 [t]=f:=⟨_,rfl⟩
     rw[hf];by_cases hf0:f=0
     rotate_left
     .have hf1:f=1:=by
       rw[<-hf] at hf0⊢;unfold mG at hf0⊢;split
       .rfl
       .rename_i h;rw[if_neg h] at hf0;exact absurd rfl hf0
      have hzz:=HZ.out;unfold xN at hzz;rw[if_neg (fun h=>hf0 (by rw[<-hf];unfold mG;simp[h.1,h.2]))] at hzz;injection hzz with e1 e2
      injection e2 with e2 e3
      subst e1 e2 e3;subst hf1;clear hf hf0;obtain⟨x0,x1,x2⟩:=af Kw.out
      go_wp2_with fail
      refine(Rw.out _).mono ?_;rintro e wz ⟨rfl,hwz⟩;have hb:(decide (a_.name=ah)&&decide (a_.sort=ah)&&decide (a_.kids.length=0))=true:=by decide
      rw[hb];have vC:=ae (fD.out.trans hwz);clear hb hwz Rw x0 x1 x2
      go_wp2_with fail
      go_ret;exact⟨rfl,vC.out⟩
     .subst hf0;obtain⟨hr0,hw0,_,_⟩:=Ie hf;have hzz:=HZ.out;unfold xN at hzz;rw[if_pos ⟨hr0,hw0⟩] at hzz;clear hf;by_cases h20:2000<tr.length
      .rw [if_pos h20] at hzz;injection hzz with e1 e2
       injection e2 with e2 e3
       subst e1 e2 e3;have t1:decide ((2000:Int)< (tr.length:Int))=true:=dT (by omega);clear h20 hr0 hw0;obtain⟨x0,x1,x2⟩:=af Kw.out
       go_wp2_with fail
       refine(Rw.out _).mono ?_;rintro e wz ⟨rfl,hwz⟩;have hb:(decide (a_.name=ah)&&decide (a_.sort=ah)&&decide (a_.kids.length=0))=true:=by decide
       rw[hb];have vC:=ae (fD.out.trans hwz);clear hb hwz Rw x0 x1 x2
       go_wp2_with fail
       go_ret;exact⟨rfl,vC.out⟩
      rw[if_neg h20] at hzz;have t1:decide ((2000:Int)< (tr.length:Int))=false:=dF (by omega);have hbx:nZ [x]=false/\x.size<=1000:=by
       by_cases he:(lU l tr t 0).2.2=0
       .have h:=WH hw0 he;rw[hzz] at h;exact⟨agn h,nT h⟩
       .have h:=Rq he;rw[hzz] at h;dsimp only at h;rw[h];exact⟨abI,by decide⟩
      have g_:=ae (WE l t tr (.slice la l.length lc) (.agg #[.string t.name,.string t.sort,.slice a t.kids.length cap]) (.slice ta tr.length tc) w9 ((BI.out.ext fD.out).weaken (fun k hk=>ax hk fD.out.size)) ((tX.out.ext fD.out).weaken (fun k hk=>ax hk fD.out.size)) ((xZ.out.ext fD.out).weaken (fun k hk=>ax hk fD.out.size) (fun k hk=>ax hk fD.out.size)) hr0 hw0 (by have:=Rt.out.1;omega) (fun r hr=>by have:=Rt.out.2.1 r hr;omega) (by have:=HF3.out;omega) (fun x hx=>by have:=KQ.out x hx;omega));rw[hzz] at g_;dsimp only[tV] at g_;have jo:=ae hbx;clear hr0 hw0 hzz hbx h20 Rw;obtain⟨x0,x1,x2⟩:=af lK.out
      go_wp2_with fail
      refine g_.out.mono ?_;rintro e wa ⟨r,rfl,hTy,vV⟩;obtain⟨ya,yc,hr⟩:=hTy.shape;subst hr;have hX:=vV.alloc (tO x ya yc);have WC:=ae (fD.out.trans hX);have HXa:=ae (hX.heap Kw.out (fun h=>h));have HYa:=ae (aj wa (tO x ya yc));have agr:=ae ((agm.out.ext hX).weaken (fun k hk=>(ax hk hX.size:k< (wa.alloc (tO x ya yc)).heap.size)));have ags:=ae ((hTy.ext ((uR wa).alloc (tO x ya yc))).weaken (fun k hk=>(ax hk ((uR wa).alloc (tO x ya yc)).size:k< (wa.alloc (tO x ya yc)).heap.size)));obtain⟨yb,hyb⟩: ∃n,wa.heap.size=n:=⟨_,rfl⟩
      rw[hyb] at HYa;clear hX vV hTy g_ fD lK Kw agm x0 x1 x2 t1;dsimp only
      go_upto_region 12 with fail
      try rw[hyb]
      clear hyb;generalize wa.alloc (tO x ya yc)=wb at*;have hX:=(uR wb).alloc (tO x xa xc);have HEc:=ae (WC.out.trans hX);have HXc:=ae (hX.heap HXa.out (fun h=>h));have HYc:=ae (hX.heap HYa.out (fun h=>h));have Y1:=ae ((agr.out.ext hX).weaken (fun k hk=>(ax hk hX.size:k< (wb.alloc (tO x xa xc)).heap.size)));have agt:=ae ((ags.out.ext hX).weaken (fun k hk=>(ax hk hX.size:k< (wb.alloc (tO x xa xc)).heap.size)));have DR:=ae (Lp [x] (.slice (some ⟨wb.heap.size,0,none⟩) 1 1) (fun k=>k< (wb.alloc (tO x xa xc)).heap.size) (wb.alloc (tO x xa xc)) (lu (aj wb (tO x xa xc)) (by simp) Y1.out) (fun k hk=>hk) (by simp));rw[jo.out.1] at DR;obtain⟨x0,x1,x2⟩:=af HXa.out;clear hX
      go_wp2_with fail
      generalize wb.alloc (tO x xa xc)=wc at*;clear HXa HYa agr ags WC x0 x1 x2;refine DR.out.mono ?_;rintro e wd ⟨rfl,hwd⟩;have qY:=ae (wZ x x (.agg #[.string x.name,.string x.sort,.slice xa x.kids.length xc]) (.agg #[.string x.name,.string x.sort,.slice ya x.kids.length yc]) _ _ wd ⟨xa,xc,rfl,Y1.out.ext hwd⟩ ⟨ya,yc,rfl,agt.out.ext hwd⟩ (by have:=jo.out.2;omega));have HEd:=ae (HEc.out.trans hwd);have HXd:=ae (hwd.heap HXc.out (fun h=>h));have HYd:=ae (hwd.heap HYc.out (fun h=>h));clear hwd DR HEc HXc HYc Y1 agt;obtain⟨x0,x1,x2⟩:=af HXd.out;obtain⟨y0,y1,y2⟩:=af HYd.out
      go_wp2_with fail
      refine qY.out.mono ?_;rintro e we ⟨he,hwe⟩;obtain rfl:e= .returned (.bool true):=by simpa using he
      have vC:=ae (HEd.out.trans hwe);have t4:(en==en)=true:=beq_self_eq_true _;have t5:decide (en=en)=true:=dT rfl;have t6:((n:Int)==(n:Int))=true:=beq_self_eq_true _;have t7:decide ((n:Int)=(n:Int))=true:=dT rfl;clear hwe qY he x0 x1 x2 y0 y1 y2
      go_wp2_with fail
      go_ret;exact⟨rfl,vC.out⟩
end
end Go.Proofs.YtlkcjmaiahnodaaGreatDoor
