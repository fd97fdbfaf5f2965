/- The texts I98 N72 N73 N24 N25 N26, one behind the other. -/
import Derived.Test.YtlkcjmaiahnodaaGreatDoorYAH
import Derived.Test.YtlkcjmaiahnodaaGreatDoorYAK
import Derived.Test.YtlkcjmaiahnodaaGreatDoorYAE
set_option maxRecDepth 100000
set_option maxHeartbeats 8000000
set_option linter.unusedVariables false
set_option linter.unusedSimpArgs false
namespace Go.Proofs.YtlkcjmaiahnodaaGreatDoor
open Go.RowKit Go.Hw Go Tm
theorem WY (a:Option Addr) (n c:Nat) (w:World) (hn:n<=c) (hl:n<=1000000) (ha:a=none->n=0/\c=0):Calls Tryz.prog 211 #[.slice a n c] w fun e w'=>e= .returned (.slice a n n)/\Ext w w':=by
 have z0:(0:Int)<=(n:Int):=by omega
 have z1:(n:Int)<=(c:Int):=by omega
 have hn2:((n:Int)).toNat=n:=by omega
 cases a with
 |none=>
  obtain⟨rfl,rfl⟩:=ha rfl
  go_enter Tryz.func211,Tryz.ntmps211
  go_wp2_with fail
  go_ret;exact⟨rfl,aC.refl _ _⟩
 |some b=>
  go_enter Tryz.func211,Tryz.ntmps211
  go_wp2_with fail
  go_ret;exact⟨rfl,aC.refl _ _⟩
theorem acR (l:List Nat) (v:Value) (S:Nat->Prop) (w:World) (hR:aG S w 1 v l.length (l.map (fun i:Nat=>Value.int .i64 (i:Int)))) (hl:l.length<=1000000):
  Calls Tryz.prog 210 #[v] w fun e w'=> ∃r,e= .returned r/\aG (fun j=>w.heap.size<=j/\j<w'.heap.size) w' 1 r l.length (l.map (fun i:Nat=>Value.int .i64 (i:Int)))/\Ext w w':=by
 have hown: ∀(w':World) (r:Value),w'.ownsRow w.heap.size 3 1 r l.length (l.map (fun i:Nat=>Value.int .i64 (i:Int)))->aG (fun j=>w.heap.size<=j/\j<w'.heap.size) w' 1 r l.length (l.map (fun i:Nat=>Value.int .i64 (i:Int))):=fun w' r h=>(aG.fM h).weaken (fun j hj=>⟨(h.lt j hj).1,(h.lt j hj).2⟩);obtain⟨a,cap,rfl⟩:=aG.shape hR;by_cases h0:0<l.length
 .obtain ⟨g,off,hga,_,hat⟩:=aG.Ef (d:=(0:Nat)) hR h0;subst hga;refine(Tryz.slices_Clone_int g off l.length cap (l.map fun i:Nat=>(i:Int)) w (by simp) (by omega) (fun j hj=>?_)).mono ?_
  .have hj':j<l.length:=by simpa using hj
   have h1:=hat j hj';rw[h1];simp[List.getD_eq_getElem?_getD,List.getElem?_eq_getElem hj']
  .rintro e w' ⟨v',rfl,h1,_,h2⟩;rw[List.take_of_length_le (by simp),List.map_map] at h1;exact⟨v',rfl,hown w' v' h1,zy h2⟩
 .have hl0:l=[]:=List.eq_nil_of_length_eq_zero (by omega);subst hl0;cases a with
  |none=>
   refine(Tryz.slices_Clone_int_nil 0 cap w).mono ?_;rintro e w' ⟨rfl,rfl⟩;exact⟨_,rfl,aG.nil _ _ _,aC.refl _ _⟩
  |some a=>
   refine(Tryz.slices_Clone_int_zero a cap w).mono ?_;rintro e w' ⟨v',rfl,h1,_,h2⟩;exact⟨v',rfl,hown w' v' h1,zy h2⟩
def fq (o:Option (Nat×List Nat×Tm)) (P:List Nat):List Nat:=match o with|some x=>P++x.2.1|none=>[]
def fi (o:Option (Nat×List Nat×Tm)):Nat:=match o with|some x=>x.1|none=>0
def ft (o:Option (Nat×List Nat×Tm)):Tm:=match o with|some x=>x.2.2|none=>default
structure SS (o:Option (Nat×List Nat×Tm)) (P:List Nat) (x:(Option Addr×Nat)×Option Addr×Nat) (B:Nat->Prop) (w':World):Prop where
 path:aG B w' 1 (.slice x.1.1 (fq o P).length x.1.2) (fq o P).length ((fq o P).map (fun i:Nat=>Value.int .i64 (i:Int)))
 part:aP 24 w' B (ft o).kids (.slice x.2.1 (ft o).kids.length x.2.2)
def Dh (o:Option (Nat×List Nat×Tm)) (P:List Nat) (x:(Option Addr×Nat)×Option Addr×Nat):Value:= .tuple #[.agg #[.int .i64 (fi o:Int),.slice x.1.1 (fq o P).length x.1.2],.agg #[.string (ft o).name,.string (ft o).sort,.slice x.2.1 (ft o).kids.length x.2.2],.bool o.isSome]
theorem SS.ext {o:Option (Nat×List Nat×Tm)} {P:List Nat} {x:(Option Addr×Nat)×Option Addr×Nat} {B:Nat->Prop} {w w':World} (h:SS o P x B w) (hE:Ext w w'):SS o P x B w':=⟨aG.kept h.path hE (fun _ _ h=>h),h.part.kept hE (fun _ _ h=>h)⟩
abbrev FA:=(Option Addr×Nat)×(Option Addr×Nat)×(Nat->Prop)
def kC (v:Value):PG.dD FA:=⟨fun _=>v,fun _ _=>True,fun _ _ _ _ _=>trivial,fun _ _=>False,fun _ _ _ _ h=>h.elim⟩
def mQ (k:Nat):PG.dD FA:=⟨fun x=> .slice (some ⟨x.1.2,0,none⟩) 1 1,fun x W=>W.cell? ⟨x.1.2,0,none⟩=some (.int .i64 (k:Int)),fun x W W' h hE=>hE.cell h (fun h=>h),fun _ _=>False,fun _ _ _ _ h=>h.elim⟩
def wU (base n:Nat) (xs:List Value):PG.dD FA:=⟨fun x=> .slice (some ⟨x.1.2,0,none⟩) n x.2.1.2,fun x W=>base<=x.1.2/\x.1.2<W.heap.size/\aG (fun j=>j=x.1.2) W 1 (.slice (some ⟨x.1.2,0,none⟩) n x.2.1.2) n xs,fun x W W' h hE=>⟨h.1,aF h.2.1 hE.size,aG.kept h.2.2 hE (fun _ _ h=>h)⟩,fun x j=>j=x.1.2,fun x W k h e=>by rw[e];exact h.2.1⟩
def sZ (base:Nat) (o:Option (Nat×List Nat×Tm)) (P:List Nat):PG.dD FA:=⟨fun x=>Dh o P (x.1,x.2.1),fun x W=>SS o P (x.1,x.2.1) x.2.2 W/\∀j,x.2.2 j->base<=j/\j<W.heap.size,fun x W W' h hE=>⟨h.1.ext hE,fun j hj=>⟨(h.2 j hj).1,aF (h.2 j hj).2 hE.size⟩⟩,fun x j=>x.2.2 j,fun x W k h e=>(h.2 k e).2⟩
def uI (base:Nat) (c:Obj):PG.dD FA:=⟨fun x=> .pointer (some ⟨x.1.2,0,none⟩),fun x W=>base<=x.1.2/\W.heap[x.1.2]?=some c,fun x W W' h hE=>⟨h.1,hE.heap h.2 (fun h=>h)⟩,fun x j=>j=x.1.2,fun x W k h e=>by rw[e];exact(Array.getElem?_eq_some_iff.1 h.2).1⟩
theorem Sl (l:List Rl) (hll:l.length<=1000000) (hls: ∀r∈l,r.1.size<=100000/\r.2.size<=100000): ∀(t:Tm) (v lv pv:Value) (S T U:Nat->Prop) (P:List Nat) (w:World),bQ T w t v->jq S w l lv->aG U w 1 pv P.length (P.map (fun i:Nat=>Value.int .i64 (i:Int)))->(∀k,S k->k<w.heap.size)->(∀k,T k->k<w.heap.size)->t.size<=100000->P.length+t.size<=200000->
  Calls Tryz.prog 167 #[lv,v,pv] w fun e w'=> ∃x B,e= .returned (Dh (iw l t) P x)/\SS (iw l t) P x B w'/\(∀j,B j->w.heap.size<=j/\j<w'.heap.size)/\Ext w w':=by
 refine Tm.ind (fun nm so L ih=>?_);intro v lv pv S T U P w hT hR hP hS hT2 hsz hps;obtain⟨a,cap,rfl,hT⟩:=hT;obtain⟨la,lc,rfl⟩:=hR.shape;obtain⟨pa,pc,rfl⟩:=aG.shape hP;dsimp only[tV,Tm.name,Tm.sort,Tm.kids] at hT⊢;have dH:=ah hT;have WZ:=ah hR;have nS:=ah hP;have HIH:=ah ih;have HST:=ah (And.intro hS hT2);have xO:=ah hls;have fJ:sizes L+1<=100000:=by rw[size_eq] at hsz;simp only[Tm.kids] at hsz;omega
 have HSL:=ah fJ;have j_:L.length<=100000:=by have h1:=bG L;omega
 have xM:=ah j_;have kM:=ah (aG.clip nS.out).2;have En:=ah hps;have hpl:P.length<=200000:=by omega
 have dP:=ah ((((uR w).alloc (.cells #[.string nm,.string so,.slice a L.length cap] 24)).alloc (.cells #[.int .i64 0,.slice none 0 0] 65)).alloc zO);have HB0:=ah (aB (aB (ay w (.cells #[.string nm,.string so,.slice a L.length cap] 24)) (.cells #[.int .i64 0,.slice none 0 0] 65)) zO);have HB1:=ah (aB (alloc_at (w.alloc (.cells #[.string nm,.string so,.slice a L.length cap] 24)) (.cells #[.int .i64 0,.slice none 0 0] 65) (n:=w.heap.size+1) (by simp)) zO);have HB2:=ah (alloc_at ((w.alloc (.cells #[.string nm,.string so,.slice a L.length cap] 24)).alloc (.cells #[.int .i64 0,.slice none 0 0] 65)) zO (n:=w.heap.size+2) (by simp));have hz0:(((w.alloc (.cells #[.string nm,.string so,.slice a L.length cap] 24)).alloc (.cells #[.int .i64 0,.slice none 0 0] 65)).alloc zO).heap.size=w.heap.size+3:=by simp
 have HZ0:=ah hz0;obtain⟨V,hV⟩: ∃V,pI l 0 L=V:=⟨_,rfl⟩
 have HV:=ah hV;have hvv:=KG l nm so L;rw[hV] at hvv;have HVV:=ah hvv;have c2:=aj HB0.out 2 (.slice a L.length cap) rfl;clear ih hT hR hP hS hT2 hsz fJ hz0 hV hvv hps
 go_enter Tryz.func167,Tryz.ntmps167
 go_wp2_with fail
 clear c2;generalize (((w.alloc (.cells #[.string nm,.string so,.slice a L.length cap] 24)).alloc (.cells #[.int .i64 0,.slice none 0 0] 65)).alloc zO)=W0 at*
 go_loopg [21] L.length (fun gk iv wr=> ∃k:Nat,iv= .int .i64 (k:Int)/\gk=L.length-k/\k<=L.length/\Hid (pI l k (L.drop k)=V)/\Hid (Ext w wr)/\Hid (wr.heap[w.heap.size]?=some (.cells #[.string nm,.string so,.slice a L.length cap] 24 (0,0)))/\Hid (wr.heap[w.heap.size+1]?=some (.cells #[.int .i64 0,.slice none 0 0] 65 (0,0)))/\Hid (wr.heap[w.heap.size+2]?=some zO)/\Hid (w.heap.size+3<=wr.heap.size))
 case atStart=>exact⟨0,rfl,rfl,Nat.zero_le _,HV,dP,HB0,HB1,HB2,ah (by rw[HZ0.out];exact Nat.le_refl _)⟩
 case round=>
  clear HB0 HB1 HB2 dP HZ0 HV;obtain⟨k,rfl,rfl,hk,jc,HE,HB0,HB1,HB2,bU⟩:=hrel;by_cases hlt:k<L.length
  .obtain ⟨g,off,hga,_,hat⟩:=(dH.out.ext HE.out).at_ (by omega);subst hga;obtain⟨xa,xc,q0,q1,q2,aW⟩:=hat k hlt;rw[<-Nat.add_assoc] at q1 q2;obtain⟨z0,z1,z2,z2'⟩:=bZ hlt;have fO:=ah (jc.out.symm.trans (KH l L k hlt));have yH:=ah aW;have Eo:=ah (bY L k hlt);have jf:Hid ((tg L k).size<=100000/\P.length+1+(tg L k).size<=200000):=ah (by have h1:=HSL.out;have h2:=jy L k hlt;have h3:=fF L (k+1);have h4:=En.out;rw[size_eq] at h4;simp only[Tm.kids] at h4;omega);obtain⟨x,hx⟩: ∃x,tg L k=x:=⟨_,rfl⟩
   have HX:=ah hx;rw[hx] at q0 q1 q2 fO yH Eo jf;have hQ:=(uR wr).alloc (tO x xa xc);have mO:=ay wr (tO x xa xc);obtain⟨b0,b1,b2⟩:=ak mO;have HQ:=ah hQ;have Ig:=ah (hQ.heap HB0.out (fun h=>h));have UY:=ah (hQ.heap HB1.out (fun h=>h));have UZ:=ah (hQ.heap HB2.out (fun h=>h));clear hat aW hx hQ mO jc HB0 HB1 HB2
   go_wp2_with fail
   generalize wr.alloc (tO x xa xc)=wq at*;have bf:=ah (fun W (hW:Ext wq W) (pv':Value) (U':Nat->Prop) (hP:aG U' W 1 pv' (P.length+1) (P.map (fun i:Nat=>Value.int .i64 (i:Int))++[.int .i64 (k:Int)]))=>HIH.out x Eo.out (.agg #[.string x.name,.string x.sort,.slice xa x.kids.length xc]) (.slice la l.length lc) pv' S T U' (P++[k]) W ⟨xa,xc,rfl,(yH.out.ext HQ.out).ext hW⟩ (WZ.out.ext ((HE.out.trans HQ.out).trans hW)) (by rw[List.length_append,List.map_append];exact hP) (fun j hj=>aF (HST.out.1 j hj) ((HE.out.trans HQ.out).trans hW).size) (fun j hj=>aF (HST.out.2 j hj) ((HE.out.trans HQ.out).trans hW).size) (jf.out).1 (by rw[List.length_append];exact jf.out.2));have HPQ:=ah (fun W (hW:Ext wq W)=>aG.kept nS.out ((HE.out.trans HQ.out).trans hW) (fun _ _ h=>h));have x0:=fun x:XW wq=>x.ext.cell b0 (fun h=>h);have x1:=fun x:XW wq=>x.ext.cell b1 (fun h=>h);have x2:=fun x:XW wq=>x.ext.cell b2 (fun h=>h);obtain⟨o,ho⟩: ∃o,iw l x=o:=⟨_,rfl⟩
   have HO:=ah ho;rw[ho] at bf fO;clear ho b0 b1 b2;refine PG.cu (α:=FA) 14 [10,11] 16 [(14,1),(15,1),(16,2)] [[],[],[],[2],[],[4],[2,3,4,5],[0,1,2,3,4,5,6],[0,1,2,3,4,5,6,7],[0,1,2,3,4,5,6,7,8],[0,1,2,3,4,5,6,7,8],[0,1,2,3,4,5,6,7,8],[],[],[0,1,2,3,4,5,6,7,8,9,12,13],[0,1,2,3,4,5,6,7,8,9,10,12,13,14],[0,1,2,3,4,5,6,7,8,9,10,11,12,13,14,15]]
    [none,none,none,some (kC (.slice pa P.length P.length)),none,some (mQ k),some (wU wq.heap.size (P.length+1) (P.map (fun i:Nat=>Value.int .i64 (i:Int))++[.int .i64 (k:Int)])),some (sZ wq.heap.size o (P++[k])),none,none,none,none,some (uI wq.heap.size (.cells #[.int .i64 0,.slice none 0 0] 65 (0,0))),some (uI wq.heap.size zO)]
    [false,false,false,true,false,true,true,true,false,false,false,false,true,true] (by kernel_rfl) (by kernel_rfl) rfl (fun _ _ d _ _ h=>by cases d<;>exact h) ?_
   simp only[List.take_succ_cons,List.take_zero,eG,List.getElem?_cons_zero,List.getElem?_cons_succ]
   iterate 3(refine PG.aX rfl (fun K hK=>?_);go_simp;refine hK _ ?_;clear hK K)
   refine PG.aO _ rfl (by go_simp) (fun W hW hG K hK=>?_) (fun K z3 hK=>?_)
   .go_simp;refine(WY pa P.length pc W kM.out.1 (by omega) kM.out.2).mono ?_;rintro e w' ⟨rfl,hE⟩;exact hK default _ hE trivial (fun k e=>e.elim)
   refine hK _ ?_;clear hK K;dsimp only[kC,mQ,wU,sZ,uI,Dh];refine PG.aX rfl (fun K hK=>?_);go_simp;refine hK _ ?_;clear hK K;refine PG.aO _ rfl (by go_simp) (fun W hW hG K hK=>?_) (fun K z5 hK=>?_)
   .go_simp;exact hK ((none,W.heap.size),default) _ ((uR W).alloc _) (aj (ay W _) 0 _ rfl) (fun k e=>e.elim)
   refine hK _ ?_;clear hK K;dsimp only[kC,mQ,wU,sZ,uI,Dh];refine PG.aO _ rfl (by go_simp) (fun W hW hG K hK=>?_) (fun K z6 hK=>?_)
   .have g5:=hG _ (List.mem_append_right _ (List.mem_singleton.2 rfl)) (by show(5:Nat)∈_;decide);obtain⟨iI,hi,hz0,hz1,hz2⟩:=info_parts N_;refine yI W (.tmp 30) (.tmp 32) 63 rfl 3 iI (.int .i64 0) 8 Tryz.underlying63 hi hz0 hz1 hz2 U pa P.length (P.map (fun i:Nat=>Value.int .i64 (i:Int))) rfl (aG.clip (HPQ.out W hW)).1 z5.1.2 1 (.int .i64 (k:Int)) rfl g5 (by unfold maxLen;omega) (by omega) ?_;intro c' w' hE hLT hS;exact hK ((none,W.heap.size),(none,c'),fun _=>False) w' hE ⟨hW.size,hLT,hS⟩ (fun k e=>by rw[e];exact Nat.le_refl _)
   refine hK _ ?_;clear hK K;dsimp only[kC,mQ,wU,sZ,uI,Dh];refine PG.aO _ rfl (by go_simp) (fun W hW hG K hK=>?_) (fun K z7 hK=>?_)
   .have g6:=hG _ (List.mem_append_right _ (List.mem_singleton.2 rfl)) (by show(6:Nat)∈_;decide);go_simp;refine(bf.out W hW _ _ g6.2.2).mono ?_;rintro e w' ⟨y,B,rfl,hF,hb,hE⟩;exact hK (y.1,y.2,B) w' hE ⟨hF,fun j hj=>⟨Nat.le_trans hW.size (hb j hj).1,(hb j hj).2⟩⟩ (fun k e=>(hb k e).1)
   refine hK _ ?_;clear hK K;dsimp only[kC,mQ,wU,sZ,uI,Dh]
   iterate 4(refine PG.aX rfl (fun K hK=>?_);go_simp;refine hK _ ?_;clear hK K)
   refine PG.aO _ rfl (by go_simp) (fun W hW hG K hK=>?_) (fun K z12 hK=>?_)
   .go_simp;exact hK ((none,W.heap.size),default) _ ((uR W).alloc _) ⟨hW.size,ay _ _⟩ (fun k e=>by rw[e];exact Nat.le_refl _)
   refine hK _ ?_;clear hK K;dsimp only[kC,mQ,wU,sZ,uI,Dh];refine PG.aO _ rfl (by go_simp) (fun W hW hG K hK=>?_) (fun K z13 hK=>?_)
   .go_simp;exact hK ((none,W.heap.size),default) _ ((uR W).alloc _) ⟨hW.size,ay _ _⟩ (fun k e=>by rw[e];exact Nat.le_refl _)
   refine hK _ ?_;clear hK K;dsimp only[kC,mQ,wU,sZ,uI,Dh];refine PG.iP (fun w8 hW hG mV=>?_);have g7:=hG _ (List.mem_append_left _ (List.mem_append_left _ (List.mem_append_right _ (List.mem_singleton.2 rfl))));have g12:=hG _ (List.mem_append_left _ (List.mem_append_right _ (List.mem_singleton.2 rfl)));have g13:=hG _ (List.mem_append_right _ (List.mem_singleton.2 rfl));unfold PG.yJ PI.yJ at mV;simp only[List.nil_append,List.singleton_append,List.cons_append,List.pairwise_cons] at mV;obtain⟨_,_,_,hp7,aeu,_⟩:=mV;have Zc:=hp7 _ (List.mem_cons_self ..);have Zd:=hp7 _ (List.mem_cons_of_mem _ (List.mem_cons_self ..));have U0:=aeu _ (List.mem_cons_self ..);dsimp only[kC,mQ,wU,sZ,uI] at g7 g12 g13 Zc Zd U0;clear hG hp7 aeu x0 x1 x2 q0 q1 q2;obtain⟨k0,k1⟩:=bT g12.2;obtain⟨l0,l1,l2⟩:=ak g13.2;have fk:=fun i=>aA g12.2 i;have fl:=fun i=>aA g13.2 i;have hne:z12.1.2≠z13.1.2:=fun e=>U0 z12.1.2 rfl e;have G7:=ah g7;have SV:=ah g12;have G13:=ah g13;have HW:=ah hW;have Ze:=ah Zc;have Zf:=ah Zd;clear g7 g12 g13 hW Zc Zd U0;refine mD (fun K hK _=>?_) trivial;rw[if_pos (by rfl)];go_simp;refine hK _ _ trivial ?_;clear hK K;refine mD (fun K hK _=>?_) trivial;rw[if_pos (by rfl)];go_simp;refine hK _ _ trivial ?_;clear hK K;refine eP ?_;intro K hK;go_simp;refine hK _ _ ?_;clear hK K;simp only[cO];have aew:((w8.setCell ⟨z12.1.2,0,none⟩ (.int .i64 (fi o:Int))).setCell ⟨z12.1.2,1,none⟩ (.slice z7.1.1 (fq o (P++[k])).length z7.1.2)).heap[z12.1.2]?=some (.cells #[.int .i64 (fi o:Int),.slice z7.1.1 (fq o (P++[k])).length z7.1.2] 65 (0,0)):=by simpa using setBlock (setBlock SV.out.2 0 (.int .i64 (fi o:Int))) 1 (.slice z7.1.1 (fq o (P++[k])).length z7.1.2)
   have Zg:aC (fun j=>j=z12.1.2) w8 ((w8.setCell ⟨z12.1.2,0,none⟩ (.int .i64 (fi o:Int))).setCell ⟨z12.1.2,1,none⟩ (.slice z7.1.1 (fq o (P++[k])).length z7.1.2)):=((aC.refl (fun j=>j=z12.1.2) w8).setCell (p:=⟨z12.1.2,0,none⟩) (.inl rfl) _).setCell (p:=⟨z12.1.2,1,none⟩) (.inl rfl) _;generalize (w8.setCell ⟨z12.1.2,0,none⟩ (.int .i64 (fi o:Int))).setCell ⟨z12.1.2,1,none⟩ (.slice z7.1.1 (fq o (P++[k])).length z7.1.2)=w9 at*;have aex:=kT (Zg.heap G13.out.2 (fun e=>hne e.symm)) (.string (ft o).name) (.string (ft o).sort) (.slice z7.2.1.1 (ft o).kids.length z7.2.1.2);have Zh:=iK w9 z13.1.2 (.string (ft o).name) (.string (ft o).sort) (.slice z7.2.1.1 (ft o).kids.length z7.2.1.2);generalize ((w9.setCell ⟨z13.1.2,0,none⟩ (.string (ft o).name)).setCell ⟨z13.1.2,1,none⟩ (.string (ft o).sort)).setCell ⟨z13.1.2,2,none⟩ (.slice z7.2.1.1 (ft o).kids.length z7.2.1.2)=wA at*;have Ep:=ah (Zh.heap aew hne);have lH:=ah aex;have W9:aC (fun j=>j=z12.1.2\/j=z13.1.2) w8 wA:=(Zg.mono (fun _ _ h=> .inl h)).trans (Zh.mono (fun _ _ h=> .inr h));have oh:Hid (Ext wq wA):=ah (HW.out.trans' W9 (fun j hj h=>by have h1:=SV.out.1;have h2:=G13.out.1;omega));have Jc:Hid (SS o (P++[k]) (z7.1,z7.2.1) z7.2.2 wA/\∀j,z7.2.2 j->wq.heap.size<=j/\j<wA.heap.size):=ah ⟨⟨aG.kept G7.out.1.path W9 (fun j hj h=>by rcases h with h|h;exact Ze.out j hj h;exact Zf.out j hj h),G7.out.1.part.kept W9 (fun j hj h=>by rcases h with h|h;exact Ze.out j hj h;exact Zf.out j hj h)⟩,fun j hj=>⟨(G7.out.2 j hj).1,aF (G7.out.2 j hj).2 W9.size⟩⟩;have AV:Hid (Ext w wA):=ah ((HE.out.trans HQ.out).trans oh.out);have Zi:=ah (oh.out.heap Ig.out (fun h=>h));have zV:=ah (oh.out.heap UY.out (fun h=>h));have Es:=ah (oh.out.heap UZ.out (fun h=>h));have rO:Hid (w.heap.size+3<=wA.heap.size):=ah (Nat.le_trans bU.out (HQ.out.trans oh.out).size);have akU:Hid (w.heap.size+3<=z13.1.2):=ah (Nat.le_trans bU.out (Nat.le_trans HQ.out.size G13.out.1));clear k0 k1 l0 l1 l2 fk fl aew Zg aex Zh W9 hne G7 SV G13 HW Ze Zf;cases o with
   |none=>
    have iO:Hid (pI l (k+1) (L.drop (k+1))=V):=ah fO.out.symm;have anP:=xM.out;simp only[Option.isSome_none]
    go_wp2_with fail
    go_roundg (L.length- (k+1))
    case measure=>omega
    case rel=>exact⟨k+1,by go_num,rfl,by omega,iO,AV,Zi,zV,Es,rO⟩
   |some y=>
    obtain⟨k0,k1⟩:=bT Ep.out;obtain⟨l0,l1,l2⟩:=ak lH.out;obtain⟨r0,r1⟩:=bT zV.out;obtain⟨d0,d1,d2⟩:=ak Es.out;have fr:=fun i=>aA zV.out i;have fd:=fun i=>aA Es.out i;have je:=((aC.refl (fun j=>j=w.heap.size+1) wA).setCell (p:=⟨w.heap.size+1,0,none⟩) (.inl rfl) (.int .i64 (fi (some y):Int))).setCell (p:=⟨w.heap.size+1,1,none⟩) (.inl rfl) (.slice z7.1.1 (fq (some y) (P++[k])).length z7.1.2);have U1: ¬z13.1.2=w.heap.size+1:=by have:=akU.out;omega
    have hz2: ¬w.heap.size+2=w.heap.size+1:=by omega
    have m0:=je.cell l0 U1;have m1:=je.cell l1 U1;have m2:=je.cell l2 U1;have n0:=je.cell d0 hz2;have n1:=je.cell d1 hz2;have n2:=je.cell d2 hz2;have fe:=fun i=>aA (je.heap Es.out hz2) i;clear je U1 hz2;simp only[Option.isSome_some]
    go_wp2_with fail
    go_region
    all_goals (go_wp2_with fail)
    have hb1:((wA.setCell ⟨w.heap.size+1,0,none⟩ (.int .i64 (fi (some y):Int))).setCell ⟨w.heap.size+1,1,none⟩ (.slice z7.1.1 (fq (some y) (P++[k])).length z7.1.2)).heap[w.heap.size+1]?=some (.cells #[.int .i64 (fi (some y):Int),.slice z7.1.1 (fq (some y) (P++[k])).length z7.1.2] 65 (0,0)):=by simpa using setBlock (setBlock zV.out 0 (.int .i64 (fi (some y):Int))) 1 (.slice z7.1.1 (fq (some y) (P++[k])).length z7.1.2)
    have hu1:aC (fun j=>j=w.heap.size+1) wA ((wA.setCell ⟨w.heap.size+1,0,none⟩ (.int .i64 (fi (some y):Int))).setCell ⟨w.heap.size+1,1,none⟩ (.slice z7.1.1 (fq (some y) (P++[k])).length z7.1.2)):=((aC.refl (fun j=>j=w.heap.size+1) wA).setCell (p:=⟨w.heap.size+1,0,none⟩) (.inl rfl) _).setCell (p:=⟨w.heap.size+1,1,none⟩) (.inl rfl) _;have OW:=ah (hu1.heap Es.out (by omega));clear k0 k1 l0 l1 l2 r0 r1 d0 d1 d2 fr fd m0 m1 m2 n0 n1 n2 fe;generalize (wA.setCell ⟨w.heap.size+1,0,none⟩ (.int .i64 (fi (some y):Int))).setCell ⟨w.heap.size+1,1,none⟩ (.slice z7.1.1 (fq (some y) (P++[k])).length z7.1.2)=wB at*;have hr2:=kT OW.out (.string (ft (some y)).name) (.string (ft (some y)).sort) (.slice z7.2.1.1 (ft (some y)).kids.length z7.2.1.2);have hu2:=iK wB (w.heap.size+2) (.string (ft (some y)).name) (.string (ft (some y)).sort) (.slice z7.2.1.1 (ft (some y)).kids.length z7.2.1.2);have hr1:=hu2.heap hb1 (by omega);have hu:aC (fun j=>j=w.heap.size+1\/j=w.heap.size+2) wA _:=(hu1.mono (fun _ _ h=> .inl h)).trans (hu2.mono (fun _ _ h=> .inr h));replace hu:=hu.drew;obtain⟨e0,e1⟩:=bT hr1;obtain⟨e2,e3,e4⟩:=ak hr2;have hq:fq (some (y.1,k::y.2.1,y.2.2)) P=fq (some y) (P++[k]):=by simp[fq]
    have hwq:w.heap.size+3<=wq.heap.size:=Nat.le_trans bU.out HQ.out.size;refine bodyPost_ret (v:= .tuple #[.agg #[.int .i64 (fi (some y):Int),.slice z7.1.1 (fq (some y) (P++[k])).length z7.1.2],.agg #[.string (ft (some y)).name,.string (ft (some y)).sort,.slice z7.2.1.1 (ft (some y)).kids.length z7.2.1.2],.bool true]) (by simp[results,Tryz.results167,go_sem,e0,e1,e2,e3,e4]) rfl ⟨(z7.1,z7.2.1),z7.2.2,?_,?_,?_,?_⟩
    .rw [HVV.out,fO.out];simp only[Dh,hq];rfl
    .rw [HVV.out,fO.out];refine⟨?_,Jc.out.1.part.kept hu (fun j hj e=>by have h1:=(Jc.out.2 j hj).1;omega)⟩;simp only[hq];exact aG.kept Jc.out.1.path hu (fun j hj e=>by have h1:=(Jc.out.2 j hj).1;omega)
    .exact fun j hj=>⟨by have h1:=(Jc.out.2 j hj).1;omega,aF (Jc.out.2 j hj).2 hu.size⟩
    .exact AV.out.trans' hu (fun j hj e=>by omega)
  .obtain rfl:k=L.length:=by omega
   have z2:decide ((L.length:Int)< (L.length:Int))=false:=dF (by omega);have hvn:V=none:=by
    rw[<-jc.out,List.drop_length];unfold pI;rfl
   have hvw:=HVV.out;rw[hvn] at hvw;have yK:Hid (iw l (mk nm so L)=(qX 0 l (mk nm so L)).map (fun x=>(x.1,[],x.2))):=ah hvw;obtain⟨V2,hV2⟩: ∃V2,qX 0 l (mk nm so L)=V2:=⟨_,rfl⟩
   rw[hV2] at yK;have nZ:=ah hV2;clear hvn hvw hV2 jc HVV HIH hk
   go_wp2_with fail
   obtain⟨wa,AU⟩: ∃wa,wa=wr:=⟨_,rfl⟩
   subst AU
   go_loopg [44] l.length (fun gk iv wr=> ∃k:Nat,iv= .int .i64 (k:Int)/\gk=l.length-k/\k<=l.length/\Hid (qX k (l.drop k) (mk nm so L)=V2)/\Hid (Ext w wr)/\Hid (wr.heap[w.heap.size]?=some (.cells #[.string nm,.string so,.slice a L.length cap] 24 (0,0)))/\Hid (wr.heap[w.heap.size+1]?=some (.cells #[.int .i64 0,.slice none 0 0] 65 (0,0)))/\Hid (wr.heap[w.heap.size+2]?=some zO)/\Hid (w.heap.size+3<=wr.heap.size))
   case atStart=>exact⟨0,rfl,rfl,Nat.zero_le _,nZ,HE,HB0,HB1,HB2,bU⟩
   case round=>
    clear HB0 HB1 HB2 HE bU nZ;obtain⟨k,rfl,rfl,hk,jc,HE,HB0,HB1,HB2,bU⟩:=hrel;by_cases hlt:k<l.length
    .obtain ⟨g,off,hga,_,hat⟩:=(WZ.out.ext HE.out).at_ (by omega);subst hga;obtain⟨xa,xc,ya,yc,q0,q1,q2,q3,q4,q5,hx,hy⟩:=hat k hlt;obtain⟨z0,z1,z2,z2'⟩:=bZ hlt;have fO:=ah (jc.out.symm.trans (KI l (mk nm so L) k hlt));have jf:=ah (xO.out _ (tZ hlt));have OX:=ah (And.intro hx hy);obtain⟨⟨x,y⟩,hxy⟩: ∃r,rg l k=r:=⟨_,rfl⟩
     rw[hxy] at q0 q1 q2 q3 q4 q5 fO jf OX;dsimp only at q0 q1 q2 q3 q4 q5 fO jf OX;have hQ:=(uR wr).alloc (.cells #[.string x.name,.string x.sort,.slice xa x.kids.length xc,.string y.name,.string y.sort,.slice ya y.kids.length yc] 146);have HQ:=ah hQ;have mO:=ay wr (.cells #[.string x.name,.string x.sort,.slice xa x.kids.length xc,.string y.name,.string y.sort,.slice ya y.kids.length yc] 146);obtain⟨b0,b1,b2,b3,b4,b5⟩:=fA mO;have Ig:=ah (hQ.heap HB0.out (fun h=>h));have UY:=ah (hQ.heap HB1.out (fun h=>h));have UZ:=ah (hQ.heap HB2.out (fun h=>h));obtain⟨t0,t1,t2⟩:=ak Ig.out;have Et:Hid (∀W,Ext (wr.alloc (.cells #[.string x.name,.string x.sort,.slice xa x.kids.length xc,.string y.name,.string y.sort,.slice ya y.kids.length yc] 146)) W->Calls Tryz.prog 119 #[.agg #[.string x.name,.string x.sort,.slice xa x.kids.length xc,.string y.name,.string y.sort,.slice ya y.kids.length yc],.agg #[.string nm,.string so,.slice a L.length cap]] W fun e w'=> ∃r,e= .returned r/\ApP (pG (x,y) (mk nm so L)) W.heap.size w' r/\Ext W w'):=ah (fun W hW=>acO x y (mk nm so L) _ _ xa ya xc yc S T W ((OX.out.1.ext HQ.out).ext hW) ((OX.out.2.ext HQ.out).ext hW) rfl ⟨a,cap,rfl,(dH.out.ext ((HE.out.trans HQ.out).trans hW))⟩ (fun j hj=>aF (HST.out.1 j hj) ((HE.out.trans HQ.out).trans hW).size) (fun j hj=>aF (HST.out.2 j hj) ((HE.out.trans HQ.out).trans hW).size) jf.out.1 jf.out.2 (by rw[size_eq];exact HSL.out));obtain⟨o,ho⟩: ∃o,pG (x,y) (mk nm so L)=o:=⟨_,rfl⟩
     rw[ho] at Et fO;clear hat hx hy hxy hQ mO jc HB0 HB1 HB2 ho
     go_wp2_with fail
     refine(Et.out _ (aC.refl _ _)).mono ?_;rintro e w4 ⟨rv,rfl,⟨r,B,rfl,hTl,hbd⟩,hw4⟩;obtain⟨tt,htt⟩: ∃tt,o.getD default=tt:=⟨_,rfl⟩
     obtain⟨bb,hbb⟩: ∃bb,o.isSome=bb:=⟨_,rfl⟩
     rw[htt] at hTl;dsimp only[tV];rw[htt,hbb];obtain⟨ra,rc,hr⟩:=aP.shape hTl;subst hr;have OY:=(uR w4).alloc (tO tt ra rc);have hb:=ay w4 (tO tt ra rc);have H5:=ah ((HQ.out.trans hw4).trans OY);have AV:=ah (HE.out.trans H5.out);have Zi:=ah ((hw4.trans OY).heap Ig.out (fun h=>h));have zV:=ah ((hw4.trans OY).heap UY.out (fun h=>h));have Es:=ah ((hw4.trans OY).heap UZ.out (fun h=>h));have rO:Hid (w.heap.size+3<=(w4.alloc (tO tt ra rc)).heap.size):=ah (Nat.le_trans bU.out H5.out.size);have SQ:=ah (hTl.kept OY (fun _ _ h=>h));have kK:Hid (∀j,B j->w.heap.size+3<=j/\j< (w4.alloc (tO tt ra rc)).heap.size):=ah (fun j hj=>⟨by have h1:=(hbd j hj).1;have h2:=HQ.out.size;have h3:=bU.out;omega,aF (hbd j hj).2 OY.size⟩);have Dp:Hid (w.heap.size+3<=w4.heap.size):=ah (Nat.le_trans bU.out (Nat.le_trans HQ.out.size hw4.size));have U2:=ah hb;clear b0 b1 b2 b3 b4 b5 t0 t1 t2 q0 q1 q2 q3 q4 q5 Et hTl hbd hw4 OY hb Ig UY UZ;obtain⟨n4,hn4⟩: ∃n4,w4.heap.size=n4:=⟨_,rfl⟩
     rw[hn4] at U2 Dp;cases bb with
     |false=>
      have hon:o=none:=by cases o with|none=>rfl|some u=>cases hbb
      subst hon;have iO:Hid (qX (k+1) (l.drop (k+1)) (mk nm so L)=V2):=ah fO.out.symm;clear U2 SQ kK H5 htt hbb hn4 fO
      go_wp2_with fail
      go_roundg (l.length- (k+1))
      case measure=>omega
      case rel=>exact⟨k+1,by go_num,rfl,by omega,iO,AV,Zi,zV,Es,rO⟩
     |true=>
      obtain⟨u,hou⟩: ∃u,o=some u:=by cases o with|none=>cases hbb|some u=>exact⟨u,rfl⟩
      subst hou;simp only[Option.getD_some] at htt;subst htt;clear hbb;have iO:Hid (V2=some (k,u)):=ah fO.out;have HWA:Hid (Ext (w4.alloc (tO u ra rc)) (w4.alloc (tO u ra rc))):=ah (aC.refl _ _);have akV:Hid (∀W,Ext (w4.alloc (tO u ra rc)) W->Calls Tryz.prog 210 #[.slice pa P.length pc] W fun e w'=> ∃ca cc,e= .returned (.slice ca P.length cc)/\aG (fun j=>(w4.alloc (tO u ra rc)).heap.size<=j/\j<w'.heap.size) w' 1 (.slice ca P.length cc) P.length (P.map (fun i:Nat=>Value.int .i64 (i:Int)))/\Ext (w4.alloc (tO u ra rc)) w'):=ah (fun W hW=>(acR P _ U W (aG.kept nS.out (AV.out.trans hW) (fun _ _ h=>h)) (by omega)).mono (by
       rintro e w' ⟨v',rfl,hS,hE⟩;obtain⟨ca,cc,hv⟩:=aG.shape hS;subst hv;exact⟨ca,cc,rfl,aG.weaken hS (fun j hj=>⟨Nat.le_trans hW.size hj.1,hj.2⟩),hW.trans hE⟩))
      obtain⟨g0,g1,g2⟩:=ak U2.out;have Az:Hid (¬n4=w.heap.size+1):=ah (by have:=Dp.out;omega);clear fO
      go_upto_region 13 with fail
      try rw[hn4]
      clear hn4;generalize w4.alloc (tO u ra rc)=wA at*
      go_region_law (first
       |(go_simp;refine(akV.out wA.drew HWA.out.drew).mono ?_;rintro e w5 ⟨ca,cc,rfl,hS5,hw5⟩;have nO:=ah hS5;have dh:=ah hw5;have U3:=ah (hw5.heap zV.out (fun h=>h));have aey:=ah (hw5.heap Es.out (fun h=>h));have U4:=hw5.heap U2.out (fun h=>h);have r0:=aj U3.out 0 (.int .i64 0) rfl;have r1:=aj U3.out 1 (.slice none 0 0) rfl;have fr:=fun i=>aA U3.out i;have k0:=aj U4 0 (.string u.name) rfl;have k1:=aj U4 1 (.string u.sort) rfl;have k2:=aj U4 2 (.slice ra u.kids.length rc) rfl;have je:=((aC.refl (fun j=>j=w.heap.size+1) w5).setCell (p:=⟨w.heap.size+1,0,none⟩) (.inl rfl) (.int .i64 (k:Int))).setCell (p:=⟨w.heap.size+1,1,none⟩) (.inl rfl) (.slice ca P.length cc);have hz2: ¬w.heap.size+2=w.heap.size+1:=(by omega);have m0:=je.cell k0 Az.out;have m1:=je.cell k1 Az.out;have m2:=je.cell k2 Az.out;have hb2:=je.heap aey.out hz2;have n0:=aj hb2 0 (.string ⟨#[]⟩) rfl;have n1:=aj hb2 1 (.string ⟨#[]⟩) rfl;have n2:=aj hb2 2 (.slice none 0 0) rfl;have fe:=fun i=>aA hb2 i;clear hS5 hw5 U4 je hz2 hb2))
      all_goals
       go_wp2_with fail
       have hb1:((w5.setCell ⟨w.heap.size+1,0,none⟩ (.int .i64 (k:Int))).setCell ⟨w.heap.size+1,1,none⟩ (.slice ca P.length cc)).heap[w.heap.size+1]?=some (.cells #[.int .i64 (k:Int),.slice ca P.length cc] 65 (0,0)):=by simpa using setBlock (setBlock U3.out 0 (.int .i64 (k:Int))) 1 (.slice ca P.length cc)
       have hu1:aC (fun j=>j=w.heap.size+1) w5 ((w5.setCell ⟨w.heap.size+1,0,none⟩ (.int .i64 (k:Int))).setCell ⟨w.heap.size+1,1,none⟩ (.slice ca P.length cc)):=((aC.refl (fun j=>j=w.heap.size+1) w5).setCell (p:=⟨w.heap.size+1,0,none⟩) (.inl rfl) _).setCell (p:=⟨w.heap.size+1,1,none⟩) (.inl rfl) _;have OW:=ah (hu1.heap aey.out (by omega));clear g0 g1 g2 k0 k1 k2 r0 r1 fr m0 m1 m2 n0 n1 n2 fe;generalize (w5.setCell ⟨w.heap.size+1,0,none⟩ (.int .i64 (k:Int))).setCell ⟨w.heap.size+1,1,none⟩ (.slice ca P.length cc)=wB at*;have hr2:=kT OW.out (.string u.name) (.string u.sort) (.slice ra u.kids.length rc);have hu2:=iK wB (w.heap.size+2) (.string u.name) (.string u.sort) (.slice ra u.kids.length rc);have hr1:=hu2.heap hb1 (by omega);have hu:aC (fun j=>j=w.heap.size+1\/j=w.heap.size+2) w5 _:=(hu1.mono (fun _ _ h=> .inl h)).trans (hu2.mono (fun _ _ h=> .inr h));obtain⟨e0,e1⟩:=bT hr1;obtain⟨e2,e3,e4⟩:=ak hr2;have hsz5:=rO.out;have akW:=dh.out.size;refine bodyPost_ret (v:= .tuple #[.agg #[.int .i64 (k:Int),.slice ca P.length cc],.agg #[.string u.name,.string u.sort,.slice ra u.kids.length rc],.bool true]) (by simp[results,Tryz.results167,go_sem,e0,e1,e2,e3,e4]) rfl ⟨((ca,cc),(ra,rc)),fun j=>(wA.heap.size<=j/\j<w5.heap.size)\/B j,?_,?_,?_,?_⟩
       .rw [yK.out,iO.out];simp only[Dh,Option.map_some,fq,fi,ft,List.append_nil];rfl
       .rw [yK.out,iO.out];refine⟨?_,?_⟩
        .simp only [Option.map_some,fq,List.append_nil];exact(aG.kept nO.out hu (fun j hj e=>by omega)).weaken (fun j hj=> .inl hj)
        .exact ((SQ.out.kept dh.out (fun _ _ h=>h)).kept hu (fun j hj e=>by have h1:=(kK.out j hj).1;omega)).weaken (fun j hj=> .inr hj)
       .rintro j (hj|hj)
        .exact ⟨by omega,aF hj.2 hu.size⟩
        .exact ⟨by have h1:=(kK.out j hj).1;omega,aF (kK.out j hj).2 (Nat.le_trans akW hu.size)⟩
       .exact (AV.out.trans dh.out).trans' hu (fun j hj e=>by omega)
    .obtain rfl:k=l.length:=by omega
     have z3:decide ((l.length:Int)< (l.length:Int))=false:=dF (by omega);have hvn:V2=none:=by
      rw[<-jc.out,List.drop_length];rfl
     have W_:Hid (iw l (mk nm so L)=none):=ah (by rw[yK.out,hvn];rfl);clear hvn jc yK;obtain⟨r0,r1⟩:=bT HB1.out;obtain⟨d0,d1,d2⟩:=ak HB2.out;have fr:=fun i=>aA HB1.out i;have je:=((aC.refl (fun j=>j=w.heap.size+1) wr).setCell (p:=⟨w.heap.size+1,0,none⟩) (.inl rfl) (.int .i64 0)).setCell (p:=⟨w.heap.size+1,1,none⟩) (.inl rfl) (.slice none 0 0);have hz2: ¬w.heap.size+2=w.heap.size+1:=by omega
     have n0:=je.cell d0 hz2;have n1:=je.cell d1 hz2;have n2:=je.cell d2 hz2;have fe:=fun i=>aA (je.heap HB2.out hz2) i;have hb1:((wr.setCell ⟨w.heap.size+1,0,none⟩ (.int .i64 0)).setCell ⟨w.heap.size+1,1,none⟩ (.slice none 0 0)).heap[w.heap.size+1]?=some (.cells #[.int .i64 0,.slice none 0 0] 65 (0,0)):=by simpa using setBlock (setBlock HB1.out 0 (.int .i64 0)) 1 (.slice none 0 0)
     have akX:=ah hb1;have OW:=ah (je.heap HB2.out hz2);have yL:=ah je;clear je hz2 hb1
     go_wp2_with fail
     clear r0 r1 d0 d1 d2 fr n0 n1 n2 fe;generalize (wr.setCell ⟨w.heap.size+1,0,none⟩ (.int .i64 0)).setCell ⟨w.heap.size+1,1,none⟩ (.slice none 0 0)=wB at*;have hr2:=kT OW.out (.string ⟨#[]⟩) (.string ⟨#[]⟩) (.slice none 0 0);have hu2:=iK wB (w.heap.size+2) (.string ⟨#[]⟩) (.string ⟨#[]⟩) (.slice none 0 0);have hr1:=hu2.heap akX.out (by omega);have hu:aC (fun j=>j=w.heap.size+1\/j=w.heap.size+2) wr _:=(yL.out.mono (fun _ _ h=> .inl h)).trans (hu2.mono (fun _ _ h=> .inr h));obtain⟨e0,e1⟩:=bT hr1;obtain⟨e2,e3,e4⟩:=ak hr2;refine bodyPost_ret (v:= .tuple #[.agg #[.int .i64 0,.slice none 0 0],.agg #[.string ⟨#[]⟩,.string ⟨#[]⟩,.slice none 0 0],.bool false]) (by simp[results,Tryz.results167,go_sem,e0,e1,e2,e3,e4]) rfl ⟨((none,0),(none,0)),fun _=>False,?_,?_,fun _ h=>h.elim,?_⟩
     .rw [W_.out];rfl
     .rw [W_.out];exact⟨aG.nil _ _ _,aP.nil _ _ _⟩
     .exact HE.out.trans' hu (fun j hj e=>by omega)
section
open Go.Sort Go.Proofs Go.ChangeMaps
mutual
def jo:Tm->List Nat->List (List Nat)
 | .mk _ s L,P=>if s=au then P::qF L 0 P else[]
def qF:List Tm->Nat->List Nat->List (List Nat)
 |[],_,_=>[]
 |x::L,i,P=>jo x (P++[i])++qF L (i+1) P
end
theorem adu (L:List Tm) (k:Nat) (P:List Nat) (h:k<L.length):qF (L.drop k) k P=jo (tg L k) (P++[k])++qF (L.drop (k+1)) (k+1) P:=by
 rw[Gt L k h]
 conv=>lhs;unfold qF
mutual
theorem IG: ∀(t:Tm) (P:List Nat),(jo t P).length<=t.size
 | .mk n s L,P=>by
  have h:=QU L 0 P;unfold jo;rw[size_eq];simp only[Tm.kids];split
  .rw [List.length_cons];omega
  .simp
theorem QU: ∀(L:List Tm) (i:Nat) (P:List Nat),(qF L i P).length<=sizes L
 |[],_,_=>by simp[qF]
 |x::L,i,P=>by
  have h1:=IG x (P++[i]);have h2:=QU L (i+1) P;unfold qF;rw[List.length_append];have:sizes (x::L)=x.size+sizes L:=by rw[sizes]
  omega
end
def xW (n0:Nat) (W:World) (v:Value) (l:List (List Nat)):Prop:= ∃us:List Value,us.length=l.length/\W.ownsRow n0 63 1 v l.length us/\∀i,i<l.length->aG (fun j=>n0<=j/\qU W j) W 1 (ug us i) (l.getD i []).length ((l.getD i []).map (fun i:Nat=>Value.int .i64 (i:Int)))
theorem own_base {n0 n1 e size n:Nat} {W:World} {v:Value} {xs:List Value} (h:W.ownsRow n1 e size v n xs) (hn:n0<=n1):W.ownsRow n0 e size v n xs:=by
 refine⟨h.1,?_⟩;rcases h.2 with h2|⟨g,cap,cur,h2,h3,h4⟩
 .exact .inl h2
 .exact .inr ⟨g,cap,cur,h2,Nat.le_trans hn h3,h4⟩
theorem xW.base {n0 n1:Nat} {W:World} {v:Value} {l:List (List Nat)} (h:xW n1 W v l) (hn:n0<=n1):xW n0 W v l:=by
 obtain⟨us,h1,h2,h3⟩:=h;exact⟨us,h1,own_base h2 hn,fun i hi=>(h3 i hi).weaken (fun j hj=>⟨Nat.le_trans hn hj.1,hj.2⟩)⟩
theorem xW.ext {n0:Nat} {W W':World} {v:Value} {l:List (List Nat)} (h:xW n0 W v l) (hE:Ext W W'):xW n0 W' v l:=by
 obtain⟨us,h1,h2,h3⟩:=h;exact⟨us,h1,bH h2 hE (fun _ _ h=>h),fun i hi=>(aG.kept (h3 i hi) hE (fun _ _ h=>h)).weaken (fun j hj=>⟨hj.1,hj.2.ext hE⟩)⟩
theorem xW.nil (n0:Nat) (W:World):xW n0 W tX []:=⟨[],rfl,⟨rfl,.inl ⟨rfl,rfl⟩⟩,fun i h=>by cases h⟩
theorem agQ {W:World} {S:Nat->Prop} {us:List Value} {l:List (List Nat)} (hl:us.length=l.length) (h: ∀i,i<l.length->aG S W 1 (ug us i) (l.getD i []).length ((l.getD i []).map (fun i:Nat=>Value.int .i64 (i:Int)))): ∀u∈us,u.oneCell'=true:=fun u hu=>by
 obtain⟨i,hi,e⟩:=List.getElem_of_mem hu;have h1:=h i (by omega);have h2:ug us i=u:=by unfold ug;rw[List.getD_eq_getElem?_getD,List.getElem?_eq_getElem hi];exact e
 rw[h2] at h1;obtain⟨a,c,h3⟩:=aG.shape h1;rw[h3];rfl
theorem Uo {W:World} {b n:Nat} {v:Value} {xs:List Value} (h:W.ownsRow b 63 1 v n xs) {k:Nat} (hk:v.ownBlock=some k): ¬qU W k:=fun⟨cs,fz,h4⟩=>by
 rcases h.2 with⟨e,_⟩|⟨g,cap,cur,e,_,h3,_⟩
 .rw [e] at hk;cases hk
 .rw [e] at hk;injection hk with hk
  rw[<-hk,h3] at h4;injection h4 with h4
  injection h4 with _ h4
  cases h4
theorem xW.app {n0:Nat} {W W':World} {v v':Value} {l l2:List (List Nat)} {us DJ:List Value} (h1:us.length=l.length) (h2:W.ownsRow n0 63 1 v l.length us) (h3: ∀i,i<l.length->aG (fun j=>n0<=j/\qU W j) W 1 (ug us i) (l.getD i []).length ((l.getD i []).map (fun i:Nat=>Value.int .i64 (i:Int)))) (g1:DJ.length=l2.length) (g3: ∀i,i<l2.length->aG (fun j=>n0<=j/\qU W j) W 1 (ug DJ i) (l2.getD i []).length ((l2.getD i []).map (fun i:Nat=>Value.int .i64 (i:Int)))) (hG:Grew n0 63 1 v (l.length+l2.length) (us++DJ) W W' v'):xW n0 W' v' (l++l2):=by
 have key: ∀{n:Nat} {u:Value} {xs:List Value},aG (fun j=>n0<=j/\qU W j) W 1 u n xs->aG (fun j=>n0<=j/\qU W' j) W' 1 u n xs:=fun h=>by
  refine(aG.kept h hG.upd (fun j hj e=>Uo h2 e hj.2)).weaken (fun j hj=>⟨hj.1,?_⟩);obtain⟨cs,fz,h⟩:=hj.2;exact⟨cs,fz,hG.upd.heap h (fun e=>Uo h2 e hj.2)⟩
 refine⟨us++DJ,by rw[List.length_append,List.length_append,h1,g1],by rw[List.length_append];exact hG.own,fun i hi=>?_⟩;by_cases e:i<l.length
 .have e1:(l++l2).getD i []=l.getD i []:=by rw[List.getD_eq_getElem?_getD,List.getD_eq_getElem?_getD,List.getElem?_append_left e]
  have e2:ug (us++DJ) i=ug us i:=by unfold ug;rw[List.getD_eq_getElem?_getD,List.getD_eq_getElem?_getD,List.getElem?_append_left (by rw[h1];exact e)]
  rw[e1,e2];exact key (h3 i e)
 .have e1:(l++l2).getD i []=l2.getD (i-l.length) []:=by rw[List.getD_eq_getElem?_getD,List.getD_eq_getElem?_getD,List.getElem?_append_right (by omega)]
  have e2:ug (us++DJ) i=ug DJ (i-l.length):=by unfold ug;rw[List.getD_eq_getElem?_getD,List.getD_eq_getElem?_getD,List.getElem?_append_right (by rw[h1];omega),h1]
  rw[e1,e2];rw[List.length_append] at hi;exact key (g3 _ (by omega))
theorem agR:(Tryz.prog.info? 63).map (fun i=>(i.zero,i.size,i.bytes))=some (some (.slice none 0 0),1,24):=by kernel_rfl
def yx (n:Nat) (xs:List Value):PG.dD FA:=⟨fun x=> .slice (some ⟨x.1.2,0,none⟩) n x.2.1.2,fun x W=>x.1.2<W.heap.size/\aG (fun j=>j=x.1.2) W 1 (.slice (some ⟨x.1.2,0,none⟩) n x.2.1.2) n xs,fun x W W' h hE=>⟨aF h.1 hE.size,aG.kept h.2 hE (fun _ _ h=>h)⟩,fun _ _=>False,fun _ _ _ _ h=>h.elim⟩
def Gu (base:Nat) (l:List (List Nat)):PG.dD FA:=⟨fun x=> .slice x.1.1 l.length x.1.2,fun x W=>xW base W (.slice x.1.1 l.length x.1.2) l,fun x W W' h hE=>h.ext hE,fun _ _=>False,fun _ _ _ _ h=>h.elim⟩
theorem adv (l:List Nat) (v:Value) (S:Nat->Prop) (w:World) (hR:aG S w 1 v l.length (l.map (fun i:Nat=>Value.int .i64 (i:Int)))) (hl:l.length<=1000000):
  Calls Tryz.prog 210 #[v] w fun e w'=> ∃r,e= .returned r/\aG (fun j=>w.heap.size<=j/\qU w' j) w' 1 r l.length (l.map (fun i:Nat=>Value.int .i64 (i:Int)))/\Ext w w':=by
 have hown: ∀(w':World) (r:Value),w'.ownsRow w.heap.size 3 1 r l.length (l.map (fun i:Nat=>Value.int .i64 (i:Int)))->aG (fun j=>w.heap.size<=j/\qU w' j) w' 1 r l.length (l.map (fun i:Nat=>Value.int .i64 (i:Int))):=fun w' r h=>(aG.fM h).weaken (fun j hj=>⟨(World.ownsRow.lt h j hj).1,Ul h hj⟩);obtain⟨a,cap,rfl⟩:=aG.shape hR;by_cases h0:0<l.length
 .obtain ⟨g,off,hga,_,hat⟩:=aG.Ef (d:=(0:Nat)) hR h0;subst hga;refine(Tryz.slices_Clone_int g off l.length cap (l.map fun i:Nat=>(i:Int)) w (by simp) (by omega) (fun j hj=>?_)).mono ?_
  .have hj':j<l.length:=by simpa using hj
   have h1:=hat j hj';rw[h1];simp[List.getD_eq_getElem?_getD,List.getElem?_eq_getElem hj']
  .rintro e w' ⟨v',rfl,h1,_,h2⟩;rw[List.take_of_length_le (by simp),List.map_map] at h1;exact⟨v',rfl,hown w' v' h1,zy h2⟩
 .have hl0:l=[]:=List.eq_nil_of_length_eq_zero (by omega);subst hl0;cases a with
  |none=>
   refine(Tryz.slices_Clone_int_nil 0 cap w).mono ?_;rintro e w' ⟨rfl,rfl⟩;exact⟨_,rfl,aG.nil _ _ _,aC.refl _ _⟩
  |some a=>
   refine(Tryz.slices_Clone_int_zero a cap w).mono ?_;rintro e w' ⟨v',rfl,h1,_,h2⟩;exact⟨v',rfl,hown w' v' h1,zy h2⟩
theorem adw: ∀(t:Tm) (v pv:Value) (T U:Nat->Prop) (P:List Nat) (w:World),bQ T w t v->aG U w 1 pv P.length (P.map (fun i:Nat=>Value.int .i64 (i:Int)))->(∀k,T k->k<w.heap.size)->(∀k,U k->k<w.heap.size)->t.size<=100000->P.length+t.size<=200000->
  Calls Tryz.prog 163 #[v,pv] w fun e w'=> ∃a c,e= .returned (.slice a (jo t P).length c)/\xW w.heap.size w' (.slice a (jo t P).length c) (jo t P)/\Ext w w':=by
 refine Tm.ind (fun nm so L ih=>?_);intro v pv T U P w hT hP hT2 xq hsz hps;obtain⟨a,cap,rfl,hT⟩:=hT;obtain⟨pa,pc,rfl⟩:=aG.shape hP;dsimp only[tV,Tm.name,Tm.sort,Tm.kids] at hT⊢;obtain⟨V,hV⟩: ∃V,jo (mk nm so L) P=V:=⟨_,rfl⟩
 have hvl:=IG (mk nm so L) P;rw[hV] at hvl⊢;have dH:=ah hT;have nS:=ah hP;have HIH:=ah ih;have HST:=ah hT2;have yL:=ah xq;have fJ:sizes L+1<=100000:=by rw[size_eq] at hsz;simp only[Tm.kids] at hsz;omega
 have HSL:=ah fJ;have j_:L.length<=100000:=by have h1:=bG L;omega
 have xM:=ah j_;have kM:=ah (aG.clip nS.out).2;have alG:=ah hps;have hpl:P.length<=200000:=by omega
 have xI:Hid (V.length<=100000):=ah (by omega);have dP:=ah ((uR w).alloc (.cells #[.string nm,.string so,.slice a L.length cap] 24));have HB0:=ah (ay w (.cells #[.string nm,.string so,.slice a L.length cap] 24));have hz0:w.heap.size+1<=(w.alloc (.cells #[.string nm,.string so,.slice a L.length cap] 24)).heap.size:=by simp
 have HZ0:=ah hz0;have HVV:=ah hV;have c1:=aj HB0.out 1 (.string so) rfl;have t1:=lg so;clear ih hT hP hT2 xq hsz fJ hz0 hV hps hvl;by_cases hs0:so=au
 rotate_left
 .rw [dF hs0] at t1;obtain rfl:V=[]:=by rw[<-HVV.out];unfold jo;rw[if_neg hs0]
  go_enter Tryz.func163,Tryz.ntmps163
  go_wp2_with fail
  go_ret;exact⟨none,0,rfl,xW.nil _ _,dP.out⟩
 .rw [dT hs0] at t1;have hvv:V=P::qF L 0 P:=by rw[<-HVV.out];unfold jo;rw[if_pos hs0]
  have L8:=ah hvv.symm;have Sj:=ah (fun W (hW:Ext w W)=>adv P (.slice pa P.length pc) U W (aG.kept nS.out hW (fun _ _ h=>h)) (by omega));clear hs0 hvv HVV
  go_enter Tryz.func163,Tryz.ntmps163
  go_wp2_with fail
  generalize w.alloc (.cells #[.string nm,.string so,.slice a L.length cap] 24)=W0 at*;refine(Sj.out _ dP.out).mono ?_;rintro e w2 ⟨r,rfl,hr,hw2⟩;obtain⟨ra,rcc,GI⟩:=aG.shape hr;subst GI;have hX:=hw2.alloc (.cells #[.slice ra P.length rcc] 63);have HE2:=ah (dP.out.trans hX);have aag:=ah (hX.heap HB0.out (fun h=>h));have HZ2:Hid (w.heap.size+1<=(w2.alloc (.cells #[.slice ra P.length rcc] 63)).heap.size):=ah (Nat.le_trans HZ0.out hX.size);have hzz:w.heap.size+1<=w2.heap.size:=Nat.le_trans HZ0.out hw2.size;have Qe:Hid (xW w.heap.size (w2.alloc (.cells #[.slice ra P.length rcc] 63)) (.slice (some ⟨w2.heap.size,0,none⟩) [P].length 1) [P]):=ah ⟨[.slice ra P.length rcc],rfl,by
   have h:=World.ownsRow_lit (base:=w.heap.size) (e:=63) (size:=1) w2 #[.slice ra P.length rcc] 1 (by omega) (by unfold maxLen;omega) (by simp);simpa using h,fun i hi=>by
   obtain rfl:i=0:=by simpa using hi
   refine(aG.kept hr ((uR w2).alloc _) (fun _ _ h=>h)).weaken (fun j hj=>⟨by have:=HZ0.out;omega,hj.2.ext ((uR w2).alloc _)⟩)⟩
  have aah:Hid (∀j,(Value.slice (some ⟨w2.heap.size,0,none⟩) [P].length 1).ownBlock=some j->w.heap.size+1<=j):=ah (fun j e=>by
   have e':w2.heap.size=j:=by injection e
   omega)
  have rH:Hid ([P]++qF (L.drop 0) 0 P=V):=ah L8.out;clear hr hw2 hX Sj dP HB0 HZ0 c1 t1;have c2:=aj aag.out 2 (.slice a L.length cap) rfl
  go_wp2_with fail
  obtain⟨n2,hn2⟩: ∃n,w2.heap.size=n:=⟨_,rfl⟩
  rw[hn2] at Qe aah
  try rw[hn2]
  clear c2 hn2 hzz;generalize w2.alloc (.cells #[.slice ra P.length rcc] 63)=W2 at*
  go_loopg [5,17] L.length (fun gk ov iv wr=> ∃(k:Nat) (acc:List (List Nat)) (oa:Option Addr) (oc:Nat),ov= .slice oa acc.length oc/\iv= .int .i64 (k:Int)/\gk=L.length-k/\k<=L.length/\Hid (acc++qF (L.drop k) k P=V)/\Hid (xW w.heap.size wr (.slice oa acc.length oc) acc)/\Hid (∀j,(Value.slice oa acc.length oc).ownBlock=some j->w.heap.size+1<=j)/\Hid (Ext w wr)/\Hid (wr.heap[w.heap.size]?=some (.cells #[.string nm,.string so,.slice a L.length cap] 24 (0,0)))/\Hid (w.heap.size+1<=wr.heap.size))
  case atStart=>exact⟨0,[P],some ⟨n2,0,none⟩,1,rfl,rfl,rfl,Nat.zero_le _,rH,Qe,aah,HE2,aag,HZ2⟩
  case round=>
   clear aag HE2 HZ2 L8 rH Qe aah;obtain⟨k,acc,oa,oc,rfl,rfl,rfl,hk,jc,En,HOL,HE,HB0,bU⟩:=hrel;by_cases hlt:k<L.length
   .obtain ⟨g,off,hga,_,hat⟩:=(dH.out.ext HE.out).at_ (by omega);subst hga;obtain⟨xa,xc,q0,q1,q2,aW⟩:=hat k hlt;rw[<-Nat.add_assoc] at q1 q2;obtain⟨z0,z1,z2,z2'⟩:=bZ hlt;have fO:Hid (acc++(jo (tg L k) (P++[k])++qF (L.drop (k+1)) (k+1) P)=V):=ah (by rw[<-adu L k P hlt];exact jc.out);have yH:=ah aW;have Eo:=ah (bY L k hlt);have jf:Hid ((tg L k).size<=100000/\P.length+1+(tg L k).size<=200000):=ah (by have h1:=HSL.out;have h2:=jy L k hlt;have h3:=fF L (k+1);have h4:=alG.out;rw[size_eq] at h4;simp only[Tm.kids] at h4;omega);obtain⟨x,hx⟩: ∃x,tg L k=x:=⟨_,rfl⟩
    rw[hx] at q0 q1 q2 fO yH Eo jf;have HLEN:Hid (acc.length+(jo x (P++[k])).length<=100000):=ah (by have h:=xI.out;rw[<-fO.out,List.length_append,List.length_append] at h;omega);have hQ:=(uR wr).alloc (tO x xa xc);have mO:=ay wr (tO x xa xc);obtain⟨b0,b1,b2⟩:=ak mO;have HEq:=ah (HE.out.trans hQ);have HQ:=ah hQ;have Ig:=ah (hQ.heap HB0.out (fun h=>h));have agS:=ah (En.out.ext hQ);have agT:=ah (Nat.le_trans bU.out hQ.size);clear hat aW hx hQ mO jc HB0 En;have En:=agS;clear agS
    go_upto_region 7 with fail
    generalize wr.alloc (tO x xa xc)=wq at*;have bf:=ah (fun W (hW:Ext wq W) (pv':Value) (U':Nat->Prop) (hP:aG U' W 1 pv' (P.length+1) (P.map (fun i:Nat=>Value.int .i64 (i:Int))++[.int .i64 (k:Int)])) (hU': ∀j,U' j->j<W.heap.size)=>HIH.out x Eo.out (.agg #[.string x.name,.string x.sort,.slice xa x.kids.length xc]) pv' T U' (P++[k]) W ⟨xa,xc,rfl,(yH.out.ext HQ.out).ext hW⟩ (by rw[List.length_append,List.map_append];exact hP) (fun j hj=>aF (HST.out j hj) (HEq.out.trans hW).size) hU' (jf.out).1 (by rw[List.length_append];exact jf.out.2));have HPQ:=ah (fun W (hW:Ext wq W)=>aG.kept nS.out (HEq.out.trans hW) (fun _ _ h=>h));have x0:=fun x:XW wq=>x.ext.cell b0 (fun h=>h);have x1:=fun x:XW wq=>x.ext.cell b1 (fun h=>h);have x2:=fun x:XW wq=>x.ext.cell b2 (fun h=>h);clear b0 b1 b2 q0 q1 q2;refine PG.cu (α:=FA) 8 [] 8 [(8,2),(9,2)] [[],[],[],[2],[],[4],[2,3,4,5],[1,2,3,4,5,6],[0,1,2,3,4,5,6,7],[0,1,2,3,4,5,6,7,8]]
     [none,none,none,some (kC (.slice pa P.length P.length)),none,some (mQ k),some (yx (P.length+1) (P.map (fun i:Nat=>Value.int .i64 (i:Int))++[.int .i64 (k:Int)])),some (Gu wq.heap.size (jo x (P++[k])))]
     [false,false,false,true,false,true,true,true] (by kernel_rfl) (by kernel_rfl) rfl (fun _ _ d _ _ h=>by cases d<;>exact h) ?_
    simp only[List.take_succ_cons,List.take_zero,eG,List.getElem?_cons_zero,List.getElem?_cons_succ]
    iterate 3(refine PG.aX rfl (fun K hK=>?_);go_simp;refine hK _ ?_;clear hK K)
    refine PG.aO _ rfl (by go_simp) (fun W hW hG K hK=>?_) (fun K z3 hK=>?_)
    .go_simp;refine(WY pa P.length pc W kM.out.1 (by omega) kM.out.2).mono ?_;rintro e w' ⟨rfl,hE⟩;exact hK default _ hE trivial (fun k e=>e.elim)
    refine hK _ ?_;clear hK K;dsimp only[kC,mQ,yx,Gu];refine PG.aX rfl (fun K hK=>?_);go_simp;refine hK _ ?_;clear hK K;refine PG.aO _ rfl (by go_simp) (fun W hW hG K hK=>?_) (fun K z5 hK=>?_)
    .go_simp;exact hK ((none,W.heap.size),default) _ ((uR W).alloc _) (aj (ay W _) 0 _ rfl) (fun k e=>e.elim)
    refine hK _ ?_;clear hK K;dsimp only[kC,mQ,yx,Gu];refine PG.aO _ rfl (by go_simp) (fun W hW hG K hK=>?_) (fun K z6 hK=>?_)
    .have g5:=hG _ (List.mem_append_right _ (List.mem_singleton.2 rfl)) (by show(5:Nat)∈_;decide);obtain⟨iI,hi,hz0,hz1,hz2⟩:=info_parts N_;refine yI W (.tmp 25) (.tmp 27) 63 rfl 3 iI (.int .i64 0) 8 Tryz.underlying63 hi hz0 hz1 hz2 U pa P.length (P.map (fun i:Nat=>Value.int .i64 (i:Int))) rfl (aG.clip (HPQ.out W hW)).1 z5.1.2 1 (.int .i64 (k:Int)) rfl g5 (by unfold maxLen;omega) (by omega) ?_;intro c' w' hE hLT hS;exact hK ((none,W.heap.size),(none,c'),fun _=>False) w' hE ⟨hLT,hS⟩ (fun k e=>e.elim)
    refine hK _ ?_;clear hK K;dsimp only[kC,mQ,yx,Gu];refine PG.aO _ rfl (by go_simp) (fun W hW hG K hK=>?_) (fun K z7 hK=>?_)
    .have g6:=hG _ (List.mem_append_right _ (List.mem_singleton.2 rfl)) (by show(6:Nat)∈_;decide);go_simp;refine(bf.out W hW _ _ g6.2 (fun j hj=>by rw[hj];exact g6.1)).mono ?_;rintro e w' ⟨a',c',rfl,hS,hE⟩;exact hK ((a',c'),(none,0),fun _=>False) w' hE (hS.base hW.size) (fun k e=>e.elim)
    refine hK _ ?_;clear hK K;dsimp only[kC,mQ,yx,Gu];refine PG.iP (fun w8 hW hG _=>?_);have g7:=hG _ (List.mem_append_right _ (List.mem_singleton.2 rfl));dsimp only[kC,mQ,yx,Gu] at g7;clear hG x0 x1 x2;have alH:=En.out.ext hW;obtain⟨DJ,hl2,hown2,VR⟩:=g7;obtain⟨us1,hl1,hown1,ab3⟩:=alH;have ab4: ∀u∈DJ,u.oneCell'=true:=agQ hl2 VR;obtain⟨iS,hi,hz0,hz1,hz2⟩:=info_parts agR;have hlen1:=HLEN.out;refine eP (fun K hK=>?_);rw[if_pos (by go_simp)];refine nR _ (.tmp 22) (.tmp 29) 200 rfl w.heap.size 63 iS (.slice none 0 0) 1 24 Tryz.underlying200 hi hz0 hz1 hz2 rfl (by decide) _ acc.length us1 rfl hown1 _ _ (jo x (P++[k])).length DJ rfl (aG.fM hown2) ab4 (by unfold maxLen;omega) (by omega) (Nat.le_trans HEq.out.size hW.size) ?_;intro v7 w9 bK;refine hK _ _ ?_;clear hK K;refine eP (fun K hK=>?_);go_simp;refine hK _ _ ?_;clear hK K;simp only[cO];have agU:=xW.app hl1 hown1 ab3 hl2 (fun i hi=>(VR i hi).weaken (fun j hj=>⟨Nat.le_trans HEq.out.size hj.1,hj.2⟩)) bK;obtain⟨oa9,oc9,hv9⟩:=bF bK.own;subst hv9;have hlt1: ∀j,(Value.slice oa acc.length oc).ownBlock=some j->w.heap.size+1<=j:=fun j e=>HOL.out j e;have jg:=ah ((HEq.out.trans hW).trans' bK.upd (fun j hj e=>by have:=hlt1 j e;omega));have Fv:=ah ((bK.upd).heap (hW.heap Ig.out (fun h=>h)) (fun e=>by have:=hlt1 _ e;omega));have hwh:=bK.uw;have agW:Hid (∀j,(Value.slice oa9 (acc.length+(jo x (P++[k])).length) oc9).ownBlock=some j->w.heap.size+1<=j):=ah (fun j e=>by
     rcases hwh with h|h
     .rw [h] at e;exact hlt1 j e
     .rw [h] at e;injection e with e;have:=agT.out;have:=hW.size;omega)
    have ab5:(acc++jo x (P++[k])).length=acc.length+(jo x (P++[k])).length:=List.length_append;have agX:=ah agU;have ZY:Hid (w.heap.size+1<=w9.heap.size):=ah (Nat.le_trans agT.out (Nat.le_trans hW.size bK.upd.size));have HV9:Hid ((acc++jo x (P++[k]))++qF (L.drop (k+1)) (k+1) P=V):=ah (by rw[List.append_assoc];exact fO.out);rw[<-ab5] at agX agW⊢;clear bK hown1 hown2 ab3 VR ab4 agU hwh hW hlt1 hi hz0 hz1 hz2 hl1 hl2 hlen1
    go_wp2_with fail
    go_roundg (L.length- (k+1))
    case measure=>omega
    case rel=>exact⟨k+1,acc++jo x (P++[k]),oa9,oc9,by rw[ab5],by go_num,rfl,by omega,HV9,agX,agW,jg,Fv,ZY⟩
   .obtain rfl:k=L.length:=by omega
    have z2:decide ((L.length:Int)< (L.length:Int))=false:=dF (by omega);have hvn:V=acc:=by
     rw[<-jc.out,List.drop_length];unfold qF;simp
    subst hvn;clear jc
    go_wp2_with fail
    go_ret;exact⟨oa,oc,rfl,En.out,HE.out⟩
theorem ab6 (t:Tm) (p:List Int) (tv pv:Value) (S T:Nat->Prop) (w:World) (hT:bQ S w t tv) (hS: ∀k,S k->k<w.heap.size) (hP:aG T w 1 pv p.length (p.map (Value.int .i64))) (htab:dN w) (hsz:t.size<=100000) (hl:p.length<=1000000):
  Calls Tryz.prog 118 #[tv,pv] w fun e w'=> ∃r B,e= .returned (.tuple #[tV (Dj t p).1 r,.int .i64 (Dj t p).2])/\aP 24 w' B (Dj t p).1.kids r/\(∀j,B j->w.heap.size<=j/\j<w'.heap.size)/\Ext w w':=by
 obtain⟨pa,pc,rfl⟩:=aG.shape hP;have HP:=ah hP;obtain⟨a,cap,rfl,hT⟩:=hT;have HT:=ah hT;have HE2:=ah (((uR w).alloc (tO t a cap)).alloc zO);have HB1:=ah (aB (ay w (tO t a cap)) zO);have HB2:=ah (alloc_at (w.alloc (tO t a cap)) zO (n:=w.heap.size+1) (by simp));have hz2:((w.alloc (tO t a cap)).alloc zO).heap.size=w.heap.size+2:=by simp
 have HZ2:=ah hz2;have sV:=ah (fun W (hW:Ext w W)=>Ec t _ W (aS htab hW) ⟨a,cap,rfl,(hT.ext hW).weaken (fun k hk=>aF (hS k hk) hW.size)⟩ (by omega));have iE:=ah hS;have HF0:Hid (wf aJ t=false->Dj t p=(cZ,1)):=ah (fun h=>by unfold Dj;rw[if_pos h]);have qN:Hid (wf aJ t=true->g_ t p=none->Dj t p=(cZ,2)):=ah (fun h h2=>by unfold Dj;rw[if_neg (by rw[h];simp),h2]);have HF2:Hid (wf aJ t=true->∀x,g_ t p=some x->Dj t p=(x,0)):=ah (fun h x h2=>by unfold Dj;rw[if_neg (by rw[h];simp),h2]);obtain⟨F,hF⟩: ∃F,Dj t p=F:=⟨_,rfl⟩
 rw[hF] at HF0 qN HF2⊢;dsimp only[tV] at sV⊢;obtain⟨WB,hWB⟩: ∃b,wf aJ t=b:=⟨_,rfl⟩
 rw[hWB] at sV HF0 qN HF2;clear hP hT hS htab hF hWB hz2;obtain⟨k0,k1,k2⟩:=ak HB1.out
 go_enter Tryz.func118,Tryz.ntmps118
 go_wp2_with fail
 refine(sV.out _ HE2.out).mono ?_;rintro e w4 ⟨rfl,hw4⟩;have H4:Hid (Ext w w4):=ah (HE2.out.trans hw4);have EP:=ah (hw4.heap HB1.out (fun h=>h));have gV:=ah (hw4.heap HB2.out (fun h=>h));have QH:Hid (w.heap.size+2<=w4.heap.size):=ah (by rw[<-HZ2.out];exact hw4.size);clear hw4 k0 k1 k2 sV HB1 HB2 HE2;cases WB
 .have HV:=ah (HF0.out (by simp));have f2:=fun i=>aA gV.out i;obtain⟨d0,d1,d2⟩:=ak gV.out
  go_wp2_with fail
  have hr:=aN gV.out (.string ⟨#[]⟩) (.string ⟨#[]⟩) (.slice none 0 0);have hu:=aK w4 (w.heap.size+1) (.string ⟨#[]⟩) (.string ⟨#[]⟩) (.slice none 0 0);obtain⟨e0,e1,e2⟩:=ak hr;refine bodyPost_ret (v:= .tuple #[.agg #[.string ⟨#[]⟩,.string ⟨#[]⟩,.slice none 0 0],.int .i64 1]) (by simp[results,Tryz.results118,go_sem,e0,e1,e2]) rfl ⟨.slice none 0 0,fun _=>False,by rw[HV.out];rfl,by rw[HV.out];exact aP.nil _ _ _,fun _ h=>h.elim,H4.out.trans' hu (fun j hj e=>by omega)⟩
 have HAT:=ah (akO t p (.slice pa p.length pc) (w.heap.size,0) S T w4 ⟨a,cap,aj EP.out 0 _ rfl,aj EP.out 1 _ rfl,aj EP.out 2 _ rfl,HT.out.ext H4.out⟩ (aG.kept HP.out H4.out (fun _ _ h=>h)) hl)
 go_wp2_with fail
 refine HAT.out.mono ?_;rintro e w5 ⟨hat,rfl⟩;rcases hat with⟨hs,rfl⟩|⟨x,a',hs,rfl,_,xa,xc,x0,x1,x2,hx⟩
 .have HV:=ah (qN.out (by simp) hs);have f2:=fun i=>aA gV.out i;obtain⟨d0,d1,d2⟩:=ak gV.out
  go_wp2_with fail
  have hr:=aN gV.out (.string ⟨#[]⟩) (.string ⟨#[]⟩) (.slice none 0 0);have hu:=aK w4 (w.heap.size+1) (.string ⟨#[]⟩) (.string ⟨#[]⟩) (.slice none 0 0);obtain⟨e0,e1,e2⟩:=ak hr;refine bodyPost_ret (v:= .tuple #[.agg #[.string ⟨#[]⟩,.string ⟨#[]⟩,.slice none 0 0],.int .i64 2]) (by simp[results,Tryz.results118,go_sem,e0,e1,e2]) rfl ⟨.slice none 0 0,fun _=>False,by rw[HV.out];rfl,by rw[HV.out];exact aP.nil _ _ _,fun _ h=>h.elim,H4.out.trans' hu (fun j hj e=>by omega)⟩
 .have HV:=ah (HF2.out (by simp) x hs);have hso:=KA hs;have hxs:x.size<=100000:=by
   have h1:=LV _ t hso.1;rw[hso.2] at h1;omega
  have HC:=ah (Y9 x _ S w4 ⟨xa,xc,rfl,hx⟩ (fun k hk=>aF (iE.out k hk) H4.out.size) hxs);dsimp only[tV] at HC;obtain⟨ab,ao⟩:=a';dsimp only at x0 x1 x2;clear hs hso hxs hx HF0 qN HF2 HAT
  go_wp2_with fail
  refine HC.out.mono ?_;rintro e w6 ⟨r,B,rfl,OU,hB6,hw6⟩;have H6:=ah (H4.out.trans hw6);have Qp:=ah (hw6.heap gV.out (fun h=>h));have HO6:=ah OU;have jD:Hid (∀j,B j->w.heap.size+2<=j/\j<w6.heap.size):=ah (fun j hj=>⟨Nat.le_trans QH.out (hB6 j hj).1,(hB6 j hj).2⟩);obtain⟨ra,rc,GI⟩:=aP.shape OU;subst GI;clear OU hB6 hw6 x0 x1 x2 HC;have f2:=fun i=>aA Qp.out i;obtain⟨d0,d1,d2⟩:=ak Qp.out
  go_wp2_with fail
  have hr:=aN Qp.out (.string x.name) (.string x.sort) (.slice ra x.kids.length rc);have hu:=aK w6 (w.heap.size+1) (.string x.name) (.string x.sort) (.slice ra x.kids.length rc);obtain⟨e0,e1,e2⟩:=ak hr;refine bodyPost_ret (v:= .tuple #[.agg #[.string x.name,.string x.sort,.slice ra x.kids.length rc],.int .i64 0]) (by simp[results,Tryz.results118,go_sem,e0,e1,e2]) rfl ⟨.slice ra x.kids.length rc,B,by rw[HV.out],?_,fun j hj=>⟨by have:=(jD.out j hj).1;omega,aF (jD.out j hj).2 hu.size⟩,H6.out.trans' hu (fun j hj e=>by omega)⟩;rw[HV.out];exact HO6.out.kept hu (fun j hj e=>by have:=(jD.out j hj).1;omega)
theorem Ny {w:World} {b:Nat} {te:TypeId} {u0 u1 u2 u3 u4 u5 u6 u7 u8 u9 u10 u11:Value} (h:w.heap[b]?=some (.cells #[u0,u1,u2,u3,u4,u5,u6,u7,u8,u9,u10,u11] te (0,0))) (v0 v1 v2 v3 v4 v5 v6 v7 v8 v9 v10 v11:Value):((((((((((((((((((((((((w).setCell ⟨b,0,none⟩ (v0))).setCell ⟨b,1,none⟩ (v1))).setCell ⟨b,2,none⟩ (v2))).setCell ⟨b,3,none⟩ (v3))).setCell ⟨b,4,none⟩ (v4))).setCell ⟨b,5,none⟩ (v5))).setCell ⟨b,6,none⟩ (v6))).setCell ⟨b,7,none⟩ (v7))).setCell ⟨b,8,none⟩ (v8))).setCell ⟨b,9,none⟩ (v9))).setCell ⟨b,10,none⟩ (v10))).setCell ⟨b,11,none⟩ (v11)).heap[b]?=some (.cells #[v0,v1,v2,v3,v4,v5,v6,v7,v8,v9,v10,v11] te (0,0)):=by
 have h0:=setBlock h 0 v0;have h1:=setBlock h0 1 v1;have h2:=setBlock h1 2 v2;have h3:=setBlock h2 3 v3;have h4:=setBlock h3 4 v4;have h5:=setBlock h4 5 v5;have h6:=setBlock h5 6 v6;have h7:=setBlock h6 7 v7;have h8:=setBlock h7 8 v8;have h9:=setBlock h8 9 v9;have h10:=setBlock h9 10 v10;have h11:=setBlock h10 11 v11;simpa using h11
theorem QV (w:World) (b:Nat) (v0 v1 v2 v3 v4 v5 v6 v7 v8 v9 v10 v11:Value):aC (fun k=>k=b) w ((((((((((((((((((((((((w).setCell ⟨b,0,none⟩ (v0))).setCell ⟨b,1,none⟩ (v1))).setCell ⟨b,2,none⟩ (v2))).setCell ⟨b,3,none⟩ (v3))).setCell ⟨b,4,none⟩ (v4))).setCell ⟨b,5,none⟩ (v5))).setCell ⟨b,6,none⟩ (v6))).setCell ⟨b,7,none⟩ (v7))).setCell ⟨b,8,none⟩ (v8))).setCell ⟨b,9,none⟩ (v9))).setCell ⟨b,10,none⟩ (v10))).setCell ⟨b,11,none⟩ (v11)):=((((((((((((aC.refl (fun k=>k=b) w).setCell (p:=⟨b,0,none⟩) (.inl rfl) _).setCell (p:=⟨b,1,none⟩) (.inl rfl) _).setCell (p:=⟨b,2,none⟩) (.inl rfl) _).setCell (p:=⟨b,3,none⟩) (.inl rfl) _).setCell (p:=⟨b,4,none⟩) (.inl rfl) _).setCell (p:=⟨b,5,none⟩) (.inl rfl) _).setCell (p:=⟨b,6,none⟩) (.inl rfl) _).setCell (p:=⟨b,7,none⟩) (.inl rfl) _).setCell (p:=⟨b,8,none⟩) (.inl rfl) _).setCell (p:=⟨b,9,none⟩) (.inl rfl) _).setCell (p:=⟨b,10,none⟩) (.inl rfl) _).setCell (p:=⟨b,11,none⟩) (.inl rfl) _
theorem Yp {w:World} {b:Nat} {te:TypeId} {u0 u1 u2 u3 u4 u5 u6 u7 u8 u9 u10 u11:Value} (h:w.heap[b]?=some (.cells #[u0,u1,u2,u3,u4,u5,u6,u7,u8,u9,u10,u11] te (0,0))) (v0 v1 v2:Value):((((((w).setCell ⟨b,0,none⟩ (v0))).setCell ⟨b,1,none⟩ (v1))).setCell ⟨b,2,none⟩ (v2)).heap[b]?=some (.cells #[v0,v1,v2,u3,u4,u5,u6,u7,u8,u9,u10,u11] te (0,0)):=by
 have h0:=setBlock h 0 v0;have h1:=setBlock h0 1 v1;have h2:=setBlock h1 2 v2;simpa using h2
theorem aai (w:World) (b:Nat) (v0 v1 v2:Value):aC (fun k=>k=b) w ((((((w).setCell ⟨b,0,none⟩ (v0))).setCell ⟨b,1,none⟩ (v1))).setCell ⟨b,2,none⟩ (v2)):=(((aC.refl (fun k=>k=b) w).setCell (p:=⟨b,0,none⟩) (.inl rfl) _).setCell (p:=⟨b,1,none⟩) (.inl rfl) _).setCell (p:=⟨b,2,none⟩) (.inl rfl) _
theorem Yq {w:World} {b:Nat} {te:TypeId} {u0 u1 u2 u3 u4 u5 u6 u7 u8 u9 u10 u11:Value} (h:w.heap[b]?=some (.cells #[u0,u1,u2,u3,u4,u5,u6,u7,u8,u9,u10,u11] te (0,0))) (v0 v1 v2:Value):((((((w).setCell ⟨b,3,none⟩ (v0))).setCell ⟨b,4,none⟩ (v1))).setCell ⟨b,5,none⟩ (v2)).heap[b]?=some (.cells #[u0,u1,u2,v0,v1,v2,u6,u7,u8,u9,u10,u11] te (0,0)):=by
 have h0:=setBlock h 3 v0;have h1:=setBlock h0 4 v1;have h2:=setBlock h1 5 v2;simpa using h2
theorem aaj (w:World) (b:Nat) (v0 v1 v2:Value):aC (fun k=>k=b) w ((((((w).setCell ⟨b,3,none⟩ (v0))).setCell ⟨b,4,none⟩ (v1))).setCell ⟨b,5,none⟩ (v2)):=(((aC.refl (fun k=>k=b) w).setCell (p:=⟨b,3,none⟩) (.inl rfl) _).setCell (p:=⟨b,4,none⟩) (.inl rfl) _).setCell (p:=⟨b,5,none⟩) (.inl rfl) _
theorem Yr {w:World} {b:Nat} {te:TypeId} {u0 u1 u2 u3 u4 u5 u6 u7 u8 u9 u10 u11:Value} (h:w.heap[b]?=some (.cells #[u0,u1,u2,u3,u4,u5,u6,u7,u8,u9,u10,u11] te (0,0))) (v0 v1 v2:Value):((((((w).setCell ⟨b,6,none⟩ (v0))).setCell ⟨b,7,none⟩ (v1))).setCell ⟨b,8,none⟩ (v2)).heap[b]?=some (.cells #[u0,u1,u2,u3,u4,u5,v0,v1,v2,u9,u10,u11] te (0,0)):=by
 have h0:=setBlock h 6 v0;have h1:=setBlock h0 7 v1;have h2:=setBlock h1 8 v2;simpa using h2
theorem aak (w:World) (b:Nat) (v0 v1 v2:Value):aC (fun k=>k=b) w ((((((w).setCell ⟨b,6,none⟩ (v0))).setCell ⟨b,7,none⟩ (v1))).setCell ⟨b,8,none⟩ (v2)):=(((aC.refl (fun k=>k=b) w).setCell (p:=⟨b,6,none⟩) (.inl rfl) _).setCell (p:=⟨b,7,none⟩) (.inl rfl) _).setCell (p:=⟨b,8,none⟩) (.inl rfl) _
theorem F5 (x y p q u:Tm) (xa ya pa qa:Option Addr) (xc yc pc qc:Nat) (xp:List Int) (pv:Value) (B2:Nat->Prop) (w:World) (htab:dN w) (hx:aI (fun k=>k<w.heap.size) w x.kids (.slice xa x.kids.length xc)) (hy:aI (fun k=>k<w.heap.size) w y.kids (.slice ya y.kids.length yc)) (hp:aP 24 w B2 p.kids (.slice pa p.kids.length pc)) (hB2: ∀k,B2 k->k<w.heap.size) (hq:aI (fun k=>k<w.heap.size) w q.kids (.slice qa q.kids.length qc)) (hpv:rV (fun k=>k<w.heap.size) w pv xp) (hpl:xp.length<=1000) (hsx:x.size<=1000) (hsy:y.size<=1000) (LQ:q.size<=1000) (hat:Dj x xp=(u,0)) (hU: ∀W,Ext w W->∀(B1 B2:Nat->Prop) (va vb:Value),aP 24 W B1 u.kids va->aP 24 W B2 p.kids vb->(∀k,B1 k->¬B2 k)->(∀k,B1 k->k<W.heap.size)->(∀k,B2 k->k<W.heap.size)->dN W->Calls Tryz.prog 17 #[tV u va,tV p vb] W fun e w'=>e= .returned (.tuple #[.slice none 0 0,.int .i64 12])/\Ext W w'):
  Calls Tryz.prog 164 #[.agg #[.string x.name,.string x.sort,.slice xa x.kids.length xc,.string y.name,.string y.sort,.slice ya y.kids.length yc],.agg #[.string p.name,.string p.sort,.slice pa p.kids.length pc,.string q.name,.string q.sort,.slice qa q.kids.length qc],pv] w fun e w'=>e= .returned (.tuple #[.agg #[.string ⟨#[]⟩,.string ⟨#[]⟩,.slice none 0 0,.string ⟨#[]⟩,.string ⟨#[]⟩,.slice none 0 0,.string ⟨#[]⟩,.string ⟨#[]⟩,.slice none 0 0,.int .i64 0,.int .i64 0,.slice none 0 0],.int .i64 12])/\Ext w w':=by
 have HAT:=ah (fun W (hW:Ext w W)=>ab6 x xp (tV x (.slice xa x.kids.length xc)) pv (fun k=>k<w.heap.size) (fun k=>k<w.heap.size) W ⟨xa,xc,rfl,hx.ext hW⟩ (fun k hk=>aF hk hW.size) (aG.kept hpv hW (fun _ _ h=>h)) (aS htab hW) (by omega) (by omega));rw[hat] at HAT;have HPV:=ah hpv;have HTAB:=ah htab;have HP2:=ah hp;have HB2:=ah hB2;have Qs:=ah (And.intro hx (And.intro hy hq));have bU:=ah (And.intro hsx (And.intro hsy LQ));have nS:=ah hpl;obtain⟨va,vc,rfl⟩:=hpv.shape;have hE:=(((uR w).alloc (.cells #[.string x.name,.string x.sort,.slice xa x.kids.length xc,.string y.name,.string y.sort,.slice ya y.kids.length yc] 146)).alloc (.cells #[.string p.name,.string p.sort,.slice pa p.kids.length pc,.string q.name,.string q.sort,.slice qa q.kids.length qc] 146)).alloc (.cells #[.string ⟨#[]⟩,.string ⟨#[]⟩,.slice none 0 0,.string ⟨#[]⟩,.string ⟨#[]⟩,.slice none 0 0,.string ⟨#[]⟩,.string ⟨#[]⟩,.slice none 0 0,.int .i64 0,.int .i64 0,.slice none 0 0] 152);have HE:=ah hE;have HB0:=ah (aB (aB (ay w (.cells #[.string x.name,.string x.sort,.slice xa x.kids.length xc,.string y.name,.string y.sort,.slice ya y.kids.length yc] 146)) (.cells #[.string p.name,.string p.sort,.slice pa p.kids.length pc,.string q.name,.string q.sort,.slice qa q.kids.length qc] 146)) (.cells #[.string ⟨#[]⟩,.string ⟨#[]⟩,.slice none 0 0,.string ⟨#[]⟩,.string ⟨#[]⟩,.slice none 0 0,.string ⟨#[]⟩,.string ⟨#[]⟩,.slice none 0 0,.int .i64 0,.int .i64 0,.slice none 0 0] 152));have HB1:=ah (aB (alloc_at (w.alloc (.cells #[.string x.name,.string x.sort,.slice xa x.kids.length xc,.string y.name,.string y.sort,.slice ya y.kids.length yc] 146)) (.cells #[.string p.name,.string p.sort,.slice pa p.kids.length pc,.string q.name,.string q.sort,.slice qa q.kids.length qc] 146) (n:=w.heap.size+1) (by simp)) (.cells #[.string ⟨#[]⟩,.string ⟨#[]⟩,.slice none 0 0,.string ⟨#[]⟩,.string ⟨#[]⟩,.slice none 0 0,.string ⟨#[]⟩,.string ⟨#[]⟩,.slice none 0 0,.int .i64 0,.int .i64 0,.slice none 0 0] 152));have MX:=ah (alloc_at ((w.alloc (.cells #[.string x.name,.string x.sort,.slice xa x.kids.length xc,.string y.name,.string y.sort,.slice ya y.kids.length yc] 146)).alloc (.cells #[.string p.name,.string p.sort,.slice pa p.kids.length pc,.string q.name,.string q.sort,.slice qa q.kids.length qc] 146)) (.cells #[.string ⟨#[]⟩,.string ⟨#[]⟩,.slice none 0 0,.string ⟨#[]⟩,.string ⟨#[]⟩,.slice none 0 0,.string ⟨#[]⟩,.string ⟨#[]⟩,.slice none 0 0,.int .i64 0,.int .i64 0,.slice none 0 0] 152) (n:=w.heap.size+2) (by simp));have hz:w.heap.size+3<=(((w.alloc (.cells #[.string x.name,.string x.sort,.slice xa x.kids.length xc,.string y.name,.string y.sort,.slice ya y.kids.length yc] 146)).alloc (.cells #[.string p.name,.string p.sort,.slice pa p.kids.length pc,.string q.name,.string q.sort,.slice qa q.kids.length qc] 146)).alloc (.cells #[.string ⟨#[]⟩,.string ⟨#[]⟩,.slice none 0 0,.string ⟨#[]⟩,.string ⟨#[]⟩,.slice none 0 0,.string ⟨#[]⟩,.string ⟨#[]⟩,.slice none 0 0,.int .i64 0,.int .i64 0,.slice none 0 0] 152)).heap.size:=by simp
 have HS:=ah hz;obtain⟨x0,x1,x2,x3,x4,x5⟩:=fA HB0.out;dsimp only[tV] at HAT hU⊢;have HU:=ah hU;clear hE hz hx hy hp hB2 hq htab hsx hsy LQ hat hpl hpv hU
 go_enter Tryz.func164,Tryz.ntmps164
 go_wp2_with fail
 generalize (((w.alloc (.cells #[.string x.name,.string x.sort,.slice xa x.kids.length xc,.string y.name,.string y.sort,.slice ya y.kids.length yc] 146)).alloc (.cells #[.string p.name,.string p.sort,.slice pa p.kids.length pc,.string q.name,.string q.sort,.slice qa q.kids.length qc] 146)).alloc (.cells #[.string ⟨#[]⟩,.string ⟨#[]⟩,.slice none 0 0,.string ⟨#[]⟩,.string ⟨#[]⟩,.slice none 0 0,.string ⟨#[]⟩,.string ⟨#[]⟩,.slice none 0 0,.int .i64 0,.int .i64 0,.slice none 0 0] 152))=w1 at*;refine(HAT.out _ HE.out).mono ?_;rintro e w3 ⟨r,B1,rfl,QW,hB1,hw3⟩;obtain⟨ua,uc,hr⟩:=aP.shape QW;subst hr;have hX:=hw3.alloc (tO u ua uc);have aY:=ah (HE.out.trans hX);have rF:=ah (hX.heap HB0.out (fun h=>h));have lH:=ah (hX.heap HB1.out (fun h=>h));have QX:=ah (hX.heap MX.out (fun h=>h));have fH:=ah (ay w3 (tO u ua uc));have Yt:=ah (QW.kept ((uR w3).alloc (tO u ua uc)) (fun _ _ h=>h));have I9:Hid (∀j,B1 j->w.heap.size+3<=j/\j< (w3.alloc (tO u ua uc)).heap.size):=ah (fun j hj=>⟨Nat.le_trans HS.out (hB1 j hj).1,aF (hB1 j hj).2 ((uR w3).alloc (tO u ua uc)).size⟩);have fU:Hid (w.heap.size+3<=w3.heap.size):=ah (Nat.le_trans HS.out hw3.size);clear QW hB1 hw3 hX HAT HE HB0 HB1 MX HS x0 x1 x2 x3 x4 x5;dsimp only;obtain⟨nb,hnb⟩: ∃n,w3.heap.size=n:=⟨_,rfl⟩
 rw[hnb] at fH fU;obtain⟨x0,x1,x2,x3,x4,x5⟩:=fA lH.out;obtain⟨m0,m1,m2⟩:=ak fH.out
 go_wp2_with fail
 try rw[hnb]
 generalize w3.alloc (tO u ua uc)=w4 at*;clear hnb;have Yu:=HU.out w4 aY.out B1 B2 _ _ Yt.out (HP2.out.kept aY.out (fun _ _ h=>h)) (fun k h1 h2=>by have:=(I9.out k h1).1;have:=HB2.out k h2;omega) (fun k h1=>(I9.out k h1).2) (fun k h2=>aF (HB2.out k h2) aY.out.size) (aS HTAB.out aY.out);refine Yu.mono ?_;rintro e w5 ⟨rfl,hw5⟩;have dA:=ah (aY.out.trans hw5);have Ll:=ah (hw5.heap QX.out (fun h=>h));clear hw5 Yu aY rF lH QX fH Yt I9 fU x0 x1 x2 x3 x4 x5 m0 m1 m2;have f2:=fun i=>aA Ll.out i;obtain⟨d0,d1,d2,d3,d4,d5,d6,d7,d8,d9,d10,d11⟩:=jH Ll.out
 go_wp2_with fail
 have hr:=Ny Ll.out (.string ⟨#[]⟩) (.string ⟨#[]⟩) (.slice none 0 0) (.string ⟨#[]⟩) (.string ⟨#[]⟩) (.slice none 0 0) (.string ⟨#[]⟩) (.string ⟨#[]⟩) (.slice none 0 0) (.int .i64 0) (.int .i64 0) (.slice none 0 0);have hu:=QV w5 (w.heap.size+2) (.string ⟨#[]⟩) (.string ⟨#[]⟩) (.slice none 0 0) (.string ⟨#[]⟩) (.string ⟨#[]⟩) (.slice none 0 0) (.string ⟨#[]⟩) (.string ⟨#[]⟩) (.slice none 0 0) (.int .i64 0) (.int .i64 0) (.slice none 0 0);obtain⟨e0,e1,e2,e3,e4,e5,e6,e7,e8,e9,e10,e11⟩:=jH hr;refine bodyPost_ret (v:= .tuple #[.agg #[.string ⟨#[]⟩,.string ⟨#[]⟩,.slice none 0 0,.string ⟨#[]⟩,.string ⟨#[]⟩,.slice none 0 0,.string ⟨#[]⟩,.string ⟨#[]⟩,.slice none 0 0,.int .i64 0,.int .i64 0,.slice none 0 0],.int .i64 12]) (by simp[results,Tryz.results164,go_sem,e0,e1,e2,e3,e4,e5,e6,e7,e8,e9,e10,e11]) rfl ?_;have hue:=dA.out.trans' hu (fun j hj e=>by omega);exact⟨rfl,hue⟩
def uY (B:List Bd) (n:By):Int:=match B.findIdx? (fun b=>decide (b.1=n)) with
 |some i=>(i:Int)
 |none=> -1
theorem Io (B:List Bd) (v:Value) (nm:By) (R S:Nat->Prop) (w:World) (h:iM R S w v B) (hl:B.length<=1000000):Calls Tryz.prog 100 #[v,.string nm] w fun e w'=>e= .returned (.int .i64 (uY B nm))/\w'=w:=by
 have H:=ah h;obtain⟨a,c,rfl⟩:=h.shape;obtain⟨X,hX⟩: ∃X,uY B nm=X:=⟨_,rfl⟩
 rw[hX];have HX:=ah hX;clear h hX
 go_enter Tryz.func100,Tryz.ntmps100
 go_wp2_with fail
 go_loopg [5] B.length (fun gk iv wr=> ∃k:Nat,iv= .int .i64 (k:Int)/\gk=B.length-k/\k<=B.length/\Hid (∀j,j<k->(Go.Hw.bg B j).1≠nm)/\w=wr)
 case atStart=>exact⟨0,rfl,rfl,Nat.zero_le _,ah (fun j hj=>absurd hj (Nat.not_lt_zero _)),rfl⟩
 case round=>
  obtain⟨k,rfl,rfl,hk,HQ,rfl⟩:=hrel;by_cases hlt:k<B.length
  .obtain ⟨g,o,rfl,_,hat⟩:=H.out.at_ (by omega);obtain⟨ka,kc,p0,p1,p2,p3,p4,hT⟩:=hat k hlt;have hbk:Go.Hw.bg B k=B[k]:=by unfold Go.Hw.bg;rw[List.getD_eq_getElem?_getD,List.getElem?_eq_getElem hlt];rfl
   obtain⟨x,hx⟩: ∃x,(Go.Hw.bg B k).1=x:=⟨_,rfl⟩
   rw[hx] at p0;have HXE:=ah hx;have HBK:=ah hbk;obtain⟨z0,z1,z2,z2'⟩:=bZ hlt;have s1:=lJ x nm;clear hat p1 p2 p3 p4 hT hx hbk;by_cases e:x=nm
   .rw [dT e] at s1;have hr:X=(k:Int):=by
     rw[<-HX.out];unfold uY;have h1:B.findIdx? (fun b=>decide (b.1=nm))=some k:=by
      rw[List.findIdx?_eq_some_iff_getElem];refine⟨hlt,?_,fun j hj=>?_⟩
      .rw [<-HBK.out,HXE.out,e];simp
      .have h2:=HQ.out j hj;unfold Go.Hw.bg at h2;rw[List.getD_eq_getElem?_getD,List.getElem?_eq_getElem (by omega)] at h2;simpa using h2
     rw[h1]
    subst hr;clear e
    go_wp2_with fail
    go_ret;exact⟨rfl,rfl⟩
   .rw [dF e] at s1;have Jz:Hid (∀j,j<k+1->(Go.Hw.bg B j).1≠nm):=ah (fun j hj=>by
     by_cases hjk:j<k
     .exact HQ.out j hjk
     .obtain rfl:j=k:=by omega
      rw[HXE.out];exact e)
    clear e
    go_wp2_with fail
    go_roundg (B.length- (k+1))
    case measure=>omega
    case rel=>exact⟨k+1,by go_num,rfl,by omega,Jz,rfl⟩
  .obtain rfl:k=B.length:=by omega
   have z2:decide ((B.length:Int)< (B.length:Int))=false:=dF (by omega);have hr:X= -1:=by
    rw[<-HX.out];unfold uY;have h1:B.findIdx? (fun b=>decide (b.1=nm))=none:=by
     rw[List.findIdx?_eq_none_iff];intro b hb;obtain⟨j,hj,e⟩:=List.getElem_of_mem hb;have h2:=HQ.out j hj;unfold Go.Hw.bg at h2;rw[List.getD_eq_getElem?_getD,List.getElem?_eq_getElem hj] at h2;rw[<-e];simpa using h2
    rw[h1]
   subst hr
   go_wp2_with fail
   go_ret;exact⟨rfl,rfl⟩
theorem KQ: ∀(t:Tm) (v:Value) (S:Nat->Prop) (w:World),bQ S w t v->(∀k,S k->k<w.heap.size)->t.size<=100000->
  Calls Tryz.prog 101 #[v] w fun e w'=> ∃r B,e= .returned (tV t r)/\aP 24 w' B t.kids r/\(∀j,B j->w.heap.size<=j/\j<w'.heap.size)/\Ext w w':=by
 refine Tm.ind (fun n s L ih=>?_);intro v S w hT hS hsz;obtain⟨a,cap,rfl,hT⟩:=hT;dsimp only[tV,Tm.name,Tm.sort,Tm.kids] at hT⊢;have dH:=ah hT;have HIH:=ah ih;have iE:=ah hS;have fJ:sizes L+1<=100000:=by rw[size_eq] at hsz;simp only[Tm.kids] at hsz;omega
 have HSL:=ah fJ;have j_:L.length<=100000:=by have h1:=bG L;omega
 have hZ:=(((uR w).alloc (.cells #[.string n,.string s,.slice a L.length cap] 24)).alloc zO).alloc (.cells #[.string n,.string s,.slice none 0 0] 24);have HB2:=ah (aB (aB (ay w (.cells #[.string n,.string s,.slice a L.length cap] 24)) zO) (.cells #[.string n,.string s,.slice none 0 0] 24));have HB3:=ah (aB (alloc_at (w.alloc (.cells #[.string n,.string s,.slice a L.length cap] 24)) zO (n:=w.heap.size+1) (by simp)) (.cells #[.string n,.string s,.slice none 0 0] 24));have HB4:=ah (alloc_at ((w.alloc (.cells #[.string n,.string s,.slice a L.length cap] 24)).alloc zO) (.cells #[.string n,.string s,.slice none 0 0] 24) (n:=w.heap.size+2) (by simp));have hz2:w.heap.size+3<=(((w.alloc (.cells #[.string n,.string s,.slice a L.length cap] 24)).alloc zO).alloc (.cells #[.string n,.string s,.slice none 0 0] 24)).heap.size:=by simp
 have HZ:=ah hZ;have HZ2:=ah hz2;clear ih hT hS hsz fJ hZ hz2
 go_enter Tryz.func101,Tryz.ntmps101
 go_upto_region 2 with fail
 try rw[show w.heap.size+1+1=w.heap.size+2 from rfl]
 generalize (((w.alloc (.cells #[.string n,.string s,.slice a L.length cap] 24)).alloc zO).alloc (.cells #[.string n,.string s,.slice none 0 0] 24))=w1 at*
 go_wp2_with fail
 have kL:Hid (n_ 24 (w.heap.size+3) w1 L (.slice none 0 0) [] (fun _ _=>False) 0):=ah ⟨rfl,⟨rfl,.inl ⟨rfl,rfl⟩⟩,fun i hi=>absurd hi (Nat.not_lt_zero _),fun i j hi=>absurd hi (Nat.not_lt_zero _),fun i i' j hi=>absurd hi (Nat.not_lt_zero _)⟩
 go_loopg [4] L.length (fun gk iv wr=> ∃(k:Nat) (lv:Value) (us:List Value) (Bk:Nat->Nat->Prop),iv= .int .i64 (k:Int)/\gk=L.length-k/\k<=L.length/\Hid (n_ 24 (w.heap.size+3) wr L lv us Bk k)/\Hid (wr.heap[w.heap.size]?=some (.cells #[.string n,.string s,.slice a L.length cap] 24 (0,0)))/\Hid (wr.heap[w.heap.size+1]?=some zO)/\Hid (wr.heap[w.heap.size+2]?=some (.cells #[.string n,.string s,lv] 24 (0,0)))/\Hid (Ext w wr)/\Hid (w.heap.size+3<=wr.heap.size))
 case atStart=>exact⟨0,_,_,_,rfl,rfl,Nat.zero_le _,kL,HB2,HB3,HB4,HZ,HZ2⟩
 case round=>
  clear kL HB2 HB3 HB4 HZ HZ2;obtain⟨k,lv,us,Bk,rfl,rfl,hk,HJ,HB2,jL,HB3,HE,bU⟩:=hrel;obtain⟨la,lc,hlv⟩:=bF HJ.out.own;subst hlv;obtain⟨b0,b1,b2⟩:=ak HB2.out;by_cases hlt:k<L.length
  .obtain ⟨g,off,hga,_,hat⟩:=(dH.out.ext HE.out).at_ (by omega);subst hga;obtain⟨xa,xc,q0,q1,q2,aW⟩:=hat k hlt;rw[<-Nat.add_assoc] at q1 q2;obtain⟨z0,z1,z2,z2'⟩:=bZ hlt;have bf:=ah (fun W (hW:Ext wr W)=>HIH.out (tg L k) (bY L k hlt) _ S W ⟨xa,xc,rfl,aW.ext hW⟩ (fun j hj=>aF (iE.out j hj) (Nat.le_trans HE.out.size hW.size)) (by have h1:=HSL.out;have h2:=gq (bY L k hlt);omega));dsimp only[tV] at bf;obtain⟨z,hz⟩: ∃z,tg L k=z:=⟨_,rfl⟩
   have HZ:=ah hz;rw[hz] at bf q0 q1 q2;have c2:=aj HB3.out 2 (.slice la k lc) rfl;have iV:Hid (¬(Value.slice la k lc).ownBlock=some (w.heap.size+2)):=ah (fun e=>by have h1:=(HJ.out.own.lt _ e).1;omega);have HKB:Hid (k<=1000000):=ah (by omega);have MQ:Hid (Ext wr wr):=ah (aC.refl _ _);obtain⟨iT,hi,hz0,hz1,hz2⟩:=info_parts um;clear hat aW hz
   go_wp2_with fail
   go_region_law (first
    |(refine dY _ (.tmp 18) (.tmp 25) 22 rfl (w.heap.size+3) 24 iT (.agg #[.string ⟨#[]⟩,.string ⟨#[]⟩,.slice none 0 0]) 3 56 Tryz.underlying22 hi hz0 hz1 hz2 rfl (by decide) _ _ _ rfl BR.out _ 1 1 [Value.string z.name,.string z.sort,.slice ya z.kids.length yc] rfl rfl oD.out kF.out iW.out.1 iW.out.2.1 iW.out.2.2 ?_;intro v7 w7 bK;obtain⟨a7,c7,hv7⟩:=bF bK.own;subst hv7;have fK:=bK.upd.heap (aB jE.out (tO z ya yc)) iV.out;have f7:=fun i=>aA fK i;have c2:=aj fK 2 (.slice la k lc) rfl;have eU:=ah fK;have jO:=ah bK;clear bK fK)
    |(go_simp;refine(bf.out wr.drew MQ.out.drew).mono ?_;rintro e w6 ⟨r,Bx,rfl,uH,hb6,hw6⟩;obtain⟨ya,yc,jP⟩:=aP.shape uH;subst jP;have nV:Hid (Ext wr w6):=ah (((uR wr).drewN' 1).trans hw6);have wS:=ah uH;have KP:Hid (∀j,Bx j->wr.heap.size<=j/\j<w6.heap.size):=ah hb6;have jE:=ah (nV.out.heap HB3.out (fun h=>h));have BR:Hid ((w6.alloc (tO z ya yc)).ownsRow (w.heap.size+3) 24 3 (.slice la k lc) k (dI (L.take k) us)):=ah ((bH HJ.out.own nV.out (fun _ _ h=>h)).alloc _);have oD:Hid (∀(j:Nat) (u:Value),[Value.string z.name,.string z.sort,.slice ya z.kids.length yc][j]?=some u->(w6.alloc (tO z ya yc)).cell? ((⟨w6.heap.size,0,none⟩:Addr).add j)=some u):=ah (zU w6 _ _ _ 24);have kF:Hid (∀u∈[Value.string z.name,.string z.sort,.slice ya z.kids.length yc],u.oneCell'=true):=ah (fun u hu=>by simp at hu;rcases hu with h|h|h<;>(subst h;rfl));have iW:Hid (k+1<=maxLen/\(k+1)*56<=140737488355328/\w.heap.size+3<=(w6.alloc (tO z ya yc)).heap.size):=ah ⟨by unfold maxLen;have:=HKB.out;omega,by have:=HKB.out;omega,by have h1:=nV.out.size;have h2:=bU.out;simp;omega⟩;have c6:=nV.out.cell c2 (fun h=>h);have c7:=((uR w6).alloc (tO z ya yc)).cell c6 (fun h=>h);clear uH hb6 hw6 bf))
   all_goals
    go_wp2_with fail
    have ig:=ah ((aC.refl (fun j=>j=w.heap.size+2) w7).setCell (p:=⟨w.heap.size+2,2,none⟩) (.inl rfl) (.slice a7 (k+1) c7));have dB:Hid (aC (fun j=>(Value.slice la k lc).ownBlock=some j\/j=w.heap.size+2) wr (w7.setCell ⟨w.heap.size+2,2,none⟩ (.slice a7 (k+1) c7))):=ah (((((nV.out.alloc (tO z ya yc)).mono (fun _ _ x=>x.elim)).trans (jO.out.upd.mono (fun _ _ e=> .inl e)))).trans (ig.out.mono (fun _ _ e=> .inr e)));have uF:=ah (HJ.out.grow hlt HZ.out (Nat.lt_succ_self (w.heap.size+2)) bU.out MQ.out nV.out wS.out KP.out ((uR w6).alloc (tO z ya yc)) jO.out ig.out);have hne: ∀j,j<w.heap.size+2->¬((Value.slice la k lc).ownBlock=some j\/j=w.heap.size+2):=fun j hj e=>by
     rcases e with e|e
     .have h1:=(HJ.out.own.lt _ e).1;omega
     .omega
    have dG:Hid (Ext w (w7.setCell ⟨w.heap.size+2,2,none⟩ (.slice a7 (k+1) c7))):=ah (HE.out.trans' dB.out (fun j hj=>hne j (by omega)));have mY:=ah (dB.out.heap HB2.out (hne _ (by omega)));have PY:=ah (dB.out.heap jL.out (hne _ (by omega)));have jC:=setBlock eU.out 2 (.slice a7 (k+1) c7);have lY:Hid ((w7.setCell ⟨w.heap.size+2,2,none⟩ (.slice a7 (k+1) c7)).heap[w.heap.size+2]?=some (.cells #[.string n,.string s,.slice a7 (k+1) c7] 24 (0,0))):=ah (by simpa using jC);have jX:Hid (w.heap.size+3<=(w7.setCell ⟨w.heap.size+2,2,none⟩ (.slice a7 (k+1) c7)).heap.size):=ah (Nat.le_trans bU.out dB.out.size);clear jC c2 f7 hne
    go_roundg (L.length- (k+1))
    case measure=>omega
    case rel=>exact⟨k+1,_,_,_,by go_num,rfl,by omega,uF,mY,PY,lY,dG,jX⟩
  .obtain rfl:k=L.length:=by omega
   have z2:decide ((L.length:Int)< (L.length:Int))=false:=dF (by omega);have lZ:=ah HJ.out.fin;obtain⟨c0,c1,c2⟩:=ak HB3.out;have f2:=fun i=>aA jL.out i;obtain⟨d0,d1,d2⟩:=ak jL.out
   go_wp2_with fail
   have hr3:=aN jL.out (.string n) (.string s) (.slice la L.length lc);have hu:=aK wr (w.heap.size+1) (.string n) (.string s) (.slice la L.length lc);obtain⟨e0,e1,e2⟩:=ak hr3;refine bodyPost_ret (v:= .agg #[.string n,.string s,.slice la L.length lc]) (by simp[results,Tryz.results101,go_sem,e0,e1,e2]) rfl ⟨.slice la L.length lc,_,rfl,lZ.out.kept hu (fun j hj e=>by have h1:=hj.1;omega),fun j hj=>⟨by have h1:=hj.1;omega,aF hj.2 hu.size⟩,HE.out.trans' hu (fun j hj e=>by omega)⟩
end
end Go.Proofs.YtlkcjmaiahnodaaGreatDoor
