/- The texts I98 N72 N73 N24 N25 N26, one behind the other. -/
import Derived.Test.YtlkcjmaiahnodaaGreatDoorEAH
import Derived.Test.YtlkcjmaiahnodaaGreatDoorEAK
import Derived.Test.YtlkcjmaiahnodaaGreatDoorEAE
import Derived.Test.YtlkcjmaiahnodaaGreatDoorEAD
set_option maxRecDepth 100000
set_option maxHeartbeats 8000000
set_option linter.unusedVariables false
set_option linter.unusedSimpArgs false
namespace Go.Proofs.YtlkcjmaiahnodaaGreatDoor
open Go.RowKit Go.Hw Go Tm
theorem VH (a:Option Addr) (n c:Nat) (w:World) (hn:n<=c) (hl:n<=1000000) (ha:a=none->n=0/\c=0):Calls Tryz.prog 211 #[.slice a n c] w fun e w'=>e= .returned (.slice a n n)/\Ext w w':=by
 have z0:(0:Int)<=(n:Int):=by omega
 have z1:(n:Int)<=(c:Int):=by omega
 have hn2:((n:Int)).toNat=n:=by omega
 cases a with
 |none=>
  obtain⟨rfl,rfl⟩:=ha rfl
  go_enter Tryz.func211,Tryz.ntmps211
  go_wp2_with fail
  go_ret;exact⟨rfl,aj.refl _ _⟩
 |some b=>
  go_enter Tryz.func211,Tryz.ntmps211
  go_wp2_with fail
  go_ret;exact⟨rfl,aj.refl _ _⟩
theorem acs (l:List Nat) (v:Value) (S:Nat->Prop) (w:World) (hR:az S w 1 v l.length (l.map (fun i:Nat=>Value.int .i64 (i:Int)))) (hl:l.length<=1000000):
  Calls Tryz.prog 210 #[v] w fun e w'=> ∃r,e= .returned r/\az (fun j=>w.heap.size<=j/\j<w'.heap.size) w' 1 r l.length (l.map (fun i:Nat=>Value.int .i64 (i:Int)))/\Ext w w':=by
 have hown: ∀(w':World) (r:Value),w'.ownsRow w.heap.size 3 1 r l.length (l.map (fun i:Nat=>Value.int .i64 (i:Int)))->az (fun j=>w.heap.size<=j/\j<w'.heap.size) w' 1 r l.length (l.map (fun i:Nat=>Value.int .i64 (i:Int))):=fun w' r h=>(az.iV h).weaken (fun j hj=>⟨(h.lt j hj).1,(h.lt j hj).2⟩);obtain⟨a,cap,rfl⟩:=az.shape hR;by_cases h0:0<l.length
 .obtain ⟨g,off,hga,_,hat⟩:=az.uZ (d:=(0:Nat)) hR h0;subst hga;refine(Tryz.slices_Clone_int g off l.length cap (l.map fun i:Nat=>(i:Int)) w (by simp) (by omega) (fun j hj=>?_)).mono ?_
  .have hj':j<l.length:=by simpa using hj
   have h1:=hat j hj';rw[h1];simp[List.getD_eq_getElem?_getD,List.getElem?_eq_getElem hj']
  .rintro e w' ⟨v',rfl,h1,_,h2⟩;rw[List.take_of_length_le (by simp),List.map_map] at h1;exact⟨v',rfl,hown w' v' h1,yx h2⟩
 .have hl0:l=[]:=List.eq_nil_of_length_eq_zero (by omega);subst hl0;cases a with
  |none=>
   refine(Tryz.slices_Clone_int_nil 0 cap w).mono ?_;rintro e w' ⟨rfl,rfl⟩;exact⟨_,rfl,az.nil _ _ _,aj.refl _ _⟩
  |some a=>
   refine(Tryz.slices_Clone_int_zero a cap w).mono ?_;rintro e w' ⟨v',rfl,h1,_,h2⟩;exact⟨v',rfl,hown w' v' h1,yx h2⟩
def fq (o:Option (Nat×List Nat×Tm)) (P:List Nat):List Nat:=match o with|some x=>P++x.2.1|none=>[]
def fi (o:Option (Nat×List Nat×Tm)):Nat:=match o with|some x=>x.1|none=>0
def ft (o:Option (Nat×List Nat×Tm)):Tm:=match o with|some x=>x.2.2|none=>default
structure QV (o:Option (Nat×List Nat×Tm)) (P:List Nat) (x:(Option Addr×Nat)×Option Addr×Nat) (B:Nat->Prop) (w':World):Prop where
 path:az B w' 1 (.slice x.1.1 (fq o P).length x.1.2) (fq o P).length ((fq o P).map (fun i:Nat=>Value.int .i64 (i:Int)))
 part:aG 24 w' B (ft o).kids (.slice x.2.1 (ft o).kids.length x.2.2)
def BA (o:Option (Nat×List Nat×Tm)) (P:List Nat) (x:(Option Addr×Nat)×Option Addr×Nat):Value:= .tuple #[.agg #[.int .i64 (fi o:Int),.slice x.1.1 (fq o P).length x.1.2],.agg #[.string (ft o).name,.string (ft o).sort,.slice x.2.1 (ft o).kids.length x.2.2],.bool o.isSome]
theorem QV.ext {o:Option (Nat×List Nat×Tm)} {P:List Nat} {x:(Option Addr×Nat)×Option Addr×Nat} {B:Nat->Prop} {w w':World} (h:QV o P x B w) (hE:Ext w w'):QV o P x B w':=⟨az.kept h.path hE (fun _ _ h=>h),h.part.kept hE (fun _ _ h=>h)⟩
abbrev FA:=(Option Addr×Nat)×(Option Addr×Nat)×(Nat->Prop)
def jF (v:Value):PG.dK FA:=⟨fun _=>v,fun _ _=>True,fun _ _ _ _ _=>trivial,fun _ _=>False,fun _ _ _ _ h=>h.elim⟩
def kV (k:Nat):PG.dK FA:=⟨fun x=> .slice (some ⟨x.1.2,0,none⟩) 1 1,fun x W=>W.cell? ⟨x.1.2,0,none⟩=some (.int .i64 (k:Int)),fun x W W' h hE=>hE.cell h (fun h=>h),fun _ _=>False,fun _ _ _ _ h=>h.elim⟩
def vw (base n:Nat) (xs:List Value):PG.dK FA:=⟨fun x=> .slice (some ⟨x.1.2,0,none⟩) n x.2.1.2,fun x W=>base<=x.1.2/\x.1.2<W.heap.size/\az (fun j=>j=x.1.2) W 1 (.slice (some ⟨x.1.2,0,none⟩) n x.2.1.2) n xs,fun x W W' h hE=>⟨h.1,ay h.2.1 hE.size,az.kept h.2.2 hE (fun _ _ h=>h)⟩,fun x j=>j=x.1.2,fun x W k h e=>by rw[e];exact h.2.1⟩
def rC (base:Nat) (o:Option (Nat×List Nat×Tm)) (P:List Nat):PG.dK FA:=⟨fun x=>BA o P (x.1,x.2.1),fun x W=>QV o P (x.1,x.2.1) x.2.2 W/\∀j,x.2.2 j->base<=j/\j<W.heap.size,fun x W W' h hE=>⟨h.1.ext hE,fun j hj=>⟨(h.2 j hj).1,ay (h.2 j hj).2 hE.size⟩⟩,fun x j=>x.2.2 j,fun x W k h e=>(h.2 k e).2⟩
def sJ (base:Nat) (c:Obj):PG.dK FA:=⟨fun x=> .pointer (some ⟨x.1.2,0,none⟩),fun x W=>base<=x.1.2/\W.heap[x.1.2]?=some c,fun x W W' h hE=>⟨h.1,hE.heap h.2 (fun h=>h)⟩,fun x j=>j=x.1.2,fun x W k h e=>by rw[e];exact(Array.getElem?_eq_some_iff.1 h.2).1⟩
theorem QB (l:List Rl) (hll:l.length<=1000000) (hls: ∀r∈l,r.1.size<=100000/\r.2.size<=100000): ∀(t:Tm) (v lv pv:Value) (S T U:Nat->Prop) (P:List Nat) (w:World),bC T w t v->jc S w l lv->az U w 1 pv P.length (P.map (fun i:Nat=>Value.int .i64 (i:Int)))->(∀k,S k->k<w.heap.size)->(∀k,T k->k<w.heap.size)->t.size<=100000->P.length+t.size<=200000->
  Calls Tryz.prog 167 #[lv,v,pv] w fun e w'=> ∃x B,e= .returned (BA (jy l t) P x)/\QV (jy l t) P x B w'/\(∀j,B j->w.heap.size<=j/\j<w'.heap.size)/\Ext w w':=by
 refine Tm.ind (fun nm so L ih=>?_);intro v lv pv S T U P w hT hR hP hS hT2 hsz hps;obtain⟨a,cap,rfl,hT⟩:=hT;obtain⟨la,lc,rfl⟩:=hR.shape;obtain⟨pa,pc,rfl⟩:=az.shape hP;dsimp only[tV,Tm.name,Tm.sort,Tm.kids] at hT⊢;have cO:=ae hT;have HRL:=ae hR;have pG:=ae hP;have HIH:=ae ih;have HST:=ae (And.intro hS hT2);have Fa:=ae hls;have iU:sizes L+1<=100000:=by rw[size_eq] at hsz;simp only[Tm.kids] at hsz;omega
 have oM:=ae iU;have mr:L.length<=100000:=by have h1:=bf L;omega
 have xM:=ae mr;have jP:=ae (az.clip pG.out).2;have Dl:=ae hps;have hpl:P.length<=200000:=by omega
 have cZ:=ae ((((uR w).alloc (.cells #[.string nm,.string so,.slice a L.length cap] 24)).alloc (.cells #[.int .i64 0,.slice none 0 0] 65)).alloc zO);have HB0:=ae (ak (ak (ai w (.cells #[.string nm,.string so,.slice a L.length cap] 24)) (.cells #[.int .i64 0,.slice none 0 0] 65)) zO);have HB1:=ae (ak (alloc_at (w.alloc (.cells #[.string nm,.string so,.slice a L.length cap] 24)) (.cells #[.int .i64 0,.slice none 0 0] 65) (n:=w.heap.size+1) (by simp)) zO);have HB2:=ae (alloc_at ((w.alloc (.cells #[.string nm,.string so,.slice a L.length cap] 24)).alloc (.cells #[.int .i64 0,.slice none 0 0] 65)) zO (n:=w.heap.size+2) (by simp));have hz0:(((w.alloc (.cells #[.string nm,.string so,.slice a L.length cap] 24)).alloc (.cells #[.int .i64 0,.slice none 0 0] 65)).alloc zO).heap.size=w.heap.size+3:=by simp
 have HZ0:=ae hz0;obtain⟨V,hV⟩: ∃V,sK l 0 L=V:=⟨_,rfl⟩
 have HV:=ae hV;have hvv:=QW l nm so L;rw[hV] at hvv;have HVV:=ae hvv;have c2:=af HB0.out 2 (.slice a L.length cap) rfl;clear ih hT hR hP hS hT2 hsz iU hz0 hV hvv hps
 go_enter Tryz.func167,Tryz.ntmps167
 go_wp2_with fail
 clear c2;generalize (((w.alloc (.cells #[.string nm,.string so,.slice a L.length cap] 24)).alloc (.cells #[.int .i64 0,.slice none 0 0] 65)).alloc zO)=W0 at*
 go_loopg [21] L.length (fun gk iv wr=> ∃k:Nat,iv= .int .i64 (k:Int)/\gk=L.length-k/\k<=L.length/\Hid (sK l k (L.drop k)=V)/\Hid (Ext w wr)/\Hid (wr.heap[w.heap.size]?=some (.cells #[.string nm,.string so,.slice a L.length cap] 24 (0,0)))/\Hid (wr.heap[w.heap.size+1]?=some (.cells #[.int .i64 0,.slice none 0 0] 65 (0,0)))/\Hid (wr.heap[w.heap.size+2]?=some zO)/\Hid (w.heap.size+3<=wr.heap.size))
 case atStart=>exact⟨0,rfl,rfl,Nat.zero_le _,HV,cZ,HB0,HB1,HB2,ae (by rw[HZ0.out];exact Nat.le_refl _)⟩
 case round=>
  clear HB0 HB1 HB2 cZ HZ0 HV;obtain⟨k,rfl,rfl,hk,lN,HE,HB0,HB1,HB2,dw⟩:=hrel;by_cases hlt:k<L.length
  .obtain ⟨g,off,hga,_,hat⟩:=(cO.out.ext HE.out).at_ (by omega);subst hga;obtain⟨xa,xc,q0,q1,q2,aY⟩:=hat k hlt;rw[<-Nat.add_assoc] at q1 q2;obtain⟨z0,z1,z2,z2'⟩:=bz hlt;have jE:=ae (lN.out.symm.trans (QX l L k hlt));have NR:=ae aY;have NS:=ae (ed L k hlt);have ry:Hid ((tg L k).size<=100000/\P.length+1+(tg L k).size<=200000):=ae (by have h1:=oM.out;have h2:=kR L k hlt;have h3:=jd L (k+1);have h4:=Dl.out;rw[size_eq] at h4;simp only[Tm.kids] at h4;omega);obtain⟨x,hx⟩: ∃x,tg L k=x:=⟨_,rfl⟩
   have HX:=ae hx;rw[hx] at q0 q1 q2 jE NR NS ry;have hQ:=(uR wr).alloc (tO x xa xc);have kT:=ai wr (tO x xa xc);obtain⟨b0,b1,b2⟩:=ag kT;have HQ:=ae hQ;have F_:=ae (hQ.heap HB0.out (fun h=>h));have TD:=ae (hQ.heap HB1.out (fun h=>h));have TE:=ae (hQ.heap HB2.out (fun h=>h));clear hat aY hx hQ kT lN HB0 HB1 HB2
   go_wp2_with fail
   generalize wr.alloc (tO x xa xc)=wq at*;have a_:=ae (fun W (hW:Ext wq W) (pv':Value) (U':Nat->Prop) (hP:az U' W 1 pv' (P.length+1) (P.map (fun i:Nat=>Value.int .i64 (i:Int))++[.int .i64 (k:Int)]))=>HIH.out x NS.out (.agg #[.string x.name,.string x.sort,.slice xa x.kids.length xc]) (.slice la l.length lc) pv' S T U' (P++[k]) W ⟨xa,xc,rfl,(NR.out.ext HQ.out).ext hW⟩ (HRL.out.ext ((HE.out.trans HQ.out).trans hW)) (by rw[List.length_append,List.map_append];exact hP) (fun j hj=>ay (HST.out.1 j hj) ((HE.out.trans HQ.out).trans hW).size) (fun j hj=>ay (HST.out.2 j hj) ((HE.out.trans HQ.out).trans hW).size) (ry.out).1 (by rw[List.length_append];exact ry.out.2));have VI:=ae (fun W (hW:Ext wq W)=>az.kept pG.out ((HE.out.trans HQ.out).trans hW) (fun _ _ h=>h));have x0:=fun x:XW wq=>x.ext.cell b0 (fun h=>h);have x1:=fun x:XW wq=>x.ext.cell b1 (fun h=>h);have x2:=fun x:XW wq=>x.ext.cell b2 (fun h=>h);obtain⟨o,ho⟩: ∃o,jy l x=o:=⟨_,rfl⟩
   have HO:=ae ho;rw[ho] at a_ jE;clear ho b0 b1 b2;refine PG.bW (α:=FA) 14 [10,11] 16 [(14,1),(15,1),(16,2)] [[],[],[],[2],[],[4],[2,3,4,5],[0,1,2,3,4,5,6],[0,1,2,3,4,5,6,7],[0,1,2,3,4,5,6,7,8],[0,1,2,3,4,5,6,7,8],[0,1,2,3,4,5,6,7,8],[],[],[0,1,2,3,4,5,6,7,8,9,12,13],[0,1,2,3,4,5,6,7,8,9,10,12,13,14],[0,1,2,3,4,5,6,7,8,9,10,11,12,13,14,15]]
    [none,none,none,some (jF (.slice pa P.length P.length)),none,some (kV k),some (vw wq.heap.size (P.length+1) (P.map (fun i:Nat=>Value.int .i64 (i:Int))++[.int .i64 (k:Int)])),some (rC wq.heap.size o (P++[k])),none,none,none,none,some (sJ wq.heap.size (.cells #[.int .i64 0,.slice none 0 0] 65 (0,0))),some (sJ wq.heap.size zO)]
    [false,false,false,true,false,true,true,true,false,false,false,false,true,true] (by kernel_rfl) (by kernel_rfl) rfl (fun _ _ d _ _ h=>by cases d<;>exact h) ?_
   simp only[List.take_succ_cons,List.take_zero,gG,List.getElem?_cons_zero,List.getElem?_cons_succ]
   iterate 3(refine PG.aX rfl (fun K hK=>?_);go_simp;refine hK _ ?_;clear hK K)
   refine PG.aK _ rfl (by go_simp) (fun W hW hG K hK=>?_) (fun K z3 hK=>?_)
   .go_simp;refine(VH pa P.length pc W jP.out.1 (by omega) jP.out.2).mono ?_;rintro e w' ⟨rfl,hE⟩;exact hK default _ hE trivial (fun k e=>e.elim)
   refine hK _ ?_;clear hK K;dsimp only[jF,kV,vw,rC,sJ,BA];refine PG.aX rfl (fun K hK=>?_);go_simp;refine hK _ ?_;clear hK K;refine PG.aK _ rfl (by go_simp) (fun W hW hG K hK=>?_) (fun K z5 hK=>?_)
   .go_simp;exact hK ((none,W.heap.size),default) _ ((uR W).alloc _) (af (ai W _) 0 _ rfl) (fun k e=>e.elim)
   refine hK _ ?_;clear hK K;dsimp only[jF,kV,vw,rC,sJ,BA];refine PG.aK _ rfl (by go_simp) (fun W hW hG K hK=>?_) (fun K z6 hK=>?_)
   .have g5:=hG _ (List.mem_append_right _ (List.mem_singleton.2 rfl)) (by show(5:Nat)∈_;decide);obtain⟨iI,hi,hz0,hz1,hz2⟩:=info_parts aaz;refine xO W (.tmp 30) (.tmp 32) 63 rfl 3 iI (.int .i64 0) 8 Tryz.underlying63 hi hz0 hz1 hz2 U pa P.length (P.map (fun i:Nat=>Value.int .i64 (i:Int))) rfl (az.clip (VI.out W hW)).1 z5.1.2 1 (.int .i64 (k:Int)) rfl g5 (by unfold maxLen;omega) (by omega) ?_;intro c' w' hE hLT hS;exact hK ((none,W.heap.size),(none,c'),fun _=>False) w' hE ⟨hW.size,hLT,hS⟩ (fun k e=>by rw[e];exact Nat.le_refl _)
   refine hK _ ?_;clear hK K;dsimp only[jF,kV,vw,rC,sJ,BA];refine PG.aK _ rfl (by go_simp) (fun W hW hG K hK=>?_) (fun K z7 hK=>?_)
   .have g6:=hG _ (List.mem_append_right _ (List.mem_singleton.2 rfl)) (by show(6:Nat)∈_;decide);go_simp;refine(a_.out W hW _ _ g6.2.2).mono ?_;rintro e w' ⟨y,B,rfl,hF,hb,hE⟩;exact hK (y.1,y.2,B) w' hE ⟨hF,fun j hj=>⟨Nat.le_trans hW.size (hb j hj).1,(hb j hj).2⟩⟩ (fun k e=>(hb k e).1)
   refine hK _ ?_;clear hK K;dsimp only[jF,kV,vw,rC,sJ,BA]
   iterate 4(refine PG.aX rfl (fun K hK=>?_);go_simp;refine hK _ ?_;clear hK K)
   refine PG.aK _ rfl (by go_simp) (fun W hW hG K hK=>?_) (fun K z12 hK=>?_)
   .go_simp;exact hK ((none,W.heap.size),default) _ ((uR W).alloc _) ⟨hW.size,ai _ _⟩ (fun k e=>by rw[e];exact Nat.le_refl _)
   refine hK _ ?_;clear hK K;dsimp only[jF,kV,vw,rC,sJ,BA];refine PG.aK _ rfl (by go_simp) (fun W hW hG K hK=>?_) (fun K z13 hK=>?_)
   .go_simp;exact hK ((none,W.heap.size),default) _ ((uR W).alloc _) ⟨hW.size,ai _ _⟩ (fun k e=>by rw[e];exact Nat.le_refl _)
   refine hK _ ?_;clear hK K;dsimp only[jF,kV,vw,rC,sJ,BA];refine PG.jo (fun w8 hW hG jW=>?_);have g7:=hG _ (List.mem_append_left _ (List.mem_append_left _ (List.mem_append_right _ (List.mem_singleton.2 rfl))));have g12:=hG _ (List.mem_append_left _ (List.mem_append_right _ (List.mem_singleton.2 rfl)));have g13:=hG _ (List.mem_append_right _ (List.mem_singleton.2 rfl));unfold PG.vz PI.vz at jW;simp only[List.nil_append,List.singleton_append,List.cons_append,List.pairwise_cons] at jW;obtain⟨_,_,_,hp7,aeq,_⟩:=jW;have Yv:=hp7 _ (List.mem_cons_self ..);have Yw:=hp7 _ (List.mem_cons_of_mem _ (List.mem_cons_self ..));have TF:=aeq _ (List.mem_cons_self ..);dsimp only[jF,kV,vw,rC,sJ] at g7 g12 g13 Yv Yw TF;clear hG hp7 aeq x0 x1 x2 q0 q1 q2;obtain⟨k0,k1⟩:=aP g12.2;obtain⟨l0,l1,l2⟩:=ag g13.2;have fk:=fun i=>au g12.2 i;have fl:=fun i=>au g13.2 i;have hne:z12.1.2≠z13.1.2:=fun e=>TF z12.1.2 rfl e;have G7:=ae g7;have G12:=ae g12;have G13:=ae g13;have HW:=ae hW;have Yx:=ae Yv;have Yy:=ae Yw;clear g7 g12 g13 hW Yv Yw TF;refine kN (fun K hK _=>?_) trivial;rw[if_pos (by rfl)];go_simp;refine hK _ _ trivial ?_;clear hK K;refine kN (fun K hK _=>?_) trivial;rw[if_pos (by rfl)];go_simp;refine hK _ _ trivial ?_;clear hK K;refine iE ?_;intro K hK;go_simp;refine hK _ _ ?_;clear hK K;simp only[cu];have aet:((w8.setCell ⟨z12.1.2,0,none⟩ (.int .i64 (fi o:Int))).setCell ⟨z12.1.2,1,none⟩ (.slice z7.1.1 (fq o (P++[k])).length z7.1.2)).heap[z12.1.2]?=some (.cells #[.int .i64 (fi o:Int),.slice z7.1.1 (fq o (P++[k])).length z7.1.2] 65 (0,0)):=by simpa using setBlock (setBlock G12.out.2 0 (.int .i64 (fi o:Int))) 1 (.slice z7.1.1 (fq o (P++[k])).length z7.1.2)
   have Yz:aj (fun j=>j=z12.1.2) w8 ((w8.setCell ⟨z12.1.2,0,none⟩ (.int .i64 (fi o:Int))).setCell ⟨z12.1.2,1,none⟩ (.slice z7.1.1 (fq o (P++[k])).length z7.1.2)):=((aj.refl (fun j=>j=z12.1.2) w8).setCell (p:=⟨z12.1.2,0,none⟩) (.inl rfl) _).setCell (p:=⟨z12.1.2,1,none⟩) (.inl rfl) _;generalize (w8.setCell ⟨z12.1.2,0,none⟩ (.int .i64 (fi o:Int))).setCell ⟨z12.1.2,1,none⟩ (.slice z7.1.1 (fq o (P++[k])).length z7.1.2)=w9 at*;have aeu:=jU (Yz.heap G13.out.2 (fun e=>hne e.symm)) (.string (ft o).name) (.string (ft o).sort) (.slice z7.2.1.1 (ft o).kids.length z7.2.1.2);have YA:=gq w9 z13.1.2 (.string (ft o).name) (.string (ft o).sort) (.slice z7.2.1.1 (ft o).kids.length z7.2.1.2);generalize ((w9.setCell ⟨z13.1.2,0,none⟩ (.string (ft o).name)).setCell ⟨z13.1.2,1,none⟩ (.string (ft o).sort)).setCell ⟨z13.1.2,2,none⟩ (.slice z7.2.1.1 (ft o).kids.length z7.2.1.2)=wA at*;have oP:=ae (YA.heap aet hne);have jS:=ae aeu;have VJ:aj (fun j=>j=z12.1.2\/j=z13.1.2) w8 wA:=(Yz.mono (fun _ _ h=> .inl h)).trans (YA.mono (fun _ _ h=> .inr h));have kG:Hid (Ext wq wA):=ae (HW.out.trans' VJ (fun j hj h=>by have h1:=G12.out.1;have h2:=G13.out.1;omega));have QY:Hid (QV o (P++[k]) (z7.1,z7.2.1) z7.2.2 wA/\∀j,z7.2.2 j->wq.heap.size<=j/\j<wA.heap.size):=ae ⟨⟨az.kept G7.out.1.path VJ (fun j hj h=>by rcases h with h|h;exact Yx.out j hj h;exact Yy.out j hj h),G7.out.1.part.kept VJ (fun j hj h=>by rcases h with h|h;exact Yx.out j hj h;exact Yy.out j hj h)⟩,fun j hj=>⟨(G7.out.2 j hj).1,ay (G7.out.2 j hj).2 VJ.size⟩⟩;have zX:Hid (Ext w wA):=ae ((HE.out.trans HQ.out).trans kG.out);have YB:=ae (kG.out.heap F_.out (fun h=>h));have yX:=ae (kG.out.heap TD.out (fun h=>h));have Dn:=ae (kG.out.heap TE.out (fun h=>h));have sH:Hid (w.heap.size+3<=wA.heap.size):=ae (Nat.le_trans dw.out (HQ.out.trans kG.out).size);have al8:Hid (w.heap.size+3<=z13.1.2):=ae (Nat.le_trans dw.out (Nat.le_trans HQ.out.size G13.out.1));clear k0 k1 l0 l1 l2 fk fl aet Yz aeu YA VJ hne G7 G12 G13 HW Yx Yy;cases o with
   |none=>
    have jw:Hid (sK l (k+1) (L.drop (k+1))=V):=ae jE.out.symm;have ao0:=xM.out;simp only[Option.isSome_none]
    go_wp2_with fail
    go_roundg (L.length- (k+1))
    case measure=>omega
    case rel=>exact⟨k+1,by go_num,rfl,by omega,jw,zX,YB,yX,Dn,sH⟩
   |some y=>
    obtain⟨k0,k1⟩:=aP oP.out;obtain⟨l0,l1,l2⟩:=ag jS.out;obtain⟨r0,r1⟩:=aP yX.out;obtain⟨d0,d1,d2⟩:=ag Dn.out;have fr:=fun i=>au yX.out i;have fd:=fun i=>au Dn.out i;have gX:=((aj.refl (fun j=>j=w.heap.size+1) wA).setCell (p:=⟨w.heap.size+1,0,none⟩) (.inl rfl) (.int .i64 (fi (some y):Int))).setCell (p:=⟨w.heap.size+1,1,none⟩) (.inl rfl) (.slice z7.1.1 (fq (some y) (P++[k])).length z7.1.2);have TG: ¬z13.1.2=w.heap.size+1:=by have:=al8.out;omega
    have hz2: ¬w.heap.size+2=w.heap.size+1:=by omega
    have m0:=gX.cell l0 TG;have m1:=gX.cell l1 TG;have m2:=gX.cell l2 TG;have n0:=gX.cell d0 hz2;have n1:=gX.cell d1 hz2;have n2:=gX.cell d2 hz2;have fe:=fun i=>au (gX.heap Dn.out hz2) i;clear gX TG hz2;simp only[Option.isSome_some]
    go_wp2_with fail
    go_region
    all_goals (go_wp2_with fail)
    have hb1:((wA.setCell ⟨w.heap.size+1,0,none⟩ (.int .i64 (fi (some y):Int))).setCell ⟨w.heap.size+1,1,none⟩ (.slice z7.1.1 (fq (some y) (P++[k])).length z7.1.2)).heap[w.heap.size+1]?=some (.cells #[.int .i64 (fi (some y):Int),.slice z7.1.1 (fq (some y) (P++[k])).length z7.1.2] 65 (0,0)):=by simpa using setBlock (setBlock yX.out 0 (.int .i64 (fi (some y):Int))) 1 (.slice z7.1.1 (fq (some y) (P++[k])).length z7.1.2)
    have hu1:aj (fun j=>j=w.heap.size+1) wA ((wA.setCell ⟨w.heap.size+1,0,none⟩ (.int .i64 (fi (some y):Int))).setCell ⟨w.heap.size+1,1,none⟩ (.slice z7.1.1 (fq (some y) (P++[k])).length z7.1.2)):=((aj.refl (fun j=>j=w.heap.size+1) wA).setCell (p:=⟨w.heap.size+1,0,none⟩) (.inl rfl) _).setCell (p:=⟨w.heap.size+1,1,none⟩) (.inl rfl) _;have NT:=ae (hu1.heap Dn.out (by omega));clear k0 k1 l0 l1 l2 r0 r1 d0 d1 d2 fr fd m0 m1 m2 n0 n1 n2 fe;generalize (wA.setCell ⟨w.heap.size+1,0,none⟩ (.int .i64 (fi (some y):Int))).setCell ⟨w.heap.size+1,1,none⟩ (.slice z7.1.1 (fq (some y) (P++[k])).length z7.1.2)=wB at*;have hr2:=jU NT.out (.string (ft (some y)).name) (.string (ft (some y)).sort) (.slice z7.2.1.1 (ft (some y)).kids.length z7.2.1.2);have hu2:=gq wB (w.heap.size+2) (.string (ft (some y)).name) (.string (ft (some y)).sort) (.slice z7.2.1.1 (ft (some y)).kids.length z7.2.1.2);have hr1:=hu2.heap hb1 (by omega);have hu:aj (fun j=>j=w.heap.size+1\/j=w.heap.size+2) wA _:=(hu1.mono (fun _ _ h=> .inl h)).trans (hu2.mono (fun _ _ h=> .inr h));replace hu:=hu.drew;obtain⟨e0,e1⟩:=aP hr1;obtain⟨e2,e3,e4⟩:=ag hr2;have hq:fq (some (y.1,k::y.2.1,y.2.2)) P=fq (some y) (P++[k]):=by simp[fq]
    have hwq:w.heap.size+3<=wq.heap.size:=Nat.le_trans dw.out HQ.out.size;refine bodyPost_ret (v:= .tuple #[.agg #[.int .i64 (fi (some y):Int),.slice z7.1.1 (fq (some y) (P++[k])).length z7.1.2],.agg #[.string (ft (some y)).name,.string (ft (some y)).sort,.slice z7.2.1.1 (ft (some y)).kids.length z7.2.1.2],.bool true]) (by simp[results,Tryz.results167,go_sem,e0,e1,e2,e3,e4]) rfl ⟨(z7.1,z7.2.1),z7.2.2,?_,?_,?_,?_⟩
    .rw [HVV.out,jE.out];simp only[BA,hq];rfl
    .rw [HVV.out,jE.out];refine⟨?_,QY.out.1.part.kept hu (fun j hj e=>by have h1:=(QY.out.2 j hj).1;omega)⟩;simp only[hq];exact az.kept QY.out.1.path hu (fun j hj e=>by have h1:=(QY.out.2 j hj).1;omega)
    .exact fun j hj=>⟨by have h1:=(QY.out.2 j hj).1;omega,ay (QY.out.2 j hj).2 hu.size⟩
    .exact zX.out.trans' hu (fun j hj e=>by omega)
  .obtain rfl:k=L.length:=by omega
   have z2:decide ((L.length:Int)< (L.length:Int))=false:=dF (by omega);have hvn:V=none:=by
    rw[<-lN.out,List.drop_length];unfold sK;rfl
   have hvw:=HVV.out;rw[hvn] at hvw;have VK:Hid (jy l (mk nm so L)=(vX 0 l (mk nm so L)).map (fun x=>(x.1,[],x.2))):=ae hvw;obtain⟨V2,hV2⟩: ∃V2,vX 0 l (mk nm so L)=V2:=⟨_,rfl⟩
   rw[hV2] at VK;have jb:=ae hV2;clear hvn hvw hV2 lN HVV HIH hk
   go_wp2_with fail
   obtain⟨wa,lJ⟩: ∃wa,wa=wr:=⟨_,rfl⟩
   subst lJ
   go_loopg [44] l.length (fun gk iv wr=> ∃k:Nat,iv= .int .i64 (k:Int)/\gk=l.length-k/\k<=l.length/\Hid (vX k (l.drop k) (mk nm so L)=V2)/\Hid (Ext w wr)/\Hid (wr.heap[w.heap.size]?=some (.cells #[.string nm,.string so,.slice a L.length cap] 24 (0,0)))/\Hid (wr.heap[w.heap.size+1]?=some (.cells #[.int .i64 0,.slice none 0 0] 65 (0,0)))/\Hid (wr.heap[w.heap.size+2]?=some zO)/\Hid (w.heap.size+3<=wr.heap.size))
   case atStart=>exact⟨0,rfl,rfl,Nat.zero_le _,jb,HE,HB0,HB1,HB2,dw⟩
   case round=>
    clear HB0 HB1 HB2 HE dw jb;obtain⟨k,rfl,rfl,hk,lN,HE,HB0,HB1,HB2,dw⟩:=hrel;by_cases hlt:k<l.length
    .obtain ⟨g,off,hga,_,hat⟩:=(HRL.out.ext HE.out).at_ (by omega);subst hga;obtain⟨xa,xc,ya,yc,q0,q1,q2,q3,q4,q5,hx,hy⟩:=hat k hlt;obtain⟨z0,z1,z2,z2'⟩:=bz hlt;have jE:=ae (lN.out.symm.trans (QZ l (mk nm so L) k hlt));have ry:=ae (Fa.out _ (oD hlt));have Ic:=ae (And.intro hx hy);obtain⟨⟨x,y⟩,hxy⟩: ∃r,rg l k=r:=⟨_,rfl⟩
     rw[hxy] at q0 q1 q2 q3 q4 q5 jE ry Ic;dsimp only at q0 q1 q2 q3 q4 q5 jE ry Ic;have hQ:=(uR wr).alloc (.cells #[.string x.name,.string x.sort,.slice xa x.kids.length xc,.string y.name,.string y.sort,.slice ya y.kids.length yc] 146);have HQ:=ae hQ;have kT:=ai wr (.cells #[.string x.name,.string x.sort,.slice xa x.kids.length xc,.string y.name,.string y.sort,.slice ya y.kids.length yc] 146);obtain⟨b0,b1,b2,b3,b4,b5⟩:=eG kT;have F_:=ae (hQ.heap HB0.out (fun h=>h));have TD:=ae (hQ.heap HB1.out (fun h=>h));have TE:=ae (hQ.heap HB2.out (fun h=>h));obtain⟨t0,t1,t2⟩:=ag F_.out;have yG:Hid (∀W,Ext (wr.alloc (.cells #[.string x.name,.string x.sort,.slice xa x.kids.length xc,.string y.name,.string y.sort,.slice ya y.kids.length yc] 146)) W->Calls Tryz.prog 119 #[.agg #[.string x.name,.string x.sort,.slice xa x.kids.length xc,.string y.name,.string y.sort,.slice ya y.kids.length yc],.agg #[.string nm,.string so,.slice a L.length cap]] W fun e w'=> ∃r,e= .returned r/\ApP (jL (x,y) (mk nm so L)) W.heap.size w' r/\Ext W w'):=ae (fun W hW=>QR x y (mk nm so L) _ _ xa ya xc yc S T W ((Ic.out.1.ext HQ.out).ext hW) ((Ic.out.2.ext HQ.out).ext hW) rfl ⟨a,cap,rfl,(cO.out.ext ((HE.out.trans HQ.out).trans hW))⟩ (fun j hj=>ay (HST.out.1 j hj) ((HE.out.trans HQ.out).trans hW).size) (fun j hj=>ay (HST.out.2 j hj) ((HE.out.trans HQ.out).trans hW).size) ry.out.1 ry.out.2 (by rw[size_eq];exact oM.out));obtain⟨o,ho⟩: ∃o,jL (x,y) (mk nm so L)=o:=⟨_,rfl⟩
     rw[ho] at yG jE;clear hat hx hy hxy hQ kT lN HB0 HB1 HB2 ho
     go_wp2_with fail
     refine(yG.out _ (aj.refl _ _)).mono ?_;rintro e w4 ⟨rv,rfl,⟨r,B,rfl,hTl,hbd⟩,hw4⟩;obtain⟨tt,htt⟩: ∃tt,o.getD default=tt:=⟨_,rfl⟩
     obtain⟨bb,hbb⟩: ∃bb,o.isSome=bb:=⟨_,rfl⟩
     rw[htt] at hTl;dsimp only[tV];rw[htt,hbb];obtain⟨ra,rc,hr⟩:=aG.shape hTl;subst hr;have NU:=(uR w4).alloc (tO tt ra rc);have hb:=ai w4 (tO tt ra rc);have H5:=ae ((HQ.out.trans hw4).trans NU);have zX:=ae (HE.out.trans H5.out);have YB:=ae ((hw4.trans NU).heap F_.out (fun h=>h));have yX:=ae ((hw4.trans NU).heap TD.out (fun h=>h));have Dn:=ae ((hw4.trans NU).heap TE.out (fun h=>h));have sH:Hid (w.heap.size+3<=(w4.alloc (tO tt ra rc)).heap.size):=ae (Nat.le_trans dw.out H5.out.size);have QU:=ae (hTl.kept NU (fun _ _ h=>h));have jM:Hid (∀j,B j->w.heap.size+3<=j/\j< (w4.alloc (tO tt ra rc)).heap.size):=ae (fun j hj=>⟨by have h1:=(hbd j hj).1;have h2:=HQ.out.size;have h3:=dw.out;omega,ay (hbd j hj).2 NU.size⟩);have HN5:Hid (w.heap.size+3<=w4.heap.size):=ae (Nat.le_trans dw.out (Nat.le_trans HQ.out.size hw4.size));have TI:=ae hb;clear b0 b1 b2 b3 b4 b5 t0 t1 t2 q0 q1 q2 q3 q4 q5 yG hTl hbd hw4 NU hb F_ TD TE;obtain⟨n4,hn4⟩: ∃n4,w4.heap.size=n4:=⟨_,rfl⟩
     rw[hn4] at TI HN5;cases bb with
     |false=>
      have hon:o=none:=by cases o with|none=>rfl|some u=>cases hbb
      subst hon;have jw:Hid (vX (k+1) (l.drop (k+1)) (mk nm so L)=V2):=ae jE.out.symm;clear TI QU jM H5 htt hbb hn4 jE
      go_wp2_with fail
      go_roundg (l.length- (k+1))
      case measure=>omega
      case rel=>exact⟨k+1,by go_num,rfl,by omega,jw,zX,YB,yX,Dn,sH⟩
     |true=>
      obtain⟨u,hou⟩: ∃u,o=some u:=by cases o with|none=>cases hbb|some u=>exact⟨u,rfl⟩
      subst hou;simp only[Option.getD_some] at htt;subst htt;clear hbb;have jw:Hid (V2=some (k,u)):=ae jE.out;have HWA:Hid (Ext (w4.alloc (tO u ra rc)) (w4.alloc (tO u ra rc))):=ae (aj.refl _ _);have al9:Hid (∀W,Ext (w4.alloc (tO u ra rc)) W->Calls Tryz.prog 210 #[.slice pa P.length pc] W fun e w'=> ∃ca cc,e= .returned (.slice ca P.length cc)/\az (fun j=>(w4.alloc (tO u ra rc)).heap.size<=j/\j<w'.heap.size) w' 1 (.slice ca P.length cc) P.length (P.map (fun i:Nat=>Value.int .i64 (i:Int)))/\Ext (w4.alloc (tO u ra rc)) w'):=ae (fun W hW=>(acs P _ U W (az.kept pG.out (zX.out.trans hW) (fun _ _ h=>h)) (by omega)).mono (by
       rintro e w' ⟨v',rfl,hS,hE⟩;obtain⟨ca,cc,hv⟩:=az.shape hS;subst hv;exact⟨ca,cc,rfl,az.weaken hS (fun j hj=>⟨Nat.le_trans hW.size hj.1,hj.2⟩),hW.trans hE⟩))
      obtain⟨g0,g1,g2⟩:=ag TI.out;have BC:Hid (¬n4=w.heap.size+1):=ae (by have:=HN5.out;omega);clear jE
      go_upto_region 13 with fail
      try rw[hn4]
      clear hn4;generalize w4.alloc (tO u ra rc)=wA at*
      go_region_law (first
       |(go_simp;refine(al9.out wA.drew HWA.out.drew).mono ?_;rintro e w5 ⟨ca,cc,rfl,hS5,hw5⟩;have qi:=ae hS5;have dS:=ae hw5;have TJ:=ae (hw5.heap yX.out (fun h=>h));have aev:=ae (hw5.heap Dn.out (fun h=>h));have TK:=hw5.heap TI.out (fun h=>h);have r0:=af TJ.out 0 (.int .i64 0) rfl;have r1:=af TJ.out 1 (.slice none 0 0) rfl;have fr:=fun i=>au TJ.out i;have k0:=af TK 0 (.string u.name) rfl;have k1:=af TK 1 (.string u.sort) rfl;have k2:=af TK 2 (.slice ra u.kids.length rc) rfl;have gX:=((aj.refl (fun j=>j=w.heap.size+1) w5).setCell (p:=⟨w.heap.size+1,0,none⟩) (.inl rfl) (.int .i64 (k:Int))).setCell (p:=⟨w.heap.size+1,1,none⟩) (.inl rfl) (.slice ca P.length cc);have hz2: ¬w.heap.size+2=w.heap.size+1:=(by omega);have m0:=gX.cell k0 BC.out;have m1:=gX.cell k1 BC.out;have m2:=gX.cell k2 BC.out;have hb2:=gX.heap aev.out hz2;have n0:=af hb2 0 (.string ⟨#[]⟩) rfl;have n1:=af hb2 1 (.string ⟨#[]⟩) rfl;have n2:=af hb2 2 (.slice none 0 0) rfl;have fe:=fun i=>au hb2 i;clear hS5 hw5 TK gX hz2 hb2))
      all_goals
       go_wp2_with fail
       have hb1:((w5.setCell ⟨w.heap.size+1,0,none⟩ (.int .i64 (k:Int))).setCell ⟨w.heap.size+1,1,none⟩ (.slice ca P.length cc)).heap[w.heap.size+1]?=some (.cells #[.int .i64 (k:Int),.slice ca P.length cc] 65 (0,0)):=by simpa using setBlock (setBlock TJ.out 0 (.int .i64 (k:Int))) 1 (.slice ca P.length cc)
       have hu1:aj (fun j=>j=w.heap.size+1) w5 ((w5.setCell ⟨w.heap.size+1,0,none⟩ (.int .i64 (k:Int))).setCell ⟨w.heap.size+1,1,none⟩ (.slice ca P.length cc)):=((aj.refl (fun j=>j=w.heap.size+1) w5).setCell (p:=⟨w.heap.size+1,0,none⟩) (.inl rfl) _).setCell (p:=⟨w.heap.size+1,1,none⟩) (.inl rfl) _;have NT:=ae (hu1.heap aev.out (by omega));clear g0 g1 g2 k0 k1 k2 r0 r1 fr m0 m1 m2 n0 n1 n2 fe;generalize (w5.setCell ⟨w.heap.size+1,0,none⟩ (.int .i64 (k:Int))).setCell ⟨w.heap.size+1,1,none⟩ (.slice ca P.length cc)=wB at*;have hr2:=jU NT.out (.string u.name) (.string u.sort) (.slice ra u.kids.length rc);have hu2:=gq wB (w.heap.size+2) (.string u.name) (.string u.sort) (.slice ra u.kids.length rc);have hr1:=hu2.heap hb1 (by omega);have hu:aj (fun j=>j=w.heap.size+1\/j=w.heap.size+2) w5 _:=(hu1.mono (fun _ _ h=> .inl h)).trans (hu2.mono (fun _ _ h=> .inr h));obtain⟨e0,e1⟩:=aP hr1;obtain⟨e2,e3,e4⟩:=ag hr2;have hsz5:=sH.out;have al_:=dS.out.size;refine bodyPost_ret (v:= .tuple #[.agg #[.int .i64 (k:Int),.slice ca P.length cc],.agg #[.string u.name,.string u.sort,.slice ra u.kids.length rc],.bool true]) (by simp[results,Tryz.results167,go_sem,e0,e1,e2,e3,e4]) rfl ⟨((ca,cc),(ra,rc)),fun j=>(wA.heap.size<=j/\j<w5.heap.size)\/B j,?_,?_,?_,?_⟩
       .rw [VK.out,jw.out];simp only[BA,Option.map_some,fq,fi,ft,List.append_nil];rfl
       .rw [VK.out,jw.out];refine⟨?_,?_⟩
        .simp only [Option.map_some,fq,List.append_nil];exact(az.kept qi.out hu (fun j hj e=>by omega)).weaken (fun j hj=> .inl hj)
        .exact ((QU.out.kept dS.out (fun _ _ h=>h)).kept hu (fun j hj e=>by have h1:=(jM.out j hj).1;omega)).weaken (fun j hj=> .inr hj)
       .rintro j (hj|hj)
        .exact ⟨by omega,ay hj.2 hu.size⟩
        .exact ⟨by have h1:=(jM.out j hj).1;omega,ay (jM.out j hj).2 (Nat.le_trans al_ hu.size)⟩
       .exact (zX.out.trans dS.out).trans' hu (fun j hj e=>by omega)
    .obtain rfl:k=l.length:=by omega
     have z3:decide ((l.length:Int)< (l.length:Int))=false:=dF (by omega);have hvn:V2=none:=by
      rw[<-lN.out,List.drop_length];rfl
     have HV3:Hid (jy l (mk nm so L)=none):=ae (by rw[VK.out,hvn];rfl);clear hvn lN VK;obtain⟨r0,r1⟩:=aP HB1.out;obtain⟨d0,d1,d2⟩:=ag HB2.out;have fr:=fun i=>au HB1.out i;have gX:=((aj.refl (fun j=>j=w.heap.size+1) wr).setCell (p:=⟨w.heap.size+1,0,none⟩) (.inl rfl) (.int .i64 0)).setCell (p:=⟨w.heap.size+1,1,none⟩) (.inl rfl) (.slice none 0 0);have hz2: ¬w.heap.size+2=w.heap.size+1:=by omega
     have n0:=gX.cell d0 hz2;have n1:=gX.cell d1 hz2;have n2:=gX.cell d2 hz2;have fe:=fun i=>au (gX.heap HB2.out hz2) i;have hb1:((wr.setCell ⟨w.heap.size+1,0,none⟩ (.int .i64 0)).setCell ⟨w.heap.size+1,1,none⟩ (.slice none 0 0)).heap[w.heap.size+1]?=some (.cells #[.int .i64 0,.slice none 0 0] 65 (0,0)):=by simpa using setBlock (setBlock HB1.out 0 (.int .i64 0)) 1 (.slice none 0 0)
     have ama:=ae hb1;have NT:=ae (gX.heap HB2.out hz2);have wJ:=ae gX;clear gX hz2 hb1
     go_wp2_with fail
     clear r0 r1 d0 d1 d2 fr n0 n1 n2 fe;generalize (wr.setCell ⟨w.heap.size+1,0,none⟩ (.int .i64 0)).setCell ⟨w.heap.size+1,1,none⟩ (.slice none 0 0)=wB at*;have hr2:=jU NT.out (.string ⟨#[]⟩) (.string ⟨#[]⟩) (.slice none 0 0);have hu2:=gq wB (w.heap.size+2) (.string ⟨#[]⟩) (.string ⟨#[]⟩) (.slice none 0 0);have hr1:=hu2.heap ama.out (by omega);have hu:aj (fun j=>j=w.heap.size+1\/j=w.heap.size+2) wr _:=(wJ.out.mono (fun _ _ h=> .inl h)).trans (hu2.mono (fun _ _ h=> .inr h));obtain⟨e0,e1⟩:=aP hr1;obtain⟨e2,e3,e4⟩:=ag hr2;refine bodyPost_ret (v:= .tuple #[.agg #[.int .i64 0,.slice none 0 0],.agg #[.string ⟨#[]⟩,.string ⟨#[]⟩,.slice none 0 0],.bool false]) (by simp[results,Tryz.results167,go_sem,e0,e1,e2,e3,e4]) rfl ⟨((none,0),(none,0)),fun _=>False,?_,?_,fun _ h=>h.elim,?_⟩
     .rw [HV3.out];rfl
     .rw [HV3.out];exact⟨az.nil _ _ _,aG.nil _ _ _⟩
     .exact HE.out.trans' hu (fun j hj e=>by omega)
section
open Go.Sort Go.Proofs Go.ChangeMaps
mutual
def iK:Tm->List Nat->List (List Nat)
 | .mk _ s L,P=>if s=ah then P::oV L 0 P else[]
def oV:List Tm->Nat->List Nat->List (List Nat)
 |[],_,_=>[]
 |x::L,i,P=>iK x (P++[i])++oV L (i+1) P
end
theorem acU (L:List Tm) (k:Nat) (P:List Nat) (h:k<L.length):oV (L.drop k) k P=iK (tg L k) (P++[k])++oV (L.drop (k+1)) (k+1) P:=by
 rw[RP L k h]
 conv=>lhs;unfold oV
mutual
theorem Gz: ∀(t:Tm) (P:List Nat),(iK t P).length<=t.size
 | .mk n s L,P=>by
  have h:=O6 L 0 P;unfold iK;rw[size_eq];simp only[Tm.kids];split
  .rw [List.length_cons];omega
  .simp
theorem O6: ∀(L:List Tm) (i:Nat) (P:List Nat),(oV L i P).length<=sizes L
 |[],_,_=>by simp[oV]
 |x::L,i,P=>by
  have h1:=Gz x (P++[i]);have h2:=O6 L (i+1) P;unfold oV;rw[List.length_append];have:sizes (x::L)=x.size+sizes L:=by rw[sizes]
  omega
end
def wS (n0:Nat) (W:World) (v:Value) (l:List (List Nat)):Prop:= ∃us:List Value,us.length=l.length/\W.ownsRow n0 63 1 v l.length us/\∀i,i<l.length->az (fun j=>n0<=j/\x_ W j) W 1 (ug us i) (l.getD i []).length ((l.getD i []).map (fun i:Nat=>Value.int .i64 (i:Int)))
theorem own_base {n0 n1 e size n:Nat} {W:World} {v:Value} {xs:List Value} (h:W.ownsRow n1 e size v n xs) (hn:n0<=n1):W.ownsRow n0 e size v n xs:=by
 refine⟨h.1,?_⟩;rcases h.2 with h2|⟨g,cap,cur,h2,h3,h4⟩
 .exact .inl h2
 .exact .inr ⟨g,cap,cur,h2,Nat.le_trans hn h3,h4⟩
theorem wS.base {n0 n1:Nat} {W:World} {v:Value} {l:List (List Nat)} (h:wS n1 W v l) (hn:n0<=n1):wS n0 W v l:=by
 obtain⟨us,h1,h2,h3⟩:=h;exact⟨us,h1,own_base h2 hn,fun i hi=>(h3 i hi).weaken (fun j hj=>⟨Nat.le_trans hn hj.1,hj.2⟩)⟩
theorem wS.ext {n0:Nat} {W W':World} {v:Value} {l:List (List Nat)} (h:wS n0 W v l) (hE:Ext W W'):wS n0 W' v l:=by
 obtain⟨us,h1,h2,h3⟩:=h;exact⟨us,h1,df h2 hE (fun _ _ h=>h),fun i hi=>(az.kept (h3 i hi) hE (fun _ _ h=>h)).weaken (fun j hj=>⟨hj.1,hj.2.ext hE⟩)⟩
theorem wS.nil (n0:Nat) (W:World):wS n0 W qG []:=⟨[],rfl,⟨rfl,.inl ⟨rfl,rfl⟩⟩,fun i h=>by cases h⟩
theorem agf {W:World} {S:Nat->Prop} {us:List Value} {l:List (List Nat)} (hl:us.length=l.length) (h: ∀i,i<l.length->az S W 1 (ug us i) (l.getD i []).length ((l.getD i []).map (fun i:Nat=>Value.int .i64 (i:Int)))): ∀u∈us,u.oneCell'=true:=fun u hu=>by
 obtain⟨i,hi,e⟩:=List.getElem_of_mem hu;have h1:=h i (by omega);have h2:ug us i=u:=by unfold ug;rw[List.getD_eq_getElem?_getD,List.getElem?_eq_getElem hi];exact e
 rw[h2] at h1;obtain⟨a,c,h3⟩:=az.shape h1;rw[h3];rfl
theorem R_ {W:World} {b n:Nat} {v:Value} {xs:List Value} (h:W.ownsRow b 63 1 v n xs) {k:Nat} (hk:v.ownBlock=some k): ¬x_ W k:=fun⟨cs,fz,h4⟩=>by
 rcases h.2 with⟨e,_⟩|⟨g,cap,cur,e,_,h3,_⟩
 .rw [e] at hk;cases hk
 .rw [e] at hk;injection hk with hk
  rw[<-hk,h3] at h4;injection h4 with h4
  injection h4 with _ h4
  cases h4
theorem wS.app {n0:Nat} {W W':World} {v v':Value} {l l2:List (List Nat)} {us BV:List Value} (h1:us.length=l.length) (h2:W.ownsRow n0 63 1 v l.length us) (h3: ∀i,i<l.length->az (fun j=>n0<=j/\x_ W j) W 1 (ug us i) (l.getD i []).length ((l.getD i []).map (fun i:Nat=>Value.int .i64 (i:Int)))) (g1:BV.length=l2.length) (g3: ∀i,i<l2.length->az (fun j=>n0<=j/\x_ W j) W 1 (ug BV i) (l2.getD i []).length ((l2.getD i []).map (fun i:Nat=>Value.int .i64 (i:Int)))) (hG:Grew n0 63 1 v (l.length+l2.length) (us++BV) W W' v'):wS n0 W' v' (l++l2):=by
 have key: ∀{n:Nat} {u:Value} {xs:List Value},az (fun j=>n0<=j/\x_ W j) W 1 u n xs->az (fun j=>n0<=j/\x_ W' j) W' 1 u n xs:=fun h=>by
  refine(az.kept h hG.upd (fun j hj e=>R_ h2 e hj.2)).weaken (fun j hj=>⟨hj.1,?_⟩);obtain⟨cs,fz,h⟩:=hj.2;exact⟨cs,fz,hG.upd.heap h (fun e=>R_ h2 e hj.2)⟩
 refine⟨us++BV,by rw[List.length_append,List.length_append,h1,g1],by rw[List.length_append];exact hG.own,fun i hi=>?_⟩;by_cases e:i<l.length
 .have e1:(l++l2).getD i []=l.getD i []:=by rw[List.getD_eq_getElem?_getD,List.getD_eq_getElem?_getD,List.getElem?_append_left e]
  have e2:ug (us++BV) i=ug us i:=by unfold ug;rw[List.getD_eq_getElem?_getD,List.getD_eq_getElem?_getD,List.getElem?_append_left (by rw[h1];exact e)]
  rw[e1,e2];exact key (h3 i e)
 .have e1:(l++l2).getD i []=l2.getD (i-l.length) []:=by rw[List.getD_eq_getElem?_getD,List.getD_eq_getElem?_getD,List.getElem?_append_right (by omega)]
  have e2:ug (us++BV) i=ug BV (i-l.length):=by unfold ug;rw[List.getD_eq_getElem?_getD,List.getD_eq_getElem?_getD,List.getElem?_append_right (by rw[h1];omega),h1]
  rw[e1,e2];rw[List.length_append] at hi;exact key (g3 _ (by omega))
theorem agh:(Tryz.prog.info? 63).map (fun i=>(i.zero,i.size,i.bytes))=some (some (.slice none 0 0),1,24):=by kernel_rfl
def xq (n:Nat) (xs:List Value):PG.dK FA:=⟨fun x=> .slice (some ⟨x.1.2,0,none⟩) n x.2.1.2,fun x W=>x.1.2<W.heap.size/\az (fun j=>j=x.1.2) W 1 (.slice (some ⟨x.1.2,0,none⟩) n x.2.1.2) n xs,fun x W W' h hE=>⟨ay h.1 hE.size,az.kept h.2 hE (fun _ _ h=>h)⟩,fun _ _=>False,fun _ _ _ _ h=>h.elim⟩
def EH (base:Nat) (l:List (List Nat)):PG.dK FA:=⟨fun x=> .slice x.1.1 l.length x.1.2,fun x W=>wS base W (.slice x.1.1 l.length x.1.2) l,fun x W W' h hE=>h.ext hE,fun _ _=>False,fun _ _ _ _ h=>h.elim⟩
theorem acW (l:List Nat) (v:Value) (S:Nat->Prop) (w:World) (hR:az S w 1 v l.length (l.map (fun i:Nat=>Value.int .i64 (i:Int)))) (hl:l.length<=1000000):
  Calls Tryz.prog 210 #[v] w fun e w'=> ∃r,e= .returned r/\az (fun j=>w.heap.size<=j/\x_ w' j) w' 1 r l.length (l.map (fun i:Nat=>Value.int .i64 (i:Int)))/\Ext w w':=by
 have hown: ∀(w':World) (r:Value),w'.ownsRow w.heap.size 3 1 r l.length (l.map (fun i:Nat=>Value.int .i64 (i:Int)))->az (fun j=>w.heap.size<=j/\x_ w' j) w' 1 r l.length (l.map (fun i:Nat=>Value.int .i64 (i:Int))):=fun w' r h=>(az.iV h).weaken (fun j hj=>⟨(World.ownsRow.lt h j hj).1,acX h hj⟩);obtain⟨a,cap,rfl⟩:=az.shape hR;by_cases h0:0<l.length
 .obtain ⟨g,off,hga,_,hat⟩:=az.uZ (d:=(0:Nat)) hR h0;subst hga;refine(Tryz.slices_Clone_int g off l.length cap (l.map fun i:Nat=>(i:Int)) w (by simp) (by omega) (fun j hj=>?_)).mono ?_
  .have hj':j<l.length:=by simpa using hj
   have h1:=hat j hj';rw[h1];simp[List.getD_eq_getElem?_getD,List.getElem?_eq_getElem hj']
  .rintro e w' ⟨v',rfl,h1,_,h2⟩;rw[List.take_of_length_le (by simp),List.map_map] at h1;exact⟨v',rfl,hown w' v' h1,yx h2⟩
 .have hl0:l=[]:=List.eq_nil_of_length_eq_zero (by omega);subst hl0;cases a with
  |none=>
   refine(Tryz.slices_Clone_int_nil 0 cap w).mono ?_;rintro e w' ⟨rfl,rfl⟩;exact⟨_,rfl,az.nil _ _ _,aj.refl _ _⟩
  |some a=>
   refine(Tryz.slices_Clone_int_zero a cap w).mono ?_;rintro e w' ⟨v',rfl,h1,_,h2⟩;exact⟨v',rfl,hown w' v' h1,yx h2⟩
theorem acY: ∀(t:Tm) (v pv:Value) (T U:Nat->Prop) (P:List Nat) (w:World),bC T w t v->az U w 1 pv P.length (P.map (fun i:Nat=>Value.int .i64 (i:Int)))->(∀k,T k->k<w.heap.size)->(∀k,U k->k<w.heap.size)->t.size<=100000->P.length+t.size<=200000->
  Calls Tryz.prog 163 #[v,pv] w fun e w'=> ∃a c,e= .returned (.slice a (iK t P).length c)/\wS w.heap.size w' (.slice a (iK t P).length c) (iK t P)/\Ext w w':=by
 refine Tm.ind (fun nm so L ih=>?_);intro v pv T U P w hT hP hT2 WZ hsz hps;obtain⟨a,cap,rfl,hT⟩:=hT;obtain⟨pa,pc,rfl⟩:=az.shape hP;dsimp only[tV,Tm.name,Tm.sort,Tm.kids] at hT⊢;obtain⟨V,hV⟩: ∃V,iK (mk nm so L) P=V:=⟨_,rfl⟩
 have hvl:=Gz (mk nm so L) P;rw[hV] at hvl⊢;have cO:=ae hT;have pG:=ae hP;have HIH:=ae ih;have HST:=ae hT2;have wJ:=ae WZ;have iU:sizes L+1<=100000:=by rw[size_eq] at hsz;simp only[Tm.kids] at hsz;omega
 have oM:=ae iU;have mr:L.length<=100000:=by have h1:=bf L;omega
 have xM:=ae mr;have jP:=ae (az.clip pG.out).2;have amP:=ae hps;have hpl:P.length<=200000:=by omega
 have zD:Hid (V.length<=100000):=ae (by omega);have cZ:=ae ((uR w).alloc (.cells #[.string nm,.string so,.slice a L.length cap] 24));have HB0:=ae (ai w (.cells #[.string nm,.string so,.slice a L.length cap] 24));have hz0:w.heap.size+1<=(w.alloc (.cells #[.string nm,.string so,.slice a L.length cap] 24)).heap.size:=by simp
 have HZ0:=ae hz0;have HVV:=ae hV;have c1:=af HB0.out 1 (.string so) rfl;have t1:=o9 so;clear ih hT hP hT2 WZ hsz iU hz0 hV hps hvl;by_cases hs0:so=ah
 rotate_left
 .rw [dF hs0] at t1;obtain rfl:V=[]:=by rw[<-HVV.out];unfold iK;rw[if_neg hs0]
  go_enter Tryz.func163,Tryz.ntmps163
  go_wp2_with fail
  go_ret;exact⟨none,0,rfl,wS.nil _ _,cZ.out⟩
 .rw [dT hs0] at t1;have hvv:V=P::oV L 0 P:=by rw[<-HVV.out];unfold iK;rw[if_pos hs0]
  have VC:=ae hvv.symm;have QA:=ae (fun W (hW:Ext w W)=>acW P (.slice pa P.length pc) U W (az.kept pG.out hW (fun _ _ h=>h)) (by omega));clear hs0 hvv HVV
  go_enter Tryz.func163,Tryz.ntmps163
  go_wp2_with fail
  generalize w.alloc (.cells #[.string nm,.string so,.slice a L.length cap] 24)=W0 at*;refine(QA.out _ cZ.out).mono ?_;rintro e w2 ⟨r,rfl,hr,hw2⟩;obtain⟨ra,rcc,BD⟩:=az.shape hr;subst BD;have hX:=hw2.alloc (.cells #[.slice ra P.length rcc] 63);have HE2:=ae (cZ.out.trans hX);have zy:=ae (hX.heap HB0.out (fun h=>h));have HZ2:Hid (w.heap.size+1<=(w2.alloc (.cells #[.slice ra P.length rcc] 63)).heap.size):=ae (Nat.le_trans HZ0.out hX.size);have hzz:w.heap.size+1<=w2.heap.size:=Nat.le_trans HZ0.out hw2.size;have OJ:Hid (wS w.heap.size (w2.alloc (.cells #[.slice ra P.length rcc] 63)) (.slice (some ⟨w2.heap.size,0,none⟩) [P].length 1) [P]):=ae ⟨[.slice ra P.length rcc],rfl,by
   have h:=World.ownsRow_lit (base:=w.heap.size) (e:=63) (size:=1) w2 #[.slice ra P.length rcc] 1 (by omega) (by unfold maxLen;omega) (by simp);simpa using h,fun i hi=>by
   obtain rfl:i=0:=by simpa using hi
   refine(az.kept hr ((uR w2).alloc _) (fun _ _ h=>h)).weaken (fun j hj=>⟨by have:=HZ0.out;omega,hj.2.ext ((uR w2).alloc _)⟩)⟩
  have Zm:Hid (∀j,(Value.slice (some ⟨w2.heap.size,0,none⟩) [P].length 1).ownBlock=some j->w.heap.size+1<=j):=ae (fun j e=>by
   have e':w2.heap.size=j:=by injection e
   omega)
  have qj:Hid ([P]++oV (L.drop 0) 0 P=V):=ae VC.out;clear hr hw2 hX QA cZ HB0 HZ0 c1 t1;have c2:=af zy.out 2 (.slice a L.length cap) rfl
  go_wp2_with fail
  obtain⟨n2,hn2⟩: ∃n,w2.heap.size=n:=⟨_,rfl⟩
  rw[hn2] at OJ Zm
  try rw[hn2]
  clear c2 hn2 hzz;generalize w2.alloc (.cells #[.slice ra P.length rcc] 63)=W2 at*
  go_loopg [5,17] L.length (fun gk ov iv wr=> ∃(k:Nat) (acc:List (List Nat)) (oa:Option Addr) (oc:Nat),ov= .slice oa acc.length oc/\iv= .int .i64 (k:Int)/\gk=L.length-k/\k<=L.length/\Hid (acc++oV (L.drop k) k P=V)/\Hid (wS w.heap.size wr (.slice oa acc.length oc) acc)/\Hid (∀j,(Value.slice oa acc.length oc).ownBlock=some j->w.heap.size+1<=j)/\Hid (Ext w wr)/\Hid (wr.heap[w.heap.size]?=some (.cells #[.string nm,.string so,.slice a L.length cap] 24 (0,0)))/\Hid (w.heap.size+1<=wr.heap.size))
  case atStart=>exact⟨0,[P],some ⟨n2,0,none⟩,1,rfl,rfl,rfl,Nat.zero_le _,qj,OJ,Zm,HE2,zy,HZ2⟩
  case round=>
   clear zy HE2 HZ2 VC qj OJ Zm;obtain⟨k,acc,oa,oc,rfl,rfl,rfl,hk,lN,Dl,HOL,HE,HB0,dw⟩:=hrel;by_cases hlt:k<L.length
   .obtain ⟨g,off,hga,_,hat⟩:=(cO.out.ext HE.out).at_ (by omega);subst hga;obtain⟨xa,xc,q0,q1,q2,aY⟩:=hat k hlt;rw[<-Nat.add_assoc] at q1 q2;obtain⟨z0,z1,z2,z2'⟩:=bz hlt;have jE:Hid (acc++(iK (tg L k) (P++[k])++oV (L.drop (k+1)) (k+1) P)=V):=ae (by rw[<-acU L k P hlt];exact lN.out);have NR:=ae aY;have NS:=ae (ed L k hlt);have ry:Hid ((tg L k).size<=100000/\P.length+1+(tg L k).size<=200000):=ae (by have h1:=oM.out;have h2:=kR L k hlt;have h3:=jd L (k+1);have h4:=amP.out;rw[size_eq] at h4;simp only[Tm.kids] at h4;omega);obtain⟨x,hx⟩: ∃x,tg L k=x:=⟨_,rfl⟩
    rw[hx] at q0 q1 q2 jE NR NS ry;have HLEN:Hid (acc.length+(iK x (P++[k])).length<=100000):=ae (by have h:=zD.out;rw[<-jE.out,List.length_append,List.length_append] at h;omega);have hQ:=(uR wr).alloc (tO x xa xc);have kT:=ai wr (tO x xa xc);obtain⟨b0,b1,b2⟩:=ag kT;have HEq:=ae (HE.out.trans hQ);have HQ:=ae hQ;have F_:=ae (hQ.heap HB0.out (fun h=>h));have agi:=ae (Dl.out.ext hQ);have agj:=ae (Nat.le_trans dw.out hQ.size);clear hat aY hx hQ kT lN HB0 Dl;have Dl:=agi;clear agi
    go_upto_region 7 with fail
    generalize wr.alloc (tO x xa xc)=wq at*;have a_:=ae (fun W (hW:Ext wq W) (pv':Value) (U':Nat->Prop) (hP:az U' W 1 pv' (P.length+1) (P.map (fun i:Nat=>Value.int .i64 (i:Int))++[.int .i64 (k:Int)])) (hU': ∀j,U' j->j<W.heap.size)=>HIH.out x NS.out (.agg #[.string x.name,.string x.sort,.slice xa x.kids.length xc]) pv' T U' (P++[k]) W ⟨xa,xc,rfl,(NR.out.ext HQ.out).ext hW⟩ (by rw[List.length_append,List.map_append];exact hP) (fun j hj=>ay (HST.out j hj) (HEq.out.trans hW).size) hU' (ry.out).1 (by rw[List.length_append];exact ry.out.2));have VI:=ae (fun W (hW:Ext wq W)=>az.kept pG.out (HEq.out.trans hW) (fun _ _ h=>h));have x0:=fun x:XW wq=>x.ext.cell b0 (fun h=>h);have x1:=fun x:XW wq=>x.ext.cell b1 (fun h=>h);have x2:=fun x:XW wq=>x.ext.cell b2 (fun h=>h);clear b0 b1 b2 q0 q1 q2;refine PG.bW (α:=FA) 8 [] 8 [(8,2),(9,2)] [[],[],[],[2],[],[4],[2,3,4,5],[1,2,3,4,5,6],[0,1,2,3,4,5,6,7],[0,1,2,3,4,5,6,7,8]]
     [none,none,none,some (jF (.slice pa P.length P.length)),none,some (kV k),some (xq (P.length+1) (P.map (fun i:Nat=>Value.int .i64 (i:Int))++[.int .i64 (k:Int)])),some (EH wq.heap.size (iK x (P++[k])))]
     [false,false,false,true,false,true,true,true] (by kernel_rfl) (by kernel_rfl) rfl (fun _ _ d _ _ h=>by cases d<;>exact h) ?_
    simp only[List.take_succ_cons,List.take_zero,gG,List.getElem?_cons_zero,List.getElem?_cons_succ]
    iterate 3(refine PG.aX rfl (fun K hK=>?_);go_simp;refine hK _ ?_;clear hK K)
    refine PG.aK _ rfl (by go_simp) (fun W hW hG K hK=>?_) (fun K z3 hK=>?_)
    .go_simp;refine(VH pa P.length pc W jP.out.1 (by omega) jP.out.2).mono ?_;rintro e w' ⟨rfl,hE⟩;exact hK default _ hE trivial (fun k e=>e.elim)
    refine hK _ ?_;clear hK K;dsimp only[jF,kV,xq,EH];refine PG.aX rfl (fun K hK=>?_);go_simp;refine hK _ ?_;clear hK K;refine PG.aK _ rfl (by go_simp) (fun W hW hG K hK=>?_) (fun K z5 hK=>?_)
    .go_simp;exact hK ((none,W.heap.size),default) _ ((uR W).alloc _) (af (ai W _) 0 _ rfl) (fun k e=>e.elim)
    refine hK _ ?_;clear hK K;dsimp only[jF,kV,xq,EH];refine PG.aK _ rfl (by go_simp) (fun W hW hG K hK=>?_) (fun K z6 hK=>?_)
    .have g5:=hG _ (List.mem_append_right _ (List.mem_singleton.2 rfl)) (by show(5:Nat)∈_;decide);obtain⟨iI,hi,hz0,hz1,hz2⟩:=info_parts aaz;refine xO W (.tmp 25) (.tmp 27) 63 rfl 3 iI (.int .i64 0) 8 Tryz.underlying63 hi hz0 hz1 hz2 U pa P.length (P.map (fun i:Nat=>Value.int .i64 (i:Int))) rfl (az.clip (VI.out W hW)).1 z5.1.2 1 (.int .i64 (k:Int)) rfl g5 (by unfold maxLen;omega) (by omega) ?_;intro c' w' hE hLT hS;exact hK ((none,W.heap.size),(none,c'),fun _=>False) w' hE ⟨hLT,hS⟩ (fun k e=>e.elim)
    refine hK _ ?_;clear hK K;dsimp only[jF,kV,xq,EH];refine PG.aK _ rfl (by go_simp) (fun W hW hG K hK=>?_) (fun K z7 hK=>?_)
    .have g6:=hG _ (List.mem_append_right _ (List.mem_singleton.2 rfl)) (by show(6:Nat)∈_;decide);go_simp;refine(a_.out W hW _ _ g6.2 (fun j hj=>by rw[hj];exact g6.1)).mono ?_;rintro e w' ⟨a',c',rfl,hS,hE⟩;exact hK ((a',c'),(none,0),fun _=>False) w' hE (hS.base hW.size) (fun k e=>e.elim)
    refine hK _ ?_;clear hK K;dsimp only[jF,kV,xq,EH];refine PG.jo (fun w8 hW hG _=>?_);have g7:=hG _ (List.mem_append_right _ (List.mem_singleton.2 rfl));dsimp only[jF,kV,xq,EH] at g7;clear hG x0 x1 x2;have amQ:=Dl.out.ext hW;obtain⟨BV,hl2,hown2,UB⟩:=g7;obtain⟨us1,hl1,hown1,abt⟩:=amQ;have abu: ∀u∈BV,u.oneCell'=true:=agf hl2 UB;obtain⟨iS,hi,hz0,hz1,hz2⟩:=info_parts agh;have hlen1:=HLEN.out;refine iE (fun K hK=>?_);rw[if_pos (by go_simp)];refine uK _ (.tmp 22) (.tmp 29) 200 rfl w.heap.size 63 iS (.slice none 0 0) 1 24 Tryz.underlying200 hi hz0 hz1 hz2 rfl (by decide) _ acc.length us1 rfl hown1 _ _ (iK x (P++[k])).length BV rfl (az.iV hown2) abu (by unfold maxLen;omega) (by omega) (Nat.le_trans HEq.out.size hW.size) ?_;intro v7 w9 dE;refine hK _ _ ?_;clear hK K;refine iE (fun K hK=>?_);go_simp;refine hK _ _ ?_;clear hK K;simp only[cu];have agk:=wS.app hl1 hown1 abt hl2 (fun i hi=>(UB i hi).weaken (fun j hj=>⟨Nat.le_trans HEq.out.size hj.1,hj.2⟩)) dE;obtain⟨oa9,oc9,hv9⟩:=bJ dE.own;subst hv9;have hlt1: ∀j,(Value.slice oa acc.length oc).ownBlock=some j->w.heap.size+1<=j:=fun j e=>HOL.out j e;have kY:=ae ((HEq.out.trans hW).trans' dE.upd (fun j hj e=>by have:=hlt1 j e;omega));have Gt:=ae ((dE.upd).heap (hW.heap F_.out (fun h=>h)) (fun e=>by have:=hlt1 _ e;omega));have hwh:=dE.xE;have agm:Hid (∀j,(Value.slice oa9 (acc.length+(iK x (P++[k])).length) oc9).ownBlock=some j->w.heap.size+1<=j):=ae (fun j e=>by
     rcases hwh with h|h
     .rw [h] at e;exact hlt1 j e
     .rw [h] at e;injection e with e;have:=agj.out;have:=hW.size;omega)
    have abv:(acc++iK x (P++[k])).length=acc.length+(iK x (P++[k])).length:=List.length_append;have agn:=ae agk;have amR:Hid (w.heap.size+1<=w9.heap.size):=ae (Nat.le_trans agj.out (Nat.le_trans hW.size dE.upd.size));have HV9:Hid ((acc++iK x (P++[k]))++oV (L.drop (k+1)) (k+1) P=V):=ae (by rw[List.append_assoc];exact jE.out);rw[<-abv] at agn agm⊢;clear dE hown1 hown2 abt UB abu agk hwh hW hlt1 hi hz0 hz1 hz2 hl1 hl2 hlen1
    go_wp2_with fail
    go_roundg (L.length- (k+1))
    case measure=>omega
    case rel=>exact⟨k+1,acc++iK x (P++[k]),oa9,oc9,by rw[abv],by go_num,rfl,by omega,HV9,agn,agm,kY,Gt,amR⟩
   .obtain rfl:k=L.length:=by omega
    have z2:decide ((L.length:Int)< (L.length:Int))=false:=dF (by omega);have hvn:V=acc:=by
     rw[<-lN.out,List.drop_length];unfold oV;simp
    subst hvn;clear lN
    go_wp2_with fail
    go_ret;exact⟨oa,oc,rfl,Dl.out,HE.out⟩
theorem abw (t:Tm) (p:List Int) (tv pv:Value) (S T:Nat->Prop) (w:World) (hT:bC S w t tv) (hS: ∀k,S k->k<w.heap.size) (hP:az T w 1 pv p.length (p.map (Value.int .i64))) (htab:bT w) (hsz:t.size<=100000) (hl:p.length<=1000000):
  Calls Tryz.prog 118 #[tv,pv] w fun e w'=> ∃r B,e= .returned (.tuple #[tV (nY t p).1 r,.int .i64 (nY t p).2])/\aG 24 w' B (nY t p).1.kids r/\(∀j,B j->w.heap.size<=j/\j<w'.heap.size)/\Ext w w':=by
 obtain⟨pa,pc,rfl⟩:=az.shape hP;have HP:=ae hP;obtain⟨a,cap,rfl,hT⟩:=hT;have HT:=ae hT;have HE2:=ae (((uR w).alloc (tO t a cap)).alloc zO);have HB1:=ae (ak (ai w (tO t a cap)) zO);have HB2:=ae (alloc_at (w.alloc (tO t a cap)) zO (n:=w.heap.size+1) (by simp));have hz2:((w.alloc (tO t a cap)).alloc zO).heap.size=w.heap.size+2:=by simp
 have HZ2:=ae hz2;have lH:=ae (fun W (hW:Ext w W)=>r_ t _ W (aC htab hW) ⟨a,cap,rfl,(hT.ext hW).weaken (fun k hk=>ay (hS k hk) hW.size)⟩ (by omega));have jf:=ae hS;have Ho:Hid (wf ax t=false->nY t p=(bP,1)):=ae (fun h=>by unfold nY;rw[if_pos h]);have nJ:Hid (wf ax t=true->jh t p=none->nY t p=(bP,2)):=ae (fun h h2=>by unfold nY;rw[if_neg (by rw[h];simp),h2]);have HF2:Hid (wf ax t=true->∀x,jh t p=some x->nY t p=(x,0)):=ae (fun h x h2=>by unfold nY;rw[if_neg (by rw[h];simp),h2]);obtain⟨F,hF⟩: ∃F,nY t p=F:=⟨_,rfl⟩
 rw[hF] at Ho nJ HF2⊢;dsimp only[tV] at lH⊢;obtain⟨WB,Vp⟩: ∃b,wf ax t=b:=⟨_,rfl⟩
 rw[Vp] at lH Ho nJ HF2;clear hP hT hS htab hF Vp hz2;obtain⟨k0,k1,k2⟩:=ag HB1.out
 go_enter Tryz.func118,Tryz.ntmps118
 go_wp2_with fail
 refine(lH.out _ HE2.out).mono ?_;rintro e w4 ⟨rfl,hw4⟩;have H4:Hid (Ext w w4):=ae (HE2.out.trans hw4);have kZ:=ae (hw4.heap HB1.out (fun h=>h));have dO:=ae (hw4.heap HB2.out (fun h=>h));have HZ4:Hid (w.heap.size+2<=w4.heap.size):=ae (by rw[<-HZ2.out];exact hw4.size);clear hw4 k0 k1 k2 lH HB1 HB2 HE2;cases WB
 .have HV:=ae (Ho.out (by simp));have f2:=fun i=>au dO.out i;obtain⟨d0,d1,d2⟩:=ag dO.out
  go_wp2_with fail
  have hr:=aJ dO.out (.string ⟨#[]⟩) (.string ⟨#[]⟩) (.slice none 0 0);have hu:=aI w4 (w.heap.size+1) (.string ⟨#[]⟩) (.string ⟨#[]⟩) (.slice none 0 0);obtain⟨e0,e1,e2⟩:=ag hr;refine bodyPost_ret (v:= .tuple #[.agg #[.string ⟨#[]⟩,.string ⟨#[]⟩,.slice none 0 0],.int .i64 1]) (by simp[results,Tryz.results118,go_sem,e0,e1,e2]) rfl ⟨.slice none 0 0,fun _=>False,by rw[HV.out];rfl,by rw[HV.out];exact aG.nil _ _ _,fun _ h=>h.elim,H4.out.trans' hu (fun j hj e=>by omega)⟩
 have HAT:=ae (adU t p (.slice pa p.length pc) (w.heap.size,0) S T w4 ⟨a,cap,af kZ.out 0 _ rfl,af kZ.out 1 _ rfl,af kZ.out 2 _ rfl,HT.out.ext H4.out⟩ (az.kept HP.out H4.out (fun _ _ h=>h)) hl)
 go_wp2_with fail
 refine HAT.out.mono ?_;rintro e w5 ⟨hat,rfl⟩;rcases hat with⟨hs,rfl⟩|⟨x,a',hs,rfl,_,xa,xc,x0,x1,x2,hx⟩
 .have HV:=ae (nJ.out (by simp) hs);have f2:=fun i=>au dO.out i;obtain⟨d0,d1,d2⟩:=ag dO.out
  go_wp2_with fail
  have hr:=aJ dO.out (.string ⟨#[]⟩) (.string ⟨#[]⟩) (.slice none 0 0);have hu:=aI w4 (w.heap.size+1) (.string ⟨#[]⟩) (.string ⟨#[]⟩) (.slice none 0 0);obtain⟨e0,e1,e2⟩:=ag hr;refine bodyPost_ret (v:= .tuple #[.agg #[.string ⟨#[]⟩,.string ⟨#[]⟩,.slice none 0 0],.int .i64 2]) (by simp[results,Tryz.results118,go_sem,e0,e1,e2]) rfl ⟨.slice none 0 0,fun _=>False,by rw[HV.out];rfl,by rw[HV.out];exact aG.nil _ _ _,fun _ h=>h.elim,H4.out.trans' hu (fun j hj e=>by omega)⟩
 .have HV:=ae (HF2.out (by simp) x hs);have hso:=Jo hs;have hxs:x.size<=100000:=by
   have h1:=CW _ t hso.1;rw[hso.2] at h1;omega
  have HC:=ae (Ny x _ S w4 ⟨xa,xc,rfl,hx⟩ (fun k hk=>ay (jf.out k hk) H4.out.size) hxs);dsimp only[tV] at HC;obtain⟨ab,ao⟩:=a';dsimp only at x0 x1 x2;clear hs hso hxs hx Ho nJ HF2 HAT
  go_wp2_with fail
  refine HC.out.mono ?_;rintro e w6 ⟨r,B,rfl,CX,Nz,hw6⟩;have H6:=ae (H4.out.trans hw6);have F6:=ae (hw6.heap dO.out (fun h=>h));have HO6:=ae CX;have jq:Hid (∀j,B j->w.heap.size+2<=j/\j<w6.heap.size):=ae (fun j hj=>⟨Nat.le_trans HZ4.out (Nz j hj).1,(Nz j hj).2⟩);obtain⟨ra,rc,BD⟩:=aG.shape CX;subst BD;clear CX Nz hw6 x0 x1 x2 HC;have f2:=fun i=>au F6.out i;obtain⟨d0,d1,d2⟩:=ag F6.out
  go_wp2_with fail
  have hr:=aJ F6.out (.string x.name) (.string x.sort) (.slice ra x.kids.length rc);have hu:=aI w6 (w.heap.size+1) (.string x.name) (.string x.sort) (.slice ra x.kids.length rc);obtain⟨e0,e1,e2⟩:=ag hr;refine bodyPost_ret (v:= .tuple #[.agg #[.string x.name,.string x.sort,.slice ra x.kids.length rc],.int .i64 0]) (by simp[results,Tryz.results118,go_sem,e0,e1,e2]) rfl ⟨.slice ra x.kids.length rc,B,by rw[HV.out],?_,fun j hj=>⟨by have:=(jq.out j hj).1;omega,ay (jq.out j hj).2 hu.size⟩,H6.out.trans' hu (fun j hj e=>by omega)⟩;rw[HV.out];exact HO6.out.kept hu (fun j hj e=>by have:=(jq.out j hj).1;omega)
theorem Lm {w:World} {b:Nat} {te:TypeId} {u0 u1 u2 u3 u4 u5 u6 u7 u8 u9 u10 u11:Value} (h:w.heap[b]?=some (.cells #[u0,u1,u2,u3,u4,u5,u6,u7,u8,u9,u10,u11] te (0,0))) (v0 v1 v2 v3 v4 v5 v6 v7 v8 v9 v10 v11:Value):((((((((((((((((((((((((w).setCell ⟨b,0,none⟩ (v0))).setCell ⟨b,1,none⟩ (v1))).setCell ⟨b,2,none⟩ (v2))).setCell ⟨b,3,none⟩ (v3))).setCell ⟨b,4,none⟩ (v4))).setCell ⟨b,5,none⟩ (v5))).setCell ⟨b,6,none⟩ (v6))).setCell ⟨b,7,none⟩ (v7))).setCell ⟨b,8,none⟩ (v8))).setCell ⟨b,9,none⟩ (v9))).setCell ⟨b,10,none⟩ (v10))).setCell ⟨b,11,none⟩ (v11)).heap[b]?=some (.cells #[v0,v1,v2,v3,v4,v5,v6,v7,v8,v9,v10,v11] te (0,0)):=by
 have h0:=setBlock h 0 v0;have h1:=setBlock h0 1 v1;have h2:=setBlock h1 2 v2;have h3:=setBlock h2 3 v3;have h4:=setBlock h3 4 v4;have h5:=setBlock h4 5 v5;have h6:=setBlock h5 6 v6;have h7:=setBlock h6 7 v7;have h8:=setBlock h7 8 v8;have h9:=setBlock h8 9 v9;have h10:=setBlock h9 10 v10;have h11:=setBlock h10 11 v11;simpa using h11
theorem O7 (w:World) (b:Nat) (v0 v1 v2 v3 v4 v5 v6 v7 v8 v9 v10 v11:Value):aj (fun k=>k=b) w ((((((((((((((((((((((((w).setCell ⟨b,0,none⟩ (v0))).setCell ⟨b,1,none⟩ (v1))).setCell ⟨b,2,none⟩ (v2))).setCell ⟨b,3,none⟩ (v3))).setCell ⟨b,4,none⟩ (v4))).setCell ⟨b,5,none⟩ (v5))).setCell ⟨b,6,none⟩ (v6))).setCell ⟨b,7,none⟩ (v7))).setCell ⟨b,8,none⟩ (v8))).setCell ⟨b,9,none⟩ (v9))).setCell ⟨b,10,none⟩ (v10))).setCell ⟨b,11,none⟩ (v11)):=((((((((((((aj.refl (fun k=>k=b) w).setCell (p:=⟨b,0,none⟩) (.inl rfl) _).setCell (p:=⟨b,1,none⟩) (.inl rfl) _).setCell (p:=⟨b,2,none⟩) (.inl rfl) _).setCell (p:=⟨b,3,none⟩) (.inl rfl) _).setCell (p:=⟨b,4,none⟩) (.inl rfl) _).setCell (p:=⟨b,5,none⟩) (.inl rfl) _).setCell (p:=⟨b,6,none⟩) (.inl rfl) _).setCell (p:=⟨b,7,none⟩) (.inl rfl) _).setCell (p:=⟨b,8,none⟩) (.inl rfl) _).setCell (p:=⟨b,9,none⟩) (.inl rfl) _).setCell (p:=⟨b,10,none⟩) (.inl rfl) _).setCell (p:=⟨b,11,none⟩) (.inl rfl) _
theorem W9 {w:World} {b:Nat} {te:TypeId} {u0 u1 u2 u3 u4 u5 u6 u7 u8 u9 u10 u11:Value} (h:w.heap[b]?=some (.cells #[u0,u1,u2,u3,u4,u5,u6,u7,u8,u9,u10,u11] te (0,0))) (v0 v1 v2:Value):((((((w).setCell ⟨b,0,none⟩ (v0))).setCell ⟨b,1,none⟩ (v1))).setCell ⟨b,2,none⟩ (v2)).heap[b]?=some (.cells #[v0,v1,v2,u3,u4,u5,u6,u7,u8,u9,u10,u11] te (0,0)):=by
 have h0:=setBlock h 0 v0;have h1:=setBlock h0 1 v1;have h2:=setBlock h1 2 v2;simpa using h2
theorem Zn (w:World) (b:Nat) (v0 v1 v2:Value):aj (fun k=>k=b) w ((((((w).setCell ⟨b,0,none⟩ (v0))).setCell ⟨b,1,none⟩ (v1))).setCell ⟨b,2,none⟩ (v2)):=(((aj.refl (fun k=>k=b) w).setCell (p:=⟨b,0,none⟩) (.inl rfl) _).setCell (p:=⟨b,1,none⟩) (.inl rfl) _).setCell (p:=⟨b,2,none⟩) (.inl rfl) _
theorem W_ {w:World} {b:Nat} {te:TypeId} {u0 u1 u2 u3 u4 u5 u6 u7 u8 u9 u10 u11:Value} (h:w.heap[b]?=some (.cells #[u0,u1,u2,u3,u4,u5,u6,u7,u8,u9,u10,u11] te (0,0))) (v0 v1 v2:Value):((((((w).setCell ⟨b,3,none⟩ (v0))).setCell ⟨b,4,none⟩ (v1))).setCell ⟨b,5,none⟩ (v2)).heap[b]?=some (.cells #[u0,u1,u2,v0,v1,v2,u6,u7,u8,u9,u10,u11] te (0,0)):=by
 have h0:=setBlock h 3 v0;have h1:=setBlock h0 4 v1;have h2:=setBlock h1 5 v2;simpa using h2
theorem Zo (w:World) (b:Nat) (v0 v1 v2:Value):aj (fun k=>k=b) w ((((((w).setCell ⟨b,3,none⟩ (v0))).setCell ⟨b,4,none⟩ (v1))).setCell ⟨b,5,none⟩ (v2)):=(((aj.refl (fun k=>k=b) w).setCell (p:=⟨b,3,none⟩) (.inl rfl) _).setCell (p:=⟨b,4,none⟩) (.inl rfl) _).setCell (p:=⟨b,5,none⟩) (.inl rfl) _
theorem Xa {w:World} {b:Nat} {te:TypeId} {u0 u1 u2 u3 u4 u5 u6 u7 u8 u9 u10 u11:Value} (h:w.heap[b]?=some (.cells #[u0,u1,u2,u3,u4,u5,u6,u7,u8,u9,u10,u11] te (0,0))) (v0 v1 v2:Value):((((((w).setCell ⟨b,6,none⟩ (v0))).setCell ⟨b,7,none⟩ (v1))).setCell ⟨b,8,none⟩ (v2)).heap[b]?=some (.cells #[u0,u1,u2,u3,u4,u5,v0,v1,v2,u9,u10,u11] te (0,0)):=by
 have h0:=setBlock h 6 v0;have h1:=setBlock h0 7 v1;have h2:=setBlock h1 8 v2;simpa using h2
theorem Zp (w:World) (b:Nat) (v0 v1 v2:Value):aj (fun k=>k=b) w ((((((w).setCell ⟨b,6,none⟩ (v0))).setCell ⟨b,7,none⟩ (v1))).setCell ⟨b,8,none⟩ (v2)):=(((aj.refl (fun k=>k=b) w).setCell (p:=⟨b,6,none⟩) (.inl rfl) _).setCell (p:=⟨b,7,none⟩) (.inl rfl) _).setCell (p:=⟨b,8,none⟩) (.inl rfl) _
theorem Ej (x y p q u:Tm) (xa ya pa qa:Option Addr) (xc yc pc qc:Nat) (xp:List Int) (pv:Value) (B2:Nat->Prop) (w:World) (htab:bT w) (hx:aA (fun k=>k<w.heap.size) w x.kids (.slice xa x.kids.length xc)) (hy:aA (fun k=>k<w.heap.size) w y.kids (.slice ya y.kids.length yc)) (hp:aG 24 w B2 p.kids (.slice pa p.kids.length pc)) (hB2: ∀k,B2 k->k<w.heap.size) (hq:aA (fun k=>k<w.heap.size) w q.kids (.slice qa q.kids.length qc)) (hpv:wQ (fun k=>k<w.heap.size) w pv xp) (hpl:xp.length<=1000) (hsx:x.size<=1000) (hsy:y.size<=1000) (Kv:q.size<=1000) (hat:nY x xp=(u,0)) (hU: ∀W,Ext w W->∀(B1 B2:Nat->Prop) (va vb:Value),aG 24 W B1 u.kids va->aG 24 W B2 p.kids vb->(∀k,B1 k->¬B2 k)->(∀k,B1 k->k<W.heap.size)->(∀k,B2 k->k<W.heap.size)->bT W->Calls Tryz.prog 17 #[tV u va,tV p vb] W fun e w'=>e= .returned (.tuple #[.slice none 0 0,.int .i64 12])/\Ext W w'):
  Calls Tryz.prog 164 #[.agg #[.string x.name,.string x.sort,.slice xa x.kids.length xc,.string y.name,.string y.sort,.slice ya y.kids.length yc],.agg #[.string p.name,.string p.sort,.slice pa p.kids.length pc,.string q.name,.string q.sort,.slice qa q.kids.length qc],pv] w fun e w'=>e= .returned (.tuple #[.agg #[.string ⟨#[]⟩,.string ⟨#[]⟩,.slice none 0 0,.string ⟨#[]⟩,.string ⟨#[]⟩,.slice none 0 0,.string ⟨#[]⟩,.string ⟨#[]⟩,.slice none 0 0,.int .i64 0,.int .i64 0,.slice none 0 0],.int .i64 12])/\Ext w w':=by
 have HAT:=ae (fun W (hW:Ext w W)=>abw x xp (tV x (.slice xa x.kids.length xc)) pv (fun k=>k<w.heap.size) (fun k=>k<w.heap.size) W ⟨xa,xc,rfl,hx.ext hW⟩ (fun k hk=>ay hk hW.size) (az.kept hpv hW (fun _ _ h=>h)) (aC htab hW) (by omega) (by omega));rw[hat] at HAT;have HPV:=ae hpv;have fB:=ae htab;have HP2:=ae hp;have HB2:=ae hB2;have OU:=ae (And.intro hx (And.intro hy hq));have dw:=ae (And.intro hsx (And.intro hsy Kv));have pG:=ae hpl;obtain⟨va,vc,rfl⟩:=hpv.shape;have hE:=(((uR w).alloc (.cells #[.string x.name,.string x.sort,.slice xa x.kids.length xc,.string y.name,.string y.sort,.slice ya y.kids.length yc] 146)).alloc (.cells #[.string p.name,.string p.sort,.slice pa p.kids.length pc,.string q.name,.string q.sort,.slice qa q.kids.length qc] 146)).alloc (.cells #[.string ⟨#[]⟩,.string ⟨#[]⟩,.slice none 0 0,.string ⟨#[]⟩,.string ⟨#[]⟩,.slice none 0 0,.string ⟨#[]⟩,.string ⟨#[]⟩,.slice none 0 0,.int .i64 0,.int .i64 0,.slice none 0 0] 152);have HE:=ae hE;have HB0:=ae (ak (ak (ai w (.cells #[.string x.name,.string x.sort,.slice xa x.kids.length xc,.string y.name,.string y.sort,.slice ya y.kids.length yc] 146)) (.cells #[.string p.name,.string p.sort,.slice pa p.kids.length pc,.string q.name,.string q.sort,.slice qa q.kids.length qc] 146)) (.cells #[.string ⟨#[]⟩,.string ⟨#[]⟩,.slice none 0 0,.string ⟨#[]⟩,.string ⟨#[]⟩,.slice none 0 0,.string ⟨#[]⟩,.string ⟨#[]⟩,.slice none 0 0,.int .i64 0,.int .i64 0,.slice none 0 0] 152));have HB1:=ae (ak (alloc_at (w.alloc (.cells #[.string x.name,.string x.sort,.slice xa x.kids.length xc,.string y.name,.string y.sort,.slice ya y.kids.length yc] 146)) (.cells #[.string p.name,.string p.sort,.slice pa p.kids.length pc,.string q.name,.string q.sort,.slice qa q.kids.length qc] 146) (n:=w.heap.size+1) (by simp)) (.cells #[.string ⟨#[]⟩,.string ⟨#[]⟩,.slice none 0 0,.string ⟨#[]⟩,.string ⟨#[]⟩,.slice none 0 0,.string ⟨#[]⟩,.string ⟨#[]⟩,.slice none 0 0,.int .i64 0,.int .i64 0,.slice none 0 0] 152));have KZ:=ae (alloc_at ((w.alloc (.cells #[.string x.name,.string x.sort,.slice xa x.kids.length xc,.string y.name,.string y.sort,.slice ya y.kids.length yc] 146)).alloc (.cells #[.string p.name,.string p.sort,.slice pa p.kids.length pc,.string q.name,.string q.sort,.slice qa q.kids.length qc] 146)) (.cells #[.string ⟨#[]⟩,.string ⟨#[]⟩,.slice none 0 0,.string ⟨#[]⟩,.string ⟨#[]⟩,.slice none 0 0,.string ⟨#[]⟩,.string ⟨#[]⟩,.slice none 0 0,.int .i64 0,.int .i64 0,.slice none 0 0] 152) (n:=w.heap.size+2) (by simp));have hz:w.heap.size+3<=(((w.alloc (.cells #[.string x.name,.string x.sort,.slice xa x.kids.length xc,.string y.name,.string y.sort,.slice ya y.kids.length yc] 146)).alloc (.cells #[.string p.name,.string p.sort,.slice pa p.kids.length pc,.string q.name,.string q.sort,.slice qa q.kids.length qc] 146)).alloc (.cells #[.string ⟨#[]⟩,.string ⟨#[]⟩,.slice none 0 0,.string ⟨#[]⟩,.string ⟨#[]⟩,.slice none 0 0,.string ⟨#[]⟩,.string ⟨#[]⟩,.slice none 0 0,.int .i64 0,.int .i64 0,.slice none 0 0] 152)).heap.size:=by simp
 have HS:=ae hz;obtain⟨x0,x1,x2,x3,x4,x5⟩:=eG HB0.out;dsimp only[tV] at HAT hU⊢;have HU:=ae hU;clear hE hz hx hy hp hB2 hq htab hsx hsy Kv hat hpl hpv hU
 go_enter Tryz.func164,Tryz.ntmps164
 go_wp2_with fail
 generalize (((w.alloc (.cells #[.string x.name,.string x.sort,.slice xa x.kids.length xc,.string y.name,.string y.sort,.slice ya y.kids.length yc] 146)).alloc (.cells #[.string p.name,.string p.sort,.slice pa p.kids.length pc,.string q.name,.string q.sort,.slice qa q.kids.length qc] 146)).alloc (.cells #[.string ⟨#[]⟩,.string ⟨#[]⟩,.slice none 0 0,.string ⟨#[]⟩,.string ⟨#[]⟩,.slice none 0 0,.string ⟨#[]⟩,.string ⟨#[]⟩,.slice none 0 0,.int .i64 0,.int .i64 0,.slice none 0 0] 152))=w1 at*;refine(HAT.out _ HE.out).mono ?_;rintro e w3 ⟨r,B1,rfl,yf,hB1,hw3⟩;obtain⟨ua,uc,hr⟩:=aG.shape yf;subst hr;have hX:=hw3.alloc (tO u ua uc);have aS:=ae (HE.out.trans hX);have wo:=ae (hX.heap HB0.out (fun h=>h));have jS:=ae (hX.heap HB1.out (fun h=>h));have O8:=ae (hX.heap KZ.out (fun h=>h));have gz:=ae (ai w3 (tO u ua uc));have Xb:=ae (yf.kept ((uR w3).alloc (tO u ua uc)) (fun _ _ h=>h));have Hy:Hid (∀j,B1 j->w.heap.size+3<=j/\j< (w3.alloc (tO u ua uc)).heap.size):=ae (fun j hj=>⟨Nat.le_trans HS.out (hB1 j hj).1,ay (hB1 j hj).2 ((uR w3).alloc (tO u ua uc)).size⟩);have gV:Hid (w.heap.size+3<=w3.heap.size):=ae (Nat.le_trans HS.out hw3.size);clear yf hB1 hw3 hX HAT HE HB0 HB1 KZ HS x0 x1 x2 x3 x4 x5;dsimp only;obtain⟨nb,hnb⟩: ∃n,w3.heap.size=n:=⟨_,rfl⟩
 rw[hnb] at gz gV;obtain⟨x0,x1,x2,x3,x4,x5⟩:=eG jS.out;obtain⟨m0,m1,m2⟩:=ag gz.out
 go_wp2_with fail
 try rw[hnb]
 generalize w3.alloc (tO u ua uc)=w4 at*;clear hnb;have Xc:=HU.out w4 aS.out B1 B2 _ _ Xb.out (HP2.out.kept aS.out (fun _ _ h=>h)) (fun k h1 h2=>by have:=(Hy.out k h1).1;have:=HB2.out k h2;omega) (fun k h1=>(Hy.out k h1).2) (fun k h2=>ay (HB2.out k h2) aS.out.size) (aC fB.out aS.out);refine Xc.mono ?_;rintro e w5 ⟨rfl,hw5⟩;have dX:=ae (aS.out.trans hw5);have JV:=ae (hw5.heap O8.out (fun h=>h));clear hw5 Xc aS wo jS O8 gz Xb Hy gV x0 x1 x2 x3 x4 x5 m0 m1 m2;have f2:=fun i=>au JV.out i;obtain⟨d0,d1,d2,d3,d4,d5,d6,d7,d8,d9,d10,d11⟩:=iY JV.out
 go_wp2_with fail
 have hr:=Lm JV.out (.string ⟨#[]⟩) (.string ⟨#[]⟩) (.slice none 0 0) (.string ⟨#[]⟩) (.string ⟨#[]⟩) (.slice none 0 0) (.string ⟨#[]⟩) (.string ⟨#[]⟩) (.slice none 0 0) (.int .i64 0) (.int .i64 0) (.slice none 0 0);have hu:=O7 w5 (w.heap.size+2) (.string ⟨#[]⟩) (.string ⟨#[]⟩) (.slice none 0 0) (.string ⟨#[]⟩) (.string ⟨#[]⟩) (.slice none 0 0) (.string ⟨#[]⟩) (.string ⟨#[]⟩) (.slice none 0 0) (.int .i64 0) (.int .i64 0) (.slice none 0 0);obtain⟨e0,e1,e2,e3,e4,e5,e6,e7,e8,e9,e10,e11⟩:=iY hr;refine bodyPost_ret (v:= .tuple #[.agg #[.string ⟨#[]⟩,.string ⟨#[]⟩,.slice none 0 0,.string ⟨#[]⟩,.string ⟨#[]⟩,.slice none 0 0,.string ⟨#[]⟩,.string ⟨#[]⟩,.slice none 0 0,.int .i64 0,.int .i64 0,.slice none 0 0],.int .i64 12]) (by simp[results,Tryz.results164,go_sem,e0,e1,e2,e3,e4,e5,e6,e7,e8,e9,e10,e11]) rfl ?_;have hue:=dX.out.trans' hu (fun j hj e=>by omega);exact⟨rfl,hue⟩
end
end Go.Proofs.YtlkcjmaiahnodaaGreatDoor
