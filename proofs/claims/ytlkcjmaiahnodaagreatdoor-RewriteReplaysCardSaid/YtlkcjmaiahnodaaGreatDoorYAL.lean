/- The texts I98 N72 N73 N24 N25 N26, one behind the other. -/
import Derived.Test.YtlkcjmaiahnodaaGreatDoorYAH
import Derived.Test.YtlkcjmaiahnodaaGreatDoorYAK
import Derived.Test.YtlkcjmaiahnodaaGreatDoorYAE
import Derived.Test.YtlkcjmaiahnodaaGreatDoorYAC
set_option maxRecDepth 100000
set_option maxHeartbeats 8000000
set_option linter.unusedVariables false
set_option linter.unusedSimpArgs false
namespace Go.Proofs.YtlkcjmaiahnodaaGreatDoor
open Go.RowKit Go.Hw Go Tm
theorem UO (a:Option Addr) (n c:Nat) (w:World) (hn:n<=c) (hl:n<=1000000) (ha:a=none->n=0/\c=0):Calls Tryz.prog 211 #[.slice a n c] w fun e w'=>e= .returned (.slice a n n)/\Ext w w':=by
 have z0:(0:Int)<=(n:Int):=by omega
 have z1:(n:Int)<=(c:Int):=by omega
 have hn2:((n:Int)).toNat=n:=by omega
 cases a with
 |none=>
  obtain⟨rfl,rfl⟩:=ha rfl
  go_enter Tryz.func211,Tryz.ntmps211
  go_wp2_with fail
  go_ret;exact⟨rfl,au.refl _ _⟩
 |some b=>
  go_enter Tryz.func211,Tryz.ntmps211
  go_wp2_with fail
  go_ret;exact⟨rfl,au.refl _ _⟩
theorem aaW (l:List Nat) (v:Value) (S:Nat->Prop) (w:World) (hR:aA S w 1 v l.length (l.map (fun i:Nat=>Value.int .i64 (i:Int)))) (hl:l.length<=1000000):
  Calls Tryz.prog 210 #[v] w fun e w'=> ∃r,e= .returned r/\aA (fun j=>w.heap.size<=j/\j<w'.heap.size) w' 1 r l.length (l.map (fun i:Nat=>Value.int .i64 (i:Int)))/\Ext w w':=by
 have hown: ∀(w':World) (r:Value),w'.ownsRow w.heap.size 3 1 r l.length (l.map (fun i:Nat=>Value.int .i64 (i:Int)))->aA (fun j=>w.heap.size<=j/\j<w'.heap.size) w' 1 r l.length (l.map (fun i:Nat=>Value.int .i64 (i:Int))):=fun w' r h=>(aA.fC h).weaken (fun j hj=>⟨(h.lt j hj).1,(h.lt j hj).2⟩);obtain⟨a,cap,rfl⟩:=aA.shape hR;by_cases h0:0<l.length
 .obtain ⟨g,off,hga,_,hat⟩:=aA.CG (d:=(0:Nat)) hR h0;subst hga;refine(Tryz.slices_Clone_int g off l.length cap (l.map fun i:Nat=>(i:Int)) w (by simp) (by omega) (fun j hj=>?_)).mono ?_
  .have hj':j<l.length:=by simpa using hj
   have h1:=hat j hj';rw[h1];simp[List.getD_eq_getElem?_getD,List.getElem?_eq_getElem hj']
  .rintro e w' ⟨v',rfl,h1,_,h2⟩;rw[List.take_of_length_le (by simp),List.map_map] at h1;exact⟨v',rfl,hown w' v' h1,xU h2⟩
 .have hl0:l=[]:=List.eq_nil_of_length_eq_zero (by omega);subst hl0;cases a with
  |none=>
   refine(Tryz.slices_Clone_int_nil 0 cap w).mono ?_;rintro e w' ⟨rfl,rfl⟩;exact⟨_,rfl,aA.nil _ _ _,au.refl _ _⟩
  |some a=>
   refine(Tryz.slices_Clone_int_zero a cap w).mono ?_;rintro e w' ⟨v',rfl,h1,_,h2⟩;exact⟨v',rfl,hown w' v' h1,xU h2⟩
def fq (o:Option (Nat×List Nat×Tm)) (P:List Nat):List Nat:=match o with|some x=>P++x.2.1|none=>[]
def fi (o:Option (Nat×List Nat×Tm)):Nat:=match o with|some x=>x.1|none=>0
def ft (o:Option (Nat×List Nat×Tm)):Tm:=match o with|some x=>x.2.2|none=>default
structure Qh (o:Option (Nat×List Nat×Tm)) (P:List Nat) (x:(Option Addr×Nat)×Option Addr×Nat) (B:Nat->Prop) (w':World):Prop where
 path:aA B w' 1 (.slice x.1.1 (fq o P).length x.1.2) (fq o P).length ((fq o P).map (fun i:Nat=>Value.int .i64 (i:Int)))
 part:aG 24 w' B (ft o).kids (.slice x.2.1 (ft o).kids.length x.2.2)
def A7 (o:Option (Nat×List Nat×Tm)) (P:List Nat) (x:(Option Addr×Nat)×Option Addr×Nat):Value:= .tuple #[.agg #[.int .i64 (fi o:Int),.slice x.1.1 (fq o P).length x.1.2],.agg #[.string (ft o).name,.string (ft o).sort,.slice x.2.1 (ft o).kids.length x.2.2],.bool o.isSome]
theorem Qh.ext {o:Option (Nat×List Nat×Tm)} {P:List Nat} {x:(Option Addr×Nat)×Option Addr×Nat} {B:Nat->Prop} {w w':World} (h:Qh o P x B w) (hE:Ext w w'):Qh o P x B w':=⟨aA.kept h.path hE (fun _ _ h=>h),h.part.kept hE (fun _ _ h=>h)⟩
abbrev FA:=(Option Addr×Nat)×(Option Addr×Nat)×(Nat->Prop)
def jE (v:Value):PG.dN FA:=⟨fun _=>v,fun _ _=>True,fun _ _ _ _ _=>trivial,fun _ _=>False,fun _ _ _ _ h=>h.elim⟩
def lH (k:Nat):PG.dN FA:=⟨fun x=> .slice (some ⟨x.1.2,0,none⟩) 1 1,fun x W=>W.cell? ⟨x.1.2,0,none⟩=some (.int .i64 (k:Int)),fun x W W' h hE=>hE.cell h (fun h=>h),fun _ _=>False,fun _ _ _ _ h=>h.elim⟩
def uV (base n:Nat) (xs:List Value):PG.dN FA:=⟨fun x=> .slice (some ⟨x.1.2,0,none⟩) n x.2.1.2,fun x W=>base<=x.1.2/\x.1.2<W.heap.size/\aA (fun j=>j=x.1.2) W 1 (.slice (some ⟨x.1.2,0,none⟩) n x.2.1.2) n xs,fun x W W' h hE=>⟨h.1,ax h.2.1 hE.size,aA.kept h.2.2 hE (fun _ _ h=>h)⟩,fun x j=>j=x.1.2,fun x W k h e=>by rw[e];exact h.2.1⟩
def ru (base:Nat) (o:Option (Nat×List Nat×Tm)) (P:List Nat):PG.dN FA:=⟨fun x=>A7 o P (x.1,x.2.1),fun x W=>Qh o P (x.1,x.2.1) x.2.2 W/\∀j,x.2.2 j->base<=j/\j<W.heap.size,fun x W W' h hE=>⟨h.1.ext hE,fun j hj=>⟨(h.2 j hj).1,ax (h.2 j hj).2 hE.size⟩⟩,fun x j=>x.2.2 j,fun x W k h e=>(h.2 k e).2⟩
def rZ (base:Nat) (c:Obj):PG.dN FA:=⟨fun x=> .pointer (some ⟨x.1.2,0,none⟩),fun x W=>base<=x.1.2/\W.heap[x.1.2]?=some c,fun x W W' h hE=>⟨h.1,hE.heap h.2 (fun h=>h)⟩,fun x j=>j=x.1.2,fun x W k h e=>by rw[e];exact(Array.getElem?_eq_some_iff.1 h.2).1⟩
theorem PW (l:List Rl) (hll:l.length<=1000000) (hls: ∀r∈l,r.1.size<=100000/\r.2.size<=100000): ∀(t:Tm) (v lv pv:Value) (S T U:Nat->Prop) (P:List Nat) (w:World),bG T w t v->iJ S w l lv->aA U w 1 pv P.length (P.map (fun i:Nat=>Value.int .i64 (i:Int)))->(∀k,S k->k<w.heap.size)->(∀k,T k->k<w.heap.size)->t.size<=100000->P.length+t.size<=200000->
  Calls Tryz.prog 167 #[lv,v,pv] w fun e w'=> ∃x B,e= .returned (A7 (oM l t) P x)/\Qh (oM l t) P x B w'/\(∀j,B j->w.heap.size<=j/\j<w'.heap.size)/\Ext w w':=by
 refine Tm.ind (fun nm so L ih=>?_);intro v lv pv S T U P w hT hR hP hS hT2 hsz hps;obtain⟨a,cap,rfl,hT⟩:=hT;obtain⟨la,lc,rfl⟩:=hR.shape;obtain⟨pa,pc,rfl⟩:=aA.shape hP;dsimp only[tV,Tm.name,Tm.sort,Tm.kids] at hT⊢;have cZ:=ae hT;have HRL:=ae hR;have oD:=ae hP;have HIH:=ae ih;have HST:=ae (And.intro hS hT2);have CV:=ae hls;have fB:sizes L+1<=100000:=by rw[size_eq] at hsz;simp only[Tm.kids] at hsz;omega
 have kK:=ae fB;have jW:L.length<=100000:=by have h1:=aX L;omega
 have w_:=ae jW;have jQ:=ae (aA.clip oD.out).2;have GV:=ae hps;have hpl:P.length<=200000:=by omega
 have dB:=ae ((((uR w).alloc (.cells #[.string nm,.string so,.slice a L.length cap] 24)).alloc (.cells #[.int .i64 0,.slice none 0 0] 65)).alloc zO);have HB0:=ae (ak (ak (aj w (.cells #[.string nm,.string so,.slice a L.length cap] 24)) (.cells #[.int .i64 0,.slice none 0 0] 65)) zO);have HB1:=ae (ak (alloc_at (w.alloc (.cells #[.string nm,.string so,.slice a L.length cap] 24)) (.cells #[.int .i64 0,.slice none 0 0] 65) (n:=w.heap.size+1) (by simp)) zO);have HB2:=ae (alloc_at ((w.alloc (.cells #[.string nm,.string so,.slice a L.length cap] 24)).alloc (.cells #[.int .i64 0,.slice none 0 0] 65)) zO (n:=w.heap.size+2) (by simp));have hz0:(((w.alloc (.cells #[.string nm,.string so,.slice a L.length cap] 24)).alloc (.cells #[.int .i64 0,.slice none 0 0] 65)).alloc zO).heap.size=w.heap.size+3:=by simp
 have HZ0:=ae hz0;obtain⟨V,hV⟩: ∃V,r_ l 0 L=V:=⟨_,rfl⟩
 have HV:=ae hV;have hvv:=Qi l nm so L;rw[hV] at hvv;have HVV:=ae hvv;have c2:=ag HB0.out 2 (.slice a L.length cap) rfl;clear ih hT hR hP hS hT2 hsz fB hz0 hV hvv hps
 go_enter Tryz.func167,Tryz.ntmps167
 go_wp2_with fail
 clear c2;generalize (((w.alloc (.cells #[.string nm,.string so,.slice a L.length cap] 24)).alloc (.cells #[.int .i64 0,.slice none 0 0] 65)).alloc zO)=W0 at*
 go_loopg [21] L.length (fun gk iv wr=> ∃k:Nat,iv= .int .i64 (k:Int)/\gk=L.length-k/\k<=L.length/\Hid (r_ l k (L.drop k)=V)/\Hid (Ext w wr)/\Hid (wr.heap[w.heap.size]?=some (.cells #[.string nm,.string so,.slice a L.length cap] 24 (0,0)))/\Hid (wr.heap[w.heap.size+1]?=some (.cells #[.int .i64 0,.slice none 0 0] 65 (0,0)))/\Hid (wr.heap[w.heap.size+2]?=some zO)/\Hid (w.heap.size+3<=wr.heap.size))
 case atStart=>exact⟨0,rfl,rfl,Nat.zero_le _,HV,dB,HB0,HB1,HB2,ae (by rw[HZ0.out];exact Nat.le_refl _)⟩
 case round=>
  clear HB0 HB1 HB2 dB HZ0 HV;obtain⟨k,rfl,rfl,hk,jX,HE,HB0,HB1,HB2,bT⟩:=hrel;by_cases hlt:k<L.length
  .obtain ⟨g,off,hga,_,hat⟩:=(cZ.out.ext HE.out).at_ (by omega);subst hga;obtain⟨xa,xc,q0,q1,q2,aQ⟩:=hat k hlt;rw[<-Nat.add_assoc] at q1 q2;obtain⟨z0,z1,z2,z2'⟩:=bJ hlt;have h_:=ae (jX.out.symm.trans (Qj l L k hlt));have CW:=ae aQ;have MO:=ae (bM L k hlt);have jb:Hid ((tg L k).size<=100000/\P.length+1+(tg L k).size<=200000):=ae (by have h1:=kK.out;have h2:=jq L k hlt;have h3:=fA L (k+1);have h4:=GV.out;rw[size_eq] at h4;simp only[Tm.kids] at h4;omega);obtain⟨x,hx⟩: ∃x,tg L k=x:=⟨_,rfl⟩
   have HX:=ae hx;rw[hx] at q0 q1 q2 h_ CW MO jb;have hQ:=(uR wr).alloc (tO x xa xc);have lF:=aj wr (tO x xa xc);obtain⟨b0,b1,b2⟩:=af lF;have HQ:=ae hQ;have FQ:=ae (hQ.heap HB0.out (fun h=>h));have RZ:=ae (hQ.heap HB1.out (fun h=>h));have R_:=ae (hQ.heap HB2.out (fun h=>h));clear hat aQ hx hQ lF jX HB0 HB1 HB2
   go_wp2_with fail
   generalize wr.alloc (tO x xa xc)=wq at*;have aW:=ae (fun W (hW:Ext wq W) (pv':Value) (U':Nat->Prop) (hP:aA U' W 1 pv' (P.length+1) (P.map (fun i:Nat=>Value.int .i64 (i:Int))++[.int .i64 (k:Int)]))=>HIH.out x MO.out (.agg #[.string x.name,.string x.sort,.slice xa x.kids.length xc]) (.slice la l.length lc) pv' S T U' (P++[k]) W ⟨xa,xc,rfl,(CW.out.ext HQ.out).ext hW⟩ (HRL.out.ext ((HE.out.trans HQ.out).trans hW)) (by rw[List.length_append,List.map_append];exact hP) (fun j hj=>ax (HST.out.1 j hj) ((HE.out.trans HQ.out).trans hW).size) (fun j hj=>ax (HST.out.2 j hj) ((HE.out.trans HQ.out).trans hW).size) (jb.out).1 (by rw[List.length_append];exact jb.out.2));have MP:=ae (fun W (hW:Ext wq W)=>aA.kept oD.out ((HE.out.trans HQ.out).trans hW) (fun _ _ h=>h));have x0:=fun x:XW wq=>x.ext.cell b0 (fun h=>h);have x1:=fun x:XW wq=>x.ext.cell b1 (fun h=>h);have x2:=fun x:XW wq=>x.ext.cell b2 (fun h=>h);obtain⟨o,ho⟩: ∃o,oM l x=o:=⟨_,rfl⟩
   have HO:=ae ho;rw[ho] at aW h_;clear ho b0 b1 b2;refine PG.bP (α:=FA) 14 [10,11] 16 [(14,1),(15,1),(16,2)] [[],[],[],[2],[],[4],[2,3,4,5],[0,1,2,3,4,5,6],[0,1,2,3,4,5,6,7],[0,1,2,3,4,5,6,7,8],[0,1,2,3,4,5,6,7,8],[0,1,2,3,4,5,6,7,8],[],[],[0,1,2,3,4,5,6,7,8,9,12,13],[0,1,2,3,4,5,6,7,8,9,10,12,13,14],[0,1,2,3,4,5,6,7,8,9,10,11,12,13,14,15]]
    [none,none,none,some (jE (.slice pa P.length P.length)),none,some (lH k),some (uV wq.heap.size (P.length+1) (P.map (fun i:Nat=>Value.int .i64 (i:Int))++[.int .i64 (k:Int)])),some (ru wq.heap.size o (P++[k])),none,none,none,none,some (rZ wq.heap.size (.cells #[.int .i64 0,.slice none 0 0] 65 (0,0))),some (rZ wq.heap.size zO)]
    [false,false,false,true,false,true,true,true,false,false,false,false,true,true] (by kernel_rfl) (by kernel_rfl) rfl (fun _ _ d _ _ h=>by cases d<;>exact h) ?_
   simp only[List.take_succ_cons,List.take_zero,fF,List.getElem?_cons_zero,List.getElem?_cons_succ]
   iterate 3(refine PG.aS rfl (fun K hK=>?_);go_simp;refine hK _ ?_;clear hK K)
   refine PG.aH _ rfl (by go_simp) (fun W hW hG K hK=>?_) (fun K z3 hK=>?_)
   .go_simp;refine(UO pa P.length pc W jQ.out.1 (by omega) jQ.out.2).mono ?_;rintro e w' ⟨rfl,hE⟩;exact hK default _ hE trivial (fun k e=>e.elim)
   refine hK _ ?_;clear hK K;dsimp only[jE,lH,uV,ru,rZ,A7];refine PG.aS rfl (fun K hK=>?_);go_simp;refine hK _ ?_;clear hK K;refine PG.aH _ rfl (by go_simp) (fun W hW hG K hK=>?_) (fun K z5 hK=>?_)
   .go_simp;exact hK ((none,W.heap.size),default) _ ((uR W).alloc _) (ag (aj W _) 0 _ rfl) (fun k e=>e.elim)
   refine hK _ ?_;clear hK K;dsimp only[jE,lH,uV,ru,rZ,A7];refine PG.aH _ rfl (by go_simp) (fun W hW hG K hK=>?_) (fun K z6 hK=>?_)
   .have g5:=hG _ (List.mem_append_right _ (List.mem_singleton.2 rfl)) (by show(5:Nat)∈_;decide);obtain⟨iI,hi,hz0,hz1,hz2⟩:=info_parts Za;refine xh W (.tmp 30) (.tmp 32) 63 rfl 3 iI (.int .i64 0) 8 Tryz.underlying63 hi hz0 hz1 hz2 U pa P.length (P.map (fun i:Nat=>Value.int .i64 (i:Int))) rfl (aA.clip (MP.out W hW)).1 z5.1.2 1 (.int .i64 (k:Int)) rfl g5 (by unfold maxLen;omega) (by omega) ?_;intro c' w' hE hLT hS;exact hK ((none,W.heap.size),(none,c'),fun _=>False) w' hE ⟨hW.size,hLT,hS⟩ (fun k e=>by rw[e];exact Nat.le_refl _)
   refine hK _ ?_;clear hK K;dsimp only[jE,lH,uV,ru,rZ,A7];refine PG.aH _ rfl (by go_simp) (fun W hW hG K hK=>?_) (fun K z7 hK=>?_)
   .have g6:=hG _ (List.mem_append_right _ (List.mem_singleton.2 rfl)) (by show(6:Nat)∈_;decide);go_simp;refine(aW.out W hW _ _ g6.2.2).mono ?_;rintro e w' ⟨y,B,rfl,hF,hb,hE⟩;exact hK (y.1,y.2,B) w' hE ⟨hF,fun j hj=>⟨Nat.le_trans hW.size (hb j hj).1,(hb j hj).2⟩⟩ (fun k e=>(hb k e).1)
   refine hK _ ?_;clear hK K;dsimp only[jE,lH,uV,ru,rZ,A7]
   iterate 4(refine PG.aS rfl (fun K hK=>?_);go_simp;refine hK _ ?_;clear hK K)
   refine PG.aH _ rfl (by go_simp) (fun W hW hG K hK=>?_) (fun K z12 hK=>?_)
   .go_simp;exact hK ((none,W.heap.size),default) _ ((uR W).alloc _) ⟨hW.size,aj _ _⟩ (fun k e=>by rw[e];exact Nat.le_refl _)
   refine hK _ ?_;clear hK K;dsimp only[jE,lH,uV,ru,rZ,A7];refine PG.aH _ rfl (by go_simp) (fun W hW hG K hK=>?_) (fun K z13 hK=>?_)
   .go_simp;exact hK ((none,W.heap.size),default) _ ((uR W).alloc _) ⟨hW.size,aj _ _⟩ (fun k e=>by rw[e];exact Nat.le_refl _)
   refine hK _ ?_;clear hK K;dsimp only[jE,lH,uV,ru,rZ,A7];refine PG.gJ (fun w8 hW hG ji=>?_);have g7:=hG _ (List.mem_append_left _ (List.mem_append_left _ (List.mem_append_right _ (List.mem_singleton.2 rfl))));have g12:=hG _ (List.mem_append_left _ (List.mem_append_right _ (List.mem_singleton.2 rfl)));have g13:=hG _ (List.mem_append_right _ (List.mem_singleton.2 rfl));unfold PG.su PI.su at ji;simp only[List.nil_append,List.singleton_append,List.cons_append,List.pairwise_cons] at ji;obtain⟨_,_,_,hp7,acI,_⟩:=ji;have Xq:=hp7 _ (List.mem_cons_self ..);have Xr:=hp7 _ (List.mem_cons_of_mem _ (List.mem_cons_self ..));have Si:=acI _ (List.mem_cons_self ..);dsimp only[jE,lH,uV,ru,rZ] at g7 g12 g13 Xq Xr Si;clear hG hp7 acI x0 x1 x2 q0 q1 q2;obtain⟨k0,k1⟩:=df g12.2;obtain⟨l0,l1,l2⟩:=af g13.2;have fk:=fun i=>ai g12.2 i;have fl:=fun i=>ai g13.2 i;have hne:z12.1.2≠z13.1.2:=fun e=>Si z12.1.2 rfl e;have G7:=ae g7;have G12:=ae g12;have Zm:=ae g13;have HW:=ae hW;have Xt:=ae Xq;have Xv:=ae Xr;clear g7 g12 g13 hW Xq Xr Si;refine kE (fun K hK _=>?_) trivial;rw[if_pos (by rfl)];go_simp;refine hK _ _ trivial ?_;clear hK K;refine kE (fun K hK _=>?_) trivial;rw[if_pos (by rfl)];go_simp;refine hK _ _ trivial ?_;clear hK K;refine dM ?_;intro K hK;go_simp;refine hK _ _ ?_;clear hK K;simp only[bW];have acM:((w8.setCell ⟨z12.1.2,0,none⟩ (.int .i64 (fi o:Int))).setCell ⟨z12.1.2,1,none⟩ (.slice z7.1.1 (fq o (P++[k])).length z7.1.2)).heap[z12.1.2]?=some (.cells #[.int .i64 (fi o:Int),.slice z7.1.1 (fq o (P++[k])).length z7.1.2] 65 (0,0)):=by simpa using setBlock (setBlock G12.out.2 0 (.int .i64 (fi o:Int))) 1 (.slice z7.1.1 (fq o (P++[k])).length z7.1.2)
   have Xw:au (fun j=>j=z12.1.2) w8 ((w8.setCell ⟨z12.1.2,0,none⟩ (.int .i64 (fi o:Int))).setCell ⟨z12.1.2,1,none⟩ (.slice z7.1.1 (fq o (P++[k])).length z7.1.2)):=((au.refl (fun j=>j=z12.1.2) w8).setCell (p:=⟨z12.1.2,0,none⟩) (.inl rfl) _).setCell (p:=⟨z12.1.2,1,none⟩) (.inl rfl) _;generalize (w8.setCell ⟨z12.1.2,0,none⟩ (.int .i64 (fi o:Int))).setCell ⟨z12.1.2,1,none⟩ (.slice z7.1.1 (fq o (P++[k])).length z7.1.2)=w9 at*;have acN:=jY (Xw.heap Zm.out.2 (fun e=>hne e.symm)) (.string (ft o).name) (.string (ft o).sort) (.slice z7.2.1.1 (ft o).kids.length z7.2.1.2);have Xx:=gz w9 z13.1.2 (.string (ft o).name) (.string (ft o).sort) (.slice z7.2.1.1 (ft o).kids.length z7.2.1.2);generalize ((w9.setCell ⟨z13.1.2,0,none⟩ (.string (ft o).name)).setCell ⟨z13.1.2,1,none⟩ (.string (ft o).sort)).setCell ⟨z13.1.2,2,none⟩ (.slice z7.2.1.1 (ft o).kids.length z7.2.1.2)=wA at*;have oZ:=ae (Xx.heap acM hne);have iQ:=ae acN;have UQ:au (fun j=>j=z12.1.2\/j=z13.1.2) w8 wA:=(Xw.mono (fun _ _ h=> .inl h)).trans (Xx.mono (fun _ _ h=> .inr h));have mW:Hid (Ext wq wA):=ae (HW.out.trans' UQ (fun j hj h=>by have h1:=G12.out.1;have h2:=Zm.out.1;omega));have GX:Hid (Qh o (P++[k]) (z7.1,z7.2.1) z7.2.2 wA/\∀j,z7.2.2 j->wq.heap.size<=j/\j<wA.heap.size):=ae ⟨⟨aA.kept G7.out.1.path UQ (fun j hj h=>by rcases h with h|h;exact Xt.out j hj h;exact Xv.out j hj h),G7.out.1.part.kept UQ (fun j hj h=>by rcases h with h|h;exact Xt.out j hj h;exact Xv.out j hj h)⟩,fun j hj=>⟨(G7.out.2 j hj).1,ax (G7.out.2 j hj).2 UQ.size⟩⟩;have zi:Hid (Ext w wA):=ae ((HE.out.trans HQ.out).trans mW.out);have Xy:=ae (mW.out.heap FQ.out (fun h=>h));have yD:=ae (mW.out.heap RZ.out (fun h=>h));have CX:=ae (mW.out.heap R_.out (fun h=>h));have qh:Hid (w.heap.size+3<=wA.heap.size):=ae (Nat.le_trans bT.out (HQ.out.trans mW.out).size);have aja:Hid (w.heap.size+3<=z13.1.2):=ae (Nat.le_trans bT.out (Nat.le_trans HQ.out.size Zm.out.1));clear k0 k1 l0 l1 l2 fk fl acM Xw acN Xx UQ hne G7 G12 Zm HW Xt Xv;cases o with
   |none=>
    have jg:Hid (r_ l (k+1) (L.drop (k+1))=V):=ae h_.out.symm;have al2:=w_.out;simp only[Option.isSome_none]
    go_wp2_with fail
    go_roundg (L.length- (k+1))
    case measure=>omega
    case rel=>exact⟨k+1,by go_num,rfl,by omega,jg,zi,Xy,yD,CX,qh⟩
   |some y=>
    obtain⟨k0,k1⟩:=df oZ.out;obtain⟨l0,l1,l2⟩:=af iQ.out;obtain⟨r0,r1⟩:=df yD.out;obtain⟨d0,d1,d2⟩:=af CX.out;have fr:=fun i=>ai yD.out i;have fd:=fun i=>ai CX.out i;have gZ:=((au.refl (fun j=>j=w.heap.size+1) wA).setCell (p:=⟨w.heap.size+1,0,none⟩) (.inl rfl) (.int .i64 (fi (some y):Int))).setCell (p:=⟨w.heap.size+1,1,none⟩) (.inl rfl) (.slice z7.1.1 (fq (some y) (P++[k])).length z7.1.2);have Sj: ¬z13.1.2=w.heap.size+1:=by have:=aja.out;omega
    have hz2: ¬w.heap.size+2=w.heap.size+1:=by omega
    have m0:=gZ.cell l0 Sj;have m1:=gZ.cell l1 Sj;have m2:=gZ.cell l2 Sj;have n0:=gZ.cell d0 hz2;have n1:=gZ.cell d1 hz2;have n2:=gZ.cell d2 hz2;have fe:=fun i=>ai (gZ.heap CX.out hz2) i;clear gZ Sj hz2;simp only[Option.isSome_some]
    go_wp2_with fail
    go_region
    all_goals (go_wp2_with fail)
    have hb1:((wA.setCell ⟨w.heap.size+1,0,none⟩ (.int .i64 (fi (some y):Int))).setCell ⟨w.heap.size+1,1,none⟩ (.slice z7.1.1 (fq (some y) (P++[k])).length z7.1.2)).heap[w.heap.size+1]?=some (.cells #[.int .i64 (fi (some y):Int),.slice z7.1.1 (fq (some y) (P++[k])).length z7.1.2] 65 (0,0)):=by simpa using setBlock (setBlock yD.out 0 (.int .i64 (fi (some y):Int))) 1 (.slice z7.1.1 (fq (some y) (P++[k])).length z7.1.2)
    have hu1:au (fun j=>j=w.heap.size+1) wA ((wA.setCell ⟨w.heap.size+1,0,none⟩ (.int .i64 (fi (some y):Int))).setCell ⟨w.heap.size+1,1,none⟩ (.slice z7.1.1 (fq (some y) (P++[k])).length z7.1.2)):=((au.refl (fun j=>j=w.heap.size+1) wA).setCell (p:=⟨w.heap.size+1,0,none⟩) (.inl rfl) _).setCell (p:=⟨w.heap.size+1,1,none⟩) (.inl rfl) _;have MQ:=ae (hu1.heap CX.out (by omega));clear k0 k1 l0 l1 l2 r0 r1 d0 d1 d2 fr fd m0 m1 m2 n0 n1 n2 fe;generalize (wA.setCell ⟨w.heap.size+1,0,none⟩ (.int .i64 (fi (some y):Int))).setCell ⟨w.heap.size+1,1,none⟩ (.slice z7.1.1 (fq (some y) (P++[k])).length z7.1.2)=wB at*;have hr2:=jY MQ.out (.string (ft (some y)).name) (.string (ft (some y)).sort) (.slice z7.2.1.1 (ft (some y)).kids.length z7.2.1.2);have hu2:=gz wB (w.heap.size+2) (.string (ft (some y)).name) (.string (ft (some y)).sort) (.slice z7.2.1.1 (ft (some y)).kids.length z7.2.1.2);have hr1:=hu2.heap hb1 (by omega);have hu:au (fun j=>j=w.heap.size+1\/j=w.heap.size+2) wA _:=(hu1.mono (fun _ _ h=> .inl h)).trans (hu2.mono (fun _ _ h=> .inr h));replace hu:=hu.drew;obtain⟨e0,e1⟩:=df hr1;obtain⟨e2,e3,e4⟩:=af hr2;have hq:fq (some (y.1,k::y.2.1,y.2.2)) P=fq (some y) (P++[k]):=by simp[fq]
    have hwq:w.heap.size+3<=wq.heap.size:=Nat.le_trans bT.out HQ.out.size;refine bodyPost_ret (v:= .tuple #[.agg #[.int .i64 (fi (some y):Int),.slice z7.1.1 (fq (some y) (P++[k])).length z7.1.2],.agg #[.string (ft (some y)).name,.string (ft (some y)).sort,.slice z7.2.1.1 (ft (some y)).kids.length z7.2.1.2],.bool true]) (by simp[results,Tryz.results167,go_sem,e0,e1,e2,e3,e4]) rfl ⟨(z7.1,z7.2.1),z7.2.2,?_,?_,?_,?_⟩
    .rw [HVV.out,h_.out];simp only[A7,hq];rfl
    .rw [HVV.out,h_.out];refine⟨?_,GX.out.1.part.kept hu (fun j hj e=>by have h1:=(GX.out.2 j hj).1;omega)⟩;simp only[hq];exact aA.kept GX.out.1.path hu (fun j hj e=>by have h1:=(GX.out.2 j hj).1;omega)
    .exact fun j hj=>⟨by have h1:=(GX.out.2 j hj).1;omega,ax (GX.out.2 j hj).2 hu.size⟩
    .exact zi.out.trans' hu (fun j hj e=>by omega)
  .obtain rfl:k=L.length:=by omega
   have z2:decide ((L.length:Int)< (L.length:Int))=false:=dF (by omega);have hvn:V=none:=by
    rw[<-jX.out,List.drop_length];unfold r_;rfl
   have hvw:=HVV.out;rw[hvn] at hvw;have GY:Hid (oM l (mk nm so L)=(vJ 0 l (mk nm so L)).map (fun x=>(x.1,[],x.2))):=ae hvw;obtain⟨V2,hV2⟩: ∃V2,vJ 0 l (mk nm so L)=V2:=⟨_,rfl⟩
   rw[hV2] at GY;have oK:=ae hV2;clear hvn hvw hV2 jX HVV HIH hk
   go_wp2_with fail
   obtain⟨wa,vV⟩: ∃wa,wa=wr:=⟨_,rfl⟩
   subst vV
   go_loopg [44] l.length (fun gk iv wr=> ∃k:Nat,iv= .int .i64 (k:Int)/\gk=l.length-k/\k<=l.length/\Hid (vJ k (l.drop k) (mk nm so L)=V2)/\Hid (Ext w wr)/\Hid (wr.heap[w.heap.size]?=some (.cells #[.string nm,.string so,.slice a L.length cap] 24 (0,0)))/\Hid (wr.heap[w.heap.size+1]?=some (.cells #[.int .i64 0,.slice none 0 0] 65 (0,0)))/\Hid (wr.heap[w.heap.size+2]?=some zO)/\Hid (w.heap.size+3<=wr.heap.size))
   case atStart=>exact⟨0,rfl,rfl,Nat.zero_le _,oK,HE,HB0,HB1,HB2,bT⟩
   case round=>
    clear HB0 HB1 HB2 HE bT oK;obtain⟨k,rfl,rfl,hk,jX,HE,HB0,HB1,HB2,bT⟩:=hrel;by_cases hlt:k<l.length
    .obtain ⟨g,off,hga,_,hat⟩:=(HRL.out.ext HE.out).at_ (by omega);subst hga;obtain⟨xa,xc,ya,yc,q0,q1,q2,q3,q4,q5,hx,hy⟩:=hat k hlt;obtain⟨z0,z1,z2,z2'⟩:=bJ hlt;have h_:=ae (jX.out.symm.trans (Qk l (mk nm so L) k hlt));have jb:=ae (CV.out _ (pX hlt));have xZ:=ae (And.intro hx hy);obtain⟨⟨x,y⟩,hxy⟩: ∃r,rg l k=r:=⟨_,rfl⟩
     rw[hxy] at q0 q1 q2 q3 q4 q5 h_ jb xZ;dsimp only at q0 q1 q2 q3 q4 q5 h_ jb xZ;have hQ:=(uR wr).alloc (.cells #[.string x.name,.string x.sort,.slice xa x.kids.length xc,.string y.name,.string y.sort,.slice ya y.kids.length yc] 146);have HQ:=ae hQ;have lF:=aj wr (.cells #[.string x.name,.string x.sort,.slice xa x.kids.length xc,.string y.name,.string y.sort,.slice ya y.kids.length yc] 146);obtain⟨b0,b1,b2,b3,b4,b5⟩:=dR lF;have FQ:=ae (hQ.heap HB0.out (fun h=>h));have RZ:=ae (hQ.heap HB1.out (fun h=>h));have R_:=ae (hQ.heap HB2.out (fun h=>h));obtain⟨t0,t1,t2⟩:=af FQ.out;have uX:Hid (∀W,Ext (wr.alloc (.cells #[.string x.name,.string x.sort,.slice xa x.kids.length xc,.string y.name,.string y.sort,.slice ya y.kids.length yc] 146)) W->Calls Tryz.prog 119 #[.agg #[.string x.name,.string x.sort,.slice xa x.kids.length xc,.string y.name,.string y.sort,.slice ya y.kids.length yc],.agg #[.string nm,.string so,.slice a L.length cap]] W fun e w'=> ∃r,e= .returned r/\ApP (jT (x,y) (mk nm so L)) W.heap.size w' r/\Ext W w'):=ae (fun W hW=>Qc x y (mk nm so L) _ _ xa ya xc yc S T W ((xZ.out.1.ext HQ.out).ext hW) ((xZ.out.2.ext HQ.out).ext hW) rfl ⟨a,cap,rfl,(cZ.out.ext ((HE.out.trans HQ.out).trans hW))⟩ (fun j hj=>ax (HST.out.1 j hj) ((HE.out.trans HQ.out).trans hW).size) (fun j hj=>ax (HST.out.2 j hj) ((HE.out.trans HQ.out).trans hW).size) jb.out.1 jb.out.2 (by rw[size_eq];exact kK.out));obtain⟨o,ho⟩: ∃o,jT (x,y) (mk nm so L)=o:=⟨_,rfl⟩
     rw[ho] at uX h_;clear hat hx hy hxy hQ lF jX HB0 HB1 HB2 ho
     go_wp2_with fail
     refine(uX.out _ (au.refl _ _)).mono ?_;rintro e w4 ⟨rv,rfl,⟨r,B,rfl,hTl,hbd⟩,hw4⟩;obtain⟨tt,htt⟩: ∃tt,o.getD default=tt:=⟨_,rfl⟩
     obtain⟨bb,hbb⟩: ∃bb,o.isSome=bb:=⟨_,rfl⟩
     rw[htt] at hTl;dsimp only[tV];rw[htt,hbb];obtain⟨ra,rc,hr⟩:=aG.shape hTl;subst hr;have MR:=(uR w4).alloc (tO tt ra rc);have hb:=aj w4 (tO tt ra rc);have H5:=ae ((HQ.out.trans hw4).trans MR);have zi:=ae (HE.out.trans H5.out);have Xy:=ae ((hw4.trans MR).heap FQ.out (fun h=>h));have yD:=ae ((hw4.trans MR).heap RZ.out (fun h=>h));have CX:=ae ((hw4.trans MR).heap R_.out (fun h=>h));have qh:Hid (w.heap.size+3<=(w4.alloc (tO tt ra rc)).heap.size):=ae (Nat.le_trans bT.out H5.out.size);have Qg:=ae (hTl.kept MR (fun _ _ h=>h));have jM:Hid (∀j,B j->w.heap.size+3<=j/\j< (w4.alloc (tO tt ra rc)).heap.size):=ae (fun j hj=>⟨by have h1:=(hbd j hj).1;have h2:=HQ.out.size;have h3:=bT.out;omega,ax (hbd j hj).2 MR.size⟩);have Zn:Hid (w.heap.size+3<=w4.heap.size):=ae (Nat.le_trans bT.out (Nat.le_trans HQ.out.size hw4.size));have Sl:=ae hb;clear b0 b1 b2 b3 b4 b5 t0 t1 t2 q0 q1 q2 q3 q4 q5 uX hTl hbd hw4 MR hb FQ RZ R_;obtain⟨n4,hn4⟩: ∃n4,w4.heap.size=n4:=⟨_,rfl⟩
     rw[hn4] at Sl Zn;cases bb with
     |false=>
      have hon:o=none:=by cases o with|none=>rfl|some u=>cases hbb
      subst hon;have jg:Hid (vJ (k+1) (l.drop (k+1)) (mk nm so L)=V2):=ae h_.out.symm;clear Sl Qg jM H5 htt hbb hn4 h_
      go_wp2_with fail
      go_roundg (l.length- (k+1))
      case measure=>omega
      case rel=>exact⟨k+1,by go_num,rfl,by omega,jg,zi,Xy,yD,CX,qh⟩
     |true=>
      obtain⟨u,hou⟩: ∃u,o=some u:=by cases o with|none=>cases hbb|some u=>exact⟨u,rfl⟩
      subst hou;simp only[Option.getD_some] at htt;subst htt;clear hbb;have jg:Hid (V2=some (k,u)):=ae h_.out;have HWA:Hid (Ext (w4.alloc (tO u ra rc)) (w4.alloc (tO u ra rc))):=ae (au.refl _ _);have ajb:Hid (∀W,Ext (w4.alloc (tO u ra rc)) W->Calls Tryz.prog 210 #[.slice pa P.length pc] W fun e w'=> ∃ca cc,e= .returned (.slice ca P.length cc)/\aA (fun j=>(w4.alloc (tO u ra rc)).heap.size<=j/\j<w'.heap.size) w' 1 (.slice ca P.length cc) P.length (P.map (fun i:Nat=>Value.int .i64 (i:Int)))/\Ext (w4.alloc (tO u ra rc)) w'):=ae (fun W hW=>(aaW P _ U W (aA.kept oD.out (zi.out.trans hW) (fun _ _ h=>h)) (by omega)).mono (by
       rintro e w' ⟨v',rfl,hS,hE⟩;obtain⟨ca,cc,hv⟩:=aA.shape hS;subst hv;exact⟨ca,cc,rfl,aA.weaken hS (fun j hj=>⟨Nat.le_trans hW.size hj.1,hj.2⟩),hW.trans hE⟩))
      obtain⟨g0,g1,g2⟩:=af Sl.out;have A8:Hid (¬n4=w.heap.size+1):=ae (by have:=Zn.out;omega);clear h_
      go_upto_region 13 with fail
      try rw[hn4]
      clear hn4;generalize w4.alloc (tO u ra rc)=wA at*
      go_region_law (first
       |(go_simp;refine(ajb.out wA.drew HWA.out.drew).mono ?_;rintro e w5 ⟨ca,cc,rfl,hS5,hw5⟩;have oP:=ae hS5;have bV:=ae hw5;have Sm:=ae (hw5.heap yD.out (fun h=>h));have acO:=ae (hw5.heap CX.out (fun h=>h));have Sr:=hw5.heap Sl.out (fun h=>h);have r0:=ag Sm.out 0 (.int .i64 0) rfl;have r1:=ag Sm.out 1 (.slice none 0 0) rfl;have fr:=fun i=>ai Sm.out i;have k0:=ag Sr 0 (.string u.name) rfl;have k1:=ag Sr 1 (.string u.sort) rfl;have k2:=ag Sr 2 (.slice ra u.kids.length rc) rfl;have gZ:=((au.refl (fun j=>j=w.heap.size+1) w5).setCell (p:=⟨w.heap.size+1,0,none⟩) (.inl rfl) (.int .i64 (k:Int))).setCell (p:=⟨w.heap.size+1,1,none⟩) (.inl rfl) (.slice ca P.length cc);have hz2: ¬w.heap.size+2=w.heap.size+1:=(by omega);have m0:=gZ.cell k0 A8.out;have m1:=gZ.cell k1 A8.out;have m2:=gZ.cell k2 A8.out;have hb2:=gZ.heap acO.out hz2;have n0:=ag hb2 0 (.string ⟨#[]⟩) rfl;have n1:=ag hb2 1 (.string ⟨#[]⟩) rfl;have n2:=ag hb2 2 (.slice none 0 0) rfl;have fe:=fun i=>ai hb2 i;clear hS5 hw5 Sr gZ hz2 hb2))
      all_goals
       go_wp2_with fail
       have hb1:((w5.setCell ⟨w.heap.size+1,0,none⟩ (.int .i64 (k:Int))).setCell ⟨w.heap.size+1,1,none⟩ (.slice ca P.length cc)).heap[w.heap.size+1]?=some (.cells #[.int .i64 (k:Int),.slice ca P.length cc] 65 (0,0)):=by simpa using setBlock (setBlock Sm.out 0 (.int .i64 (k:Int))) 1 (.slice ca P.length cc)
       have hu1:au (fun j=>j=w.heap.size+1) w5 ((w5.setCell ⟨w.heap.size+1,0,none⟩ (.int .i64 (k:Int))).setCell ⟨w.heap.size+1,1,none⟩ (.slice ca P.length cc)):=((au.refl (fun j=>j=w.heap.size+1) w5).setCell (p:=⟨w.heap.size+1,0,none⟩) (.inl rfl) _).setCell (p:=⟨w.heap.size+1,1,none⟩) (.inl rfl) _;have MQ:=ae (hu1.heap acO.out (by omega));clear g0 g1 g2 k0 k1 k2 r0 r1 fr m0 m1 m2 n0 n1 n2 fe;generalize (w5.setCell ⟨w.heap.size+1,0,none⟩ (.int .i64 (k:Int))).setCell ⟨w.heap.size+1,1,none⟩ (.slice ca P.length cc)=wB at*;have hr2:=jY MQ.out (.string u.name) (.string u.sort) (.slice ra u.kids.length rc);have hu2:=gz wB (w.heap.size+2) (.string u.name) (.string u.sort) (.slice ra u.kids.length rc);have hr1:=hu2.heap hb1 (by omega);have hu:au (fun j=>j=w.heap.size+1\/j=w.heap.size+2) w5 _:=(hu1.mono (fun _ _ h=> .inl h)).trans (hu2.mono (fun _ _ h=> .inr h));obtain⟨e0,e1⟩:=df hr1;obtain⟨e2,e3,e4⟩:=af hr2;have hsz5:=qh.out;have ajc:=bV.out.size;refine bodyPost_ret (v:= .tuple #[.agg #[.int .i64 (k:Int),.slice ca P.length cc],.agg #[.string u.name,.string u.sort,.slice ra u.kids.length rc],.bool true]) (by simp[results,Tryz.results167,go_sem,e0,e1,e2,e3,e4]) rfl ⟨((ca,cc),(ra,rc)),fun j=>(wA.heap.size<=j/\j<w5.heap.size)\/B j,?_,?_,?_,?_⟩
       .rw [GY.out,jg.out];simp only[A7,Option.map_some,fq,fi,ft,List.append_nil];rfl
       .rw [GY.out,jg.out];refine⟨?_,?_⟩
        .simp only [Option.map_some,fq,List.append_nil];exact(aA.kept oP.out hu (fun j hj e=>by omega)).weaken (fun j hj=> .inl hj)
        .exact ((Qg.out.kept bV.out (fun _ _ h=>h)).kept hu (fun j hj e=>by have h1:=(jM.out j hj).1;omega)).weaken (fun j hj=> .inr hj)
       .rintro j (hj|hj)
        .exact ⟨by omega,ax hj.2 hu.size⟩
        .exact ⟨by have h1:=(jM.out j hj).1;omega,ax (jM.out j hj).2 (Nat.le_trans ajc hu.size)⟩
       .exact (zi.out.trans bV.out).trans' hu (fun j hj e=>by omega)
    .obtain rfl:k=l.length:=by omega
     have z3:decide ((l.length:Int)< (l.length:Int))=false:=dF (by omega);have hvn:V2=none:=by
      rw[<-jX.out,List.drop_length];rfl
     have HV3:Hid (oM l (mk nm so L)=none):=ae (by rw[GY.out,hvn];rfl);clear hvn jX GY;obtain⟨r0,r1⟩:=df HB1.out;obtain⟨d0,d1,d2⟩:=af HB2.out;have fr:=fun i=>ai HB1.out i;have gZ:=((au.refl (fun j=>j=w.heap.size+1) wr).setCell (p:=⟨w.heap.size+1,0,none⟩) (.inl rfl) (.int .i64 0)).setCell (p:=⟨w.heap.size+1,1,none⟩) (.inl rfl) (.slice none 0 0);have hz2: ¬w.heap.size+2=w.heap.size+1:=by omega
     have n0:=gZ.cell d0 hz2;have n1:=gZ.cell d1 hz2;have n2:=gZ.cell d2 hz2;have fe:=fun i=>ai (gZ.heap HB2.out hz2) i;have hb1:((wr.setCell ⟨w.heap.size+1,0,none⟩ (.int .i64 0)).setCell ⟨w.heap.size+1,1,none⟩ (.slice none 0 0)).heap[w.heap.size+1]?=some (.cells #[.int .i64 0,.slice none 0 0] 65 (0,0)):=by simpa using setBlock (setBlock HB1.out 0 (.int .i64 0)) 1 (.slice none 0 0)
     have ajd:=ae hb1;have MQ:=ae (gZ.heap HB2.out hz2);have zo:=ae gZ;clear gZ hz2 hb1
     go_wp2_with fail
     clear r0 r1 d0 d1 d2 fr n0 n1 n2 fe;generalize (wr.setCell ⟨w.heap.size+1,0,none⟩ (.int .i64 0)).setCell ⟨w.heap.size+1,1,none⟩ (.slice none 0 0)=wB at*;have hr2:=jY MQ.out (.string ⟨#[]⟩) (.string ⟨#[]⟩) (.slice none 0 0);have hu2:=gz wB (w.heap.size+2) (.string ⟨#[]⟩) (.string ⟨#[]⟩) (.slice none 0 0);have hr1:=hu2.heap ajd.out (by omega);have hu:au (fun j=>j=w.heap.size+1\/j=w.heap.size+2) wr _:=(zo.out.mono (fun _ _ h=> .inl h)).trans (hu2.mono (fun _ _ h=> .inr h));obtain⟨e0,e1⟩:=df hr1;obtain⟨e2,e3,e4⟩:=af hr2;refine bodyPost_ret (v:= .tuple #[.agg #[.int .i64 0,.slice none 0 0],.agg #[.string ⟨#[]⟩,.string ⟨#[]⟩,.slice none 0 0],.bool false]) (by simp[results,Tryz.results167,go_sem,e0,e1,e2,e3,e4]) rfl ⟨((none,0),(none,0)),fun _=>False,?_,?_,fun _ h=>h.elim,?_⟩
     .rw [HV3.out];rfl
     .rw [HV3.out];exact⟨aA.nil _ _ _,aG.nil _ _ _⟩
     .exact HE.out.trans' hu (fun j hj e=>by omega)
section
open Go.Sort Go.Proofs Go.ChangeMaps
mutual
def iE:Tm->List Nat->List (List Nat)
 | .mk _ s L,P=>if s=ah then P::o9 L 0 P else[]
def o9:List Tm->Nat->List Nat->List (List Nat)
 |[],_,_=>[]
 |x::L,i,P=>iE x (P++[i])++o9 L (i+1) P
end
theorem abu (L:List Tm) (k:Nat) (P:List Nat) (h:k<L.length):o9 (L.drop k) k P=iE (tg L k) (P++[k])++o9 (L.drop (k+1)) (k+1) P:=by
 rw[EG L k h]
 conv=>lhs;unfold o9
mutual
theorem Gi: ∀(t:Tm) (P:List Nat),(iE t P).length<=t.size
 | .mk n s L,P=>by
  have h:=OG L 0 P;unfold iE;rw[size_eq];simp only[Tm.kids];split
  .rw [List.length_cons];omega
  .simp
theorem OG: ∀(L:List Tm) (i:Nat) (P:List Nat),(o9 L i P).length<=sizes L
 |[],_,_=>by simp[o9]
 |x::L,i,P=>by
  have h1:=Gi x (P++[i]);have h2:=OG L (i+1) P;unfold o9;rw[List.length_append];have:sizes (x::L)=x.size+sizes L:=by rw[sizes]
  omega
end
def wF (n0:Nat) (W:World) (v:Value) (l:List (List Nat)):Prop:= ∃us:List Value,us.length=l.length/\W.ownsRow n0 63 1 v l.length us/\∀i,i<l.length->aA (fun j=>n0<=j/\xK W j) W 1 (ug us i) (l.getD i []).length ((l.getD i []).map (fun i:Nat=>Value.int .i64 (i:Int)))
theorem own_base {n0 n1 e size n:Nat} {W:World} {v:Value} {xs:List Value} (h:W.ownsRow n1 e size v n xs) (hn:n0<=n1):W.ownsRow n0 e size v n xs:=by
 refine⟨h.1,?_⟩;rcases h.2 with h2|⟨g,cap,cur,h2,h3,h4⟩
 .exact .inl h2
 .exact .inr ⟨g,cap,cur,h2,Nat.le_trans hn h3,h4⟩
theorem wF.base {n0 n1:Nat} {W:World} {v:Value} {l:List (List Nat)} (h:wF n1 W v l) (hn:n0<=n1):wF n0 W v l:=by
 obtain⟨us,h1,h2,h3⟩:=h;exact⟨us,h1,own_base h2 hn,fun i hi=>(h3 i hi).weaken (fun j hj=>⟨Nat.le_trans hn hj.1,hj.2⟩)⟩
theorem wF.ext {n0:Nat} {W W':World} {v:Value} {l:List (List Nat)} (h:wF n0 W v l) (hE:Ext W W'):wF n0 W' v l:=by
 obtain⟨us,h1,h2,h3⟩:=h;exact⟨us,h1,bI h2 hE (fun _ _ h=>h),fun i hi=>(aA.kept (h3 i hi) hE (fun _ _ h=>h)).weaken (fun j hj=>⟨hj.1,hj.2.ext hE⟩)⟩
theorem wF.nil (n0:Nat) (W:World):wF n0 W qF []:=⟨[],rfl,⟨rfl,.inl ⟨rfl,rfl⟩⟩,fun i h=>by cases h⟩
theorem ae1 {W:World} {S:Nat->Prop} {us:List Value} {l:List (List Nat)} (hl:us.length=l.length) (h: ∀i,i<l.length->aA S W 1 (ug us i) (l.getD i []).length ((l.getD i []).map (fun i:Nat=>Value.int .i64 (i:Int)))): ∀u∈us,u.oneCell'=true:=fun u hu=>by
 obtain⟨i,hi,e⟩:=List.getElem_of_mem hu;have h1:=h i (by omega);have h2:ug us i=u:=by unfold ug;rw[List.getD_eq_getElem?_getD,List.getElem?_eq_getElem hi];exact e
 rw[h2] at h1;obtain⟨a,c,h3⟩:=aA.shape h1;rw[h3];rfl
theorem Q_ {W:World} {b n:Nat} {v:Value} {xs:List Value} (h:W.ownsRow b 63 1 v n xs) {k:Nat} (hk:v.ownBlock=some k): ¬xK W k:=fun⟨cs,fz,h4⟩=>by
 rcases h.2 with⟨e,_⟩|⟨g,cap,cur,e,_,h3,_⟩
 .rw [e] at hk;cases hk
 .rw [e] at hk;injection hk with hk
  rw[<-hk,h3] at h4;injection h4 with h4
  injection h4 with _ h4
  cases h4
theorem wF.app {n0:Nat} {W W':World} {v v':Value} {l l2:List (List Nat)} {us BK:List Value} (h1:us.length=l.length) (h2:W.ownsRow n0 63 1 v l.length us) (h3: ∀i,i<l.length->aA (fun j=>n0<=j/\xK W j) W 1 (ug us i) (l.getD i []).length ((l.getD i []).map (fun i:Nat=>Value.int .i64 (i:Int)))) (g1:BK.length=l2.length) (g3: ∀i,i<l2.length->aA (fun j=>n0<=j/\xK W j) W 1 (ug BK i) (l2.getD i []).length ((l2.getD i []).map (fun i:Nat=>Value.int .i64 (i:Int)))) (hG:Grew n0 63 1 v (l.length+l2.length) (us++BK) W W' v'):wF n0 W' v' (l++l2):=by
 have key: ∀{n:Nat} {u:Value} {xs:List Value},aA (fun j=>n0<=j/\xK W j) W 1 u n xs->aA (fun j=>n0<=j/\xK W' j) W' 1 u n xs:=fun h=>by
  refine(aA.kept h hG.upd (fun j hj e=>Q_ h2 e hj.2)).weaken (fun j hj=>⟨hj.1,?_⟩);obtain⟨cs,fz,h⟩:=hj.2;exact⟨cs,fz,hG.upd.heap h (fun e=>Q_ h2 e hj.2)⟩
 refine⟨us++BK,by rw[List.length_append,List.length_append,h1,g1],by rw[List.length_append];exact hG.own,fun i hi=>?_⟩;by_cases e:i<l.length
 .have e1:(l++l2).getD i []=l.getD i []:=by rw[List.getD_eq_getElem?_getD,List.getD_eq_getElem?_getD,List.getElem?_append_left e]
  have e2:ug (us++BK) i=ug us i:=by unfold ug;rw[List.getD_eq_getElem?_getD,List.getD_eq_getElem?_getD,List.getElem?_append_left (by rw[h1];exact e)]
  rw[e1,e2];exact key (h3 i e)
 .have e1:(l++l2).getD i []=l2.getD (i-l.length) []:=by rw[List.getD_eq_getElem?_getD,List.getD_eq_getElem?_getD,List.getElem?_append_right (by omega)]
  have e2:ug (us++BK) i=ug BK (i-l.length):=by unfold ug;rw[List.getD_eq_getElem?_getD,List.getD_eq_getElem?_getD,List.getElem?_append_right (by rw[h1];omega),h1]
  rw[e1,e2];rw[List.length_append] at hi;exact key (g3 _ (by omega))
theorem ae2:(Tryz.prog.info? 63).map (fun i=>(i.zero,i.size,i.bytes))=some (some (.slice none 0 0),1,24):=by kernel_rfl
def wR (n:Nat) (xs:List Value):PG.dN FA:=⟨fun x=> .slice (some ⟨x.1.2,0,none⟩) n x.2.1.2,fun x W=>x.1.2<W.heap.size/\aA (fun j=>j=x.1.2) W 1 (.slice (some ⟨x.1.2,0,none⟩) n x.2.1.2) n xs,fun x W W' h hE=>⟨ax h.1 hE.size,aA.kept h.2 hE (fun _ _ h=>h)⟩,fun _ _=>False,fun _ _ _ _ h=>h.elim⟩
def EH (base:Nat) (l:List (List Nat)):PG.dN FA:=⟨fun x=> .slice x.1.1 l.length x.1.2,fun x W=>wF base W (.slice x.1.1 l.length x.1.2) l,fun x W W' h hE=>h.ext hE,fun _ _=>False,fun _ _ _ _ h=>h.elim⟩
theorem abv (l:List Nat) (v:Value) (S:Nat->Prop) (w:World) (hR:aA S w 1 v l.length (l.map (fun i:Nat=>Value.int .i64 (i:Int)))) (hl:l.length<=1000000):
  Calls Tryz.prog 210 #[v] w fun e w'=> ∃r,e= .returned r/\aA (fun j=>w.heap.size<=j/\xK w' j) w' 1 r l.length (l.map (fun i:Nat=>Value.int .i64 (i:Int)))/\Ext w w':=by
 have hown: ∀(w':World) (r:Value),w'.ownsRow w.heap.size 3 1 r l.length (l.map (fun i:Nat=>Value.int .i64 (i:Int)))->aA (fun j=>w.heap.size<=j/\xK w' j) w' 1 r l.length (l.map (fun i:Nat=>Value.int .i64 (i:Int))):=fun w' r h=>(aA.fC h).weaken (fun j hj=>⟨(World.ownsRow.lt h j hj).1,abw h hj⟩);obtain⟨a,cap,rfl⟩:=aA.shape hR;by_cases h0:0<l.length
 .obtain ⟨g,off,hga,_,hat⟩:=aA.CG (d:=(0:Nat)) hR h0;subst hga;refine(Tryz.slices_Clone_int g off l.length cap (l.map fun i:Nat=>(i:Int)) w (by simp) (by omega) (fun j hj=>?_)).mono ?_
  .have hj':j<l.length:=by simpa using hj
   have h1:=hat j hj';rw[h1];simp[List.getD_eq_getElem?_getD,List.getElem?_eq_getElem hj']
  .rintro e w' ⟨v',rfl,h1,_,h2⟩;rw[List.take_of_length_le (by simp),List.map_map] at h1;exact⟨v',rfl,hown w' v' h1,xU h2⟩
 .have hl0:l=[]:=List.eq_nil_of_length_eq_zero (by omega);subst hl0;cases a with
  |none=>
   refine(Tryz.slices_Clone_int_nil 0 cap w).mono ?_;rintro e w' ⟨rfl,rfl⟩;exact⟨_,rfl,aA.nil _ _ _,au.refl _ _⟩
  |some a=>
   refine(Tryz.slices_Clone_int_zero a cap w).mono ?_;rintro e w' ⟨v',rfl,h1,_,h2⟩;exact⟨v',rfl,hown w' v' h1,xU h2⟩
theorem abx: ∀(t:Tm) (v pv:Value) (T U:Nat->Prop) (P:List Nat) (w:World),bG T w t v->aA U w 1 pv P.length (P.map (fun i:Nat=>Value.int .i64 (i:Int)))->(∀k,T k->k<w.heap.size)->(∀k,U k->k<w.heap.size)->t.size<=100000->P.length+t.size<=200000->
  Calls Tryz.prog 163 #[v,pv] w fun e w'=> ∃a c,e= .returned (.slice a (iE t P).length c)/\wF w.heap.size w' (.slice a (iE t P).length c) (iE t P)/\Ext w w':=by
 refine Tm.ind (fun nm so L ih=>?_);intro v pv T U P w hT hP hT2 V9 hsz hps;obtain⟨a,cap,rfl,hT⟩:=hT;obtain⟨pa,pc,rfl⟩:=aA.shape hP;dsimp only[tV,Tm.name,Tm.sort,Tm.kids] at hT⊢;obtain⟨V,hV⟩: ∃V,iE (mk nm so L) P=V:=⟨_,rfl⟩
 have hvl:=Gi (mk nm so L) P;rw[hV] at hvl⊢;have cZ:=ae hT;have oD:=ae hP;have HIH:=ae ih;have HST:=ae hT2;have zo:=ae V9;have fB:sizes L+1<=100000:=by rw[size_eq] at hsz;simp only[Tm.kids] at hsz;omega
 have kK:=ae fB;have jW:L.length<=100000:=by have h1:=aX L;omega
 have w_:=ae jW;have jQ:=ae (aA.clip oD.out).2;have ajW:=ae hps;have hpl:P.length<=200000:=by omega
 have vP:Hid (V.length<=100000):=ae (by omega);have dB:=ae ((uR w).alloc (.cells #[.string nm,.string so,.slice a L.length cap] 24));have HB0:=ae (aj w (.cells #[.string nm,.string so,.slice a L.length cap] 24));have hz0:w.heap.size+1<=(w.alloc (.cells #[.string nm,.string so,.slice a L.length cap] 24)).heap.size:=by simp
 have HZ0:=ae hz0;have HVV:=ae hV;have c1:=ag HB0.out 1 (.string so) rfl;have t1:=kF so;clear ih hT hP hT2 V9 hsz fB hz0 hV hps hvl;by_cases hs0:so=ah
 rotate_left
 .rw [dF hs0] at t1;obtain rfl:V=[]:=by rw[<-HVV.out];unfold iE;rw[if_neg hs0]
  go_enter Tryz.func163,Tryz.ntmps163
  go_wp2_with fail
  go_ret;exact⟨none,0,rfl,wF.nil _ _,dB.out⟩
 .rw [dT hs0] at t1;have hvv:V=P::o9 L 0 P:=by rw[<-HVV.out];unfold iE;rw[if_pos hs0]
  have JL:=ae hvv.symm;have PV:=ae (fun W (hW:Ext w W)=>abv P (.slice pa P.length pc) U W (aA.kept oD.out hW (fun _ _ h=>h)) (by omega));clear hs0 hvv HVV
  go_enter Tryz.func163,Tryz.ntmps163
  go_wp2_with fail
  generalize w.alloc (.cells #[.string nm,.string so,.slice a L.length cap] 24)=W0 at*;refine(PV.out _ dB.out).mono ?_;rintro e w2 ⟨r,rfl,hr,hw2⟩;obtain⟨ra,rcc,A_⟩:=aA.shape hr;subst A_;have hX:=hw2.alloc (.cells #[.slice ra P.length rcc] 63);have HE2:=ae (dB.out.trans hX);have yS:=ae (hX.heap HB0.out (fun h=>h));have HZ2:Hid (w.heap.size+1<=(w2.alloc (.cells #[.slice ra P.length rcc] 63)).heap.size):=ae (Nat.le_trans HZ0.out hX.size);have hzz:w.heap.size+1<=w2.heap.size:=Nat.le_trans HZ0.out hw2.size;have NZ:Hid (wF w.heap.size (w2.alloc (.cells #[.slice ra P.length rcc] 63)) (.slice (some ⟨w2.heap.size,0,none⟩) [P].length 1) [P]):=ae ⟨[.slice ra P.length rcc],rfl,by
   have h:=World.ownsRow_lit (base:=w.heap.size) (e:=63) (size:=1) w2 #[.slice ra P.length rcc] 1 (by omega) (by unfold maxLen;omega) (by simp);simpa using h,fun i hi=>by
   obtain rfl:i=0:=by simpa using hi
   refine(aA.kept hr ((uR w2).alloc _) (fun _ _ h=>h)).weaken (fun j hj=>⟨by have:=HZ0.out;omega,hj.2.ext ((uR w2).alloc _)⟩)⟩
  have Yp:Hid (∀j,(Value.slice (some ⟨w2.heap.size,0,none⟩) [P].length 1).ownBlock=some j->w.heap.size+1<=j):=ae (fun j e=>by
   have e':w2.heap.size=j:=by injection e
   omega)
  have pY:Hid ([P]++o9 (L.drop 0) 0 P=V):=ae JL.out;clear hr hw2 hX PV dB HB0 HZ0 c1 t1;have c2:=ag yS.out 2 (.slice a L.length cap) rfl
  go_wp2_with fail
  obtain⟨n2,hn2⟩: ∃n,w2.heap.size=n:=⟨_,rfl⟩
  rw[hn2] at NZ Yp
  try rw[hn2]
  clear c2 hn2 hzz;generalize w2.alloc (.cells #[.slice ra P.length rcc] 63)=W2 at*
  go_loopg [5,17] L.length (fun gk ov iv wr=> ∃(k:Nat) (acc:List (List Nat)) (oa:Option Addr) (oc:Nat),ov= .slice oa acc.length oc/\iv= .int .i64 (k:Int)/\gk=L.length-k/\k<=L.length/\Hid (acc++o9 (L.drop k) k P=V)/\Hid (wF w.heap.size wr (.slice oa acc.length oc) acc)/\Hid (∀j,(Value.slice oa acc.length oc).ownBlock=some j->w.heap.size+1<=j)/\Hid (Ext w wr)/\Hid (wr.heap[w.heap.size]?=some (.cells #[.string nm,.string so,.slice a L.length cap] 24 (0,0)))/\Hid (w.heap.size+1<=wr.heap.size))
  case atStart=>exact⟨0,[P],some ⟨n2,0,none⟩,1,rfl,rfl,rfl,Nat.zero_le _,pY,NZ,Yp,HE2,yS,HZ2⟩
  case round=>
   clear yS HE2 HZ2 JL pY NZ Yp;obtain⟨k,acc,oa,oc,rfl,rfl,rfl,hk,jX,GV,HOL,HE,HB0,bT⟩:=hrel;by_cases hlt:k<L.length
   .obtain ⟨g,off,hga,_,hat⟩:=(cZ.out.ext HE.out).at_ (by omega);subst hga;obtain⟨xa,xc,q0,q1,q2,aQ⟩:=hat k hlt;rw[<-Nat.add_assoc] at q1 q2;obtain⟨z0,z1,z2,z2'⟩:=bJ hlt;have h_:Hid (acc++(iE (tg L k) (P++[k])++o9 (L.drop (k+1)) (k+1) P)=V):=ae (by rw[<-abu L k P hlt];exact jX.out);have CW:=ae aQ;have MO:=ae (bM L k hlt);have jb:Hid ((tg L k).size<=100000/\P.length+1+(tg L k).size<=200000):=ae (by have h1:=kK.out;have h2:=jq L k hlt;have h3:=fA L (k+1);have h4:=ajW.out;rw[size_eq] at h4;simp only[Tm.kids] at h4;omega);obtain⟨x,hx⟩: ∃x,tg L k=x:=⟨_,rfl⟩
    rw[hx] at q0 q1 q2 h_ CW MO jb;have HLEN:Hid (acc.length+(iE x (P++[k])).length<=100000):=ae (by have h:=vP.out;rw[<-h_.out,List.length_append,List.length_append] at h;omega);have hQ:=(uR wr).alloc (tO x xa xc);have lF:=aj wr (tO x xa xc);obtain⟨b0,b1,b2⟩:=af lF;have HEq:=ae (HE.out.trans hQ);have HQ:=ae hQ;have FQ:=ae (hQ.heap HB0.out (fun h=>h));have ae3:=ae (GV.out.ext hQ);have ae4:=ae (Nat.le_trans bT.out hQ.size);clear hat aQ hx hQ lF jX HB0 GV;have GV:=ae3;clear ae3
    go_upto_region 7 with fail
    generalize wr.alloc (tO x xa xc)=wq at*;have aW:=ae (fun W (hW:Ext wq W) (pv':Value) (U':Nat->Prop) (hP:aA U' W 1 pv' (P.length+1) (P.map (fun i:Nat=>Value.int .i64 (i:Int))++[.int .i64 (k:Int)])) (hU': ∀j,U' j->j<W.heap.size)=>HIH.out x MO.out (.agg #[.string x.name,.string x.sort,.slice xa x.kids.length xc]) pv' T U' (P++[k]) W ⟨xa,xc,rfl,(CW.out.ext HQ.out).ext hW⟩ (by rw[List.length_append,List.map_append];exact hP) (fun j hj=>ax (HST.out j hj) (HEq.out.trans hW).size) hU' (jb.out).1 (by rw[List.length_append];exact jb.out.2));have MP:=ae (fun W (hW:Ext wq W)=>aA.kept oD.out (HEq.out.trans hW) (fun _ _ h=>h));have x0:=fun x:XW wq=>x.ext.cell b0 (fun h=>h);have x1:=fun x:XW wq=>x.ext.cell b1 (fun h=>h);have x2:=fun x:XW wq=>x.ext.cell b2 (fun h=>h);clear b0 b1 b2 q0 q1 q2;refine PG.bP (α:=FA) 8 [] 8 [(8,2),(9,2)] [[],[],[],[2],[],[4],[2,3,4,5],[1,2,3,4,5,6],[0,1,2,3,4,5,6,7],[0,1,2,3,4,5,6,7,8]]
     [none,none,none,some (jE (.slice pa P.length P.length)),none,some (lH k),some (wR (P.length+1) (P.map (fun i:Nat=>Value.int .i64 (i:Int))++[.int .i64 (k:Int)])),some (EH wq.heap.size (iE x (P++[k])))]
     [false,false,false,true,false,true,true,true] (by kernel_rfl) (by kernel_rfl) rfl (fun _ _ d _ _ h=>by cases d<;>exact h) ?_
    simp only[List.take_succ_cons,List.take_zero,fF,List.getElem?_cons_zero,List.getElem?_cons_succ]
    iterate 3(refine PG.aS rfl (fun K hK=>?_);go_simp;refine hK _ ?_;clear hK K)
    refine PG.aH _ rfl (by go_simp) (fun W hW hG K hK=>?_) (fun K z3 hK=>?_)
    .go_simp;refine(UO pa P.length pc W jQ.out.1 (by omega) jQ.out.2).mono ?_;rintro e w' ⟨rfl,hE⟩;exact hK default _ hE trivial (fun k e=>e.elim)
    refine hK _ ?_;clear hK K;dsimp only[jE,lH,wR,EH];refine PG.aS rfl (fun K hK=>?_);go_simp;refine hK _ ?_;clear hK K;refine PG.aH _ rfl (by go_simp) (fun W hW hG K hK=>?_) (fun K z5 hK=>?_)
    .go_simp;exact hK ((none,W.heap.size),default) _ ((uR W).alloc _) (ag (aj W _) 0 _ rfl) (fun k e=>e.elim)
    refine hK _ ?_;clear hK K;dsimp only[jE,lH,wR,EH];refine PG.aH _ rfl (by go_simp) (fun W hW hG K hK=>?_) (fun K z6 hK=>?_)
    .have g5:=hG _ (List.mem_append_right _ (List.mem_singleton.2 rfl)) (by show(5:Nat)∈_;decide);obtain⟨iI,hi,hz0,hz1,hz2⟩:=info_parts Za;refine xh W (.tmp 25) (.tmp 27) 63 rfl 3 iI (.int .i64 0) 8 Tryz.underlying63 hi hz0 hz1 hz2 U pa P.length (P.map (fun i:Nat=>Value.int .i64 (i:Int))) rfl (aA.clip (MP.out W hW)).1 z5.1.2 1 (.int .i64 (k:Int)) rfl g5 (by unfold maxLen;omega) (by omega) ?_;intro c' w' hE hLT hS;exact hK ((none,W.heap.size),(none,c'),fun _=>False) w' hE ⟨hLT,hS⟩ (fun k e=>e.elim)
    refine hK _ ?_;clear hK K;dsimp only[jE,lH,wR,EH];refine PG.aH _ rfl (by go_simp) (fun W hW hG K hK=>?_) (fun K z7 hK=>?_)
    .have g6:=hG _ (List.mem_append_right _ (List.mem_singleton.2 rfl)) (by show(6:Nat)∈_;decide);go_simp;refine(aW.out W hW _ _ g6.2 (fun j hj=>by rw[hj];exact g6.1)).mono ?_;rintro e w' ⟨a',c',rfl,hS,hE⟩;exact hK ((a',c'),(none,0),fun _=>False) w' hE (hS.base hW.size) (fun k e=>e.elim)
    refine hK _ ?_;clear hK K;dsimp only[jE,lH,wR,EH];refine PG.gJ (fun w8 hW hG _=>?_);have g7:=hG _ (List.mem_append_right _ (List.mem_singleton.2 rfl));dsimp only[jE,lH,wR,EH] at g7;clear hG x0 x1 x2;have ajX:=GV.out.ext hW;obtain⟨BK,hl2,hown2,TM⟩:=g7;obtain⟨us1,hl1,hown1,aai⟩:=ajX;have aaj: ∀u∈BK,u.oneCell'=true:=ae1 hl2 TM;obtain⟨iS,hi,hz0,hz1,hz2⟩:=info_parts ae2;have hlen1:=HLEN.out;refine dM (fun K hK=>?_);rw[if_pos (by go_simp)];refine mf _ (.tmp 22) (.tmp 29) 200 rfl w.heap.size 63 iS (.slice none 0 0) 1 24 Tryz.underlying200 hi hz0 hz1 hz2 rfl (by decide) _ acc.length us1 rfl hown1 _ _ (iE x (P++[k])).length BK rfl (aA.fC hown2) aaj (by unfold maxLen;omega) (by omega) (Nat.le_trans HEq.out.size hW.size) ?_;intro v7 w9 bF;refine hK _ _ ?_;clear hK K;refine dM (fun K hK=>?_);go_simp;refine hK _ _ ?_;clear hK K;simp only[bW];have ae5:=wF.app hl1 hown1 aai hl2 (fun i hi=>(TM i hi).weaken (fun j hj=>⟨Nat.le_trans HEq.out.size hj.1,hj.2⟩)) bF;obtain⟨oa9,oc9,hv9⟩:=aY bF.own;subst hv9;have hlt1: ∀j,(Value.slice oa acc.length oc).ownBlock=some j->w.heap.size+1<=j:=fun j e=>HOL.out j e;have fD:=ae ((HEq.out.trans hW).trans' bF.upd (fun j hj e=>by have:=hlt1 j e;omega));have tq:=ae ((bF.upd).heap (hW.heap FQ.out (fun h=>h)) (fun e=>by have:=hlt1 _ e;omega));have hwh:=bF.uT;have ae7:Hid (∀j,(Value.slice oa9 (acc.length+(iE x (P++[k])).length) oc9).ownBlock=some j->w.heap.size+1<=j):=ae (fun j e=>by
     rcases hwh with h|h
     .rw [h] at e;exact hlt1 j e
     .rw [h] at e;injection e with e;have:=ae4.out;have:=hW.size;omega)
    have aak:(acc++iE x (P++[k])).length=acc.length+(iE x (P++[k])).length:=List.length_append;have ae8:=ae ae5;have ajY:Hid (w.heap.size+1<=w9.heap.size):=ae (Nat.le_trans ae4.out (Nat.le_trans hW.size bF.upd.size));have HV9:Hid ((acc++iE x (P++[k]))++o9 (L.drop (k+1)) (k+1) P=V):=ae (by rw[List.append_assoc];exact h_.out);rw[<-aak] at ae8 ae7⊢;clear bF hown1 hown2 aai TM aaj ae5 hwh hW hlt1 hi hz0 hz1 hz2 hl1 hl2 hlen1
    go_wp2_with fail
    go_roundg (L.length- (k+1))
    case measure=>omega
    case rel=>exact⟨k+1,acc++iE x (P++[k]),oa9,oc9,by rw[aak],by go_num,rfl,by omega,HV9,ae8,ae7,fD,tq,ajY⟩
   .obtain rfl:k=L.length:=by omega
    have z2:decide ((L.length:Int)< (L.length:Int))=false:=dF (by omega);have hvn:V=acc:=by
     rw[<-jX.out,List.drop_length];unfold o9;simp
    subst hvn;clear jX
    go_wp2_with fail
    go_ret;exact⟨oa,oc,rfl,GV.out,HE.out⟩
theorem aal (t:Tm) (p:List Int) (tv pv:Value) (S T:Nat->Prop) (w:World) (hT:bG S w t tv) (hS: ∀k,S k->k<w.heap.size) (hP:aA T w 1 pv p.length (p.map (Value.int .i64))) (htab:cO w) (hsz:t.size<=100000) (hl:p.length<=1000000):
  Calls Tryz.prog 118 #[tv,pv] w fun e w'=> ∃r B,e= .returned (.tuple #[tV (oz t p).1 r,.int .i64 (oz t p).2])/\aG 24 w' B (oz t p).1.kids r/\(∀j,B j->w.heap.size<=j/\j<w'.heap.size)/\Ext w w':=by
 obtain⟨pa,pc,rfl⟩:=aA.shape hP;have HP:=ae hP;obtain⟨a,cap,rfl,hT⟩:=hT;have HT:=ae hT;have HE2:=ae (((uR w).alloc (tO t a cap)).alloc zO);have HB1:=ae (ak (aj w (tO t a cap)) zO);have HB2:=ae (alloc_at (w.alloc (tO t a cap)) zO (n:=w.heap.size+1) (by simp));have hz2:((w.alloc (tO t a cap)).alloc zO).heap.size=w.heap.size+2:=by simp
 have HZ2:=ae hz2;have lX:=ae (fun W (hW:Ext w W)=>wV t _ W (aJ htab hW) ⟨a,cap,rfl,(hT.ext hW).weaken (fun k hk=>ax (hS k hk) hW.size)⟩ (by omega));have gm:=ae hS;have GG:Hid (wf aB t=false->oz t p=(a_,1)):=ae (fun h=>by unfold oz;rw[if_pos h]);have mQ:Hid (wf aB t=true->eH t p=none->oz t p=(a_,2)):=ae (fun h h2=>by unfold oz;rw[if_neg (by rw[h];simp),h2]);have HF2:Hid (wf aB t=true->∀x,eH t p=some x->oz t p=(x,0)):=ae (fun h x h2=>by unfold oz;rw[if_neg (by rw[h];simp),h2]);obtain⟨F,hF⟩: ∃F,oz t p=F:=⟨_,rfl⟩
 rw[hF] at GG mQ HF2⊢;dsimp only[tV] at lX⊢;obtain⟨WB,UE⟩: ∃b,wf aB t=b:=⟨_,rfl⟩
 rw[UE] at lX GG mQ HF2;clear hP hT hS htab hF UE hz2;obtain⟨k0,k1,k2⟩:=af HB1.out
 go_enter Tryz.func118,Tryz.ntmps118
 go_wp2_with fail
 refine(lX.out _ HE2.out).mono ?_;rintro e w4 ⟨rfl,hw4⟩;have H4:Hid (Ext w w4):=ae (HE2.out.trans hw4);have qJ:=ae (hw4.heap HB1.out (fun h=>h));have dQ:=ae (hw4.heap HB2.out (fun h=>h));have GH:Hid (w.heap.size+2<=w4.heap.size):=ae (by rw[<-HZ2.out];exact hw4.size);clear hw4 k0 k1 k2 lX HB1 HB2 HE2;cases WB
 .have HV:=ae (GG.out (by simp));have f2:=fun i=>ai dQ.out i;obtain⟨d0,d1,d2⟩:=af dQ.out
  go_wp2_with fail
  have hr:=aF dQ.out (.string ⟨#[]⟩) (.string ⟨#[]⟩) (.slice none 0 0);have hu:=aC w4 (w.heap.size+1) (.string ⟨#[]⟩) (.string ⟨#[]⟩) (.slice none 0 0);obtain⟨e0,e1,e2⟩:=af hr;refine bodyPost_ret (v:= .tuple #[.agg #[.string ⟨#[]⟩,.string ⟨#[]⟩,.slice none 0 0],.int .i64 1]) (by simp[results,Tryz.results118,go_sem,e0,e1,e2]) rfl ⟨.slice none 0 0,fun _=>False,by rw[HV.out];rfl,by rw[HV.out];exact aG.nil _ _ _,fun _ h=>h.elim,H4.out.trans' hu (fun j hj e=>by omega)⟩
 have HAT:=ae (ack t p (.slice pa p.length pc) (w.heap.size,0) S T w4 ⟨a,cap,ag qJ.out 0 _ rfl,ag qJ.out 1 _ rfl,ag qJ.out 2 _ rfl,HT.out.ext H4.out⟩ (aA.kept HP.out H4.out (fun _ _ h=>h)) hl)
 go_wp2_with fail
 refine HAT.out.mono ?_;rintro e w5 ⟨hat,rfl⟩;rcases hat with⟨hs,rfl⟩|⟨x,a',hs,rfl,_,xa,xc,x0,x1,x2,hx⟩
 .have HV:=ae (mQ.out (by simp) hs);have f2:=fun i=>ai dQ.out i;obtain⟨d0,d1,d2⟩:=af dQ.out
  go_wp2_with fail
  have hr:=aF dQ.out (.string ⟨#[]⟩) (.string ⟨#[]⟩) (.slice none 0 0);have hu:=aC w4 (w.heap.size+1) (.string ⟨#[]⟩) (.string ⟨#[]⟩) (.slice none 0 0);obtain⟨e0,e1,e2⟩:=af hr;refine bodyPost_ret (v:= .tuple #[.agg #[.string ⟨#[]⟩,.string ⟨#[]⟩,.slice none 0 0],.int .i64 2]) (by simp[results,Tryz.results118,go_sem,e0,e1,e2]) rfl ⟨.slice none 0 0,fun _=>False,by rw[HV.out];rfl,by rw[HV.out];exact aG.nil _ _ _,fun _ h=>h.elim,H4.out.trans' hu (fun j hj e=>by omega)⟩
 .have HV:=ae (HF2.out (by simp) x hs);have hso:=Ey hs;have hxs:x.size<=100000:=by
   have h1:=CJ _ t hso.1;rw[hso.2] at h1;omega
  have HC:=ae (Me x _ S w4 ⟨xa,xc,rfl,hx⟩ (fun k hk=>ax (gm.out k hk) H4.out.size) hxs);dsimp only[tV] at HC;obtain⟨ab,ao⟩:=a';dsimp only at x0 x1 x2;clear hs hso hxs hx GG mQ HF2 HAT
  go_wp2_with fail
  refine HC.out.mono ?_;rintro e w6 ⟨r,B,rfl,CO,MB,hw6⟩;have H6:=ae (H4.out.trans hw6);have zV:=ae (hw6.heap dQ.out (fun h=>h));have HO6:=ae CO;have gW:Hid (∀j,B j->w.heap.size+2<=j/\j<w6.heap.size):=ae (fun j hj=>⟨Nat.le_trans GH.out (MB j hj).1,(MB j hj).2⟩);obtain⟨ra,rc,A_⟩:=aG.shape CO;subst A_;clear CO MB hw6 x0 x1 x2 HC;have f2:=fun i=>ai zV.out i;obtain⟨d0,d1,d2⟩:=af zV.out
  go_wp2_with fail
  have hr:=aF zV.out (.string x.name) (.string x.sort) (.slice ra x.kids.length rc);have hu:=aC w6 (w.heap.size+1) (.string x.name) (.string x.sort) (.slice ra x.kids.length rc);obtain⟨e0,e1,e2⟩:=af hr;refine bodyPost_ret (v:= .tuple #[.agg #[.string x.name,.string x.sort,.slice ra x.kids.length rc],.int .i64 0]) (by simp[results,Tryz.results118,go_sem,e0,e1,e2]) rfl ⟨.slice ra x.kids.length rc,B,by rw[HV.out],?_,fun j hj=>⟨by have:=(gW.out j hj).1;omega,ax (gW.out j hj).2 hu.size⟩,H6.out.trans' hu (fun j hj e=>by omega)⟩;rw[HV.out];exact HO6.out.kept hu (fun j hj e=>by have:=(gW.out j hj).1;omega)
theorem Kz {w:World} {b:Nat} {te:TypeId} {u0 u1 u2 u3 u4 u5 u6 u7 u8 u9 u10 u11:Value} (h:w.heap[b]?=some (.cells #[u0,u1,u2,u3,u4,u5,u6,u7,u8,u9,u10,u11] te (0,0))) (v0 v1 v2 v3 v4 v5 v6 v7 v8 v9 v10 v11:Value):((((((((((((((((((((((((w).setCell ⟨b,0,none⟩ (v0))).setCell ⟨b,1,none⟩ (v1))).setCell ⟨b,2,none⟩ (v2))).setCell ⟨b,3,none⟩ (v3))).setCell ⟨b,4,none⟩ (v4))).setCell ⟨b,5,none⟩ (v5))).setCell ⟨b,6,none⟩ (v6))).setCell ⟨b,7,none⟩ (v7))).setCell ⟨b,8,none⟩ (v8))).setCell ⟨b,9,none⟩ (v9))).setCell ⟨b,10,none⟩ (v10))).setCell ⟨b,11,none⟩ (v11)).heap[b]?=some (.cells #[v0,v1,v2,v3,v4,v5,v6,v7,v8,v9,v10,v11] te (0,0)):=by
 have h0:=setBlock h 0 v0;have h1:=setBlock h0 1 v1;have h2:=setBlock h1 2 v2;have h3:=setBlock h2 3 v3;have h4:=setBlock h3 4 v4;have h5:=setBlock h4 5 v5;have h6:=setBlock h5 6 v6;have h7:=setBlock h6 7 v7;have h8:=setBlock h7 8 v8;have h9:=setBlock h8 9 v9;have h10:=setBlock h9 10 v10;have h11:=setBlock h10 11 v11;simpa using h11
theorem OH (w:World) (b:Nat) (v0 v1 v2 v3 v4 v5 v6 v7 v8 v9 v10 v11:Value):au (fun k=>k=b) w ((((((((((((((((((((((((w).setCell ⟨b,0,none⟩ (v0))).setCell ⟨b,1,none⟩ (v1))).setCell ⟨b,2,none⟩ (v2))).setCell ⟨b,3,none⟩ (v3))).setCell ⟨b,4,none⟩ (v4))).setCell ⟨b,5,none⟩ (v5))).setCell ⟨b,6,none⟩ (v6))).setCell ⟨b,7,none⟩ (v7))).setCell ⟨b,8,none⟩ (v8))).setCell ⟨b,9,none⟩ (v9))).setCell ⟨b,10,none⟩ (v10))).setCell ⟨b,11,none⟩ (v11)):=((((((((((((au.refl (fun k=>k=b) w).setCell (p:=⟨b,0,none⟩) (.inl rfl) _).setCell (p:=⟨b,1,none⟩) (.inl rfl) _).setCell (p:=⟨b,2,none⟩) (.inl rfl) _).setCell (p:=⟨b,3,none⟩) (.inl rfl) _).setCell (p:=⟨b,4,none⟩) (.inl rfl) _).setCell (p:=⟨b,5,none⟩) (.inl rfl) _).setCell (p:=⟨b,6,none⟩) (.inl rfl) _).setCell (p:=⟨b,7,none⟩) (.inl rfl) _).setCell (p:=⟨b,8,none⟩) (.inl rfl) _).setCell (p:=⟨b,9,none⟩) (.inl rfl) _).setCell (p:=⟨b,10,none⟩) (.inl rfl) _).setCell (p:=⟨b,11,none⟩) (.inl rfl) _
theorem V_ {w:World} {b:Nat} {te:TypeId} {u0 u1 u2 u3 u4 u5 u6 u7 u8 u9 u10 u11:Value} (h:w.heap[b]?=some (.cells #[u0,u1,u2,u3,u4,u5,u6,u7,u8,u9,u10,u11] te (0,0))) (v0 v1 v2:Value):((((((w).setCell ⟨b,0,none⟩ (v0))).setCell ⟨b,1,none⟩ (v1))).setCell ⟨b,2,none⟩ (v2)).heap[b]?=some (.cells #[v0,v1,v2,u3,u4,u5,u6,u7,u8,u9,u10,u11] te (0,0)):=by
 have h0:=setBlock h 0 v0;have h1:=setBlock h0 1 v1;have h2:=setBlock h1 2 v2;simpa using h2
theorem Yq (w:World) (b:Nat) (v0 v1 v2:Value):au (fun k=>k=b) w ((((((w).setCell ⟨b,0,none⟩ (v0))).setCell ⟨b,1,none⟩ (v1))).setCell ⟨b,2,none⟩ (v2)):=(((au.refl (fun k=>k=b) w).setCell (p:=⟨b,0,none⟩) (.inl rfl) _).setCell (p:=⟨b,1,none⟩) (.inl rfl) _).setCell (p:=⟨b,2,none⟩) (.inl rfl) _
theorem We {w:World} {b:Nat} {te:TypeId} {u0 u1 u2 u3 u4 u5 u6 u7 u8 u9 u10 u11:Value} (h:w.heap[b]?=some (.cells #[u0,u1,u2,u3,u4,u5,u6,u7,u8,u9,u10,u11] te (0,0))) (v0 v1 v2:Value):((((((w).setCell ⟨b,3,none⟩ (v0))).setCell ⟨b,4,none⟩ (v1))).setCell ⟨b,5,none⟩ (v2)).heap[b]?=some (.cells #[u0,u1,u2,v0,v1,v2,u6,u7,u8,u9,u10,u11] te (0,0)):=by
 have h0:=setBlock h 3 v0;have h1:=setBlock h0 4 v1;have h2:=setBlock h1 5 v2;simpa using h2
theorem Yr (w:World) (b:Nat) (v0 v1 v2:Value):au (fun k=>k=b) w ((((((w).setCell ⟨b,3,none⟩ (v0))).setCell ⟨b,4,none⟩ (v1))).setCell ⟨b,5,none⟩ (v2)):=(((au.refl (fun k=>k=b) w).setCell (p:=⟨b,3,none⟩) (.inl rfl) _).setCell (p:=⟨b,4,none⟩) (.inl rfl) _).setCell (p:=⟨b,5,none⟩) (.inl rfl) _
theorem Wh {w:World} {b:Nat} {te:TypeId} {u0 u1 u2 u3 u4 u5 u6 u7 u8 u9 u10 u11:Value} (h:w.heap[b]?=some (.cells #[u0,u1,u2,u3,u4,u5,u6,u7,u8,u9,u10,u11] te (0,0))) (v0 v1 v2:Value):((((((w).setCell ⟨b,6,none⟩ (v0))).setCell ⟨b,7,none⟩ (v1))).setCell ⟨b,8,none⟩ (v2)).heap[b]?=some (.cells #[u0,u1,u2,u3,u4,u5,v0,v1,v2,u9,u10,u11] te (0,0)):=by
 have h0:=setBlock h 6 v0;have h1:=setBlock h0 7 v1;have h2:=setBlock h1 8 v2;simpa using h2
theorem Yt (w:World) (b:Nat) (v0 v1 v2:Value):au (fun k=>k=b) w ((((((w).setCell ⟨b,6,none⟩ (v0))).setCell ⟨b,7,none⟩ (v1))).setCell ⟨b,8,none⟩ (v2)):=(((au.refl (fun k=>k=b) w).setCell (p:=⟨b,6,none⟩) (.inl rfl) _).setCell (p:=⟨b,7,none⟩) (.inl rfl) _).setCell (p:=⟨b,8,none⟩) (.inl rfl) _
theorem Eh (x y p q u:Tm) (xa ya pa qa:Option Addr) (xc yc pc qc:Nat) (xp:List Int) (pv:Value) (B2:Nat->Prop) (w:World) (htab:cO w) (hx:ay (fun k=>k<w.heap.size) w x.kids (.slice xa x.kids.length xc)) (hy:ay (fun k=>k<w.heap.size) w y.kids (.slice ya y.kids.length yc)) (hp:aG 24 w B2 p.kids (.slice pa p.kids.length pc)) (hB2: ∀k,B2 k->k<w.heap.size) (hq:ay (fun k=>k<w.heap.size) w q.kids (.slice qa q.kids.length qc)) (hpv:pG (fun k=>k<w.heap.size) w pv xp) (hpl:xp.length<=1000) (hsx:x.size<=1000) (hsy:y.size<=1000) (JG:q.size<=1000) (hat:oz x xp=(u,0)) (hU: ∀W,Ext w W->∀(B1 B2:Nat->Prop) (va vb:Value),aG 24 W B1 u.kids va->aG 24 W B2 p.kids vb->(∀k,B1 k->¬B2 k)->(∀k,B1 k->k<W.heap.size)->(∀k,B2 k->k<W.heap.size)->cO W->Calls Tryz.prog 17 #[tV u va,tV p vb] W fun e w'=>e= .returned (.tuple #[.slice none 0 0,.int .i64 12])/\Ext W w'):
  Calls Tryz.prog 164 #[.agg #[.string x.name,.string x.sort,.slice xa x.kids.length xc,.string y.name,.string y.sort,.slice ya y.kids.length yc],.agg #[.string p.name,.string p.sort,.slice pa p.kids.length pc,.string q.name,.string q.sort,.slice qa q.kids.length qc],pv] w fun e w'=>e= .returned (.tuple #[.agg #[.string ⟨#[]⟩,.string ⟨#[]⟩,.slice none 0 0,.string ⟨#[]⟩,.string ⟨#[]⟩,.slice none 0 0,.string ⟨#[]⟩,.string ⟨#[]⟩,.slice none 0 0,.int .i64 0,.int .i64 0,.slice none 0 0],.int .i64 12])/\Ext w w':=by
 have HAT:=ae (fun W (hW:Ext w W)=>aal x xp (tV x (.slice xa x.kids.length xc)) pv (fun k=>k<w.heap.size) (fun k=>k<w.heap.size) W ⟨xa,xc,rfl,hx.ext hW⟩ (fun k hk=>ax hk hW.size) (aA.kept hpv hW (fun _ _ h=>h)) (aJ htab hW) (by omega) (by omega));rw[hat] at HAT;have HPV:=ae hpv;have je:=ae htab;have HP2:=ae hp;have HB2:=ae hB2;have Oi:=ae (And.intro hx (And.intro hy hq));have bT:=ae (And.intro hsx (And.intro hsy JG));have oD:=ae hpl;obtain⟨va,vc,rfl⟩:=hpv.shape;have hE:=(((uR w).alloc (.cells #[.string x.name,.string x.sort,.slice xa x.kids.length xc,.string y.name,.string y.sort,.slice ya y.kids.length yc] 146)).alloc (.cells #[.string p.name,.string p.sort,.slice pa p.kids.length pc,.string q.name,.string q.sort,.slice qa q.kids.length qc] 146)).alloc (.cells #[.string ⟨#[]⟩,.string ⟨#[]⟩,.slice none 0 0,.string ⟨#[]⟩,.string ⟨#[]⟩,.slice none 0 0,.string ⟨#[]⟩,.string ⟨#[]⟩,.slice none 0 0,.int .i64 0,.int .i64 0,.slice none 0 0] 152);have HE:=ae hE;have HB0:=ae (ak (ak (aj w (.cells #[.string x.name,.string x.sort,.slice xa x.kids.length xc,.string y.name,.string y.sort,.slice ya y.kids.length yc] 146)) (.cells #[.string p.name,.string p.sort,.slice pa p.kids.length pc,.string q.name,.string q.sort,.slice qa q.kids.length qc] 146)) (.cells #[.string ⟨#[]⟩,.string ⟨#[]⟩,.slice none 0 0,.string ⟨#[]⟩,.string ⟨#[]⟩,.slice none 0 0,.string ⟨#[]⟩,.string ⟨#[]⟩,.slice none 0 0,.int .i64 0,.int .i64 0,.slice none 0 0] 152));have HB1:=ae (ak (alloc_at (w.alloc (.cells #[.string x.name,.string x.sort,.slice xa x.kids.length xc,.string y.name,.string y.sort,.slice ya y.kids.length yc] 146)) (.cells #[.string p.name,.string p.sort,.slice pa p.kids.length pc,.string q.name,.string q.sort,.slice qa q.kids.length qc] 146) (n:=w.heap.size+1) (by simp)) (.cells #[.string ⟨#[]⟩,.string ⟨#[]⟩,.slice none 0 0,.string ⟨#[]⟩,.string ⟨#[]⟩,.slice none 0 0,.string ⟨#[]⟩,.string ⟨#[]⟩,.slice none 0 0,.int .i64 0,.int .i64 0,.slice none 0 0] 152));have J8:=ae (alloc_at ((w.alloc (.cells #[.string x.name,.string x.sort,.slice xa x.kids.length xc,.string y.name,.string y.sort,.slice ya y.kids.length yc] 146)).alloc (.cells #[.string p.name,.string p.sort,.slice pa p.kids.length pc,.string q.name,.string q.sort,.slice qa q.kids.length qc] 146)) (.cells #[.string ⟨#[]⟩,.string ⟨#[]⟩,.slice none 0 0,.string ⟨#[]⟩,.string ⟨#[]⟩,.slice none 0 0,.string ⟨#[]⟩,.string ⟨#[]⟩,.slice none 0 0,.int .i64 0,.int .i64 0,.slice none 0 0] 152) (n:=w.heap.size+2) (by simp));have hz:w.heap.size+3<=(((w.alloc (.cells #[.string x.name,.string x.sort,.slice xa x.kids.length xc,.string y.name,.string y.sort,.slice ya y.kids.length yc] 146)).alloc (.cells #[.string p.name,.string p.sort,.slice pa p.kids.length pc,.string q.name,.string q.sort,.slice qa q.kids.length qc] 146)).alloc (.cells #[.string ⟨#[]⟩,.string ⟨#[]⟩,.slice none 0 0,.string ⟨#[]⟩,.string ⟨#[]⟩,.slice none 0 0,.string ⟨#[]⟩,.string ⟨#[]⟩,.slice none 0 0,.int .i64 0,.int .i64 0,.slice none 0 0] 152)).heap.size:=by simp
 have HS:=ae hz;obtain⟨x0,x1,x2,x3,x4,x5⟩:=dR HB0.out;dsimp only[tV] at HAT hU⊢;have HU:=ae hU;clear hE hz hx hy hp hB2 hq htab hsx hsy JG hat hpl hpv hU
 go_enter Tryz.func164,Tryz.ntmps164
 go_wp2_with fail
 generalize (((w.alloc (.cells #[.string x.name,.string x.sort,.slice xa x.kids.length xc,.string y.name,.string y.sort,.slice ya y.kids.length yc] 146)).alloc (.cells #[.string p.name,.string p.sort,.slice pa p.kids.length pc,.string q.name,.string q.sort,.slice qa q.kids.length qc] 146)).alloc (.cells #[.string ⟨#[]⟩,.string ⟨#[]⟩,.slice none 0 0,.string ⟨#[]⟩,.string ⟨#[]⟩,.slice none 0 0,.string ⟨#[]⟩,.string ⟨#[]⟩,.slice none 0 0,.int .i64 0,.int .i64 0,.slice none 0 0] 152))=w1 at*;refine(HAT.out _ HE.out).mono ?_;rintro e w3 ⟨r,B1,rfl,xM,hB1,hw3⟩;obtain⟨ua,uc,hr⟩:=aG.shape xM;subst hr;have hX:=hw3.alloc (tO u ua uc);have aT:=ae (HE.out.trans hX);have n_:=ae (hX.heap HB0.out (fun h=>h));have iQ:=ae (hX.heap HB1.out (fun h=>h));have OI:=ae (hX.heap J8.out (fun h=>h));have fM:=ae (aj w3 (tO u ua uc));have Wi:=ae (xM.kept ((uR w3).alloc (tO u ua uc)) (fun _ _ h=>h));have GM:Hid (∀j,B1 j->w.heap.size+3<=j/\j< (w3.alloc (tO u ua uc)).heap.size):=ae (fun j hj=>⟨Nat.le_trans HS.out (hB1 j hj).1,ax (hB1 j hj).2 ((uR w3).alloc (tO u ua uc)).size⟩);have eP:Hid (w.heap.size+3<=w3.heap.size):=ae (Nat.le_trans HS.out hw3.size);clear xM hB1 hw3 hX HAT HE HB0 HB1 J8 HS x0 x1 x2 x3 x4 x5;dsimp only;obtain⟨nb,hnb⟩: ∃n,w3.heap.size=n:=⟨_,rfl⟩
 rw[hnb] at fM eP;obtain⟨x0,x1,x2,x3,x4,x5⟩:=dR iQ.out;obtain⟨m0,m1,m2⟩:=af fM.out
 go_wp2_with fail
 try rw[hnb]
 generalize w3.alloc (tO u ua uc)=w4 at*;clear hnb;have Wj:=HU.out w4 aT.out B1 B2 _ _ Wi.out (HP2.out.kept aT.out (fun _ _ h=>h)) (fun k h1 h2=>by have:=(GM.out k h1).1;have:=HB2.out k h2;omega) (fun k h1=>(GM.out k h1).2) (fun k h2=>ax (HB2.out k h2) aT.out.size) (aJ je.out aT.out);refine Wj.mono ?_;rintro e w5 ⟨rfl,hw5⟩;have di:=ae (aT.out.trans hw5);have Jr:=ae (hw5.heap OI.out (fun h=>h));clear hw5 Wj aT n_ iQ OI fM Wi GM eP x0 x1 x2 x3 x4 x5 m0 m1 m2;have f2:=fun i=>ai Jr.out i;obtain⟨d0,d1,d2,d3,d4,d5,d6,d7,d8,d9,d10,d11⟩:=iW Jr.out
 go_wp2_with fail
 have hr:=Kz Jr.out (.string ⟨#[]⟩) (.string ⟨#[]⟩) (.slice none 0 0) (.string ⟨#[]⟩) (.string ⟨#[]⟩) (.slice none 0 0) (.string ⟨#[]⟩) (.string ⟨#[]⟩) (.slice none 0 0) (.int .i64 0) (.int .i64 0) (.slice none 0 0);have hu:=OH w5 (w.heap.size+2) (.string ⟨#[]⟩) (.string ⟨#[]⟩) (.slice none 0 0) (.string ⟨#[]⟩) (.string ⟨#[]⟩) (.slice none 0 0) (.string ⟨#[]⟩) (.string ⟨#[]⟩) (.slice none 0 0) (.int .i64 0) (.int .i64 0) (.slice none 0 0);obtain⟨e0,e1,e2,e3,e4,e5,e6,e7,e8,e9,e10,e11⟩:=iW hr;refine bodyPost_ret (v:= .tuple #[.agg #[.string ⟨#[]⟩,.string ⟨#[]⟩,.slice none 0 0,.string ⟨#[]⟩,.string ⟨#[]⟩,.slice none 0 0,.string ⟨#[]⟩,.string ⟨#[]⟩,.slice none 0 0,.int .i64 0,.int .i64 0,.slice none 0 0],.int .i64 12]) (by simp[results,Tryz.results164,go_sem,e0,e1,e2,e3,e4,e5,e6,e7,e8,e9,e10,e11]) rfl ?_;have hue:=di.out.trans' hu (fun j hj e=>by omega);exact⟨rfl,hue⟩
def sV (B:List Bd) (n:By):Int:=match B.findIdx? (fun b=>decide (b.1=n)) with
 |some i=>(i:Int)
 |none=> -1
theorem F6 (B:List Bd) (v:Value) (nm:By) (R S:Nat->Prop) (w:World) (h:gQ R S w v B) (hl:B.length<=1000000):Calls Tryz.prog 100 #[v,.string nm] w fun e w'=>e= .returned (.int .i64 (sV B nm))/\w'=w:=by
 have H:=ae h;obtain⟨a,c,rfl⟩:=h.shape;obtain⟨X,hX⟩: ∃X,sV B nm=X:=⟨_,rfl⟩
 rw[hX];have HX:=ae hX;clear h hX
 go_enter Tryz.func100,Tryz.ntmps100
 go_wp2_with fail
 go_loopg [5] B.length (fun gk iv wr=> ∃k:Nat,iv= .int .i64 (k:Int)/\gk=B.length-k/\k<=B.length/\Hid (∀j,j<k->(Go.Hw.bg B j).1≠nm)/\w=wr)
 case atStart=>exact⟨0,rfl,rfl,Nat.zero_le _,ae (fun j hj=>absurd hj (Nat.not_lt_zero _)),rfl⟩
 case round=>
  obtain⟨k,rfl,rfl,hk,HQ,rfl⟩:=hrel;by_cases hlt:k<B.length
  .obtain ⟨g,o,rfl,_,hat⟩:=H.out.at_ (by omega);obtain⟨ka,kc,p0,p1,p2,p3,p4,hT⟩:=hat k hlt;have hbk:Go.Hw.bg B k=B[k]:=by unfold Go.Hw.bg;rw[List.getD_eq_getElem?_getD,List.getElem?_eq_getElem hlt];rfl
   obtain⟨x,hx⟩: ∃x,(Go.Hw.bg B k).1=x:=⟨_,rfl⟩
   rw[hx] at p0;have HXE:=ae hx;have ZG:=ae hbk;obtain⟨z0,z1,z2,z2'⟩:=bJ hlt;have s1:=kQ x nm;clear hat p1 p2 p3 p4 hT hx hbk;by_cases e:x=nm
   .rw [dT e] at s1;have hr:X=(k:Int):=by
     rw[<-HX.out];unfold sV;have h1:B.findIdx? (fun b=>decide (b.1=nm))=some k:=by
      rw[List.findIdx?_eq_some_iff_getElem];refine⟨hlt,?_,fun j hj=>?_⟩
      .rw [<-ZG.out,HXE.out,e];simp
      .have h2:=HQ.out j hj;unfold Go.Hw.bg at h2;rw[List.getD_eq_getElem?_getD,List.getElem?_eq_getElem (by omega)] at h2;simpa using h2
     rw[h1]
    subst hr;clear e
    go_wp2_with fail
    go_ret;exact⟨rfl,rfl⟩
   .rw [dF e] at s1;have zC:Hid (∀j,j<k+1->(Go.Hw.bg B j).1≠nm):=ae (fun j hj=>by
     by_cases hjk:j<k
     .exact HQ.out j hjk
     .obtain rfl:j=k:=by omega
      rw[HXE.out];exact e)
    clear e
    go_wp2_with fail
    go_roundg (B.length- (k+1))
    case measure=>omega
    case rel=>exact⟨k+1,by go_num,rfl,by omega,zC,rfl⟩
  .obtain rfl:k=B.length:=by omega
   have z2:decide ((B.length:Int)< (B.length:Int))=false:=dF (by omega);have hr:X= -1:=by
    rw[<-HX.out];unfold sV;have h1:B.findIdx? (fun b=>decide (b.1=nm))=none:=by
     rw[List.findIdx?_eq_none_iff];intro b hb;obtain⟨j,hj,e⟩:=List.getElem_of_mem hb;have h2:=HQ.out j hj;unfold Go.Hw.bg at h2;rw[List.getD_eq_getElem?_getD,List.getElem?_eq_getElem hj] at h2;rw[<-e];simpa using h2
    rw[h1]
   subst hr
   go_wp2_with fail
   go_ret;exact⟨rfl,rfl⟩
theorem Jc: ∀(t:Tm) (v:Value) (S:Nat->Prop) (w:World),bG S w t v->(∀k,S k->k<w.heap.size)->t.size<=100000->
  Calls Tryz.prog 101 #[v] w fun e w'=> ∃r B,e= .returned (tV t r)/\aG 24 w' B t.kids r/\(∀j,B j->w.heap.size<=j/\j<w'.heap.size)/\Ext w w':=by
 refine Tm.ind (fun n s L ih=>?_);intro v S w hT hS hsz;obtain⟨a,cap,rfl,hT⟩:=hT;dsimp only[tV,Tm.name,Tm.sort,Tm.kids] at hT⊢;have cZ:=ae hT;have HIH:=ae ih;have gm:=ae hS;have fB:sizes L+1<=100000:=by rw[size_eq] at hsz;simp only[Tm.kids] at hsz;omega
 have kK:=ae fB;have jW:L.length<=100000:=by have h1:=aX L;omega
 have hZ:=(((uR w).alloc (.cells #[.string n,.string s,.slice a L.length cap] 24)).alloc zO).alloc (.cells #[.string n,.string s,.slice none 0 0] 24);have HB2:=ae (ak (ak (aj w (.cells #[.string n,.string s,.slice a L.length cap] 24)) zO) (.cells #[.string n,.string s,.slice none 0 0] 24));have HB3:=ae (ak (alloc_at (w.alloc (.cells #[.string n,.string s,.slice a L.length cap] 24)) zO (n:=w.heap.size+1) (by simp)) (.cells #[.string n,.string s,.slice none 0 0] 24));have HB4:=ae (alloc_at ((w.alloc (.cells #[.string n,.string s,.slice a L.length cap] 24)).alloc zO) (.cells #[.string n,.string s,.slice none 0 0] 24) (n:=w.heap.size+2) (by simp));have hz2:w.heap.size+3<=(((w.alloc (.cells #[.string n,.string s,.slice a L.length cap] 24)).alloc zO).alloc (.cells #[.string n,.string s,.slice none 0 0] 24)).heap.size:=by simp
 have HZ:=ae hZ;have HZ2:=ae hz2;clear ih hT hS hsz fB hZ hz2
 go_enter Tryz.func101,Tryz.ntmps101
 go_upto_region 2 with fail
 try rw[show w.heap.size+1+1=w.heap.size+2 from rfl]
 generalize (((w.alloc (.cells #[.string n,.string s,.slice a L.length cap] 24)).alloc zO).alloc (.cells #[.string n,.string s,.slice none 0 0] 24))=w1 at*
 go_wp2_with fail
 have jP:Hid (mP 24 (w.heap.size+3) w1 L (.slice none 0 0) [] (fun _ _=>False) 0):=ae ⟨rfl,⟨rfl,.inl ⟨rfl,rfl⟩⟩,fun i hi=>absurd hi (Nat.not_lt_zero _),fun i j hi=>absurd hi (Nat.not_lt_zero _),fun i i' j hi=>absurd hi (Nat.not_lt_zero _)⟩
 go_loopg [4] L.length (fun gk iv wr=> ∃(k:Nat) (lv:Value) (us:List Value) (Bk:Nat->Nat->Prop),iv= .int .i64 (k:Int)/\gk=L.length-k/\k<=L.length/\Hid (mP 24 (w.heap.size+3) wr L lv us Bk k)/\Hid (wr.heap[w.heap.size]?=some (.cells #[.string n,.string s,.slice a L.length cap] 24 (0,0)))/\Hid (wr.heap[w.heap.size+1]?=some zO)/\Hid (wr.heap[w.heap.size+2]?=some (.cells #[.string n,.string s,lv] 24 (0,0)))/\Hid (Ext w wr)/\Hid (w.heap.size+3<=wr.heap.size))
 case atStart=>exact⟨0,_,_,_,rfl,rfl,Nat.zero_le _,jP,HB2,HB3,HB4,HZ,HZ2⟩
 case round=>
  clear jP HB2 HB3 HB4 HZ HZ2;obtain⟨k,lv,us,Bk,rfl,rfl,hk,HJ,HB2,jf,HB3,HE,bT⟩:=hrel;obtain⟨la,lc,hlv⟩:=aY HJ.out.own;subst hlv;obtain⟨b0,b1,b2⟩:=af HB2.out;by_cases hlt:k<L.length
  .obtain ⟨g,off,hga,_,hat⟩:=(cZ.out.ext HE.out).at_ (by omega);subst hga;obtain⟨xa,xc,q0,q1,q2,aQ⟩:=hat k hlt;rw[<-Nat.add_assoc] at q1 q2;obtain⟨z0,z1,z2,z2'⟩:=bJ hlt;have aW:=ae (fun W (hW:Ext wr W)=>HIH.out (tg L k) (bM L k hlt) _ S W ⟨xa,xc,rfl,aQ.ext hW⟩ (fun j hj=>ax (gm.out j hj) (Nat.le_trans HE.out.size hW.size)) (by have h1:=kK.out;have h2:=eU (bM L k hlt);omega));dsimp only[tV] at aW;obtain⟨z,hz⟩: ∃z,tg L k=z:=⟨_,rfl⟩
   have HZ:=ae hz;rw[hz] at aW q0 q1 q2;have c2:=ag HB3.out 2 (.slice la k lc) rfl;have g_:Hid (¬(Value.slice la k lc).ownBlock=some (w.heap.size+2)):=ae (fun e=>by have h1:=(HJ.out.own.lt _ e).1;omega);have HKB:Hid (k<=1000000):=ae (by omega);have J4:Hid (Ext wr wr):=ae (au.refl _ _);obtain⟨iT,hi,hz0,hz1,hz2⟩:=info_parts rQ;clear hat aQ hz
   go_wp2_with fail
   go_region_law (first
    |(refine dJ _ (.tmp 18) (.tmp 25) 22 rfl (w.heap.size+3) 24 iT (.agg #[.string ⟨#[]⟩,.string ⟨#[]⟩,.slice none 0 0]) 3 56 Tryz.underlying22 hi hz0 hz1 hz2 rfl (by decide) _ _ _ rfl Aa.out _ 1 1 [Value.string z.name,.string z.sort,.slice ya z.kids.length yc] rfl rfl ni.out kM.out iM.out.1 iM.out.2.1 iM.out.2.2 ?_;intro v7 w7 bF;obtain⟨a7,c7,hv7⟩:=aY bF.own;subst hv7;have d_:=bF.upd.heap (ak gX.out (tO z ya yc)) g_.out;have f7:=fun i=>ai d_ i;have c2:=ag d_ 2 (.slice la k lc) rfl;have dZ:=ae d_;have jw:=ae bF;clear bF d_)
    |(go_simp;refine(aW.out wr.drew J4.out.drew).mono ?_;rintro e w6 ⟨r,Bx,rfl,rY,hb6,hw6⟩;obtain⟨ya,yc,iO⟩:=aG.shape rY;subst iO;have mD:Hid (Ext wr w6):=ae (((uR wr).drewN' 1).trans hw6);have uU:=ae rY;have Jb:Hid (∀j,Bx j->wr.heap.size<=j/\j<w6.heap.size):=ae hb6;have gX:=ae (mD.out.heap HB3.out (fun h=>h));have Aa:Hid ((w6.alloc (tO z ya yc)).ownsRow (w.heap.size+3) 24 3 (.slice la k lc) k (bY (L.take k) us)):=ae ((bI HJ.out.own mD.out (fun _ _ h=>h)).alloc _);have ni:Hid (∀(j:Nat) (u:Value),[Value.string z.name,.string z.sort,.slice ya z.kids.length yc][j]?=some u->(w6.alloc (tO z ya yc)).cell? ((⟨w6.heap.size,0,none⟩:Addr).add j)=some u):=ae (yC w6 _ _ _ 24);have kM:Hid (∀u∈[Value.string z.name,.string z.sort,.slice ya z.kids.length yc],u.oneCell'=true):=ae (fun u hu=>by simp at hu;rcases hu with h|h|h<;>(subst h;rfl));have iM:Hid (k+1<=maxLen/\(k+1)*56<=140737488355328/\w.heap.size+3<=(w6.alloc (tO z ya yc)).heap.size):=ae ⟨by unfold maxLen;have:=HKB.out;omega,by have:=HKB.out;omega,by have h1:=mD.out.size;have h2:=bT.out;simp;omega⟩;have c6:=mD.out.cell c2 (fun h=>h);have c7:=((uR w6).alloc (tO z ya yc)).cell c6 (fun h=>h);clear rY hb6 hw6 aW))
   all_goals
    go_wp2_with fail
    have fO:=ae ((au.refl (fun j=>j=w.heap.size+2) w7).setCell (p:=⟨w.heap.size+2,2,none⟩) (.inl rfl) (.slice a7 (k+1) c7));have bQ:Hid (au (fun j=>(Value.slice la k lc).ownBlock=some j\/j=w.heap.size+2) wr (w7.setCell ⟨w.heap.size+2,2,none⟩ (.slice a7 (k+1) c7))):=ae (((((mD.out.alloc (tO z ya yc)).mono (fun _ _ x=>x.elim)).trans (jw.out.upd.mono (fun _ _ e=> .inl e)))).trans (fO.out.mono (fun _ _ e=> .inr e)));have rW:=ae (HJ.out.grow hlt HZ.out (Nat.lt_succ_self (w.heap.size+2)) bT.out J4.out mD.out uU.out Jb.out ((uR w6).alloc (tO z ya yc)) jw.out fO.out);have hne: ∀j,j<w.heap.size+2->¬((Value.slice la k lc).ownBlock=some j\/j=w.heap.size+2):=fun j hj e=>by
     rcases e with e|e
     .have h1:=(HJ.out.own.lt _ e).1;omega
     .omega
    have bU:Hid (Ext w (w7.setCell ⟨w.heap.size+2,2,none⟩ (.slice a7 (k+1) c7))):=ae (HE.out.trans' bQ.out (fun j hj=>hne j (by omega)));have lL:=ae (bQ.out.heap HB2.out (hne _ (by omega)));have NK:=ae (bQ.out.heap jf.out (hne _ (by omega)));have iP:=setBlock dZ.out 2 (.slice a7 (k+1) c7);have kX:Hid ((w7.setCell ⟨w.heap.size+2,2,none⟩ (.slice a7 (k+1) c7)).heap[w.heap.size+2]?=some (.cells #[.string n,.string s,.slice a7 (k+1) c7] 24 (0,0))):=ae (by simpa using iP);have jy:Hid (w.heap.size+3<=(w7.setCell ⟨w.heap.size+2,2,none⟩ (.slice a7 (k+1) c7)).heap.size):=ae (Nat.le_trans bT.out bQ.out.size);clear iP c2 f7 hne
    go_roundg (L.length- (k+1))
    case measure=>omega
    case rel=>exact⟨k+1,_,_,_,by go_num,rfl,by omega,rW,lL,NK,kX,bU,jy⟩
  .obtain rfl:k=L.length:=by omega
   have z2:decide ((L.length:Int)< (L.length:Int))=false:=dF (by omega);have kY:=ae HJ.out.fin;obtain⟨c0,c1,c2⟩:=af HB3.out;have f2:=fun i=>ai jf.out i;obtain⟨d0,d1,d2⟩:=af jf.out
   go_wp2_with fail
   have hr3:=aF jf.out (.string n) (.string s) (.slice la L.length lc);have hu:=aC wr (w.heap.size+1) (.string n) (.string s) (.slice la L.length lc);obtain⟨e0,e1,e2⟩:=af hr3;refine bodyPost_ret (v:= .agg #[.string n,.string s,.slice la L.length lc]) (by simp[results,Tryz.results101,go_sem,e0,e1,e2]) rfl ⟨.slice la L.length lc,_,rfl,kY.out.kept hu (fun j hj e=>by have h1:=hj.1;omega),fun j hj=>⟨by have h1:=hj.1;omega,ax hj.2 hu.size⟩,HE.out.trans' hu (fun j hj e=>by omega)⟩
end
end Go.Proofs.YtlkcjmaiahnodaaGreatDoor
