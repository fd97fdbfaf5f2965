/- The texts N27 N28 N29 N30 N32 N33 N34 N35 N36 N37, one behind the other. -/
import Derived.Test.YtlkcjmaiahnodaaGreatDoorSAM
import Derived.Test.YtlkcjmaiahnodaaGreatDoorSAB
import Derived.Test.YtlkcjmaiahnodaaGreatDoorSAE
import Derived.Test.YtlkcjmaiahnodaaGreatDoorSAD
set_option maxRecDepth 100000
set_option maxHeartbeats 8000000
set_option linter.unusedVariables false
set_option linter.unusedSimpArgs false
namespace Go.Proofs.YtlkcjmaiahnodaaGreatDoor
open Go.RowKit Go.Hw Go Tm
section
open Go.Sort Go.Proofs Go.ChangeMaps
def kT (W:World) (k:Nat):Prop:= ∃cs a,W.heap[k]?=some (.cells cs 24 a)
theorem aU.ty {w:World} {B:Nat->Prop} {L:List Tm} {v:Value} (h:aU 24 w B L v):aG (kT w) w L v:=by
 induction h with
 |mk B L us v Bk hl hown hb hkb hrow hdis hk b=>
  refine .mk L us v hl ((aB.gG hown).weaken (fun k a=>?_)) b;rcases hown.2 with⟨e,_⟩|⟨g,cap,cur,e,_,c,_⟩
  .rw [e] at a;cases a
  .rw [e] at a;injection a with a
   rw[<-a];exact⟨_,_,c⟩
theorem kT.ext {W W':World} {k:Nat} (h:kT W k) (a:Ext W W'):kT W' k:=by
 obtain⟨cs,b,h⟩:=h;exact⟨cs,b,a.heap h id⟩
theorem FI {B:List Bd} {us:List Value} (h:us.length=B.length) (x:Bd) (u:Value):jh (B++[x]) (us++[u])=jh B us++[.string x.1,.string x.2.1,.string x.2.2.name,.string x.2.2.sort,u]:=by
 rw[Jy B [x] us [u] h];rfl
theorem Yp {R S:Nat->Prop} {w:World} {B:List Bd} {us:List Value} (h:us.length=B.length) (b: ∀i,i<B.length->aG S w (Go.Hw.bg B i).2.2.kids (ug us i)): ∀u∈us,u.oneCell'=true:=fun u hu=>by
 obtain⟨i,hi,e⟩:=List.getElem_of_mem hu;have h1:=b i (by omega);have d:ug us i=u:=by unfold ug;rw[gZ hi];exact e
 rw[d] at h1;obtain⟨a,c,g⟩:=h1.shape;rw[g];rfl
theorem NZ {B:List Bd} {n:By} {x:Tm} (h:bK B n=some x): ∃i,i<B.length/\vV B n=(i:Int)/\(Go.Hw.bg B i).2.2=x:=by
 unfold vV;cases hf:B.findIdx? (fun b=>decide (b.1=n)) with
 |none=>
  rw[List.findIdx?_eq_none_iff] at hf;unfold bK at h;have:B.find? (fun b=>decide (b.1=n))=none:=by
   rw[List.find?_eq_none];intro b hb;have:=hf b hb;simpa using this
  rw[this] at h;cases h
 |some i=>
  rw[List.findIdx?_eq_some_iff_getElem] at hf;obtain⟨hi,h1,a⟩:=hf;refine⟨i,hi,rfl,?_⟩;have c:B.find? (fun b=>decide (b.1=n))=some B[i]:=by
   rw[List.find?_eq_some_iff_getElem];exact⟨h1,i,hi,rfl,fun j d=>by simpa using a j d⟩
  unfold bK at h;rw[c] at h;unfold Go.Hw.bg;rw[gZ hi];injection h
theorem N7 {B:List Bd} {n:By} (h:bK B n=none):vV B n= -1:=by
 unfold vV;cases hf:B.findIdx? (fun b=>decide (b.1=n)) with
 |none=>rfl
 |some i=>
  rw[List.findIdx?_eq_some_iff_getElem] at hf;obtain⟨hi,h1,a⟩:=hf;have c:B.find? (fun b=>decide (b.1=n))=some B[i]:=by
   rw[List.find?_eq_some_iff_getElem];exact⟨h1,i,hi,rfl,fun j d=>by simpa using a j d⟩
  unfold bK at h;rw[c] at h;cases h
theorem UI {X:List Vd} {Y:Tm->Prop} {B:List Bd} (h:rQ X Y B):B.length<=X.length:=by
 have h1:(B.map fun b=>(b.1,b.2.1)).Nodup:=by
  rw[List.Nodup,List.pairwise_map];exact h.I4.imp (fun c e=>c (Prod.mk.inj e).1)
 have a:=h1.length_le_of_subset (fun q d=>by
  obtain⟨b,hb,e⟩:=List.mem_map.1 d;rw[<-e];exact h.inX b hb)
 rw[List.length_map] at a;exact a
theorem xE {W W':World} {v:Value} {B:List Bd} (h:jb (fun k=>k<W.heap.size) (fun k=>k<W.heap.size) W v B) (a:Ext W W'):jb (fun k=>k<W'.heap.size) (fun k=>k<W'.heap.size) W' v B:=agG h a
theorem N8 {X:List Vd} (cz:X.length<=100000): ∀(p t:Tm) (v v' vs:Value) (B:List Bd) (w:World),bQ (fun k=>k<w.heap.size) w p v->bQ (fun k=>k<w.heap.size) w t v'->jb (fun k=>k<w.heap.size) (fun k=>k<w.heap.size) w vs B->p.size<=1000000->t.size<=100000->u_ p->(∀f∈dL p,f∈X)->rQ X (fun t=>t.size<=100000) B->
  Calls Tryz.prog 67 #[v,v',vs] w fun e w'=> ∃r,e= .returned (.tuple #[r,.bool (kJ p t B).isSome])/\(∀C,kJ p t B=some C->jb (fun k=>k<w'.heap.size) (fun k=>k<w'.heap.size) w' r C)/\Ext w w':=by
 refine Tm.ind (fun n s L b3=>?_);intro t v v' vs B w a6 I bL bt bu b4 b5 bN;obtain⟨m,r,M⟩:=t;obtain⟨V,hV⟩:=ay (kJ (.mk n s L) (.mk m r M) B);rw[hV];have N:=ae hV;obtain⟨pa,a7,rfl,a6⟩:=a6;obtain⟨ta,tc,rfl,I⟩:=I;dsimp only[tV,Tm.name,Tm.sort,Tm.kids] at a6 I⊢;have cA:=ae a6;have a8:=ae I;have al:=ae bL;have bw:=ae bN;have cp:=ae b3;have b6:=ae b4;have cB:=ae b5;have b7:=ae bu;have bY:B.length<=100000:=Nat.le_trans (UI bN) cz;have O:=ae bY;have cR:L.length<=1000000:=by have h1:=bz L;have A:=bt;rw[size_eq] at A;exact Nat.le_trans h1 (Nat.le_of_succ_le A)
 have b8:sizes L+1<=1000000:=by rw[size_eq] at bt;exact bt
 have b9:sizes M+1<=100000:=by rw[size_eq] at bu;exact bu
 have cb:=ae (And.intro b8 b9);obtain⟨cc,cd,rfl⟩:=bL.shape;clear b3 a6 I bL bt bu b8 b9 hV bN b4 b5 bY;have a:=ae (((uR w).alloc (af n s pa L.length a7)).alloc (af m r ta M.length tc));have aL:=ae (ak (aj w (af n s pa L.length a7)) (af m r ta M.length tc));have aM:=ae (alloc_at (w.alloc (af n s pa L.length a7)) (af m r ta M.length tc) (n:=w.heap.size+1) (by simp));obtain⟨a0,Q,a2⟩:=ah aL.o;obtain⟨b0,S,T⟩:=ah aM.o;have t1:=lV s;have t2:=lV r;go_enter Tryz.func67,Tryz.ntmps67;go_upto_region 1 with fail;generalize (w.alloc (af n s pa L.length a7)).alloc (af m r ta M.length tc)=w1 at*;by_cases aJ:s=ai
 .rw [dT aJ] at t1;have bx:=ae aJ;clear aJ;by_cases G:r=ai;rotate_left
  .rw [dF G] at t2;have q:Hid (V=none):=ae (by rw[<-N.o,bx.o];exact FM (fun h=>G h.1));clear G;go_wp2_with fail;go_ret2;rw[q.o];exact⟨_,rfl,(fun C h=>by cases h),a.o⟩
  rw[dT G] at t2;have cq:=ae G;clear G;have t3:=kR m n;by_cases aq:m=n;rotate_left
  .rw [dF aq] at t3;have q:Hid (V=none):=ae (by rw[<-N.o,bx.o];exact FM (fun h=>aq h.2.1));clear aq;go_wp2_with fail;go_ret2;rw[q.o];exact⟨_,rfl,(fun C h=>by cases h),a.o⟩
  rw[dT aq] at t3;by_cases hlen:M.length=L.length;rotate_left
  .have t4:((M.length:Int) !=(L.length:Int))=true:=ach hlen;have q:Hid (V=none):=ae (by rw[<-N.o,bx.o];exact FM (fun h=>hlen h.2.2));clear aq hlen;go_wp2_with fail;go_ret2;rw[q.o];exact⟨_,rfl,(fun C h=>by cases h),a.o⟩
  have t4:((M.length:Int) !=(L.length:Int))=false:=by simp[hlen]
  have cf:Hid (sG L M B=V):=ae (by rw[<-N.o,bx.o];exact(QP (t:= .mk m r M) ⟨cq.o,aq,hlen⟩).symm);have cC:=ae hlen;have cg:Hid (∀x∈L,∀f∈dL x,f∈X):=ae (fun x hx f hf=>cB.o f (BR (t:= .mk n s L) hx hf));have bZ:=ae (xE al.o a.o);clear aq hlen N;go_wp2_with fail;clear t1 t2 t3 t4 a0 Q a2 b0 S T;go_loopg [2,9] L.length (fun gk sv cD wr=> ∃(k:Nat) (C:List Bd),cD= .int .i64 (k:Int)/\gk=L.length-k/\k<=L.length/\Hid (jb (fun k=>k<wr.heap.size) (fun k=>k<wr.heap.size) wr sv C)/\Hid (rQ X (fun t=>t.size<=100000) C)/\Hid (sG (L.drop k) (M.drop k) C=V)/\Hid (Ext w wr)/\Hid (wr.heap[w.heap.size]?=some (af n s pa L.length a7))/\Hid (wr.heap[w.heap.size+1]?=some (af m r ta M.length tc)));case atStart=>exact⟨0,B,rfl,rfl,Nat.zero_le _,bZ,bw,cf,a,aL,aM⟩
  case round=>
   clear bZ cf a aL aM al bw;obtain⟨k,C,rfl,rfl,hk,bA,b1,bB,a,aL,aM⟩:=hrel;obtain⟨ca,cE,cr⟩:=bA.o.shape;subst cr;obtain⟨a0,Q,a2⟩:=ah aL.o;obtain⟨b0,S,T⟩:=ah aM.o;by_cases P:k<L.length
   .have bO:k<M.length:=by have:=cC.o;omega
    obtain⟨g,off,aT,_,ad⟩:=(cA.o.ext a.o).at_ (by omega);obtain⟨g',cP,cF,_,bX⟩:=(a8.o.ext a.o).at_ (by omega);subst aT;subst cF;obtain⟨cG,cH,aN,az,Z,ch⟩:=ad k P;obtain⟨b,c,cj,bP,bR,ck⟩:=bX k bO;rw[<-Nat.add_assoc] at az Z bP bR;obtain⟨z0,cm,z2,cQ⟩:=bH P;have z3:(k:Int)< (M.length:Int):=by omega
    have bE:(tg M k).size<=100000:=by have h1:=cb.o.2;have A:=gQ (cZ M k bO);omega
    have aO:=ae (fun W (hW:Ext wr W)=>cp.o (tg L k) (cZ L k P) (tg M k) _ _ (.slice ca C.length cE) C W ⟨cG,cH,rfl,(ch.ext hW).weaken (fun j ba=>aP ba (Nat.le_trans a.o.size hW.size))⟩ ⟨b,c,rfl,(ck.ext hW).weaken (fun j ba=>aP ba (Nat.le_trans a.o.size hW.size))⟩ (xE bA.o hW) (by have h1:=cb.o.1;have A:=gQ (cZ L k P);omega) bE (b6.o.kid (cZ L k P)) (cg.o _ (cZ L k P)) b1.o);have aA:=ae (bB.o.symm.trans (aea (B:=C) P bO));have bC:=ae (fun D (h:kJ (tg L k) (tg M k) C=some D)=>(BU (X:=X) (Y:=fun t=>t.size<=100000) (fun t x h hx=>by have:=gQ hx;have bD:=size_eq t;omega) (tg L k) (tg M k) C D h (b6.o.kid (cZ L k P)) (cg.o _ (cZ L k P)) bE b1.o).1);dsimp only[tV] at aO;obtain⟨x,hx⟩:=ay (tg L k);obtain⟨y,hy⟩:=ay (tg M k);rw[hx] at aN az Z aO aA bC;rw[hy] at cj bP bR aO aA bC;obtain⟨U,cn⟩:=ay (kJ x y C);rw[cn] at aO aA bC;have cI:Hid (Ext wr wr):=ae (au.refl _ _);clear hx hy cn bB bA ad bX ch ck bE;go_wp2_with fail;go_region_law (first
     |(go_simp;refine(aO.o wr.drew cI.o.drew).mono ?_;rintro e bb ⟨cS,rfl,b2,ag⟩;have aa:Hid (Ext wr bb):=ae (((uR wr).drewN' 1).trans ag);have aR:=ae b2;clear b2 ag aO))
    all_goals
     have an:=ae (a.o.trans aa.o);have cJ:=ae (aa.o.heap aL.o id);have cK:=ae (aa.o.heap aM.o id);clear cj bP bR aN az Z a0 Q a2 b0 S T;cases U with
     |none=>
      have q:Hid (V=none):=ae aA.o;simp only[Option.isSome_none];clear aA;go_wp2_with fail;go_ret2;rw[q.o];exact⟨_,rfl,(fun C h=>by cases h),an.o⟩
     |some D=>
      have ct:Hid (sG (L.drop (k+1)) (M.drop (k+1)) D=V):=ae aA.o.symm;have cL:=ae (aR.o D rfl);have cu:=ae (bC.o D rfl);simp only[Option.isSome_some];clear aA aR;go_wp2_with fail;go_roundg (L.length- (k+1));case measure=>omega
      case rel=>exact⟨k+1,D,by go_num,rfl,by omega,cL,cu,ct,an,cJ,cK⟩
   .obtain rfl:k=L.length:=by omega
    have z2:decide ((L.length:Int)< (L.length:Int))=false:=dF (by omega);have q:Hid (V=some C):=ae (by rw[<-bB.o,List.drop_length];unfold sG;rfl);clear bB;go_wp2_with fail;go_ret2;rw[q.o];exact⟨_,rfl,(fun D h=>by injection h with h;rw[<-h];exact bA.o),a.o⟩
 .rw [dF aJ] at t1;have bc:=ae aJ;clear aJ;by_cases G:r=ai
  .rw [dT G] at t2;have bd:Hid (¬(r≠ai/\r≠s)):=ae (fun h=>h.1 G);clear G;go_upto_region 4 with fail;clear t1 t2;have aC:=ae (Jb B (.slice cc B.length cd) n _ _ w1 (xE al.o a.o) (by have:=O.o;omega));obtain⟨bh,aD⟩:=ay (vV B n);rw[aD] at aC;have bj:=ae aD;clear aD;cases hx:bK B n with
   |some x=>
    obtain⟨i,hi,aV,ar⟩:=NZ hx;obtain rfl:bh=(i:Int):=by rw[<-bj.o,aV]
    have av:=xE al.o a.o;obtain⟨g,off,aT,_,ad⟩:=av.at_ (by omega);obtain⟨bk,bl,aN,az,Z,bm,bn,aE⟩:=ad i hi;subst aT;rw[ar] at Z bm bn aE;have bG:x.size<=100000:=by rw[<-ar];exact bw.o.val _ (JA hi)
    have q:Hid (V=if x= .mk m r M then some B else none):=ae (by rw[<-N.o];exact CS bc.o bd.o hx);have bo:=ae (fun W (hW:Ext w1 W)=>zo x (.mk m r M) (.agg #[.string x.name,.string x.sort,.slice bk x.kids.length bl]) (.agg #[.string m,.string r,.slice ta M.length tc]) _ _ W ⟨bk,bl,rfl,aE.ext hW⟩ ⟨ta,tc,rfl,(a8.o.ext a.o).ext hW⟩ (by omega));have z0:(0:Int)<=(i:Int):=by omega
    have cm:(i:Int)< (B.length:Int):=by omega
    have z2:decide ((0:Int)<=(i:Int))=true:=dT z0;have bI:Hid (Ext w1 w1):=ae (au.refl _ _);have bJ:=ae av;clear ad aN az aE hx aV ar hi av bG;go_wp2_with fail;refine aC.o.mono ?_;rintro e w2 ⟨rfl,aw⟩;subst aw;go_wp2_with fail;go_region_law (first
     |(go_simp;refine(bo.o w2.drew bI.o.drew).mono ?_;rintro e bb ⟨rfl,ag⟩;have aa:Hid (Ext w2 bb):=ae (((uR w2).drewN' 1).trans ag);clear ag bo))
    all_goals
     have an:=ae (a.o.trans aa.o);have aR:=ae (xE bJ.o aa.o);clear Z bm bn a0 Q a2 b0 S T;go_wp2_with fail;go_ret2;rw[q.o];by_cases e:x= .mk m r M
     .rw [if_pos e,dT e];exact⟨_,rfl,(fun C h=>by injection h with h;rw[<-h];exact aR.o),an.o⟩
     .rw [if_neg e,dF e];exact⟨_,rfl,(fun _ h=>by cases h),an.o⟩
   |none=>
    obtain rfl:bh= -1:=by rw[<-bj.o,N7 hx]
    have q:Hid (V=some (B++[(n,s,.mk m r M)])):=ae (by rw[<-N.o];exact GU bc.o bd.o hx);clear hx;go_wp2_with fail;refine aC.o.mono ?_;rintro e w2 ⟨rfl,aw⟩;subst aw;obtain⟨us,aF,aW,ax⟩:=xE al.o a.o;have aS:=Jz B us (Yp (R:=fun _=>True) aF ax);have F:=ae (And.intro aF (And.intro aW (And.intro ax aS)));have cv:=fun x:XW w2=>x.ext.cell a0 id;have cw:=fun x:XW w2=>x.ext.cell Q id;have cM:=fun x:XW w2=>x.ext.cell b0 id;have cN:=fun x:XW w2=>x.ext.cell S id;have cx:=fun x:XW w2=>x.ext.cell T id;obtain⟨iS,hi,aX,aY,aZ⟩:=info_parts Qz;clear aF aW ax aS a0 Q a2 b0 S T
    go_wp2_with fail;refine dw (α:=Option Addr×Nat) 11 [] 11 [(11,2),(12,2),(13,2)] [[],[],[0,1],[],[3],[],[5],[],[0,1,2,7],[0,1,2,3,4,5,6,7,8],[0,1,2,3,4,5,6,7,8,9],[0,1,2,3,4,5,6,7,8,9,10],[0,1,2,3,4,5,6,7,8,9,10,11],[0,1,2,3,4,5,6,7,8,9,10,11,12]]
     [some ⟨fun x=> .slice x.1 0 0,fun x W=>W.ownsRow w2.heap.size 93 5 (.slice x.1 0 0) 0 [],fun x W W' h l=>bM h l (fun _ _ h=>h)⟩,none,some ⟨fun x=> .slice x.1 B.length x.2,fun x W=>W.ownsRow w2.heap.size 93 5 (.slice x.1 B.length x.2) B.length (jh B us),fun x W W' h l=>bM h l (fun _ _ h=>h)⟩,none,none,none,none,none,some ⟨fun x=> .agg #[.string m,.string r,.slice x.1 M.length x.2],fun x W=>aG (kT W) W M (.slice x.1 M.length x.2),fun x W W' h l=>(h.ext l).weaken (fun k hk=>kT.ext hk l)⟩,none,some ⟨fun x=> .slice x.1 1 x.2,fun x W=> ∃b c,aB (fun _=>True) W 5 (.slice x.1 1 x.2) 1 [.string n,.string s,.string m,.string r,.slice b M.length c]/\aG (kT W) W M (.slice b M.length c),fun x W W' ⟨b,c,h1,A⟩ l=>⟨b,c,aB.kept h1 l (fun _ _ h=>h),(A.ext l).weaken (fun k hk=>kT.ext hk l)⟩⟩]
     [true,false,true,false,false,false,false,false,true,false,true] (by kernel_rfl) (by kernel_rfl) rfl (fun _ _ d _ _ h=>by cases d<;>exact h) ?_
    simp only[List.take_succ_cons,List.take_zero,fA,List.getElem?_cons_zero,List.getElem?_cons_succ];refine aQ _ rfl (by go_simp) (fun W hW z K hK=>?_) (fun K cy hK=>?_)
    .go_simp;exact hK (some ⟨W.heap.size,0,none⟩,0) _ ((uR W).alloc _) (World.ownsRow_lit (base:=w2.heap.size) (e:=93) (size:=5) W #[] 0 hW.size (by unfold maxLen;omega) (by simp))
    refine hK _ ?_;clear hK K;dsimp only;refine bf rfl (fun K hK=>?_);go_simp;refine hK _ ?_;clear hK K;refine aQ _ rfl (by go_simp) (fun W hW z K hK=>?_) (fun K ab hK=>?_)
    .have g0:=z _ (List.mem_singleton.2 rfl) (by show(0:Nat)∈_;decide);refine qG _ (.tmp 39) (.tmp 40) 27 rfl w2.heap.size 93 iS (.agg #[.string ⟨#[]⟩,.string ⟨#[]⟩,.string ⟨#[]⟩,.string ⟨#[]⟩,.slice none 0 0]) 5 88 Tryz.underlying27 hi aX aY aZ rfl (by decide) _ rfl g0 (fun k=>k<w2.heap.size) _ B.length _ rfl (aB.kept F.o.2.1 hW (fun _ _ h=>h)) F.o.2.2.2 (by have:=O.o;unfold maxLen;omega) (by have:=O.o;omega) hW.size ?_;intro v' w' bS a1;obtain⟨bT,c4,rfl⟩:=bF a1;exact hK (bT,c4) _ bS a1
    refine hK _ ?_;clear hK K;dsimp only;iterate 5(refine bf rfl (fun K hK=>?_);go_simp;refine hK _ ?_;clear hK K)
    refine aQ _ rfl (by go_simp) (fun W hW z K hK=>?_) (fun K H hK=>?_)
    .go_simp;refine(Mc (.mk m r M) (.agg #[.string m,.string r,.slice ta M.length tc]) (fun k=>k<w.heap.size) W ⟨ta,tc,rfl,(a8.o.ext a.o).ext hW⟩ (fun k hk=>aP hk (Nat.le_trans a.o.size hW.size)) b7.o).mono ?_;rintro e w' ⟨r',Bx,rfl,I,hb,l⟩;obtain⟨b,c,rfl⟩:=aU.shape I;exact hK (b,c) _ l (aU.ty I)
    refine hK _ ?_;clear hK K;dsimp only;refine bf rfl (fun K hK=>?_);go_simp;refine hK _ ?_;clear hK K;refine aQ _ rfl (by go_simp) (fun W hW z K hK=>?_) (fun K bp hK=>?_)
    .have g8:=z _ (List.mem_append_right _ (List.mem_singleton.2 rfl)) (by show(8:Nat)∈_;decide);go_simp;have hA:=(uR W).alloc (dR n s m r H.1 M.length H.2);exact hK (some ⟨W.heap.size,0,none⟩,1) _ hA ⟨H.1,H.2,aB.weaken (aB.gG (World.ownsRow_lit (base:=w2.heap.size) (e:=93) (size:=5) W #[.string n,.string s,.string m,.string r,.slice H.1 M.length H.2] 1 hW.size (by unfold maxLen;omega) (by simp))) (fun _ _=>trivial),(g8.ext hA).weaken (fun k hk=>kT.ext hk hA)⟩
    refine hK _ ?_;clear hK K;dsimp only;refine jg (fun cO hW z=>?_);have g2:=z _ (List.mem_append_left _ (List.mem_append_left _ (List.mem_append_right _ (List.mem_singleton.2 rfl))));have g10:=z _ (List.mem_append_right _ (List.mem_singleton.2 rfl));dsimp only at g2 g10;obtain⟨b,c,gs,gt⟩:=g10;clear z;refine fD (fun K hK=>?_);rw[if_pos (by go_simp)];refine oz _ (.tmp 41) (.tmp 49) 27 rfl w2.heap.size 93 iS (.agg #[.string ⟨#[]⟩,.string ⟨#[]⟩,.string ⟨#[]⟩,.string ⟨#[]⟩,.slice none 0 0]) 5 88 Tryz.underlying27 hi aX aY aZ rfl (by decide) (.slice ab.1 B.length ab.2) B.length _ rfl g2 (fun _=>True) (.slice bp.1 1 bp.2) 1 _ rfl gs (fun u hu=>by simp at hu;rcases hu with h|h|h|h|h<;>(subst h;rfl)) (by have:=O.o;unfold maxLen;omega) (by have:=O.o;omega) hW.size ?_;intro bq J E;refine hK _ _ ?_;clear hK K;have ao: ∀k,(Value.slice ab.1 B.length ab.2).ownBlock=some k->w2.heap.size<=k:=fun k e=>(g2.lt k e).1;have bU:Hid (Ext w J):=ae ((a.o.trans hW).trans' E.upd (fun j ba e=>by have h1:=ao j e;have A:=a.o.size;omega));have br:w2.heap.size<=J.heap.size:=Nat.le_trans hW.size E.upd.size;have bV:Hid (jb (fun k=>k<J.heap.size) (fun k=>k<J.heap.size) J bq (B++[(n,s,.mk m r M)])):=ae (by
     refine⟨us++[.slice b M.length c],by rw[List.length_append,List.length_append,F.o.1];rfl,?_,fun i hi=>?_⟩
     .rw [FI F.o.1,List.length_append];exact aB.weaken (aB.gG E.own) (fun k hk=>(E.own.lt k hk).2)
     .by_cases e:i<B.length
      .have aH:Go.Hw.bg (B++[(n,s,.mk m r M)]) i=Go.Hw.bg B i:=by unfold Go.Hw.bg;rw[List.getD_eq_getElem?_getD,List.getD_eq_getElem?_getD,List.getElem?_append_left e]
       have aI:ug (us++[.slice b M.length c]) i=ug us i:=by unfold ug;rw[List.getD_eq_getElem?_getD,List.getD_eq_getElem?_getD,List.getElem?_append_left (by rw[F.o.1];exact e)]
       rw[aH,aI];exact(((F.o.2.2.1 i e).ext hW).kept E.upd (fun k hk e=>by have h1:=ao k e;omega)).weaken (fun k hk=>aP hk br)
      .have bs:i=B.length:=by rw[List.length_append] at hi;simp at hi;omega
       have aH:Go.Hw.bg (B++[(n,s,.mk m r M)]) i=(n,s,.mk m r M):=by unfold Go.Hw.bg;rw[List.getD_eq_getElem?_getD,bs,List.getElem?_append_right (Nat.le_refl _),Nat.sub_self];rfl
       have aI:ug (us++[.slice b M.length c]) i= .slice b M.length c:=by unfold ug;rw[List.getD_eq_getElem?_getD,bs,<-F.o.1,List.getElem?_append_right (Nat.le_refl _),Nat.sub_self];rfl
       rw[aH,aI];refine(gt.kept E.upd (fun k hk e=>?_)).weaken (fun k hk=>?_)
       .obtain ⟨cs,bW,h1⟩:=hk;rcases g2.2 with⟨A,_⟩|⟨g,cap,cur,A,_,bD,_⟩
        .rw [A] at e;cases e
        .rw [A] at e;injection e with e
         rw[<-e,bD] at h1;injection h1 with h1
         injection h1 with _ h1
         cases h1
       .obtain ⟨cs,bW,h1⟩:=hk;exact aP (Array.getElem?_eq_some_iff.1 h1).1 E.upd.size)
    clear E g2 gs gt hW ao br;refine fD (fun K hK=>?_);go_simp;refine hK _ _ ?_;clear hK K;refine fD (fun K hK=>?_);go_simp;refine hK _ _ ?_;clear hK K;simp only[dA];go_wp2_with fail;go_ret2;rw[q.o];exact⟨bq,rfl,(fun C h=>by injection h with h;rw[<-h];exact bV.o),bU.o⟩
  .rw [dF G] at t2;have t3:=kR r s;by_cases aK:r=s
   .rw [dT aK] at t3;have bd:Hid (¬(r≠ai/\r≠s)):=ae (fun h=>h.2 aK);clear G aK;go_upto_region 4 with fail;clear t3;clear t1 t2;have aC:=ae (Jb B (.slice cc B.length cd) n _ _ w1 (xE al.o a.o) (by have:=O.o;omega));obtain⟨bh,aD⟩:=ay (vV B n);rw[aD] at aC;have bj:=ae aD;clear aD;cases hx:bK B n with
    |some x=>
     obtain⟨i,hi,aV,ar⟩:=NZ hx;obtain rfl:bh=(i:Int):=by rw[<-bj.o,aV]
     have av:=xE al.o a.o;obtain⟨g,off,aT,_,ad⟩:=av.at_ (by omega);obtain⟨bk,bl,aN,az,Z,bm,bn,aE⟩:=ad i hi;subst aT;rw[ar] at Z bm bn aE;have bG:x.size<=100000:=by rw[<-ar];exact bw.o.val _ (JA hi)
     have q:Hid (V=if x= .mk m r M then some B else none):=ae (by rw[<-N.o];exact CS bc.o bd.o hx);have bo:=ae (fun W (hW:Ext w1 W)=>zo x (.mk m r M) (.agg #[.string x.name,.string x.sort,.slice bk x.kids.length bl]) (.agg #[.string m,.string r,.slice ta M.length tc]) _ _ W ⟨bk,bl,rfl,aE.ext hW⟩ ⟨ta,tc,rfl,(a8.o.ext a.o).ext hW⟩ (by omega));have z0:(0:Int)<=(i:Int):=by omega
     have cm:(i:Int)< (B.length:Int):=by omega
     have z2:decide ((0:Int)<=(i:Int))=true:=dT z0;have bI:Hid (Ext w1 w1):=ae (au.refl _ _);have bJ:=ae av;clear ad aN az aE hx aV ar hi av bG;go_wp2_with fail;refine aC.o.mono ?_;rintro e w2 ⟨rfl,aw⟩;subst aw;go_wp2_with fail;go_region_law (first
      |(go_simp;refine(bo.o w2.drew bI.o.drew).mono ?_;rintro e bb ⟨rfl,ag⟩;have aa:Hid (Ext w2 bb):=ae (((uR w2).drewN' 1).trans ag);clear ag bo))
     all_goals
      have an:=ae (a.o.trans aa.o);have aR:=ae (xE bJ.o aa.o);clear Z bm bn a0 Q a2 b0 S T;go_wp2_with fail;go_ret2;rw[q.o];by_cases e:x= .mk m r M
      .rw [if_pos e,dT e];exact⟨_,rfl,(fun C h=>by injection h with h;rw[<-h];exact aR.o),an.o⟩
      .rw [if_neg e,dF e];exact⟨_,rfl,(fun _ h=>by cases h),an.o⟩
    |none=>
     obtain rfl:bh= -1:=by rw[<-bj.o,N7 hx]
     have q:Hid (V=some (B++[(n,s,.mk m r M)])):=ae (by rw[<-N.o];exact GU bc.o bd.o hx);clear hx;go_wp2_with fail;refine aC.o.mono ?_;rintro e w2 ⟨rfl,aw⟩;subst aw;obtain⟨us,aF,aW,ax⟩:=xE al.o a.o;have aS:=Jz B us (Yp (R:=fun _=>True) aF ax);have F:=ae (And.intro aF (And.intro aW (And.intro ax aS)));have cv:=fun x:XW w2=>x.ext.cell a0 id;have cw:=fun x:XW w2=>x.ext.cell Q id;have cM:=fun x:XW w2=>x.ext.cell b0 id;have cN:=fun x:XW w2=>x.ext.cell S id;have cx:=fun x:XW w2=>x.ext.cell T id;obtain⟨iS,hi,aX,aY,aZ⟩:=info_parts Qz;clear aF aW ax aS a0 Q a2 b0 S T
     go_wp2_with fail;refine dw (α:=Option Addr×Nat) 11 [] 11 [(11,2),(12,2),(13,2)] [[],[],[0,1],[],[3],[],[5],[],[0,1,2,7],[0,1,2,3,4,5,6,7,8],[0,1,2,3,4,5,6,7,8,9],[0,1,2,3,4,5,6,7,8,9,10],[0,1,2,3,4,5,6,7,8,9,10,11],[0,1,2,3,4,5,6,7,8,9,10,11,12]]
      [some ⟨fun x=> .slice x.1 0 0,fun x W=>W.ownsRow w2.heap.size 93 5 (.slice x.1 0 0) 0 [],fun x W W' h l=>bM h l (fun _ _ h=>h)⟩,none,some ⟨fun x=> .slice x.1 B.length x.2,fun x W=>W.ownsRow w2.heap.size 93 5 (.slice x.1 B.length x.2) B.length (jh B us),fun x W W' h l=>bM h l (fun _ _ h=>h)⟩,none,none,none,none,none,some ⟨fun x=> .agg #[.string m,.string r,.slice x.1 M.length x.2],fun x W=>aG (kT W) W M (.slice x.1 M.length x.2),fun x W W' h l=>(h.ext l).weaken (fun k hk=>kT.ext hk l)⟩,none,some ⟨fun x=> .slice x.1 1 x.2,fun x W=> ∃b c,aB (fun _=>True) W 5 (.slice x.1 1 x.2) 1 [.string n,.string s,.string m,.string r,.slice b M.length c]/\aG (kT W) W M (.slice b M.length c),fun x W W' ⟨b,c,h1,A⟩ l=>⟨b,c,aB.kept h1 l (fun _ _ h=>h),(A.ext l).weaken (fun k hk=>kT.ext hk l)⟩⟩]
      [true,false,true,false,false,false,false,false,true,false,true] (by kernel_rfl) (by kernel_rfl) rfl (fun _ _ d _ _ h=>by cases d<;>exact h) ?_
     simp only[List.take_succ_cons,List.take_zero,fA,List.getElem?_cons_zero,List.getElem?_cons_succ];refine aQ _ rfl (by go_simp) (fun W hW z K hK=>?_) (fun K cy hK=>?_)
     .go_simp;exact hK (some ⟨W.heap.size,0,none⟩,0) _ ((uR W).alloc _) (World.ownsRow_lit (base:=w2.heap.size) (e:=93) (size:=5) W #[] 0 hW.size (by unfold maxLen;omega) (by simp))
     refine hK _ ?_;clear hK K;dsimp only;refine bf rfl (fun K hK=>?_);go_simp;refine hK _ ?_;clear hK K;refine aQ _ rfl (by go_simp) (fun W hW z K hK=>?_) (fun K ab hK=>?_)
     .have g0:=z _ (List.mem_singleton.2 rfl) (by show(0:Nat)∈_;decide);refine qG _ (.tmp 39) (.tmp 40) 27 rfl w2.heap.size 93 iS (.agg #[.string ⟨#[]⟩,.string ⟨#[]⟩,.string ⟨#[]⟩,.string ⟨#[]⟩,.slice none 0 0]) 5 88 Tryz.underlying27 hi aX aY aZ rfl (by decide) _ rfl g0 (fun k=>k<w2.heap.size) _ B.length _ rfl (aB.kept F.o.2.1 hW (fun _ _ h=>h)) F.o.2.2.2 (by have:=O.o;unfold maxLen;omega) (by have:=O.o;omega) hW.size ?_;intro v' w' bS a1;obtain⟨bT,c4,rfl⟩:=bF a1;exact hK (bT,c4) _ bS a1
     refine hK _ ?_;clear hK K;dsimp only;iterate 5(refine bf rfl (fun K hK=>?_);go_simp;refine hK _ ?_;clear hK K)
     refine aQ _ rfl (by go_simp) (fun W hW z K hK=>?_) (fun K H hK=>?_)
     .go_simp;refine(Mc (.mk m r M) (.agg #[.string m,.string r,.slice ta M.length tc]) (fun k=>k<w.heap.size) W ⟨ta,tc,rfl,(a8.o.ext a.o).ext hW⟩ (fun k hk=>aP hk (Nat.le_trans a.o.size hW.size)) b7.o).mono ?_;rintro e w' ⟨r',Bx,rfl,I,hb,l⟩;obtain⟨b,c,rfl⟩:=aU.shape I;exact hK (b,c) _ l (aU.ty I)
     refine hK _ ?_;clear hK K;dsimp only;refine bf rfl (fun K hK=>?_);go_simp;refine hK _ ?_;clear hK K;refine aQ _ rfl (by go_simp) (fun W hW z K hK=>?_) (fun K bp hK=>?_)
     .have g8:=z _ (List.mem_append_right _ (List.mem_singleton.2 rfl)) (by show(8:Nat)∈_;decide);go_simp;have hA:=(uR W).alloc (dR n s m r H.1 M.length H.2);exact hK (some ⟨W.heap.size,0,none⟩,1) _ hA ⟨H.1,H.2,aB.weaken (aB.gG (World.ownsRow_lit (base:=w2.heap.size) (e:=93) (size:=5) W #[.string n,.string s,.string m,.string r,.slice H.1 M.length H.2] 1 hW.size (by unfold maxLen;omega) (by simp))) (fun _ _=>trivial),(g8.ext hA).weaken (fun k hk=>kT.ext hk hA)⟩
     refine hK _ ?_;clear hK K;dsimp only;refine jg (fun cO hW z=>?_);have g2:=z _ (List.mem_append_left _ (List.mem_append_left _ (List.mem_append_right _ (List.mem_singleton.2 rfl))));have g10:=z _ (List.mem_append_right _ (List.mem_singleton.2 rfl));dsimp only at g2 g10;obtain⟨b,c,gs,gt⟩:=g10;clear z;refine fD (fun K hK=>?_);rw[if_pos (by go_simp)];refine oz _ (.tmp 41) (.tmp 49) 27 rfl w2.heap.size 93 iS (.agg #[.string ⟨#[]⟩,.string ⟨#[]⟩,.string ⟨#[]⟩,.string ⟨#[]⟩,.slice none 0 0]) 5 88 Tryz.underlying27 hi aX aY aZ rfl (by decide) (.slice ab.1 B.length ab.2) B.length _ rfl g2 (fun _=>True) (.slice bp.1 1 bp.2) 1 _ rfl gs (fun u hu=>by simp at hu;rcases hu with h|h|h|h|h<;>(subst h;rfl)) (by have:=O.o;unfold maxLen;omega) (by have:=O.o;omega) hW.size ?_;intro bq J E;refine hK _ _ ?_;clear hK K;have ao: ∀k,(Value.slice ab.1 B.length ab.2).ownBlock=some k->w2.heap.size<=k:=fun k e=>(g2.lt k e).1;have bU:Hid (Ext w J):=ae ((a.o.trans hW).trans' E.upd (fun j ba e=>by have h1:=ao j e;have A:=a.o.size;omega));have br:w2.heap.size<=J.heap.size:=Nat.le_trans hW.size E.upd.size;have bV:Hid (jb (fun k=>k<J.heap.size) (fun k=>k<J.heap.size) J bq (B++[(n,s,.mk m r M)])):=ae (by
      refine⟨us++[.slice b M.length c],by rw[List.length_append,List.length_append,F.o.1];rfl,?_,fun i hi=>?_⟩
      .rw [FI F.o.1,List.length_append];exact aB.weaken (aB.gG E.own) (fun k hk=>(E.own.lt k hk).2)
      .by_cases e:i<B.length
       .have aH:Go.Hw.bg (B++[(n,s,.mk m r M)]) i=Go.Hw.bg B i:=by unfold Go.Hw.bg;rw[List.getD_eq_getElem?_getD,List.getD_eq_getElem?_getD,List.getElem?_append_left e]
        have aI:ug (us++[.slice b M.length c]) i=ug us i:=by unfold ug;rw[List.getD_eq_getElem?_getD,List.getD_eq_getElem?_getD,List.getElem?_append_left (by rw[F.o.1];exact e)]
        rw[aH,aI];exact(((F.o.2.2.1 i e).ext hW).kept E.upd (fun k hk e=>by have h1:=ao k e;omega)).weaken (fun k hk=>aP hk br)
       .have bs:i=B.length:=by rw[List.length_append] at hi;simp at hi;omega
        have aH:Go.Hw.bg (B++[(n,s,.mk m r M)]) i=(n,s,.mk m r M):=by unfold Go.Hw.bg;rw[List.getD_eq_getElem?_getD,bs,List.getElem?_append_right (Nat.le_refl _),Nat.sub_self];rfl
        have aI:ug (us++[.slice b M.length c]) i= .slice b M.length c:=by unfold ug;rw[List.getD_eq_getElem?_getD,bs,<-F.o.1,List.getElem?_append_right (Nat.le_refl _),Nat.sub_self];rfl
        rw[aH,aI];refine(gt.kept E.upd (fun k hk e=>?_)).weaken (fun k hk=>?_)
        .obtain ⟨cs,bW,h1⟩:=hk;rcases g2.2 with⟨A,_⟩|⟨g,cap,cur,A,_,bD,_⟩
         .rw [A] at e;cases e
         .rw [A] at e;injection e with e
          rw[<-e,bD] at h1;injection h1 with h1
          injection h1 with _ h1
          cases h1
        .obtain ⟨cs,bW,h1⟩:=hk;exact aP (Array.getElem?_eq_some_iff.1 h1).1 E.upd.size)
     clear E g2 gs gt hW ao br;refine fD (fun K hK=>?_);go_simp;refine hK _ _ ?_;clear hK K;refine fD (fun K hK=>?_);go_simp;refine hK _ _ ?_;clear hK K;simp only[dA];go_wp2_with fail;go_ret2;rw[q.o];exact⟨bq,rfl,(fun C h=>by injection h with h;rw[<-h];exact bV.o),bU.o⟩
   .rw [dF aK] at t3;have q:Hid (V=none):=ae (by rw[<-N.o];exact CU bc.o ⟨G,aK⟩);clear G aK;go_wp2_with fail;go_ret2;rw[q.o];exact⟨_,rfl,(fun C h=>by cases h),a.o⟩
def FwP (q:Nat) (w w':World) (j:Int):Prop:=au (fun k=>k=q) w w'/\w'.heap[q]?=some (iE j)
def nM (B:List Bd) (n:By):Nat:=B.findIdx fun b=>!blt b.1 n
theorem vW {B:List Bd} {t:Nat} (h:t<B.length):Go.Hw.bg B t=B[t]:=by unfold Go.Hw.bg;rw[gZ h];rfl
theorem UK (B:List Bd) (n:By):nM B n<=B.length:=List.findIdx_le_length
theorem UL {B:List Bd} {n:By} (h:AscK (Prod.fst:Bd->By) B):(∀t,t<nM B n->blt (Go.Hw.bg B t).1 n=true)/\(∀t,nM B n<=t->t<B.length->blt (Go.Hw.bg B t).1 n=false):=by
 have hle:=UK B n;refine⟨fun t a=>?_,fun t a b=>?_⟩
 .rw [vW (by omega)];have:=List.not_of_lt_findIdx (show t<nM B n from a);simpa using this
 .rw [vW b];have h0:nM B n<B.length:=by omega
  have h1:(!blt B[nM B n].1 n)=true:=List.findIdx_getElem (p:=fun x:Bd=>!blt x.1 n) (w:=h0);have c:blt B[nM B n].1 n=false:=by simpa using h1
  rcases Nat.eq_or_lt_of_le a with e|e
  .have:B[t]=B[nM B n]:=by congr 1;omega
   rw[this];exact c
  .rw [Bool.eq_false_iff];intro d;have:=oV (List.pairwise_iff_getElem.1 h (nM B n) t h0 b e) d;rw[c] at this;cases this
theorem QW {B:List Bd} {n:By} (h:AscK (Prod.fst:Bd->By) B):(nM B n<B.length/\(Go.Hw.bg B (nM B n)).1=n)<->(bK B n).isSome=true:=by
 constructor
 .rintro ⟨h1,c⟩;rw[vW h1] at c;have:=(UM (QX h) (List.getElem_mem h1)).1;rw[c] at this;rw[this];rfl
 .intro hs;obtain⟨T,d⟩:=Option.isSome_iff_exists.1 hs;obtain⟨b,hb,h1,_⟩:=uO d;obtain⟨p,hp,rfl⟩:=List.mem_iff_getElem.1 hb;have c:=UL (n:=n) h;have g:nM B n=p:=by
   rcases Nat.lt_trichotomy (nM B n) p with e|e|e
   .have a:=c.2 _ (Nat.le_refl _) (by omega);rw[vW (by omega)] at a;have:=List.pairwise_iff_getElem.1 h _ p (by omega) hp e;rw[h1] at this;rw[this] at a;cases a
   .exact e
   .have a:=c.1 p e;rw[vW hp,h1,iO] at a;cases a
  rw[g];exact⟨hp,by rw[vW hp];exact h1⟩
theorem N9 {B:List Bd} {n:By} (h:AscK (Prod.fst:Bd->By) B) (hs:(bK B n).isSome=true):nM B n<B.length/\bK B n=some (Go.Hw.bg B (nM B n)).2.2/\vX B n=some (Go.Hw.bg B (nM B n)).2.1:=by
 obtain⟨h1,a⟩:=(QW h).2 hs;have:=UM (QX h) (List.getElem_mem h1);rw[<-vW h1,a] at this;exact⟨h1,this.1,this.2⟩
theorem aap (a b:By):(eU a b<0)<->blt a b=true:=by
 unfold eU;by_cases h:blt a b=true
 .rw [if_pos h];simp[h]
 .rw [if_neg h];split<;>simp[h]
theorem UN (x:Bd) (a:Option Addr) (b:Nat) (nm:By) (w:World):Calls Tryz.prog 95 #[(.agg #[.string x.1,.string x.2.1,.string x.2.2.name,.string x.2.2.sort,.slice a x.2.2.kids.length b]),.string nm] w fun e w'=>e= .returned (.int .i64 (eU x.1 nm))/\Ext w w':=by
 have d:=ae ((uR w).alloc (dR x.1 x.2.1 x.2.2.name x.2.2.sort a x.2.2.kids.length b));have hb:=aj w (dR x.1 x.2.1 x.2.2.name x.2.2.sort a x.2.2.kids.length b);have g:=ag hb 0 (.string x.1) rfl;have hc: ∀W,Calls Tryz.prog 99 #[.string x.1,.string nm] W fun e w'=>e= .returned (.int .i64 (eU x.1 nm))/\w'=W:=fun W=>by rw[<-UO];exact Tryz.strings_Compare x.1 nm W
 have c:=ae hc;obtain⟨r,hr⟩:=ay (eU x.1 nm);rw[hr] at c⊢;clear hb hc hr;go_enter Tryz.func95,Tryz.ntmps95;go_wp2_with fail;refine(c.o _).mono ?_;rintro e h ⟨rfl,rfl⟩;go_wp2_with fail;go_ret;exact⟨rfl,d.o⟩
theorem acH (B:List Bd) (v:Value) (nm:By) (R S:Nat->Prop) (w:World) (h:jb R S w v B) (ha:AscK (Prod.fst:Bd->By) B) (hl:B.length<=1000000):Calls Tryz.prog 94 #[v,.string nm,.func (.func 95) #[] #[]] w fun e w'=>e= .returned (.tuple #[.int .i64 (nM B nm:Nat),.bool (bK B nm).isSome])/\Ext w w':=by
 have H:=ae h;obtain⟨a,c,rfl⟩:=h.shape;obtain⟨X,N⟩:=ay (nM B nm);obtain⟨Y,O⟩:=ay ((bK B nm).isSome);have K:=UL (n:=nm) ha;have E:=QW (n:=nm) ha;have hle:=UK B nm;rw[N] at K E hle;rw[O] at E;rw[N,O];have U:=ae K;have V:=ae E;have ai:=ae hle;have an: ∀args W,(callFunc 95 args).run Tryz.prog W= .ok (.enter 95 args) W:=enters_of Tryz.func95 (by kernel_rfl) rfl;clear h ha N O K E hle;go_enter Tryz.func94,Tryz.ntmps94;go_wp2_with fail;go_loopg [9,10] B.length (fun gk aj ab wr=> ∃b hi:Nat,aj= .int .i64 (b:Int)/\ab= .int .i64 (hi:Int)/\b<=hi/\hi<=B.length/\hi-b<=gk/\Hid (b<=X/\X<=hi)/\Hid (Ext w wr));case atStart=>exact⟨0,B.length,rfl,rfl,Nat.zero_le _,Nat.le_refl _,by omega,ae ⟨Nat.zero_le _,ai.o⟩,ae (au.refl _ _)⟩
 case round=>
  obtain⟨b,hi,rfl,rfl,ao,ad,av,P,q⟩:=hrel;by_cases af:b<hi
  .obtain ⟨m,hm⟩: ∃m:Nat,(b+hi) / 2=m:=⟨_,rfl⟩
   have L:b<=m/\m<hi:=by omega
   obtain⟨g,off,M,_,l⟩:=(H.o.ext q.o).at_ (by omega);subst M;obtain⟨Q,T,t,u,y,z,A,J⟩:=l m (by omega);have z0:(0:Int)<=(m:Int):=by omega
   have Z:(m:Int)< (B.length:Int):=by omega
   have z3:((b:Int)+(hi:Int)) / 2=(m:Int):=by omega
   have z2:decide ((b:Int)< (hi:Int))=true:=dT (by omega);have aq:decide (b<hi)=true:=dT af;have d:=ae (fun W=>UN (Go.Hw.bg B m) Q T nm W);have F:blt (Go.Hw.bg B m).1 nm=true->m<X:=fun e=>by
    rcases Nat.lt_or_ge m X with k|k
    .exact k
    .rw [U.o.2 m k (by omega)] at e;cases e
   have G:blt (Go.Hw.bg B m).1 nm=false->X<=m:=fun e=>by
    rcases Nat.lt_or_ge m X with k|k
    .rw [U.o.1 m k] at e;cases e
    .exact k
   have p:=aap (Go.Hw.bg B m).1 nm;obtain⟨x,hx⟩:=ay (Go.Hw.bg B m);rw[hx] at t u y z A d F G p;obtain⟨r,hr⟩:=ay (eU x.1 nm);rw[hr] at d p;have aw:=ae hm;have C:=ae L;by_cases I:r<0
   .have ag:=ae (F (p.1 I));have z4:decide (r<0)=true:=dT I;clear F G p hr hx l J hm L;go_wp2_with fail;refine(d.o _).mono ?_;rintro e aa ⟨rfl,i⟩;have D:=ae (q.o.trans i);clear i d t u y z A;go_wp2_with fail;go_roundg (hi- (m+1));case measure=>have:=C.o;omega
    case rel=>exact⟨m+1,hi,by go_num,rfl,by have:=C.o;omega,ad,Nat.le_refl _,ae ⟨ag.o,P.o.2⟩,D⟩
   .have ak:=ae (G (by
     cases hb:blt x.1 nm with
     |true=>exact absurd (p.2 hb) I
     |false=>rfl))
    have z4:decide (r<0)=false:=dF I;clear F G p hr hx l J hm L;go_wp2_with fail;refine(d.o _).mono ?_;rintro e aa ⟨rfl,i⟩;have D:=ae (q.o.trans i);clear i d t u y z A;go_wp2_with fail;go_roundg (m-b);case measure=>have:=C.o;omega
    case rel=>exact⟨b,m,rfl,rfl,by have:=C.o;omega,by have:=C.o;omega,Nat.le_refl _,ae ⟨P.o.1,ak.o⟩,D⟩
  .obtain rfl:hi=b:=by omega
   obtain rfl:hi=X:=by have:=P.o;omega
   have z2:decide ((hi:Int)< (hi:Int))=false:=dF (by omega);by_cases j:hi<B.length
   .obtain ⟨g,off,M,_,l⟩:=(H.o.ext q.o).at_ (by omega);subst M;obtain⟨Q,T,t,u,y,z,A,J⟩:=l hi j;have z0:(0:Int)<=(hi:Int):=by omega
    have Z:(hi:Int)< (B.length:Int):=by omega
    have z5:decide ((hi:Int)< (B.length:Int))=true:=dT Z;have ah:decide (hi<B.length)=true:=dT j;have d:=ae (fun W=>UN (Go.Hw.bg B hi) Q T nm W);have hy:decide (eU (Go.Hw.bg B hi).1 nm=0)=Y:=by
     rw[Bool.eq_iff_iff,decide_eq_true_eq,x_,<-V.o];exact⟨fun e=>⟨j,e⟩,fun e=>e.2⟩
    obtain⟨x,hx⟩:=ay (Go.Hw.bg B hi);rw[hx] at t u y z A d hy;obtain⟨r,hr⟩:=ay (eU x.1 nm);rw[hr] at d hy;have ar:(r==0)=Y:=by rw[<-hy];rfl
    have al:=ae hy;clear hr hx l J hy j;go_wp2_with fail;refine(d.o _).mono ?_;rintro e aa ⟨rfl,i⟩;have D:=ae (q.o.trans i);clear i d t u y z A;go_wp2_with fail;go_ret2;exact⟨by first|rfl|(rw[al.o]),D.o⟩
   .have z5:decide ((hi:Int)< (B.length:Int))=false:=dF (by omega);have ah:decide (hi<B.length)=false:=dF j;obtain rfl:Y=false:=by
     rw[Bool.eq_false_iff];intro e;exact j (V.o.2 e).1
    clear j;go_wp2_with fail;go_ret2;exact⟨rfl,q.o⟩
theorem aeb (nm:By->Bool) (B:List Bd) (k:Nat):pK nm B k=(nm (Go.Hw.bg B k).1&&nm (Go.Hw.bg B k).2.1&&(decide (k=0)||blt (Go.Hw.bg B (k-1)).1 (Go.Hw.bg B k).1)&&wf nm (Go.Hw.bg B k).2.2&&(decide ((Go.Hw.bg B k).2.2.sort=ai)||(decide ((Go.Hw.bg B k).2.2.sort=(Go.Hw.bg B k).2.1)&&!decide ((Go.Hw.bg B k).2.2.name=(Go.Hw.bg B k).1)))):=rfl
theorem aec {nm:By->Bool} {B:List Bd} {k:Nat} (hk:k<B.length) (h:pK nm B k=false):sH nm B=false:=by
 cases hv:sH nm B with
 |false=>rfl
 |true=>rw[(UQ hv).2 k hk] at h;cases h
theorem aaq {nm:By->Bool} {B:List Bd} (hl:B.length<=1000) (h: ∀j,j<B.length->pK nm B j=true):sH nm B=true:=by
 unfold sH;rw[Bool.and_eq_true,decide_eq_true_eq,List.all_eq_true];exact⟨hl,fun i hi=>h i (List.mem_range.1 hi)⟩
theorem OX (a b:By):binOp .geq 9 (.string a) (.string b)=pure (.bool !(blt a b)):=by
 rw[<-JH];simp[binOp,Op.stringOp]
theorem aed (B:List Bd) (v:Value) (w:World) (aw:dI w) (al:jb (fun k=>k<w.heap.size) (fun k=>k<w.heap.size) w v B) (hl:B.length<=1000000) (hs: ∀b∈B,(b.2.2.size:Int)<=1000000000000):Calls Tryz.prog 31 #[v] w fun e w'=>e= .returned (.bool (sH aC B))/\Ext w w':=by
 have aQ:=ae al;have an:=ae aw;have aR:=ae hs;obtain⟨a,cap,rfl⟩:=al.shape;obtain⟨V,hV⟩:=ay (sH aC B);have ab:=ae hV.symm;rw[hV];clear al aw hs hV;by_cases hb:1000<B.length
 .have d:Hid (V=false):=ae (by rw[ab.o];unfold sH;rw[dF (by omega)];rfl);have O:(1000:Int)< (B.length:Int):=by omega
  have az:decide ((1000:Int)< (B.length:Int))=true:=dT O;have c:Hid (Ext w w):=ae (au.refl _ _);clear hb;go_enter Tryz.func31,Tryz.ntmps31;go_wp2_with fail;all_goals go_ret
  all_goals (rw[d.o];exact⟨rfl,c.o⟩)
 have O: ¬(1000:Int)< (B.length:Int):=by omega
 have az:decide ((1000:Int)< (B.length:Int))=false:=dF O;go_enter Tryz.func31,Tryz.ntmps31;go_wp2_with fail;clear O az;go_loopg [10] B.length (fun gk aS wr=> ∃k:Nat,aS= .int .i64 (k:Int)/\gk=B.length-k/\k<=B.length/\Hid (∀j,j<k->pK aC B j=true)/\Hid (Ext w wr));case atStart=>exact⟨0,rfl,rfl,Nat.zero_le _,ae (fun j h=>absurd h (Nat.not_lt_zero _)),ae (au.refl _ _)⟩
 case round=>
  obtain⟨k,rfl,rfl,hk,aJ,ao⟩:=hrel;by_cases P:k<B.length
  .obtain ⟨g,off,aN,_,ad⟩:=(aQ.o.ext ao.o).at_ (by omega);subst aN;obtain⟨l,n,R,S,T,U,Y,aq⟩:=ad k P;obtain⟨z0,O,z2,a6⟩:=bH P;have aA:pK aC B k=false->V=false:=fun h=>by rw[ab.o];exact aec P h
   have ax:pK aC B k=true->∀j,j<k+1->pK aC B j=true:=fun h j ar=>by
    rcases Nat.lt_succ_iff_lt_or_eq.1 ar with av|av
    .exact aJ.o j av
    .rw [av];exact h
   have D:=ae aA;have Z:=ae ax;have af:=aeb aC B k;have ah:((Go.Hw.bg B k).2.2.size:Int)<=1000000000000:=aR.o _ (JA P);have aB:0<k->∃y,(Go.Hw.bg B (k-1)).1=y/\wr.cell? ⟨g,off+(k-1)*5,none⟩=some (.string y):=fun h0=>by
    obtain⟨_,_,aU,_⟩:=ad (k-1) (by omega);exact⟨_,rfl,aU⟩
   have aO:=ae aB;obtain⟨x,hx⟩:=ay (Go.Hw.bg B k);rw[hx] at R S T U Y aq af ah;have aa:=(uR wr).alloc (dR x.1 x.2.1 x.2.2.name x.2.2.sort l x.2.2.kids.length n);have aV:=ae aa;have G:=aj wr (dR x.1 x.2.1 x.2.2.name x.2.2.sort l x.2.2.kids.length n);have Q:=ae G;have r:=ae (ao.o.trans aa);have A:=ae (fun W (hW:Ext (wr.alloc (dR x.1 x.2.1 x.2.2.name x.2.2.sort l x.2.2.kids.length n)) W)=>wW x.1 W (aT an.o (r.o.trans hW)));have C:=ae (fun W (hW:Ext (wr.alloc (dR x.1 x.2.1 x.2.2.name x.2.2.sort l x.2.2.kids.length n)) W)=>wW x.2.1 W (aT an.o (r.o.trans hW)));have u:=ae (fun W (hW:Ext (wr.alloc (dR x.1 x.2.1 x.2.2.name x.2.2.sort l x.2.2.kids.length n)) W)=>yT x.2.2 (tV x.2.2 (.slice l x.2.2.kids.length n)) W (aT an.o (r.o.trans hW)) (bQ.weaken ⟨l,n,rfl,((aq.ext aa).ext hW)⟩ (fun j ar=>aP ar (r.o.trans hW).size)) ah);dsimp only[tV] at u;have F:=ae af;clear aq aA ax af ah aB aa ad;go_wp2_with fail;generalize a7:wr.alloc (dR x.1 x.2.1 x.2.2.name x.2.2.sort l x.2.2.kids.length n)=q at*;have R:=ag G 0 (.string x.1) rfl;have S:=ag G 1 (.string x.2.1) rfl;have T:=ag G 2 (.string x.2.2.name) rfl;have U:=ag G 3 (.string x.2.2.sort) rfl;have Y:=ag G 4 (.slice l x.2.2.kids.length n) rfl;have aK:=fun x:XW q=>x.ext.cell R id;have aL:=fun x:XW q=>x.ext.cell S id;have aM:=fun x:XW q=>x.ext.cell T id;have aD:=fun x:XW q=>x.ext.cell U id;have aE:=fun x:XW q=>x.ext.cell Y id;have bd:=uR q;clear R S T U Y G;obtain⟨aW,aF⟩:=ay (aC x.1)
   obtain⟨aX,aG⟩:=ay (aC x.2.1);rw[aF] at A F;rw[aG] at C F;clear aF aG;cases aW
   .have d:=ae (D.o (by rw[F.o];simp));go_wp2_with fail;refine bI q (by assumption) (by kernel_rfl) (by kernel_rfl) ?_;repeat (first|go_big_quiet_skip|(go_big_quiet_want;go_big_quiet_op;first|go_big_quiet_on|(apply Exists.intro;refine⟨fun x=>?_,?_⟩;(first|(go_at_call 79;with_reducible exact XW.call (A.o x.val x.ext))|(go_at_call 79;with_reducible exact XW.call (C.o x.val x.ext))|(go_at_call 78;exact XW.call (u.o x.val x.ext)));go_big_quiet_on)))
    refine wpQuiet_nil ?_;rintro K ⟨⟨_,p⟩,rfl⟩;try dsimp only
    have c:=ae (r.o.trans p);go_wp2_with fail;all_goals go_ret
    all_goals (rw[d.o];exact⟨rfl,c.o⟩)
   cases aX
   .have d:=ae (D.o (by rw[F.o];simp));go_wp2_with fail;refine bI q (by assumption) (by kernel_rfl) (by kernel_rfl) ?_;repeat (first|go_big_quiet_skip|(go_big_quiet_want;go_big_quiet_op;first|go_big_quiet_on|(apply Exists.intro;refine⟨fun x=>?_,?_⟩;(first|(go_at_call 79;with_reducible exact XW.call (A.o x.val x.ext))|(go_at_call 79;with_reducible exact XW.call (C.o x.val x.ext))|(go_at_call 78;exact XW.call (u.o x.val x.ext)));go_big_quiet_on)))
    refine wpQuiet_nil ?_;rintro K ⟨⟨_,p⟩,rfl⟩;try dsimp only
    have c:=ae (r.o.trans p);go_wp2_with fail;all_goals go_ret
    all_goals (rw[d.o];exact⟨rfl,c.o⟩)
   by_cases h0:k=0
   .subst h0;have i:Hid (pK aC B 0=(true&&true&&true&&wf aC x.2.2&&(decide (x.2.2.sort=ai)||(decide (x.2.2.sort=x.2.1)&&!decide (x.2.2.name=x.1))))):=ae (by rw[F.o];simp);clear F;obtain⟨f,hf⟩:=ay (wf aC x.2.2);rw[hf] at u i;clear hf;cases f
    .have d:=ae (D.o (by rw[i.o];simp));go_wp2_with fail;refine bI q (by assumption) (by kernel_rfl) (by kernel_rfl) ?_;repeat (first|go_big_quiet_skip|(go_big_quiet_want;go_big_quiet_op;first|go_big_quiet_on|(apply Exists.intro;refine⟨fun x=>?_,?_⟩;(first|(go_at_call 79;with_reducible exact XW.call (A.o x.val x.ext))|(go_at_call 79;with_reducible exact XW.call (C.o x.val x.ext))|(go_at_call 78;exact XW.call (u.o x.val x.ext)));go_big_quiet_on)))
     refine wpQuiet_nil ?_;rintro K ⟨⟨_,p⟩,rfl⟩;try dsimp only
     have c:=ae (r.o.trans p);go_wp2_with fail;all_goals go_ret
     all_goals (rw[d.o];exact⟨rfl,c.o⟩)
    go_wp2_with fail;refine bI q (by assumption) (by kernel_rfl) (by kernel_rfl) ?_;repeat (first|go_big_quiet_skip|(go_big_quiet_want;go_big_quiet_op;first|go_big_quiet_on|(apply Exists.intro;refine⟨fun x=>?_,?_⟩;(first|(go_at_call 79;with_reducible exact XW.call (A.o x.val x.ext))|(go_at_call 79;with_reducible exact XW.call (C.o x.val x.ext))|(go_at_call 78;exact XW.call (u.o x.val x.ext)));go_big_quiet_on)))
    refine wpQuiet_nil ?_;rintro K ⟨⟨_,p⟩,rfl⟩;try dsimp only
    have c:=ae (r.o.trans p);have t:=ae (p.heap Q.o id);clear u A C Q r;clear aK aL aM aD aE;have u0:=ag t.o 0 (.string x.1) rfl;have u1:=ag t.o 1 (.string x.2.1) rfl;have u2:=ag t.o 2 (.string x.2.2.name) rfl;have u3:=ag t.o 3 (.string x.2.2.sort) rfl;have u4:=ag t.o 4 (.slice l x.2.2.kids.length n) rfl;have H:=ae (fun W=>nG x.2.2.name x.2.2.sort l x.2.2.kids.length n W);have s1:=kR x.2.2.sort x.2.1;have s2:=kR x.2.2.name x.1;obtain⟨d0,L⟩:=ay (decide (x.2.2.sort=ai));obtain⟨d1,M⟩:=ay (decide (x.2.2.sort=x.2.1));obtain⟨d2,N⟩:=ay (decide (x.2.2.name=x.1));rw[L] at H i;rw[M] at s1 i;rw[N] at s2 i;clear L M N;go_wp2_with fail;refine(H.o _).mono ?_;rintro e aY ⟨rfl,I⟩;have E:=ae (c.o.trans I);have z:=ae (I.heap t.o id);clear I H u0 u1 u2 u3 u4;have u0:=ag z.o 0 (.string x.1) rfl;have u1:=ag z.o 1 (.string x.2.1) rfl;have u2:=ag z.o 2 (.string x.2.2.name) rfl;have u3:=ag z.o 3 (.string x.2.2.sort) rfl;have u4:=ag z.o 4 (.slice l x.2.2.kids.length n) rfl;cases d0
    rotate_left
    .have J:=ae (Z.o (by rw[i.o];simp));go_wp2_with fail;go_roundg (B.length- (0+1));case measure=>omega
     case rel=>exact⟨0+1,by go_num,rfl,by omega,J,E⟩
    cases d1
    .have d:=ae (D.o (by rw[i.o];simp));have c:=E;go_wp2_with fail;all_goals go_ret
     all_goals (rw[d.o];exact⟨rfl,c.o⟩)
    cases d2
    .have J:=ae (Z.o (by rw[i.o];simp));go_wp2_with fail;go_roundg (B.length- (0+1));case measure=>omega
     case rel=>exact⟨0+1,by go_num,rfl,by omega,J,E⟩
    have d:=ae (D.o (by rw[i.o];simp));have c:=E;go_wp2_with fail;all_goals go_ret
    all_goals (rw[d.o];exact⟨rfl,c.o⟩)
   .have aZ:(0:Int)< (k:Int):=by omega
    have a8:decide ((0:Int)< (k:Int))=true:=dT aZ;have ba:(0:Int)<=(k:Int)-1:=by omega
    have bb:(k:Int)-1< (B.length:Int):=by omega
    obtain⟨m,rfl⟩: ∃m,k=m+1:=⟨k-1,by omega⟩
    obtain⟨y,hy,ak⟩:=aO.o (by omega);rw[Nat.add_sub_cancel] at ak hy;have bc:((m+1:Nat):Int)-1=(m:Int):=by omega
    have a1:=fun X:XW q=>X.ext.cell (aV.o.cell ak id) id;have aH:=OX y x.1;have i:Hid (pK aC B (m+1)=(true&&true&&blt y x.1&&wf aC x.2.2&&(decide (x.2.2.sort=ai)||(decide (x.2.2.sort=x.2.1)&&!decide (x.2.2.name=x.1))))):=ae (by rw[F.o,<-hy];simp);clear F;obtain⟨g1,aI⟩:=ay (blt y x.1)
    rw[aI] at aH i;clear aI hy ak h0;cases g1
    .have d:=ae (D.o (by rw[i.o];simp));go_wp2_with fail;refine bI q (by assumption) (by kernel_rfl) (by kernel_rfl) ?_;repeat (first|go_big_quiet_skip|(go_big_quiet_want;go_big_quiet_op;first|go_big_quiet_on|(apply Exists.intro;refine⟨fun x=>?_,?_⟩;(first|(go_at_call 79;with_reducible exact XW.call (A.o x.val x.ext))|(go_at_call 79;with_reducible exact XW.call (C.o x.val x.ext))|(go_at_call 78;exact XW.call (u.o x.val x.ext)));go_big_quiet_on)))
     refine wpQuiet_nil ?_;rintro K ⟨⟨_,p⟩,rfl⟩;try dsimp only
     have c:=ae (r.o.trans p);go_wp2_with fail;all_goals go_ret
     all_goals (rw[d.o];exact⟨rfl,c.o⟩)
    obtain⟨f,hf⟩:=ay (wf aC x.2.2);rw[hf] at u i;clear hf;cases f
    .have d:=ae (D.o (by rw[i.o];simp));go_wp2_with fail;refine bI q (by assumption) (by kernel_rfl) (by kernel_rfl) ?_;repeat (first|go_big_quiet_skip|(go_big_quiet_want;go_big_quiet_op;first|go_big_quiet_on|(apply Exists.intro;refine⟨fun x=>?_,?_⟩;(first|(go_at_call 79;with_reducible exact XW.call (A.o x.val x.ext))|(go_at_call 79;with_reducible exact XW.call (C.o x.val x.ext))|(go_at_call 78;exact XW.call (u.o x.val x.ext)));go_big_quiet_on)))
     refine wpQuiet_nil ?_;rintro K ⟨⟨_,p⟩,rfl⟩;try dsimp only
     have c:=ae (r.o.trans p);go_wp2_with fail;all_goals go_ret
     all_goals (rw[d.o];exact⟨rfl,c.o⟩)
    go_wp2_with fail;refine bI q (by assumption) (by kernel_rfl) (by kernel_rfl) ?_;repeat (first|go_big_quiet_skip|(go_big_quiet_want;go_big_quiet_op;first|go_big_quiet_on|(apply Exists.intro;refine⟨fun x=>?_,?_⟩;(first|(go_at_call 79;with_reducible exact XW.call (A.o x.val x.ext))|(go_at_call 79;with_reducible exact XW.call (C.o x.val x.ext))|(go_at_call 78;exact XW.call (u.o x.val x.ext)));go_big_quiet_on)))
    refine wpQuiet_nil ?_;rintro K ⟨⟨_,p⟩,rfl⟩;try dsimp only
    have c:=ae (r.o.trans p);have t:=ae (p.heap Q.o id);clear u A C Q r;clear a1 aH;clear aK aL aM aD aE;have u0:=ag t.o 0 (.string x.1) rfl;have u1:=ag t.o 1 (.string x.2.1) rfl;have u2:=ag t.o 2 (.string x.2.2.name) rfl;have u3:=ag t.o 3 (.string x.2.2.sort) rfl;have u4:=ag t.o 4 (.slice l x.2.2.kids.length n) rfl;have H:=ae (fun W=>nG x.2.2.name x.2.2.sort l x.2.2.kids.length n W);have s1:=kR x.2.2.sort x.2.1;have s2:=kR x.2.2.name x.1;obtain⟨d0,L⟩:=ay (decide (x.2.2.sort=ai));obtain⟨d1,M⟩:=ay (decide (x.2.2.sort=x.2.1));obtain⟨d2,N⟩:=ay (decide (x.2.2.name=x.1));rw[L] at H i;rw[M] at s1 i;rw[N] at s2 i;clear L M N;go_wp2_with fail;refine(H.o _).mono ?_;rintro e aY ⟨rfl,I⟩;have E:=ae (c.o.trans I);have z:=ae (I.heap t.o id);clear I H u0 u1 u2 u3 u4;have u0:=ag z.o 0 (.string x.1) rfl;have u1:=ag z.o 1 (.string x.2.1) rfl;have u2:=ag z.o 2 (.string x.2.2.name) rfl;have u3:=ag z.o 3 (.string x.2.2.sort) rfl;have u4:=ag z.o 4 (.slice l x.2.2.kids.length n) rfl;cases d0
    rotate_left
    .have J:=ae (Z.o (by rw[i.o];simp));go_wp2_with fail;go_roundg (B.length- ((m+1)+1));case measure=>omega
     case rel=>exact⟨(m+1)+1,by go_num,rfl,by omega,J,E⟩
    cases d1
    .have d:=ae (D.o (by rw[i.o];simp));have c:=E;go_wp2_with fail;all_goals go_ret
     all_goals (rw[d.o];exact⟨rfl,c.o⟩)
    cases d2
    .have J:=ae (Z.o (by rw[i.o];simp));go_wp2_with fail;go_roundg (B.length- ((m+1)+1));case measure=>omega
     case rel=>exact⟨(m+1)+1,by go_num,rfl,by omega,J,E⟩
    have d:=ae (D.o (by rw[i.o];simp));have c:=E;go_wp2_with fail;all_goals go_ret
    all_goals (rw[d.o];exact⟨rfl,c.o⟩)
  .obtain rfl:k=B.length:=by omega
   have z2:decide ((B.length:Int)< (B.length:Int))=false:=dF (by omega);have d:Hid (V=true):=ae (by rw[ab.o];exact aaq (by omega) aJ.o);have c:=ao;go_wp2_with fail;all_goals go_ret
   all_goals (rw[d.o];exact⟨rfl,c.o⟩)
theorem xG (L:List Tm) (k:Nat) (h:k<L.length):depths (L.take (k+1))=max (depths (L.take k)) (tg L k).depth:=by
 have:L.take (k+1)=L.take k++[tg L k]:=by
  rw[List.take_add_one];congr 1;unfold tg;rw[List.getD_eq_getElem?_getD,List.getElem?_eq_getElem h];rfl
 rw[this,D_];simp[depths]
theorem Ea: ∀t:Tm,t.depth<=t.size:=by
 refine Tm.ind (fun n s L a=>?_);rw[lg,size_eq];have: ∀M:List Tm,(∀x∈M,x.depth<=x.size)->depths M<=sizes M:=by
  intro M
  induction M with
  |nil=>intro _;simp[depths]
  |cons x M a=>
   intro h;have h1:=h x (List.mem_cons_self ..);have b:=a (fun y hy=>h y (List.mem_cons_of_mem _ hy));simp only[depths,sizes];omega
 have:=this L a;simp only[Tm.kids];omega
theorem Ak (M:List Tm):depths M<=sizes M:=by
 have:=Ea (.mk ai ai M);rw[lg,size_eq] at this;simp only[Tm.kids] at this;omega
theorem GV: ∀(t:Tm) (v:Value) (S:Nat->Prop) (w:World),bQ S w t v->t.size<=1000000->
  Calls Tryz.prog 108 #[v] w fun e w'=>e= .returned (.int .i64 (t.size:Nat))/\Ext w w':=by
 refine Tm.ind (fun n s L A=>?_);intro v S w c j;obtain⟨a,cap,rfl,c⟩:=c;dsimp only[tV,Tm.name,Tm.sort,Tm.kids] at c⊢;have K:=ae c;have H:=ae A;have B:sizes L+1<=1000000:=by rw[size_eq] at j;simp only[Tm.kids] at j;omega
 have C:=ae B;have ab:L.length<=1000000:=by have h1:=bz L;omega
 have D:=ae ((uR w).alloc (af n s a L.length cap));have M:=ae (aj w (af n s a L.length cap));clear A c j B;obtain⟨Z,l⟩:=ay ((Tm.mk n s L).size);rw[l];have O:Hid (Z=sizes L+1):=ae (by rw[<-l,size_eq];rfl);clear l;go_enter Tryz.func108,Tryz.ntmps108;go_wp2_with fail;generalize w.alloc (af n s a L.length cap)=w1 at*;go_loopg [3,4] L.length (fun gk P Q wr=> ∃k:Nat,P= .int .i64 ((sizes (L.take k)+1:Nat):Int)/\Q= .int .i64 (k:Int)/\gk=L.length-k/\k<=L.length/\Hid (Ext w1 wr));case atStart=>exact⟨0,rfl,rfl,rfl,Nat.zero_le _,ae (au.refl _ _)⟩
 case round=>
  obtain⟨k,rfl,rfl,rfl,hk,h⟩:=hrel;have u:=fM L k;have R:=ae (h.o.heap M.o id);obtain⟨b0,T,U⟩:=ah R.o;by_cases b:k<L.length
  .obtain ⟨g,off,I,_,y⟩:=(K.o.ext (D.o.trans h.o)).at_ (by omega);subst I;obtain⟨V,W,E,p,q,F⟩:=y k b;rw[<-Nat.add_assoc] at p q;obtain⟨z0,ad,z2,aa⟩:=bH b;have i:=ae (H.o (tg L k) (cZ L k b) _ S wr ⟨V,W,rfl,F⟩ (by have h1:=C.o;have ag:=gQ (cZ L k b);omega));dsimp only[tV] at i;have d:=jP L k b;have G:=fM L (k+1);obtain⟨N,r⟩:=ay (sizes (L.take k));obtain⟨x,hx⟩:=ay (tg L k);rw[hx] at E p q i d;rw[r] at d u⊢;have X:=ae d;have J:=C.o;have z5:((N+1:Nat):Int)+(x.size:Int)=((N+x.size+1:Nat):Int):=by omega
   have ai:(N+x.size+1:Nat)<=1000000:=by omega
   have ak:=ae r;clear y F hx d u G J r;go_wp2_with fail;refine i.o.mono ?_;rintro e al ⟨rfl,z⟩;have Y:=ae (h.o.trans z);clear z i b0 T U E p q;go_wp2_with fail;go_roundg (L.length- (k+1));case measure=>omega
   case rel=>exact⟨k+1,by rw[X.o];go_num,by go_num,rfl,by omega,Y⟩
  .obtain rfl:k=L.length:=by omega
   have z2:decide ((L.length:Int)< (L.length:Int))=false:=dF (by omega);rw[List.take_length,<-O.o];go_wp2_with fail;go_ret;exact⟨rfl,(D.o.trans h.o)⟩
theorem aas: ∀(t:Tm) (v:Value) (S:Nat->Prop) (w:World),bQ S w t v->t.size<=1000000->
  Calls Tryz.prog 155 #[v] w fun e w'=>e= .returned (.int .i64 (t.depth:Nat))/\Ext w w':=by
 refine Tm.ind (fun n s L F=>?_);intro v S w i r;obtain⟨a,cap,rfl,i⟩:=i;dsimp only[tV,Tm.name,Tm.sort,Tm.kids] at i⊢;have R:=ae i;have O:=ae F;have G:sizes L+1<=1000000:=by rw[size_eq] at r;simp only[Tm.kids] at r;omega
 have H:=ae G;have ai:L.length<=1000000:=by have h1:=bz L;omega
 have I:=ae ((uR w).alloc (af n s a L.length cap));have T:=ae (aj w (af n s a L.length cap));clear F i r G;obtain⟨Z,z⟩:=ay ((Tm.mk n s L).depth);rw[z];have U:Hid (Z=depths L+1):=ae (by rw[<-z,lg];rfl);clear z;go_enter Tryz.func155,Tryz.ntmps155;go_wp2_with fail;generalize w.alloc (af n s a L.length cap)=w1 at*;go_loopg [3,4] L.length (fun gk V W wr=> ∃k:Nat,V= .int .i64 ((depths (L.take k):Nat):Int)/\W= .int .i64 (k:Int)/\gk=L.length-k/\k<=L.length/\Hid (Ext w1 wr));case atStart=>exact⟨0,rfl,rfl,rfl,Nat.zero_le _,ae (au.refl _ _)⟩
 case round=>
  obtain⟨k,rfl,rfl,rfl,hk,j⟩:=hrel;have u:=Nat.le_trans (Ak _) (fM L k);have X:=ae (j.o.heap T.o id);obtain⟨b0,J,K⟩:=ah X.o;by_cases d:k<L.length
  .obtain ⟨g,off,P,_,y⟩:=(R.o.ext (I.o.trans j.o)).at_ (by omega);subst P;obtain⟨Y,aa,A,l,p,B⟩:=y k d;rw[<-Nat.add_assoc] at l p;obtain⟨z0,ak,z2,ag⟩:=bH d;have c:=ae (O.o (tg L k) (cZ L k d) _ S wr ⟨Y,aa,rfl,B⟩ (by have h1:=H.o;have al:=gQ (cZ L k d);omega));dsimp only[tV] at c;have b:=xG L k d;obtain⟨N,q⟩:=ay (depths (L.take k));obtain⟨x,hx⟩:=ay (tg L k);rw[hx] at A l p c b;rw[q] at b u⊢;have an:=ae q;by_cases hc:N<x.depth
   .have z5:decide ((N:Int)< (x.depth:Int))=true:=dT (by omega);have Q:decide (N<x.depth)=true:=dT hc;rw[Nat.max_eq_right (by omega)] at b;have C:=ae b;clear y B hx b u q hc;go_wp2_with fail;refine c.o.mono ?_;rintro e ab ⟨rfl,h⟩;have E:=ae (j.o.trans h);clear h c b0 J K A l p;go_wp2_with fail;go_roundg (L.length- (k+1));case measure=>omega
    case rel=>exact⟨k+1,by rw[C.o],by go_num,rfl,by omega,E⟩
   .have z5:decide ((N:Int)< (x.depth:Int))=false:=dF (by omega);have Q:decide (N<x.depth)=false:=dF hc;rw[Nat.max_eq_left (by omega)] at b;have C:=ae b;clear y B hx b u q hc;go_wp2_with fail;refine c.o.mono ?_;rintro e ab ⟨rfl,h⟩;have E:=ae (j.o.trans h);clear h c b0 J K A l p;go_wp2_with fail;go_roundg (L.length- (k+1));case measure=>omega
    case rel=>exact⟨k+1,by rw[C.o],by go_num,rfl,by omega,E⟩
  .obtain rfl:k=L.length:=by omega
   have z2:decide ((L.length:Int)< (L.length:Int))=false:=dF (by omega);have ad:=Nat.le_trans (Ak L) (Nat.le_of_succ_le H.o);have hv:=U.o;rw[List.take_length];obtain⟨D,M⟩:=ay (depths L);rw[M] at ad hv⊢;subst hv;clear M;go_wp2_with fail;go_ret;exact⟨by first|rfl|go_num,(I.o.trans j.o)⟩
theorem aee (t:Tm) (v:Value) (w:World) (g:dI w) (hR:bQ (fun k=>k<w.heap.size) w t v) (h:(t.size:Int)<=1000000000000):Calls Tryz.prog 154 #[v] w fun e w'=>e= .returned (.int .i64 (Ht t:Nat))/\Ext w w':=by
 have i:=ae hR;obtain⟨a,cap,rfl,j⟩:=hR;dsimp only[tV];have c:=ae ((uR w).alloc (tO t a cap));have hb:=aj w (tO t a cap);have d:=ae (fun W (hW:Ext w W)=>Xx t _ W (aT g hW) ((i.o.ext hW).weaken (bW hW)) h);dsimp only[tV] at d;obtain⟨l,c1,c2⟩:=ah hb;clear j hb;generalize yD t=X at*;generalize Ht t=Y at*;go_enter Tryz.func154,Tryz.ntmps154;go_wp2_with fail;refine(d.o _ c.o).mono ?_;rintro e p ⟨rfl,b⟩;have n:=ae (c.o.ext b);clear b l c1 c2;go_wp2_with fail;go_ret;exact⟨rfl,n.o⟩
theorem CV {P:Program} {ops:Array Oper} {rest:List Oper} {o:Oper} {a:Act} {w w':World} {Q:Exit->Act->World->Prop} {v:Value} (b:o.guard=none)
  (hr:(execOp a.eval o).run P w= .ok (.value v) w') (h:wpList P ops Q rest (a.put o.dst v) w'):wpList P ops Q (o::rest) a w:=
 wpList_plain b fun _ hK=>by
  unfold Oper.wp;rw[hr];exact hK _ _ h
theorem zL {a:List Bd} {n s:By} {T:Tm} (h:bK a n=some T):gW a n s=T:=by unfold gW;rw[h];rfl
theorem Jc {a:List Bd} {n s:By} (h:bK a n=none):gW a n s=vr n s:=by unfold gW;rw[h];rfl
theorem QY (b:List Bd) (B:Value) (C:Nat) (n s:By) (L:List Tm) (a:Option Addr) (cap:Nat) (R S T:Nat->Prop) (w:World) (Y:L=[]) (Z:aG T w L (.slice a L.length cap)) (D:w.heap[C]?=some (.cells #[B] 27 (0,0))) (h:jb R S w B b) (hS: ∀k,S k->k<w.heap.size) (aa: ∀k,T k->k<w.heap.size) (ha:AscK (Prod.fst:Bd->By) b) (hl:b.length<=1000000):
  Calls Tryz.prog 151 #[.agg #[.string n,.string s,.slice a L.length cap],.pointer (az C)] w fun e w'=> ∃c rc,e= .returned (tV (gW b n s) (.slice c (gW b n s).kids.length rc))/\aG (fun k=>k<w.heap.size) w' (gW b n s).kids (.slice c (gW b n s).kids.length rc)/\Ext w w':=by
 obtain⟨Q,hQ⟩:=ay (gW b n s);rw[hQ];have p:=ae hQ;clear hQ;have aK:C<w.heap.size:=(Array.getElem?_eq_some_iff.1 D).1;have E:=((uR w).alloc (af n s a L.length cap)).alloc zO;have P:=ae (ak (aj w (af n s a L.length cap)) zO);have av:=ae (alloc_at (w.alloc (af n s a L.length cap)) zO (n:=w.heap.size+1) (by simp));have ab:=ae (E.heap D id);have aC:=ae h;have aD:=ae (Z.weaken aa);have aE:=ae Y;have aF:=ae hS;have HAS:=ae ha;have ad:=ae E;have G:=ae (fun W (hW:Ext w W)=>acH b B n R S W (h.ext hW) ha hl);obtain⟨ai,al,rfl⟩:=h.shape;obtain⟨aH,an,ao⟩:=ah P.o;have aI:=ag ab.o 0 (.slice ai b.length al) rfl;obtain⟨F,hF⟩:=ay ((bK b n).isSome);have aq:=ae hF;rw[hF] at G;clear h D Z Y hS aa ha E hF;go_enter Tryz.func151,Tryz.ntmps151;go_wp2_with fail;generalize ((w.alloc (af n s a L.length cap)).alloc zO)=w1 at*;refine(G.o _ ad.o).mono ?_;rintro e ar ⟨rfl,l⟩;have r:=ae (ad.o.trans l);have aJ:=ae (l.heap P.o id);have t:=ae (l.heap av.o id);have aw:=ae (l.heap ab.o id);have aI:=ag aw.o 0 (.slice ai b.length al) rfl;have f2:=fun i=>ax t.o i;obtain⟨d0,d1,d2⟩:=ah t.o;obtain⟨aH,an,ao⟩:=ah aJ.o;clear l G;cases F with
 |true=>
  obtain⟨U,V,_⟩:=N9 (n:=n) HAS.o aq.o;have u:Q=(Go.Hw.bg b (nM b n)).2.2:=by rw[<-p.o];exact zL V
  obtain⟨g,off,aA,_,X⟩:=(aC.o.ext r.o).at_ (by omega);subst aA;obtain⟨c,rc,y,z,H,I,J,au⟩:=X _ U;have d:=ae (au.weaken aF.o);obtain⟨m,hm⟩:=ay (nM b n);rw[hm] at y z H I J U d u;try rw[hm]
  have z0:(0:Int)<=(m:Int):=by omega
  have aL:(m:Int)< (b.length:Int):=by omega
  obtain⟨x,hx⟩:=ay (Go.Hw.bg b m);rw[hx] at y z H I J d u;obtain⟨an,ao,q⟩:=x;simp only at y z H I J d u;subst u;clear X au V hx hm y z p;go_wp2_with fail;have A:=aO t.o (.string Q.name) (.string Q.sort) (.slice c Q.kids.length rc);have hu:=aN ar (w.heap.size+1) (.string Q.name) (.string Q.sort) (.slice c Q.kids.length rc);obtain⟨K,M,N⟩:=ah A;refine bodyPost_ret (v:= .agg #[.string Q.name,.string Q.sort,.slice c Q.kids.length rc]) (by simp[results,Tryz.results151,go_sem,K,M,N]) rfl ⟨c,rc,rfl,d.o.kept hu (fun j O e=>by omega),r.o.trans' hu (fun j O e=>by omega)⟩
 |false=>
  have hn:bK b n=none:=by have:=aq.o;cases hb:bK b n with
   |none=>rfl
   |some T=>rw[hb] at this;cases this
  obtain rfl:Q=vr n s:=by rw[<-p.o];exact Jc hn
  have d:=ae (aD.o.ext r.o);have aB:=aE.o;subst aB;clear hn p;go_wp2_with fail;have A:=aO t.o (.string n) (.string s) (.slice a 0 cap);have hu:=aN ar (w.heap.size+1) (.string n) (.string s) (.slice a 0 cap);obtain⟨K,M,N⟩:=ah A;refine bodyPost_ret (v:= .agg #[.string n,.string s,.slice a 0 cap]) (by simp[results,Tryz.results151,go_sem,K,M,N]) rfl ⟨a,cap,rfl,d.o.kept hu (fun j O e=>by omega),r.o.trans' hu (fun j O e=>by omega)⟩
theorem aef (b:List Bd) (u:Value) (j vb:Nat) (n s:By) (L:List Tm) (a:Option Addr) (cap:Nat) (R S T:Nat->Prop) (w:World) (E:dI w) (J:L=[]) (K:aG T w L (.slice a L.length cap)) (M:w.heap[j]?=some (.cells #[u] 27 (0,0))) (hV:w.heap[vb]?=some (.cells #[.func (.func 151) #[] #[.pointer (az j)]] 90 (0,0))) (h:jb R S w u b) (hS: ∀k,S k->k<w.heap.size) (N: ∀k,T k->k<w.heap.size) (ha:AscK (Prod.fst:Bd->By) b) (hl:b.length<=1000000) (hw:wf aC (gW b n s)=true):
  Calls Tryz.prog 153 #[.agg #[.string n,.string s,.slice a L.length cap],.pointer (az vb)] w fun e w'=>e= .returned (.tuple #[.int .i64 ((gW b n s).size:Nat),.int .i64 ((gW b n s).depth:Nat)])/\Ext w w':=by
 have c:=(uR w).alloc (af n s a L.length cap);have Z:=ae c;have V:=ae (aj w (af n s a L.length cap));have y:=ae (QY b u j n s L a cap R S T (w.alloc (af n s a L.length cap)) J (K.ext c) (c.heap M id) (h.ext c) (fun k hk=>aP (hS k hk) c.size) (fun k hk=>aP (N k hk) c.size) ha hl);have aa:=ag (c.heap hV id) 0 (.func (.func 151) #[] #[.pointer (az j)]) rfl;have Y:=qg hw;have F:yD (gW b n s)=(gW b n s).size:=by unfold yD;rw[if_pos hw]
 have G:Ht (gW b n s)=(gW b n s).depth:=by unfold Ht;rw[if_pos hw]
 have l:=ae (fun v W h1 z=>Py (gW b n s) v W h1 z (by omega));have i:=ae (fun v W h1 z=>aee (gW b n s) v W h1 z (by omega));rw[F] at l;rw[G] at i;have O:=ae E;obtain⟨p,r,t⟩:=ah V.o;have ak: ∀args W,(callFunc 151 args).run Tryz.prog W= .ok (.enter 151 args) W:=enters_of Tryz.func151 (by kernel_rfl) rfl;obtain⟨q,P⟩:=ay (gW b n s);rw[P] at y l i⊢;clear c E J K M hV h hS N ha hw Y F G P;go_enter Tryz.func153,Tryz.ntmps153;go_wp2_with fail;generalize w.alloc (af n s a L.length cap)=w1 at*;refine y.o.mono ?_;rintro e A ⟨d,rc,rfl,hk,H⟩;have B:=H.alloc (tO q d rc);have C:=ae (Z.o.trans B);have ab:=ae (aj A (tO q d rc));have Q:=ae (hk.ext ((uR A).alloc (tO q d rc)));dsimp only[tV];have D:=B.size;clear p r t aa y;obtain⟨p,r,t⟩:=ah ab.o;clear hk H B;go_wp2_with fail;generalize al:A.alloc (tO q d rc)=g at*;have U:=ae (fun W (hW:Ext g W)=>l.o (tV q (.slice d q.kids.length rc)) W (aT O.o (C.o.trans hW)) ⟨d,rc,rfl,(Q.o.ext hW).weaken (fun k hk=>aP hk (Nat.le_trans D hW.size))⟩);have I:=ae (fun W (hW:Ext g W)=>i.o (tV q (.slice d q.kids.length rc)) W (aT O.o (C.o.trans hW)) ⟨d,rc,rfl,(Q.o.ext hW).weaken (fun k hk=>aP hk (Nat.le_trans D hW.size))⟩);dsimp only[tV] at U I;have ar:=uR g;have an:=fun X:XW g=>X.ext.cell p id;have ao:=fun X:XW g=>X.ext.cell r id;have aq:=fun X:XW g=>X.ext.cell t id;clear p r t l i D;refine bI g (by assumption) (by kernel_rfl) (by kernel_rfl) ?_
 repeat (first|go_big_quiet_skip|(go_big_quiet_want;go_big_quiet_op;first|go_big_quiet_on|(apply Exists.intro;refine⟨fun x=>?_,?_⟩;(first|(go_at_call 145;exact XW.call (U.o x.val x.ext))|(go_at_call 154;exact XW.call (I.o x.val x.ext)));go_big_quiet_on)))
 refine wpQuiet_nil ?_;rintro au ⟨⟨_,ad⟩,rfl⟩;try dsimp only
 have ai:=ae (C.o.trans ad);go_wp2_with fail;go_ret2;exact⟨rfl,ai.o⟩
theorem agT (b:List Bd) (ak:Value) (al vb:Nat) (R an:Nat->Prop) (w0:World) (bt:Hid (w0.heap[al]?=some (.cells #[ak] 27 (0,0)))) (bu:Hid (w0.heap[vb]?=some (.cells #[.func (.func 151) #[] #[.pointer (az al)]] 90 (0,0)))) (bl:Hid (jb R an w0 ak b)) (bw:Hid (∀k,an k->k<w0.heap.size)) (HAS:Hid (AscK (Prod.fst:Bd->By) b)) (bx:Hid (b.length<=1000000)) (bA:Hid (dI w0)):
  ∀(t:Tm) (v:Value) (S:Nat->Prop) (w:World),Ext w0 w->bQ S w t v->(∀k,S k->k<w.heap.size)->t.size<=100000->u_ t->(∀f∈dL t,wf aC (gW b f.1 f.2)=true)->
  Calls Tryz.prog 152 #[v,.func (.func 153) #[] #[.pointer (az vb)]] w fun e w'=>e= .returned (.tuple #[.int .i64 ((min (bJ b t).size 1001:Nat):Int),.int .i64 ((min (bJ b t).depth 61:Nat):Int)])/\Ext w w':=by
 refine Tm.ind (fun n s L aU=>?_);intro v S w aG F hS U aV aH;obtain⟨Z,ao⟩:=ay (bJ b (.mk n s L));rw[ao];have aq:=ae ao;clear ao;obtain⟨aW,V⟩:=ay (min Z.size 1001);obtain⟨aX,X⟩:=ay (min Z.depth 61);rw[V,X];have I:=ae (And.intro V X);clear V X;obtain⟨a,cap,rfl,F⟩:=F;dsimp only[tV,Tm.name,Tm.sort,Tm.kids] at F⊢;have aY:=ae F;have bm:=ae aU;have aZ:=ae hS;have p:=ae aG;have a1:=ae aH;have a6:=ae aV;have a7:sizes L+1<=100000:=by rw[size_eq] at U;simp only[Tm.kids] at U;omega
 have bB:=ae a7;have b6:L.length<=100000:=by have h1:=bz L;omega
 have u:=ae (fun W=>nG n s a L.length cap W);have a8:=ae ((uR w).alloc (af n s a L.length cap));have Y:=ae (aj w (af n s a L.length cap));have b1: ∀args W,(callFunc 153 args).run Tryz.prog W= .ok (.enter 153 args) W:=enters_of Tryz.func153 (by kernel_rfl) rfl;obtain⟨y,z,A⟩:=ah Y.o;clear aU F hS U a7 aG aH aV;by_cases d:s=ai;rotate_left
 .rw [dF d] at u;obtain rfl:Z=gW b n s:=by rw[<-aq.o];exact qh _ d L
  have J:=ae (a1.o (n,s) (nK d L));have bC:Hid (L=[]):=ae (a6.o (.mk n s L) (jo _) d);have aI:=(oH.1 J.o).1;have aJ:=(oH.1 J.o).2.1;have aK:=I.o;rw[Nat.min_eq_left (by simp only at aI;omega),Nat.min_eq_left (by simp only at aJ;omega)] at aK;obtain⟨aL,aM⟩:=aK;obtain⟨q,ar⟩:=ay (gW b n s);have bD:=ae ar;rw[ar] at aL aM;subst aL;subst aM;clear d ar aI aJ I;go_enter Tryz.func152,Tryz.ntmps152;go_wp2_with fail;generalize w.alloc (af n s a L.length cap)=w1 at*;refine(u.o _).mono ?_;rintro e w3 ⟨rfl,i⟩;have c:=ae (a8.o.trans i);have av:=ae (i.heap Y.o id);clear i u y z A;obtain⟨y,z,A⟩:=ah av.o;have aw:=ae (aef b ak al vb n s L a cap R an S w3 (aT bA.o (p.o.trans c.o)) bC.o (aY.o.ext c.o) ((p.o.trans c.o).heap bt.o id) ((p.o.trans c.o).heap bu.o id) (bl.o.ext (p.o.trans c.o)) (fun k hk=>aP (bw.o k hk) (p.o.trans c.o).size) (fun k hk=>aP (aZ.o k hk) c.o.size) HAS.o bx.o J.o);rw[bD.o] at aw;clear J aq;go_wp2_with fail;refine aw.o.mono ?_;rintro e b7 ⟨rfl,aN⟩;have bE:=ae (c.o.trans aN);clear aN aw y z A;go_wp2_with fail;go_ret2;exact⟨rfl,bE.o⟩
 rw[dT d] at u;obtain rfl:Z= .mk n ai (L.map (bJ b)):=by rw[<-aq.o,d];exact uN _ n L
 have bF:Hid (∀x∈L,∀f∈dL x,wf aC (gW b f.1 f.2)=true):=ae (fun x hx f hf=>a1.o f (by
  rw[d,vU];exact List.mem_flatMap.2 ⟨x,hx,hf⟩))
 obtain⟨M,G⟩:=ay (L.map (bJ b));have bn:=ae G;have bG:Hid (aW=min (sizes M+1) 1001):=ae (by rw[<-I.o.1,size_eq,<-G];rfl);have bo:Hid (aX=min (depths M+1) 61):=ae (by rw[<-I.o.2,lg,<-G];rfl);have ax:Hid (M.length=L.length):=ae (by rw[<-G,List.length_map]);clear d G;go_enter Tryz.func152,Tryz.ntmps152;go_wp2_with fail;generalize w.alloc (af n s a L.length cap)=w1 at*;refine(u.o _).mono ?_;rintro e w3 ⟨rfl,i⟩;have c:=ae (a8.o.trans i);have av:=ae (i.heap Y.o id);clear i u y z A;obtain⟨y,z,A⟩:=ah av.o;go_wp2_with fail;clear y z A;go_loopg [6,7,22] L.length (fun gk bI bK bL wr=> ∃k:Nat,bI= .int .i64 ((min (sizes (M.take k)+1) 1001:Nat):Int)/\bK= .int .i64 ((min (depths (M.take k)) 61:Nat):Int)/\bL= .int .i64 (k:Int)/\gk=L.length-k/\k<=L.length/\Hid (Ext w3 wr));case atStart=>exact⟨0,by simp[sizes],by simp[depths],rfl,rfl,Nat.zero_le _,ae (au.refl _ _)⟩
 case round=>
  obtain⟨k,rfl,rfl,rfl,rfl,hk,H⟩:=hrel;by_cases h:k<L.length
  .obtain ⟨g,off,bp,_,aO⟩:=(aY.o.ext (c.o.trans H.o)).at_ (by omega);subst bp;obtain⟨aA,aB,ba,aD,aE,bb⟩:=aO k h;rw[<-Nat.add_assoc] at aD aE;obtain⟨z0,b8,z2,b2⟩:=bH h;have l:=ae (fun W (hW:Ext wr W)=>bm.o (tg L k) (cZ L k h) _ S W (p.o.trans ((c.o.trans H.o).trans hW)) ⟨aA,aB,rfl,bb.ext hW⟩ (fun j bM=>aP (aZ.o j bM) ((c.o.trans H.o).trans hW).size) (by have h1:=bB.o;have bc:=gQ (cZ L k h);omega) (a6.o.kid (cZ L k h)) (bF.o _ (cZ L k h)));dsimp only[tV] at l;have r:=jP M k (by rw[ax.o];exact h);have B:=xG M k (by rw[ax.o];exact h);have aQ:tg M k=bJ b (tg L k):=by
    rw[<-bn.o];unfold tg;rw[List.getD_eq_getElem?_getD,List.getD_eq_getElem?_getD,List.getElem?_map,List.getElem?_eq_getElem h];rfl
   rw[aQ] at r B;obtain⟨x,hx⟩:=ay (tg L k);rw[hx] at ba aD aE l r B;obtain⟨bN,bd⟩:=ay ((bJ b x).size);obtain⟨bO,bf⟩:=ay ((bJ b x).depth);rw[bd] at l r;rw[bf] at l B;obtain⟨N,C⟩:=ay (sizes (M.take k));obtain⟨D,E⟩:=ay (depths (M.take k));rw[C] at r;rw[E] at B;try rw[C]
   try rw[E]
   have bP:=ae r;have bR:=ae B;obtain⟨K,aa⟩:=ay (min (N+1) 1001);obtain⟨bS,ab⟩:=ay (min D 61);obtain⟨O,ad⟩:=ay (min bN 1001);obtain⟨bT,ag⟩:=ay (min bO 61);rw[ad,ag] at l;try rw[aa]
   try rw[ab]
   have b3:K<=1001:=by omega
   have b4:O<=1001:=by omega
   have bU:=ae (And.intro aa ad);have bq:=ae (And.intro ab ag);obtain⟨P,bg⟩: ∃P:Int,P=min ((K:Int)+(O:Int)) 1001:=⟨_,rfl⟩
   obtain⟨Q,hQ⟩: ∃Q:Int,Q=max (bS:Int) (bT:Int):=⟨_,rfl⟩
   have bh:=ae bg;have T:=ae hQ;have b9:IntKind.i64.wrap ((K:Int)+(O:Int))=(K:Int)+(O:Int):=IntWalk.i64_in _ (by omega);have aF:=ae ((uR wr).alloc (tO x aA aB));have bj:=aj wr (tO x aA aB);obtain⟨b0,bV,bW⟩:=ah bj;clear aO bb hx r B aQ bd bf C E aa ab ad ag bg hQ bj;go_wp2_with fail;refine(l.o _ aF.o).mono ?_;rintro e bk ⟨rfl,aR⟩;have bX:=ae (H.o.trans (aF.o.trans aR));clear aR l b0 bV bW ba aD aE aF;go_wp2_with(with_reducible (refine BA (o:=⟨some 35,_,_,_,_,_⟩) ?_))
   refine Stop.go ?_;refine CV rfl (v:= .int .i64 P) (w':=bk) ?_ ?_
   .go_simp;have:=bh.o;omega
   go_wp2_with(with_reducible (refine BA (o:=⟨some 38,_,_,_,_,_⟩) ?_))
   refine Stop.go ?_;refine CV rfl (v:= .int .i64 Q) (w':=bk) ?_ ?_
   .go_simp;have:=T.o;omega
   go_wp2_with fail;go_roundg (L.length- (k+1));case measure=>omega
   case rel=>exact⟨k+1,by rw[bP.o];have h1:=bh.o;have bc:=bU.o;congr 1;omega,by rw[bR.o];have h1:=T.o;have bc:=bq.o;congr 1;omega,by go_num,rfl,by omega,bX⟩
  .obtain rfl:k=L.length:=by omega
   have z2:decide ((L.length:Int)< (L.length:Int))=false:=dF (by omega);have aS:M.take L.length=M:=by rw[<-ax.o,List.take_length]
   rw[aS];have br:=bG.o;have bY:=bo.o;obtain⟨D,E⟩:=ay (min (depths M) 61);obtain⟨N,C⟩:=ay (min (sizes M+1) 1001);rw[E,C];obtain⟨Q,hQ⟩: ∃Q:Int,Q=min ((D:Int)+1) 61:=⟨_,rfl⟩
   have T:=ae hQ;have bZ:Hid (aW=N):=ae (by omega);have bs:Hid (((aX:Nat):Int)=Q):=ae (by omega);have b5:D<=61:=by omega
   clear br bY hQ E C aS;go_wp2_with(with_reducible (refine BA (o:=⟨some 43,_,_,_,_,_⟩) ?_))
   refine Stop.go ?_;refine CV rfl (v:= .int .i64 Q) (w':=wr) ?_ ?_
   .go_simp;have:=T.o;omega
   go_wp2_with fail;go_ret2;rw[bZ.o,bs.o];exact⟨rfl,(c.o.trans H.o)⟩
end
end Go.Proofs.YtlkcjmaiahnodaaGreatDoor
