/- The texts N56 N57 N58 N59 N60 N61 N62 N63, one behind the other. -/
import Derived.Test.YtlkcjmaiahnodaaGreatDoorSAP
import Derived.Test.YtlkcjmaiahnodaaGreatDoorSAB
set_option maxRecDepth 100000
set_option maxHeartbeats 8000000
set_option linter.unusedVariables false
set_option linter.unusedSimpArgs false
namespace Go.Proofs.YtlkcjmaiahnodaaGreatDoor
open Go.RowKit Go.Hw Go Tm
section
open Go.Sort Go.Proofs Go.ChangeMaps
theorem ahl:(Tryz.prog.info? 65).map (fun i=>(i.zero,i.size,i.bytes))=some (some (.agg #[.int .i64 0,.slice none 0 0]),2,32):=by kernel_rfl
theorem anm (w:World) (u0 u1:Value) (t:TypeId): ∀(j:Nat) (u:Value),[u0,u1][j]?=some u->(w.alloc (.cells #[u0,u1] t)).cell? ((⟨w.heap.size,0,none⟩:Addr).add j)=some u:=fun j u a=>by
 match j,a with
 |0,a=>simp only[List.getElem?_cons_zero,Option.some.injEq] at a;subst a;simp only[Addr.add];exact ag (aj _ _) 0 _ rfl
 |1,a=>simp at a;subst a;simp only[Addr.add];exact ag (aj _ _) 1 _ rfl
theorem Ky {S:Nat->Prop} {w:World} {u:Value} {p:List Nat} (h:aB S w 1 u p.length (p.map fun i:Nat=>Value.int .i64 (i:Int))):tC S w u (p.map fun j:Nat=>(j:Int)):=by
 unfold tC;rw[List.length_map,List.map_map];exact h
theorem akh (l:List Rl) (t:Tm) (fuel:Int) (lv v:Value) (w:World) (aM:jH (fun k=>k<w.heap.size) w l lv) (cA:bQ (fun k=>k<w.heap.size) w t v) (bu:dI w) (b8:l.length<=1000000) (a8: ∀r∈l,r.1.size<=100000/\r.2.size<=100000) (b9:dQ l=true->∀r∈l,r.2.size<=60) (cS:t.size<=100000) (cT: -9223372036854775808<=fuel/\fuel<=9223372036854775807):
  Calls Tryz.prog 109 #[lv,v,.int .i64 fuel] w fun e w'=> ∃r aQ,e= .returned (.tuple #[tV (uu l t fuel).1 r,aQ,.int .i64 (uu l t fuel).2.2])/\aG (fun k=>w.heap.size<=k/\k<w'.heap.size) w' (uu l t fuel).1.kids r/\Cc (fun k=>w.heap.size<=k/\k<w'.heap.size) (fun k=>w.heap.size<=k/\k<w'.heap.size) w' aQ (uu l t fuel).2.1/\Ext w w':=by
 obtain⟨Z,bK⟩:=ay (uu l t fuel);rw[bK];have bL:=ae bK;have dk:=ae aM;have cB:=ae cA;have HAS:=ae bu;have dL:=ae a8;have cC:=ae b9;have cb:=fun(aQ:Value) (W:World) (hW:Ext w W) (aF:aG (fun k=>k<W.heap.size) W [t] aQ)=>YH l fuel [t] lv aQ W (aT bu hW) ((aM.ext hW).weaken (bW hW)) aF b8 a8 (fun x hx=>by simp at hx;subst hx;omega) cT (by simp);have dm:=ae (fun(c:Tm) (cD:Value) (S:Nat->Prop) (W:World) (hW:Ext w W) (hc:bQ S W c cD) (hS: ∀k,S k->k<W.heap.size) (hcs:c.size<=1000)=>TQ l b8 a8 c cD lv (.slice none 0 0) (fun k=>k<w.heap.size) S (fun _=>False) [] W hc (aM.ext hW) (aB.nil _ _ _) (bW hW) hS (by omega) (by simp;omega));obtain⟨dM,lc,rfl⟩:=aM.shape;obtain⟨a,cap,rfl,aF⟩:=cA;have cE:=((uR w).alloc (tO t a cap)).alloc zO;have aI:=cE.alloc (tO t a cap);have cc:=ae (cb (.slice (some ⟨w.heap.size+2,0,none⟩) 1 1) (((w.alloc (tO t a cap)).alloc zO).alloc (tO t a cap)) aI (J7 (alloc_at ((w.alloc (tO t a cap)).alloc zO) (tO t a cap) (n:=w.heap.size+2) (by simp)) (by simp) ((aF.ext aI).weaken (bW aI))));have cd:=ae aI;have ai:=ae (ak (aj w (tO t a cap)) zO);have cF:=ae (ak ai.o (tO t a cap));have H1:=ae (ak (alloc_at (w.alloc (tO t a cap)) zO (n:=w.heap.size+1) (by simp)) (tO t a cap));have aJ:w.heap.size+3<=(((w.alloc (tO t a cap)).alloc zO).alloc (tO t a cap)).heap.size:=by simp
 have cf:=ae aJ;have dN:=ae aF;obtain⟨J,M,O⟩:=ah ai.o;dsimp only[tV];clear aM bu a8 b9 cb aF cE aI aJ bK;go_enter Tryz.func109,Tryz.ntmps109;go_wp2_with fail;try rw[show w.heap.size+1+1=w.heap.size+2 from rfl]
 generalize ((w.alloc (tO t a cap)).alloc zO).alloc (tO t a cap)=w1 at*;refine cc.o.mono ?_;rintro e w3 ⟨rfl,aK⟩;have aR:=ae (cd.o.trans aK);have ba:=ae (aK.heap cF.o id);have aS:=ae (aK.heap H1.o id);have bN:Hid (w.heap.size+3<=w3.heap.size):=ae (Nat.le_trans cf.o aK.size);clear aK cc cd ai cF H1 cf J M O;by_cases aa:oI l fuel [t]=0;rotate_left
 .obtain ⟨U,X⟩: ∃n,oI l fuel [t]=n:=⟨_,rfl⟩
  obtain rfl:Z=(dD,[],U):=by rw[<-bL.o];unfold uu;rw[if_neg aa,X]
  rw[X] at aa⊢;have t1:(U==0)=false:=beq_eq_false_iff_ne.2 aa;have t2:decide (U=0)=false:=dF aa;clear X;have f2:=fun i=>ax aS.o i;obtain⟨d0,d1,d2⟩:=ah aS.o
  go_wp2_with fail;have al:=aO aS.o (.string ⟨#[]⟩) (.string ⟨#[]⟩) (.slice none 0 0);have hu:=aN w3 (w.heap.size+1) (.string ⟨#[]⟩) (.string ⟨#[]⟩) (.slice none 0 0);obtain⟨ao,aq,ar⟩:=ah al;refine bodyPost_ret (v:= .tuple #[.agg #[.string ⟨#[]⟩,.string ⟨#[]⟩,.slice none 0 0],.slice none 0 0,.int .i64 (U)]) (by simp[results,Tryz.results109,go_sem,ao,aq,ar]) rfl ?_;have aL:=aR.o.trans' hu (fun j b e=>by omega);first|exact⟨.slice none 0 0,.slice none 0 0,rfl,aG.nil _ _,Cc.nil _ _ _,aL⟩
 obtain⟨bx,cg,cU,cV⟩:=Kw aa;have dO:=ae bx;have cW:=ae (cC.o bx);have an:Z=zQ l fuel.toNat t []:=by rw[<-bL.o];unfold uu;rw[if_pos aa]
 have bz:=ae an.symm;rw[aa];have cG:=ae cg;have ch:=EK t (tV t (.slice a t.kids.length cap)) (fun k=>k<w3.heap.size) w3 ((cB.o.ext aR.o).weaken (bW aR.o)) (fun k hk=>hk) cS;have bO:=ae ch;dsimp only[tV] at bO;have f1:=fun i=>ax ba.o i;obtain⟨J,M,O⟩:=ah ba.o;clear aa bx cg an bL ch cC dk cB
 go_wp2_with fail;refine bO.o.mono ?_;rintro e A ⟨dP,dn,rfl,bA,bB,P⟩;obtain⟨aW,aX,dp⟩:=aU.shape bA;subst dp;have cH:=ae (aR.o.trans P);have bb:=ae (P.heap ba.o id);have cI:=ae (P.heap aS.o id);have cJ:Hid (w.heap.size+3<=A.heap.size):=ae (Nat.le_trans bN.o P.size);have cj:=ae (bA.read);have bc:Hid (∀j,dn j->w.heap.size+3<=j/\j<A.heap.size):=ae (fun j b=>⟨Nat.le_trans bN.o (bB j b).1,(bB j b).2⟩);dsimp only[tV];clear bA bB P bO J M O f1;have f1:=fun i=>ax bb.o i;obtain⟨J,M,O⟩:=ah bb.o
 go_upto_region 6 with fail;have cK:=ae (aO bb.o (.string t.name) (.string t.sort) (.slice aW t.kids.length aX));have av:=ae (aN A w.heap.size (.string t.name) (.string t.sort) (.slice aW t.kids.length aX));have cL:=ae (cH.o.trans' av.o (fun j b e=>by omega));have ck:=ae (av.o.heap cI.o (by omega));have bo:=ae ((cj.o.kept av.o (fun j b e=>by have:=(bc.o j b).1;omega)).weaken (fun j b=>(⟨by have:=(bc.o j b).1;omega,aP (bc.o j b).2 av.o.size⟩:w.heap.size+2<=j/\j<_)));have cM:Hid (w.heap.size+2<=(((A.setCell ⟨w.heap.size,0,none⟩ (.string t.name)).setCell ⟨w.heap.size,1,none⟩ (.string t.sort)).setCell ⟨w.heap.size,2,none⟩ (.slice aW t.kids.length aX)).heap.size):=ae (Nat.le_trans (by have:=cJ.o;omega) av.o.size);clear J M O f1;generalize (((A.setCell ⟨w.heap.size,0,none⟩ (.string t.name)).setCell ⟨w.heap.size,1,none⟩ (.string t.sort)).setCell ⟨w.heap.size,2,none⟩ (.slice aW t.kids.length aX))=bP at*;clear cj bc bb cI cH av cJ;obtain⟨F,hF⟩:=ay fuel.toNat;have cX:fuel=(F:Int):=by omega
 rw[hF] at bz;subst cX;have dG:F<=2000:=by omega
 clear hF cU cV;go_loopg [10] F (fun gk dq wr=> ∃(L:List Xe) (cur:Tm) (C ca:Option Addr) (D Q:Nat),dq= .slice C L.length D/\gk=F-L.length/\L.length<=F/\Hid (Eb 65 (w.heap.size+2) wr (.slice C L.length D) L)/\Hid (wr.heap[w.heap.size]?=some (tO cur ca Q))/\Hid (wr.heap[w.heap.size+1]?=some zO)/\Hid (aG (fun j=>w.heap.size+2<=j/\j<wr.heap.size/\(Value.slice C L.length D).ownBlock≠some j) wr cur.kids (.slice ca cur.kids.length Q))/\Hid (Ext w wr)/\Hid (w.heap.size+2<=wr.heap.size)/\Hid (wf aC cur=true)/\Hid (zQ l (F-L.length) cur (L.map (·.1))=Z));case atStart=>exact⟨[],t,none,aW,0,aX,rfl,rfl,Nat.zero_le _,ae (Eb.start _ _ _),cK,ck,ae (bo.o.weaken (fun j b=>⟨b.1,b.2,fun e=>by cases e⟩)),cL,cM,cG,bz⟩
 case round=>
  clear cK ck bo cL cM cG bz aR ba aS bN;obtain⟨L,cur,C,ca,D,Q,rfl,rfl,dH,bp,ai,cm,bR,bS,aY,dr,bC⟩:=hrel;have hcs:=qg dr.o;have bT:=ae (dm.o cur (tV cur (.slice ca cur.kids.length Q)) (fun j=>w.heap.size+2<=j/\j<wr.heap.size/\(Value.slice C L.length D).ownBlock≠some j) wr bS.o ⟨ca,Q,rfl,bR.o⟩ (fun k hk=>hk.2.1) hcs);dsimp only[tV] at bT;obtain⟨J,M,O⟩:=ah ai.o;go_wp2_with fail;refine bT.o.mono ?_;rintro e A ⟨⟨⟨pa,p⟩,ua,uc⟩,B,rfl,bD,bd,P⟩;obtain⟨o,ho⟩:=ay (jk l cur);have aw:=ae ho;rw[ho] at bD⊢;clear ho J M O bT;dsimp only[DI];cases o with
  |none=>
   rw[show(fq none []).length=0 from rfl,show(ft none).name=⟨#[]⟩ from rfl,show(ft none).sort=⟨#[]⟩ from rfl,show(ft none).kids.length=0 from rfl,show((fi none:Nat):Int)=0 from rfl];have ab:=((uR A).alloc (aH 0 pa 0 p)).alloc (af ⟨#[]⟩ ⟨#[]⟩ ua 0 uc);have I:=P.trans ab;have az:=ae (bS.o.trans I);have aZ:=ae (I.heap ai.o id);have V:=ae (I.heap cm.o id);have bo:=ae (bR.o.ext I);have cY:=ae (bp.o.kept I (fun _ _ _ h=>h));have an:Z=(cur,L.map (·.1),0):=by
    rw[<-bC.o];cases F-L.length with
    |zero=>unfold zQ;rw[aw.o]
    |succ n=>unfold zQ;rw[aw.o]
   have cZ:=ae an;have ds:=ae I.size;simp only[Option.isSome_none];obtain⟨J,M,O⟩:=ah aZ.o;obtain⟨d0,d1,d2⟩:=ah V.o;have f2:=fun i=>ax V.o i;clear bD bd P ab I an
   go_wp2_with fail;generalize ((A.alloc (aH 0 pa 0 p)).alloc (af ⟨#[]⟩ ⟨#[]⟩ ua 0 uc))=bP at*;have al:=aO V.o (.string cur.name) (.string cur.sort) (.slice ca cur.kids.length Q);have hu:=aN bP (w.heap.size+1) (.string cur.name) (.string cur.sort) (.slice ca cur.kids.length Q);obtain⟨ao,aq,ar⟩:=ah al;have dJ:=aY.o;have dE:=ds.o;refine bodyPost_ret (v:= .tuple #[.agg #[.string cur.name,.string cur.sort,.slice ca cur.kids.length Q],.slice C L.length D,.int .i64 0]) (by simp[results,Tryz.results109,go_sem,ao,aq,ar]) rfl ?_;have an:=cZ.o;subst an;have c0:=(cY.o.kept hu (fun j b _ e=>by omega)).rx;exact⟨.slice ca cur.kids.length Q,.slice C L.length D,rfl,(bo.o.kept hu (fun j b e=>by omega)).weaken (fun j b=>⟨by omega,by have:=hu.size;omega⟩),c0.weaken (fun j b=>⟨by omega,b.2⟩) (fun j b=>⟨by omega,b.2⟩),az.o.trans' hu (fun j b e=>by omega)⟩
  |some y=>
   obtain⟨g,pp,u⟩:=y;have bU:fq (some (g,pp,u)) []=pp:=by simp[fq]
   have bE:ft (some (g,pp,u))=u:=rfl;have cn:fi (some (g,pp,u))=g:=rfl;rw[bU,bE,cn];obtain⟨bq,a7⟩:=bD;rw[bU] at bq;rw[bE] at a7;dsimp only at bq a7;have ab:=((uR A).alloc (aH (g:Int) pa pp.length p)).alloc (tO u ua uc);have I:=P.trans ab;have az:=ae (bS.o.trans I);have aA:=ae I;have aZ:=ae (I.heap ai.o id);have V:=ae (I.heap cm.o id);have br:=ae (ak (aj A (aH (g:Int) pa pp.length p)) (tO u ua uc));have bV:=ae (alloc_at (A.alloc (aH (g:Int) pa pp.length p)) (tO u ua uc) (n:=A.heap.size+1) (by simp));have bG:=ae (aB.kept bq ab (fun _ _ h=>h));have cN:=ae ((a7.kept ab (fun _ _ h=>h)).read);have a1:Hid (∀j,B j->wr.heap.size<=j/\j< ((A.alloc (aH (g:Int) pa pp.length p)).alloc (tO u ua uc)).heap.size):=ae (fun j b=>⟨(bd j b).1,aP (bd j b).2 ab.size⟩);simp only[Option.isSome_some];have bf:=yP l cur g pp u aw.o;have bX:=Pg (N:=60) aw.o cW.o;have cp:=Bi pp cur bf.1;have bY:u.size<=100000:=Nat.le_trans (Nat.le_trans bX (Nat.mul_le_mul_left 60 hcs)) (by decide);have bZ:Hid (wr.heap.size<=A.heap.size):=ae P.size;clear P ab bq a7 bd bU bE cn I;obtain⟨cO,bg⟩:=ay A.heap.size;rw[bg] at br bV bZ;by_cases bw:L.length=F
   .obtain rfl:Z=(dD,[],6):=by
     rw[<-bC.o,bw,Nat.sub_self];unfold zQ;rw[aw.o]
    have t1:((L.length:Int)==(F:Int))=true:=by rw[bw];exact beq_self_eq_true _
    have t2:decide ((L.length:Int)=(F:Int))=true:=dT (by omega);clear bf bX bY cp bg;subst bw;have d9:=V;have f2:=fun i=>ax V.o i;obtain⟨d0,d1,d2⟩:=ah V.o
    go_wp2_with fail;have al:=aO V.o (.string ⟨#[]⟩) (.string ⟨#[]⟩) (.slice none 0 0);have hu:=aN ((A.alloc (aH (g:Int) pa pp.length p)).alloc (tO u ua uc)) (w.heap.size+1) (.string ⟨#[]⟩) (.string ⟨#[]⟩) (.slice none 0 0);obtain⟨ao,aq,ar⟩:=ah al;refine bodyPost_ret (v:= .tuple #[.agg #[.string ⟨#[]⟩,.string ⟨#[]⟩,.slice none 0 0],.slice none 0 0,.int .i64 (6)]) (by simp[results,Tryz.results109,go_sem,ao,aq,ar]) rfl ?_;have aL:=az.o.trans' hu (fun j b e=>by omega);first|exact⟨.slice none 0 0,.slice none 0 0,rfl,aG.nil _ _,Cc.nil _ _ _,aL⟩
   have t1:((L.length:Int)==(F:Int))=false:=beq_eq_false_iff_ne.2 (by omega);have t2:decide ((L.length:Int)=(F:Int))=false:=dF (by omega);have bs:=ae (Vu cur u pp (tV cur (.slice ca cur.kids.length Q)) (tV u (.slice ua u.kids.length uc)) (.slice pa pp.length p) (fun j=>w.heap.size+2<=j/\j<wr.heap.size/\(Value.slice C L.length D).ownBlock≠some j) B B ((A.alloc (aH (g:Int) pa pp.length p)).alloc (tO u ua uc)) ⟨ca,Q,rfl,bR.o.ext aA.o⟩ ⟨ua,uc,rfl,cN.o⟩ (fun k hk=>aP hk.2.1 aA.o.size) (fun k hk=>(a1.o k hk).2) bG.o bf.1 (aT HAS.o az.o) (by omega) bY (by omega));obtain⟨G,a6⟩:=ay (iD cur pp u);have bH:G.2=0\/G.2=4:=by
    rw[<-a6];unfold iD;split
    .exact .inl rfl
    .exact .inr rfl
   have cq:G.2=0->wf aC G.1=true:=fun h=>by
    rw[<-a6] at h⊢;have:=Oi h;rw[this.1];exact this.2
   have b7:Z=if G.2=0 then zQ l (F- (L.length+1)) G.1 (L.map (·.1)++[kU g pp]) else(dD,[],G.2):=by
    rw[<-bC.o,show F-L.length=(F- (L.length+1))+1 by omega]
    conv=>lhs;unfold zQ
    rw[aw.o];simp only;rw[a6]
   rw[a6] at bs;have bI:=ae b7;have cr:=ae cq;dsimp only[tV] at bs;obtain⟨J,M,O⟩:=ah aZ.o;obtain⟨m0,m1⟩:=aV br.o;obtain⟨n0,dt,du⟩:=ah bV.o;clear bf bX bY cp a6 b7 cq;go_wp2_with fail;try rw[bg]
   generalize ((A.alloc (aH (g:Int) pa pp.length p)).alloc (tO u ua uc))=bP at*;clear bg;refine bs.o.mono ?_;rintro e R ⟨r,rfl,bh,bj⟩;obtain⟨q,U⟩:=G;dsimp only at bh bH bI cr⊢;obtain⟨E,H,c3⟩:=bh.shape;subst c3;have ad:=bj.alloc (tO q E H);have cP:=ae (az.o.trans ad);have b0:=ae (aA.o.trans ad);have dv:=ae (ad.heap aZ.o id);have bt:=ae (ad.heap V.o id);have cQ:=ae (ad.heap br.o id);have bk:=ae (aj R (tO q E H));have c4:Hid (aG (fun j=>wr.heap.size<=j/\j< (R.alloc (tO q E H)).heap.size) (R.alloc (tO q E H)) q.kids (.slice E q.kids.length H)):=ae ((bh.ext ((uR R).alloc (tO q E H))).weaken (fun j b=>by
    have h1:=((uR R).alloc (tO q E H)).size;have dR:=bj.size;have dS:=aA.o.size;rcases b with b|b
    .exact ⟨by omega,by omega⟩
    .have dU:=a1.o j b;exact⟨by omega,by omega⟩))
   have c5:=ae (aB.kept bG.o ad (fun _ _ h=>h));have c6:Hid (∀j,B j->wr.heap.size<=j/\j< (R.alloc (tO q E H)).heap.size):=ae (fun j b=>⟨(a1.o j b).1,aP (a1.o j b).2 ad.size⟩);have cR:Hid (w.heap.size+2<=(R.alloc (tO q E H)).heap.size):=ae (Nat.le_trans aY.o b0.o.size);have bl:Hid (wr.heap.size<=R.heap.size):=ae (Nat.le_trans aA.o.size bj.size);clear bh bj ad bs J M O m0 m1 n0 dt du az aA aZ V br bV bG cN a1;by_cases X:U=0;rotate_left
   .have u1:(U==0)=false:=beq_eq_false_iff_ne.2 X;have u2:decide (U=0)=false:=dF X;obtain rfl:Z=(dD,[],U):=by rw[bI.o,if_neg X]
    clear X bH;have f2:=fun i=>ax bt.o i;obtain⟨d0,d1,d2⟩:=ah bt.o
    go_wp2_with fail;have al:=aO bt.o (.string ⟨#[]⟩) (.string ⟨#[]⟩) (.slice none 0 0);have hu:=aN (R.alloc (tO q E H)) (w.heap.size+1) (.string ⟨#[]⟩) (.string ⟨#[]⟩) (.slice none 0 0);obtain⟨ao,aq,ar⟩:=ah al;refine bodyPost_ret (v:= .tuple #[.agg #[.string ⟨#[]⟩,.string ⟨#[]⟩,.slice none 0 0],.slice none 0 0,.int .i64 (U)]) (by simp[results,Tryz.results109,go_sem,ao,aq,ar]) rfl ?_;have aL:=cP.o.trans' hu (fun j b e=>by omega);first|exact⟨.slice none 0 0,.slice none 0 0,rfl,aG.nil _ _,Cc.nil _ _ _,aL⟩
   subst X;have b6:Z=zQ l (F- (L.length+1)) q (L.map (·.1)++[kU g pp]):=by rw[bI.o,if_pos rfl]
   have c7:=ae b6;have c8:=ae (cr.o rfl);clear bH b6;obtain⟨b1,bJ⟩:=ay R.heap.size;rw[bJ] at bk bl;go_upto_region 14 with fail;try rw[bJ]
   generalize R.alloc (tO q E H)=z at*;clear bJ;have hown: ∀j,(Value.slice C L.length D).ownBlock=some j->w.heap.size+2<=j/\j<wr.heap.size:=fun j e=>bp.o.own.lt j e;have T:=ae hown;have bm:=((uR z).drew).alloc (aH (g:Int) pa pp.length p);have c9:Hid ((z.drew.alloc (aH (g:Int) pa pp.length p)).ownsRow (w.heap.size+2) 65 2 (.slice C L.length D) L.length (L.flatMap vY)):=ae (bM (bM bp.o.own b0.o (fun _ _ h=>h)) bm (fun _ _ h=>h));have dw:Hid (∀(j:Nat) (u:Value),[Value.int .i64 (g:Int),.slice pa pp.length p][j]?=some u->(z.drew.alloc (aH (g:Int) pa pp.length p)).cell? ((⟨z.drew.heap.size,0,none⟩:Addr).add j)=some u):=ae (anm z.drew _ _ 65);have dx:Hid (∀u∈[Value.int .i64 (g:Int),.slice pa pp.length p],u.oneCell'=true):=ae (fun u hu=>by simp at hu;rcases hu with h|h<;>(subst h;rfl));have dK:L.length+1<=2001:=by omega
   have b2:Hid (L.length+1<=maxLen/\(L.length+1)*32<=140737488355328/\w.heap.size+2<=(z.drew.alloc (aH (g:Int) pa pp.length p)).heap.size):=ae ⟨by unfold maxLen;omega,by omega,Nat.le_trans cR.o bm.size⟩;have da:=ae (bm.heap dv.o id);have db: ∀x:XF (fun j=>(Value.slice C L.length D).ownBlock=some j) z,x.val.cell? ⟨b1,0,none⟩=some (.string q.name):=fun x=>x.upd.cell (ag bk.o 0 _ rfl) (fun e=>by have:=(T.o _ e).2;have:=bl.o;dsimp only at*;omega);have dc: ∀x:XF (fun j=>(Value.slice C L.length D).ownBlock=some j) z,x.val.cell? ⟨b1,1,none⟩=some (.string q.sort):=fun x=>x.upd.cell (ag bk.o 1 _ rfl) (fun e=>by have:=(T.o _ e).2;have:=bl.o;dsimp only at*;omega);have dd: ∀x:XF (fun j=>(Value.slice C L.length D).ownBlock=some j) z,x.val.cell? ⟨b1,2,none⟩=some (.slice E q.kids.length H):=fun x=>x.upd.cell (ag bk.o 2 _ rfl) (fun e=>by have:=(T.o _ e).2;have:=bl.o;dsimp only at*;omega);have de: ∀x:XF (fun j=>(Value.slice C L.length D).ownBlock=some j) z,x.val.cell? ⟨cO,0,none⟩=some (.int .i64 (g:Int)):=fun x=>x.upd.cell (ag cQ.o 0 _ rfl) (fun e=>by have:=(T.o _ e).2;have:=bZ.o;dsimp only at*;omega);have df: ∀x:XF (fun j=>(Value.slice C L.length D).ownBlock=some j) z,x.val.cell? ⟨cO,1,none⟩=some (.slice pa pp.length p):=fun x=>x.upd.cell (ag cQ.o 1 _ rfl) (fun e=>by have:=(T.o _ e).2;have:=bZ.o;dsimp only at*;omega);obtain⟨dy,hi,ct,cu,aJ⟩:=info_parts ahl;clear bm hown;refine DX [(0,0),(1,0),(2,0),(3,1),(4,1),(5,2),(6,2)] 5 (fun W=> ∃x:XF (fun j=>(Value.slice C L.length D).ownBlock=some j) z,W=x.val) (by kernel_rfl) (by kernel_rfl) (fun _ _ d _ _ h=>by cases d<;>exact h) ⟨⟨_,(au.refl _ z).drew⟩,rfl⟩ ?_;simp only[fA,List.getElem?_cons_zero,List.getElem?_cons_succ]
   iterate 3(refine Qm (fun K hK=>?_);go_simp;refine hK _ ?_;clear hK K)
   refine mY (fun K hK hS=>?_) ⟨⟨_,(au.refl _ z).drew⟩,rfl⟩;go_simp;refine hK _ _ ⟨⟨_,((au.refl _ z).drew).alloc _⟩,rfl⟩ ?_;clear hK K hS db dc dd de df;refine mY (fun K hK hS=>?_) ⟨⟨_,(((au.refl _ z).drew).alloc _)⟩,rfl⟩;clear hS;refine d_ _ (.tmp 58) (.tmp 60) 54 rfl (w.heap.size+2) 65 dy (.agg #[.int .i64 0,.slice none 0 0]) 2 32 Tryz.underlying54 hi ct cu aJ rfl (by decide) _ _ _ rfl c9.o _ 1 1 [Value.int .i64 (g:Int),.slice pa pp.length p] rfl rfl dw.o dx.o b2.o.1 b2.o.2.1 b2.o.2.2 ?_;intro dV b3 Y;obtain⟨b4,b5,dh⟩:=bF Y.own;subst dh;refine hK _ _ ⟨⟨_,((((au.refl _ z).drew).alloc (aH (g:Int) pa pp.length p))).trans (Y.upd)⟩,rfl⟩ ?_;clear hK K;have bn:=Y.upd.heap da.o (fun e=>by have:=T.o _ e;omega);obtain⟨J,M,O⟩:=ah bn;have f7:=fun i=>ax bn i;refine fD (fun K hK=>?_);go_simp;refine hK _ _ ?_;clear hK K;refine fD (fun K hK=>?_);go_simp;refine hK _ _ ?_;clear hK K;simp only[dA];have cv:vY ((kU g pp,pa,p):Xe)=[Value.int .i64 (g:Int),.slice pa pp.length p]:=by simp[vY,FZ,kU]
   have Y:Grew (w.heap.size+2) 65 2 (.slice C L.length D) (L.length+1) (L.flatMap vY++vY ((kU g pp,pa,p):Xe)) (z.drew.alloc (aH (g:Int) pa pp.length p)) b3 (.slice b4 (L.length+1) b5):=by rw[cv];exact Y
   have cw:=bp.o.grow aY.o b0.o (x:=(kU g pp,pa,p)) (by
    have:=Ky c5.o;have e:FZ ((kU g pp,pa,p):Xe)= .slice pa pp.length p:=by simp[FZ,kU]
    rw[e];exact this) c6.o (((uR z).drew).alloc (aH (g:Int) pa pp.length p)) (fun _ h=>h.elim) Y
   have di:=ae (aO bn (.string q.name) (.string q.sort) (.slice E q.kids.length H));have aD:=ae (aN b3 w.heap.size (.string q.name) (.string q.sort) (.slice E q.kids.length H));have aE:au (fun j=>(Value.slice C L.length D).ownBlock=some j) z b3:=((((uR z).drew).alloc (aH (g:Int) pa pp.length p)).mono (fun _ _ h=>h.elim)).trans Y.upd;have cx:=Y.xK;have cy:=ae (cw.kept aD.o (fun j b _ e=>by omega));have dz:=ae ((cP.o.trans' aE (fun j b e=>by have:=T.o _ e;omega)).trans' aD.o (fun j b e=>by omega));have dB:=ae (aD.o.heap (aE.heap bt.o (fun e=>by have:=T.o _ e;omega)) (by omega));have cz:=ae (((c4.o.kept aE (fun j b e=>by have:=T.o _ e;omega)).kept aD.o (fun j b e=>by have:=aY.o;omega)).weaken (fun j b=>(⟨by have:=aY.o;omega,aP b.2 (Nat.le_trans aE.size aD.o.size),fun e=>by
    rcases cx with h|h
    .rw [h] at e;have:=T.o _ e;omega
    .rw [h] at e;injection e with e;have:=b.2;have dW:z.heap.size< (z.drew.alloc (aH (g:Int) pa pp.length p)).heap.size:=by simp;
     omega⟩:w.heap.size+2<=j/\j<_/\(Value.slice b4 (L.length+1) b5).ownBlock≠some j)))
   have dC:=ae (Nat.le_trans cR.o (Nat.le_trans aE.size aD.o.size));have hlen:(L++[((kU g pp,pa,p):Xe)]).length=L.length+1:=by simp
   have dj:Hid (zQ l (F- (L++[((kU g pp,pa,p):Xe)]).length) q ((L++[((kU g pp,pa,p):Xe)]).map (·.1))=Z):=ae (by rw[hlen,List.map_append];exact c7.o.symm);rw[<-hlen] at cy cz⊢;clear cw cx aE bn cv Y J M O f7 hi ct cu aJ;go_wp2_with fail;go_roundg (F- (L++[((kU g pp,pa,p):Xe)]).length);case measure=>rw[hlen];omega
   case rel=>exact⟨_,q,b4,E,b5,H,by rw[hlen],rfl,by rw[hlen];omega,cy,di,dB,cz,dz,dC,c8,dj⟩
theorem aaF (l:List Rl) (t:Tm) (fuel:Int) (lv v:Value) (w:World) (A:jH (fun k=>k<w.heap.size) w l lv) (H:bQ (fun k=>k<w.heap.size) w t v) (C:dI w) (L:l.length<=1000000) (D: ∀r∈l,r.1.size<=100000/\r.2.size<=100000) (E:dQ l=true->∀r∈l,r.2.size<=60) (M:t.size<=100000) (N: -9223372036854775808<=fuel/\fuel<=9223372036854775807):
  Calls Tryz.prog 38 #[lv,v,.int .i64 fuel] w fun e w'=> ∃r,e= .returned (.tuple #[tV (uu l t fuel).1 r,.int .i64 ((uu l t fuel).2.1.length:Int),.int .i64 (uu l t fuel).2.2])/\aG (fun k=>w.heap.size<=k/\k<w'.heap.size) w' (uu l t fuel).1.kids r/\Ext w w':=by
 obtain⟨Z,I⟩:=ay (uu l t fuel);have p:=ae (fun(W:World) (hW:Ext w W)=>akh l t fuel lv v W ((A.ext hW).weaken (bW hW)) ((H.ext hW).weaken (bW hW)) (aT C hW) L D E M N);rw[I] at p⊢;obtain⟨b,U,V⟩:=Z;obtain⟨an,lc,rfl⟩:=A.shape;obtain⟨a,cap,rfl,O⟩:=H;dsimp only[tV] at p⊢;have u:=ae (((uR w).alloc (tO t a cap)).alloc zO);have F:=ae (ak (aj w (tO t a cap)) zO);have H1:=ae (alloc_at (w.alloc (tO t a cap)) zO (n:=w.heap.size+1) (by simp));have G:w.heap.size+2<=((w.alloc (tO t a cap)).alloc zO).heap.size:=by simp
 have h:=ae G;clear G;obtain⟨X,Y,aa⟩:=ah F.o;clear A C D E O I;go_enter Tryz.func38,Tryz.ntmps38;go_wp2_with fail;generalize ((w.alloc (tO t a cap)).alloc zO)=w1 at*;refine(p.o _ u.o).mono ?_;rintro e w3 ⟨r,ao,rfl,x,J,y⟩;obtain⟨c,d,P⟩:=x.shape;subst P;obtain⟨aq,rc,Q⟩:=J.shape;subst Q;have q:=y.alloc (tO b c d);have ab:=ae (u.o.trans q);have B:=ae (q.heap H1.o id);have K:=ae (aj w3 (tO b c d));have ar:Hid (w.heap.size+2<=(w3.alloc (tO b c d)).heap.size):=ae (Nat.le_trans h.o q.size);have ad:Hid (w.heap.size+2<=w3.heap.size):=ae (Nat.le_trans h.o y.size);have R:Hid (aG (fun j=>w.heap.size+2<=j/\j< (w3.alloc (tO b c d)).heap.size) (w3.alloc (tO b c d)) b.kids (.slice c b.kids.length d)):=ae ((x.ext ((uR w3).alloc (tO b c d))).weaken (fun j g=>⟨by have:=h.o;omega,aP g.2 ((uR w3).alloc (tO b c d)).size⟩));clear x J y q p u F H1 h X Y aa;dsimp only;obtain⟨au,z⟩:=ay w3.heap.size;rw[z] at K ad;obtain⟨m0,m1,m2⟩:=ah K.o;have f2:=fun i=>ax B.o i;obtain⟨d0,d1,d2⟩:=ah B.o
 go_wp2_with fail;try rw[z]
 generalize w3.alloc (tO b c d)=af at*;clear z;have S:=aO B.o (.string b.name) (.string b.sort) (.slice c b.kids.length d);have hu:=aN af (w.heap.size+1) (.string b.name) (.string b.sort) (.slice c b.kids.length d);obtain⟨ag,ai,al⟩:=ah S;refine bodyPost_ret (v:= .tuple #[.agg #[.string b.name,.string b.sort,.slice c b.kids.length d],.int .i64 (U.length:Int),.int .i64 V]) (by simp[results,Tryz.results38,go_sem,ag,ai,al]) rfl ?_;have T:=ab.o.trans' hu (fun j g e=>by omega);have hk:=(R.o.kept hu (fun j g e=>by omega)).weaken (fun j g=>(⟨by omega,aP g.2 hu.size⟩:w.heap.size<=j/\j<_));exact⟨.slice c b.kids.length d,rfl,hk,T⟩
def wR (r:Rl):Bool:=qA [r.1]||qA [r.2]||(formed aC r.1&&decide (60<r.1.size))||(formed aC r.2&&decide (60<r.2.size))
def F6 (l:List Rl):Bool:=(decide (20<l.length)&&decide (l.length<=100))||decide (110<l.length)||l.any wR
theorem aes (x y:Tm) (c a:Option Addr) (d b:Nat) (w:World) (h1:aG (fun k=>k<w.heap.size) w x.kids (.slice c x.kids.length d)) (M:aG (fun k=>k<w.heap.size) w y.kids (.slice a y.kids.length b)):
  Calls Tryz.prog 107 #[.agg #[.string x.name,.string x.sort,.slice c x.kids.length d,.string y.name,.string y.sort,.slice a y.kids.length b]] w fun e w'=>e= .returned (.bool (wR (x,y)))/\Ext w w':=by
 obtain⟨Z,ab⟩:=ay (wR (x,y));rw[ab];have ai:=qU (nm:=aC) x;have aK:=qU (nm:=aC) y;have N:=ae (fun W (hW:Ext w W)=>Bj x 1 1000 (tV x (.slice c x.kids.length d)) _ W ⟨c,d,rfl,h1.ext hW⟩ (by decide) (by decide) (by decide));have E:=ae (fun W (hW:Ext w W)=>Bj y 1 1000 (tV y (.slice a y.kids.length b)) _ W ⟨a,b,rfl,M.ext hW⟩ (by decide) (by decide) (by decide));have al:=ae (fun(hs:x.size<=1000000) W (hW:Ext w W)=>GV x (tV x (.slice c x.kids.length d)) _ W ⟨c,d,rfl,h1.ext hW⟩ hs);have an:=ae (fun(hs:y.size<=1000000) W (hW:Ext w W)=>GV y (tV y (.slice a y.kids.length b)) _ W ⟨a,b,rfl,M.ext hW⟩ hs);have ao:=((uR w).alloc (aA x.name x.sort c x.kids.length d y.name y.sort a y.kids.length b))
 have L:=ao.alloc (tO x c d);have aq:=ae L;have ad:=ae (O4 [x] _ (fun k=>k< ((w.alloc (aA x.name x.sort c x.kids.length d y.name y.sort a y.kids.length b)).alloc (tO x c d)).heap.size) _ (J7 (n:=w.heap.size+1) (alloc_at (w.alloc (aA x.name x.sort c x.kids.length d y.name y.sort a y.kids.length b)) (tO x c d) (by simp)) (by simp) ((h1.ext L).weaken (bW L))) (fun k hk=>hk) (by simp));have U:=ae (fun W (hW:Ext w W)=>O4 [y] (.slice (az W.heap.size) 1 1) (fun k=>k< (W.alloc (tO y a b)).heap.size) (W.alloc (tO y a b)) (J7 (aj W (tO y a b)) (by simp) ((M.ext (hW.alloc (tO y a b))).weaken (fun k hk=>aP hk (hW.alloc (tO y a b)).size))) (fun k hk=>hk) (by simp));have ar:=ae (ak (aj w (aA x.name x.sort c x.kids.length d y.name y.sort a y.kids.length b)) (tO x c d));have au:=aj w (aA x.name x.sort c x.kids.length d y.name y.sort a y.kids.length b);obtain⟨g,i,j,l,p,q⟩:=eY au;have D:Z=(qA [x]||qA [y]||(formed aC x&&decide (60<x.size))||(formed aC y&&decide (60<y.size))):=ab.symm;rw[ai,aK] at D;have av:qA [x]=false->x.size<=1000000:=fun h=>by have:=uQ h;omega
 have aw:qA [y]=false->y.size<=1000000:=fun h=>by have:=uQ h;omega
 obtain⟨s1,F⟩:=ay (small aC 1 1000 x);obtain⟨s2,C⟩:=ay (small aC 1 1000 y);rw[F] at D N;rw[C] at D E;have H:=ae (fun h=>al.o (av h));have I:=ae (fun h=>an.o (aw h));obtain⟨aM,S⟩:=ay (qA [x]);obtain⟨aN,T⟩:=ay (qA [y]);obtain⟨J,A⟩:=ay x.size;obtain⟨z,r⟩:=ay y.size;rw[S,T,A,r] at D;rw[S] at ad H;rw[T] at U I;rw[A] at H;rw[r] at I;have B:=ae D;dsimp only[tV] at N E H I;clear D ab ai aK h1 M ao L au av aw F C S T A r al an;go_enter Tryz.func107,Tryz.ntmps107;go_wp2_with fail;generalize (w.alloc (aA x.name x.sort c x.kids.length d y.name y.sort a y.kids.length b)).alloc (tO x c d)=w1 at*;refine ad.o.mono ?_;rintro e w3 ⟨rfl,V⟩;have O:=ae (aq.o.trans V);have X:=ae (V.heap ar.o id);clear V ad aq ar g i j l p q;cases aM with
 |true=>
  obtain rfl:Z=true:=by have h:=B.o;simp[] at h;exact h
  go_wp2_with fail;go_ret;exact⟨by first|rfl|simp,O.o⟩
 |false=>
  have ax:=ae (H.o rfl);clear H;obtain⟨g,i,j,l,p,q⟩:=eY X.o;go_wp2_with fail;refine(U.o _ O.o).mono ?_;rintro e aX ⟨rfl,Y⟩;have af:=ae (O.o.trans (((uR w3).alloc (tO y a b)).trans Y));have aB:=ae (Y.heap (ak X.o (tO y a b)) id);clear Y U O X g i j l p q;cases aN with
  |true=>
   obtain rfl:Z=true:=by have h:=B.o;simp[] at h;exact h
   go_wp2_with fail;go_ret;exact⟨by first|rfl|simp,af.o⟩
  |false=>
   have P:=ae (I.o rfl);clear I;obtain⟨g,i,j,l,p,q⟩:=eY aB.o;go_wp2_with fail;refine(N.o _ af.o).mono ?_;rintro e aO ⟨rfl,t⟩;have Q:=ae (af.o.trans t);have R:=ae (t.heap aB.o id);clear t N g i j l p q;by_cases F:0<=s1
   .have t1:decide ((0:Int)<=s1)=true:=dT F;have aL:=ae (ax.o _ Q.o);clear ax;obtain⟨g,i,j,l,p,q⟩:=eY R.o;go_wp2_with fail;refine aL.o.mono ?_;rintro e aQ ⟨rfl,u⟩;have aa:=ae (Q.o.trans u);have aD:=ae (u.heap R.o id);clear u aL g i j l p q;by_cases aE:(60:Int)< (J:Int)
    .have u1:decide ((60:Int)< (J:Int))=true:=dT aE;have A:60<J:=by omega
     obtain rfl:Z=true:=by have h:=B.o;simp[A,t1] at h;exact h
     go_wp2_with fail;go_ret;exact⟨by first|rfl|simp,aa.o⟩
    .have u1:decide ((60:Int)< (J:Int))=false:=dF aE;have A: ¬60<J:=by omega
     obtain⟨g,i,j,l,p,q⟩:=eY aD.o;go_wp2_with fail;refine(E.o _ aa.o).mono ?_;rintro e aR ⟨rfl,t⟩;have ag:=ae (aa.o.trans t);have aF:=ae (t.heap aD.o id);clear t E g i j l p q;by_cases C:0<=s2
     .have t2:decide ((0:Int)<=s2)=true:=dT C;have K:=ae (P.o _ ag.o);clear P;obtain⟨g,i,j,l,p,q⟩:=eY aF.o;go_wp2_with fail;refine K.o.mono ?_;rintro e aS ⟨rfl,u⟩;have aH:=ae (ag.o.trans u);have aT:=ae (u.heap aF.o id);clear u K g i j l p q;by_cases G:(60:Int)< (z:Int)
      .have u2:decide ((60:Int)< (z:Int))=true:=dT G;have r:60<z:=by omega
       obtain rfl:Z=true:=by have h:=B.o;simp[A,t1,r,t2] at h;exact h
       go_wp2_with fail;go_ret;exact⟨by first|rfl|simp,aH.o⟩
      .have u2:decide ((60:Int)< (z:Int))=false:=dF G;have r: ¬60<z:=by omega
       obtain rfl:Z=false:=by have h:=B.o;simp[A,t1,r,t2] at h;exact h
       go_wp2_with fail;go_ret;exact⟨by first|rfl|simp,aH.o⟩
     .have t2:decide ((0:Int)<=s2)=false:=dF C;obtain rfl:Z=false:=by have h:=B.o;simp[A,t1,t2] at h;exact h
      go_wp2_with fail;go_ret;exact⟨by first|rfl|simp,ag.o⟩
   .have t1:decide ((0:Int)<=s1)=false:=dF F;obtain⟨g,i,j,l,p,q⟩:=eY R.o;go_wp2_with fail;refine(E.o _ Q.o).mono ?_;rintro e aU ⟨rfl,t⟩;have ah:=ae (Q.o.trans t);have aI:=ae (t.heap R.o id);clear t E g i j l p q;by_cases C:0<=s2
    .have t2:decide ((0:Int)<=s2)=true:=dT C;have K:=ae (P.o _ ah.o);clear P;obtain⟨g,i,j,l,p,q⟩:=eY aI.o;go_wp2_with fail;refine K.o.mono ?_;rintro e aV ⟨rfl,u⟩;have aJ:=ae (ah.o.trans u);have aW:=ae (u.heap aI.o id);clear u K g i j l p q;by_cases G:(60:Int)< (z:Int)
     .have u2:decide ((60:Int)< (z:Int))=true:=dT G;have r:60<z:=by omega
      obtain rfl:Z=true:=by have h:=B.o;simp[t1,r,t2] at h;exact h
      go_wp2_with fail;go_ret;exact⟨by first|rfl|simp,aJ.o⟩
     .have u2:decide ((60:Int)< (z:Int))=false:=dF G;have r: ¬60<z:=by omega
      obtain rfl:Z=false:=by have h:=B.o;simp[t1,r,t2] at h;exact h
      go_wp2_with fail;go_ret;exact⟨by first|rfl|simp,aJ.o⟩
    .have t2:decide ((0:Int)<=s2)=false:=dF C;obtain rfl:Z=false:=by have h:=B.o;simp[t1,t2] at h;exact h
     go_wp2_with fail;go_ret;exact⟨by first|rfl|simp,ah.o⟩
theorem YK (L:List Rl) (v:Value) (w:World) (hR:jH (fun k=>k<w.heap.size) w L v) (hl:L.length<=1000000):
  Calls Tryz.prog 165 #[v,.func (.func 107) #[] #[]] w fun e w'=> ∃r:Int,e= .returned (.int .i64 r)/\decide (0<=r)=L.any wR/\Ext w w':=by
 obtain⟨a,cap,rfl⟩:=hR.shape;have K:=ae hR;clear hR;go_enter Tryz.func165,Tryz.ntmps165;go_wp2_with fail;go_loopg [8] L.length (fun gk M wr=> ∃k:Nat,M= .int .i64 (k:Int)/\gk=L.length-k/\k<=L.length/\Hid (Ext w wr)/\Hid ((L.take k).any wR=false));case atStart=>exact⟨0,rfl,rfl,Nat.zero_le _,ae (au.refl _ _),ae rfl⟩
 case round=>
  obtain⟨k,rfl,rfl,hk,d,n⟩:=hrel;by_cases c:k<L.length
  .obtain ⟨g,off,J,_,D⟩:=(K.o.ext d.o).at_ (by omega);subst J;obtain⟨N,O,P,Q,p,q,t,u,z,A,E,F⟩:=D k c;obtain⟨z0,V,z2,U⟩:=bH c;have C:rg L k∈L:=by
    unfold Go.Hw.rg;rw[gZ c];exact List.getElem_mem c
   have G:L.take (k+1)=L.take k++[rg L k]:=by
    unfold Go.Hw.rg;rw[List.getD_eq_getElem?_getD,List.getElem?_eq_getElem c];rw[List.take_add_one,List.getElem?_eq_getElem c];rfl
   have i:=ae (aes (rg L k).1 (rg L k).2 N P O Q wr (E.weaken (bW d.o)) (F.weaken (bW d.o)));have j:Hid (wR (rg L k)=false->(L.take (k+1)).any wR=false):=ae (fun h=>by
    rw[G,List.any_append,n.o,List.any_cons,List.any_nil,h];rfl)
   have l:Hid (wR (rg L k)=true->L.any wR=true):=ae (fun h=>List.any_eq_true.2 ⟨_,C,h⟩);obtain⟨⟨x,y⟩,hx⟩: ∃x,rg L k=x:=⟨_,rfl⟩
   rw[hx] at p q t u z A i j l;simp only at p q t u z A i;obtain⟨b,hb⟩:=ay (wR (x,y));rw[hb] at i j l;clear D C hx hb n E F G;go_wp2_with fail;refine i.o.mono ?_;rintro e W ⟨rfl,H⟩;have I:=ae (d.o.trans H);clear H p q t u z A i d;cases b
   .have R:=ae (j.o rfl);clear j l;go_wp2_with fail;go_roundg (L.length- (k+1));case measure=>omega
    case rel=>exact⟨k+1,by go_num,rfl,by omega,I,R⟩
   .have S:=ae (l.o rfl);clear j l;go_wp2_with fail;go_ret;exact⟨_,rfl,by rw[S.o];exact dT z0,I.o⟩
  .obtain rfl:k=L.length:=by omega
   have z2:decide ((L.length:Int)< (L.length:Int))=false:=dF (by omega);have B:=n.o;rw[List.take_length] at B;have T:=ae B;clear B;go_wp2_with fail;go_ret;exact⟨_,rfl,by rw[T.o];rfl,d.o⟩
theorem YL (L:List Rl) (v:Value) (w:World) (hR:jH (fun k=>k<w.heap.size) w L v) (hl:L.length<=1000000):
  Calls Tryz.prog 106 #[v,.func (.func 107) #[] #[]] w fun e w'=>e= .returned (.bool (L.any wR))/\Ext w w':=by
 have c:=ae (YK L v w hR hl);clear hR;go_enter Tryz.func106,Tryz.ntmps106;go_wp2_with fail;refine c.o.mono ?_;rintro e g ⟨r,rfl,hr,a⟩;have d:=ae a;have b:=ae hr;clear a hr;go_wp2_with fail;go_ret;rw[<-b.o];exact⟨rfl,d.o⟩
theorem aet (L:List Rl) (v:Value) (w:World) (hR:jH (fun k=>k<w.heap.size) w L v) (hl:L.length<=maxLen):
  Calls Tryz.prog 36 #[v] w fun e w'=>e= .returned (.bool (F6 L))/\Ext w w':=by
 have c:=ae (fun h=>YL L v w hR h);obtain⟨Z,j⟩:=ay (F6 L);rw[j];have g:Hid (Z=((decide (20<L.length)&&decide (L.length<=100))||decide (110<L.length)||L.any wR)):=ae j.symm;obtain⟨a,cap,rfl⟩:=hR.shape;obtain⟨b,hb⟩:=ay (L.any wR);rw[hb] at c g;have l:Hid (Ext w w):=ae (au.refl _ _);clear hR j hb;have d:=c;clear c;obtain⟨n,hn⟩:=ay L.length;rw[hn] at d g hl⊢;by_cases p:20<n
 .have t1:decide ((20:Int)< (n:Int))=true:=dT (by omega);by_cases q:n<=100
  .have t2:decide ((n:Int)<=(100:Int))=true:=dT (by omega);obtain rfl:Z=true:=by have h:=g.o;simp[p,q] at h;exact h
   clear d;go_enter Tryz.func36,Tryz.ntmps36;go_wp2_with fail;go_ret;exact⟨rfl,l.o⟩
  .have t2:decide ((n:Int)<=(100:Int))=false:=dF (by omega);by_cases r:110<n
   .have t3:decide ((110:Int)< (n:Int))=true:=dT (by omega);obtain rfl:Z=true:=by have h:=g.o;simp[r] at h;exact h
    clear d;go_enter Tryz.func36,Tryz.ntmps36;go_wp2_with fail;go_ret;exact⟨rfl,l.o⟩
   .have t3:decide ((110:Int)< (n:Int))=false:=dF (by omega);have d2:decide (n<=100)=false:=dF q;have d3:decide (110<n)=false:=dF r;obtain rfl:Z=b:=by have h:=g.o;simpa[d2,d3] using h
    have c:=ae (d.o (by omega));clear d;go_enter Tryz.func36,Tryz.ntmps36;go_wp2_with fail;refine c.o.mono ?_;rintro e t ⟨rfl,i⟩;go_wp2_with fail;go_ret;exact⟨rfl,i⟩
 .have t1:decide ((20:Int)< (n:Int))=false:=dF (by omega);have t3:decide ((110:Int)< (n:Int))=false:=dF (by omega);have d1:decide (20<n)=false:=dF p;have d3:decide (110<n)=false:=dF (by omega);obtain rfl:Z=b:=by have h:=g.o;simpa[d1,d3] using h
  have c:=ae (d.o (by omega));clear d;go_enter Tryz.func36,Tryz.ntmps36;go_wp2_with fail;refine c.o.mono ?_;rintro e t ⟨rfl,i⟩;go_wp2_with fail;go_ret;exact⟨rfl,i⟩
theorem ahv (p q:List Int) (v u:Value) (S T:Nat->Prop) (w:World) (hp:tC S w v p) (t:tC T w u q) (P:p.length<=1000000):
  Calls Tryz.prog 113 #[v,u] w fun e w'=>e= .returned (.bool (decide (p=q)))/\Ext w w':=by
 have E:=ae hp;have F:=ae t;obtain⟨a,c,rfl⟩:=hp.shape;obtain⟨b,d,rfl⟩:=t.shape;obtain⟨Z,z⟩:=ay (decide (p=q));rw[z];have A:=ae z.symm;have G:Hid (Ext w w):=ae (au.refl _ _);clear hp t z;by_cases hl:p.length=q.length;rotate_left
 .have R:((p.length:Int)==(q.length:Int))=false:=beq_eq_false_iff_ne.2 (by omega);have U:decide ((p.length:Int)=(q.length:Int))=false:=dF (by omega);obtain rfl:Z=false:=by rw[A.o];exact dF (fun h=>hl (by rw[h]))
  clear hl E F;go_enter Tryz.func113,Tryz.ntmps113;go_wp2_with fail;go_ret;exact⟨rfl,G.o⟩
 have B:=ae hl.symm;rw[B.o];clear hl;go_enter Tryz.func113,Tryz.ntmps113;go_wp2_with fail;go_loopg [5] p.length (fun gk J wr=> ∃k:Nat,J= .int .i64 (k:Int)/\gk=p.length-k/\k<=p.length/\Hid (∀j,j<k->p[j]?=q[j]?)/\Hid (Ext w wr));case atStart=>exact⟨0,rfl,rfl,Nat.zero_le _,ae (fun j h=>absurd h (Nat.not_lt_zero _)),G⟩
 case round=>
  obtain⟨k,rfl,rfl,hk,l,n⟩:=hrel;by_cases C:k<p.length
  .have H:k<q.length:=by have:=B.o;omega
   obtain⟨g,off,V,e,_,_,r⟩:=aB.pos (aB.kept E.o n.o (fun _ _ h=>h)) (by omega);injection e with e K L
   subst e;obtain⟨g2,M,d',e,_,_,D⟩:=aB.pos (aB.kept F.o n.o (fun _ _ h=>h)) (by omega);injection e with e N O
   subst e;obtain⟨x,hx⟩: ∃x,p[k]?=some x:=⟨_,List.getElem?_eq_getElem C⟩
   obtain⟨y,hy⟩: ∃y,q[k]?=some y:=⟨_,List.getElem?_eq_getElem H⟩
   have W:wr.cell? ⟨g,off+k,none⟩=some (.int .i64 x):=by rw[r k (by omega),List.getElem?_map,hx];rfl
   have X:wr.cell? ⟨g2,M+k,none⟩=some (.int .i64 y):=by rw[D k (by omega),List.getElem?_map,hy];rfl
   obtain⟨z0,Y,z2,Q⟩:=bH C;clear r D K L N O;by_cases i:x=y
   .subst i;have I:Hid (∀j,j<k+1->p[j]?=q[j]?):=ae (fun j h=>by
     rcases Nat.lt_succ_iff_lt_or_eq.1 h with h|h
     .exact l.o j h
     .rw [h,hx,hy])
    clear hx hy l;go_wp2_with fail;go_quiet (fail);go_wp2_with fail;go_roundg (p.length- (k+1));case measure=>omega
    case rel=>exact⟨k+1,by go_num,rfl,by omega,I,ae (n.o.drewN' _)⟩
   .have t1:(x==y)=false:=beq_eq_false_iff_ne.2 i;have t2:decide (x=y)=false:=dF i;obtain rfl:Z=false:=by
     rw[A.o];refine dF (fun h=>i ?_);rw[h,hy] at hx;exact(Option.some.inj hx).symm
    clear hx hy l i;go_wp2_with fail;go_quiet (fail);go_wp2_with fail;go_ret;exact⟨rfl,n.o.drewN' _⟩
  .obtain rfl:k=p.length:=by omega
   have z2:decide ((p.length:Int)< (p.length:Int))=false:=dF (by omega);obtain rfl:Z=true:=by
    rw[A.o];refine dT (List.ext_getElem? (fun j=>?_));by_cases r:j<p.length
    .exact l.o j r
    .rw [List.getElem?_eq_none (by omega),List.getElem?_eq_none (by have:=B.o;omega)]
   clear l;go_wp2_with fail;go_ret;exact⟨rfl,n.o⟩
def AtR (S:Nat->Prop) (w:World) (t:Tm) (p:List Int) (e:Ending):Prop:=
 (iH t p=none/\e= .returned (.tuple #[.agg #[.string ⟨#[]⟩,.string ⟨#[]⟩,.slice none 0 0],.bool false]))\/∃x r,iH t p=some x/\e= .returned (.tuple #[tV x r,.bool true])/\aG S w x.kids r
theorem ahy (t:Tm) (p:List Int) (au pv:Value) (S T:Nat->Prop) (w:World) (aE:bQ S w t au) (hS: ∀k,S k->k<w.heap.size) (Y:tC T w pv p) (ai: ∀k,T k->k<w.heap.size) (hl:p.length<=1000000):
  Calls Tryz.prog 175 #[au,pv] w fun e w'=>AtR S w' t p e/\Ext w w':=by
 have aF:=ae Y;obtain⟨pa,aY,rfl⟩:=Y.shape;obtain⟨a,cap,rfl,q⟩:=aE;have Z:=((uR w).alloc (tO t a cap)).alloc zO;have av:=ae Z;have aw:=ae (q.ext Z);have l:=ae (ak (aj w (tO t a cap)) zO);have c:=ae (alloc_at (w.alloc (tO t a cap)) zO (n:=w.heap.size+1) (by simp));have al:w.heap.size+2<=((w.alloc (tO t a cap)).alloc zO).heap.size:=by simp
 have E:=ae al;have aa:=ae hS;have aH:=ae ai;clear Y q Z al hS ai;dsimp only[tV];go_enter Tryz.func175,Tryz.ntmps175;go_wp2_with fail;generalize ((w.alloc (tO t a cap)).alloc zO)=w1 at*;go_loopg [6] p.length (fun gk aI wr=> ∃(k:Nat) (x:Tm) (B:Option Addr) (C:Nat),aI= .int .i64 (k:Int)/\gk=p.length-k/\k<=p.length/\Hid (iH t p=iH x (p.drop k))/\Hid (wr.heap[w.heap.size]?=some (tO x B C))/\Hid (wr.heap[w.heap.size+1]?=some zO)/\Hid (aG S wr x.kids (.slice B x.kids.length C))/\Hid (Ext w wr)/\Hid (w.heap.size+2<=wr.heap.size));case atStart=>exact⟨0,t,a,cap,rfl,rfl,Nat.zero_le _,ae rfl,l,c,aw,av,E⟩
 case round=>
  clear aw av E l c;obtain⟨k,x,B,C,rfl,rfl,hk,ab,l,c,ad,A,E⟩:=hrel;obtain⟨U,V,W⟩:=ah l.o;have f1:=fun i=>ax l.o i;by_cases N:k<p.length
  .obtain ⟨g,off,aC,an,ao⟩:=aB.ve (d:=(0:Int)) (aB.kept aF.o A.o (fun _ _ h=>h)) (by omega);subst aC;have D:=ao k N;have aV:=aH.o _ an;obtain⟨z0,aZ,z2,aW⟩:=bH N;have hd:p.drop k=p.getD k 0::p.drop (k+1):=by
    rw[List.drop_eq_getElem_cons N,List.getD_eq_getElem?_getD,List.getElem?_eq_getElem N];rfl
   have hs:=ab.o;rw[hd,xM] at hs;have F:=ae hs;obtain⟨i,hi⟩:=ay (p.getD k 0);rw[hi] at D F;have q:=ad.o;clear ao hd hs hi ab ad an f1;by_cases O:i<0
   .have r:Hid (iH t p=none):=ae (by rw[F.o,if_pos (.inl O)]);have aJ:decide (i<0)=true:=dT O;go_wp2_with fail;go_quiet (fail);have b:=(uR wr).drewN' nq;have I:=ae (A.o.trans b);have J:=ae (b.heap l.o id);have u:=ae (b.heap c.o id);have P:=ae (q.ext b);have aq:=b.cell D id;have X:=ae (Nat.le_trans E.o b.size);clear b A l c q U V W D;generalize wr.drewN nq=wd at*;have f2:=fun i=>ax u.o i;obtain⟨d0,d1,d2⟩:=ah u.o
    go_wp2_with fail;have G:=aO u.o (.string ⟨#[]⟩) (.string ⟨#[]⟩) (.slice none 0 0);have hu:=aN wd (w.heap.size+1) (.string ⟨#[]⟩) (.string ⟨#[]⟩) (.slice none 0 0);obtain⟨K,L,M⟩:=ah G;refine bodyPost_ret (v:= .tuple #[.agg #[.string ⟨#[]⟩,.string ⟨#[]⟩,.slice none 0 0],.bool false]) (by simp[results,Tryz.results175,go_sem,K,L,M]) rfl ?_;have H:=I.o.trans' hu (fun j z e=>by omega);exact⟨.inl ⟨r.o,rfl⟩,H⟩
   have aJ:decide (i<0)=false:=dF O;by_cases Q:(x.kids.length:Int)<=i
   .have r:Hid (iH t p=none):=ae (by rw[F.o,if_pos (.inr Q)]);have aK:decide ((x.kids.length:Int)<=i)=true:=dT Q;go_wp2_with fail;go_quiet (fail);have b:=(uR wr).drewN' nq;have I:=ae (A.o.trans b);have J:=ae (b.heap l.o id);have u:=ae (b.heap c.o id);have P:=ae (q.ext b);have aq:=b.cell D id;have X:=ae (Nat.le_trans E.o b.size);clear b A l c q U V W D;generalize wr.drewN nq=wd at*;have f2:=fun i=>ax u.o i;obtain⟨d0,d1,d2⟩:=ah u.o
    go_wp2_with fail;have G:=aO u.o (.string ⟨#[]⟩) (.string ⟨#[]⟩) (.slice none 0 0);have hu:=aN wd (w.heap.size+1) (.string ⟨#[]⟩) (.string ⟨#[]⟩) (.slice none 0 0);obtain⟨K,L,M⟩:=ah G;refine bodyPost_ret (v:= .tuple #[.agg #[.string ⟨#[]⟩,.string ⟨#[]⟩,.slice none 0 0],.bool false]) (by simp[results,Tryz.results175,go_sem,K,L,M]) rfl ?_;have H:=I.o.trans' hu (fun j z e=>by omega);exact⟨.inl ⟨r.o,rfl⟩,H⟩
   have aK:decide ((x.kids.length:Int)<=i)=false:=dF Q;have r:Hid (iH t p=iH (tg x.kids i.toNat) (p.drop (k+1))):=ae (by rw[F.o,if_neg (by omega)]);obtain⟨j,rfl⟩: ∃j:Nat,i=(j:Int):=⟨i.toNat,by omega⟩
   have ar:((j:Int)).toNat=j:=by omega
   rw[ar] at r;have z:j<x.kids.length:=by omega
   have u0:(0:Int)<=(j:Int):=by omega
   have u1:(j:Int)< (x.kids.length:Int):=by omega
   go_wp2_with fail;go_quiet (fail);have b:=(uR wr).drewN' nq;have I:=ae (A.o.trans b);have J:=ae (b.heap l.o id);have u:=ae (b.heap c.o id);have P:=ae (q.ext b);have aq:=b.cell D id;have X:=ae (Nat.le_trans E.o b.size);clear b A l c q U V W D;generalize wr.drewN nq=wd at*;have a1:True:=trivial;obtain⟨g2,a6,aL,aM,az⟩:=P.o.at_ (by omega);subst aL;have aX:=aa.o _ aM;obtain⟨af,ag,aP,r1,r2,hy⟩:=az j z;rw[<-Nat.add_assoc] at r1 r2;obtain⟨y,aA⟩:=ay (tg x.kids j);rw[aA] at aP r1 r2 hy r;obtain⟨U,V,W⟩:=ah J.o;have f1:=fun i=>ax J.o i;have aQ:=ae hy;clear az aA hy F O Q ar P
   go_wp2_with fail;go_still_tail 8,(by kernel_rfl)
   change wpList _ _ _ _ _ wd.drew;go_wp2_with fail;have hu:=aN wd w.heap.size (.string y.name) (.string y.sort) (.slice af y.kids.length ag);have hr:=aO J.o (.string y.name) (.string y.sort) (.slice af y.kids.length ag);have R:=hu.drewN' 1;have aR:=ae (I.o.trans' R (fun j z e=>by omega));have aD:=ae (((uR _).drewN' 1).heap hr id);have aS:=ae (R.heap u.o (by omega));have aT:=ae (aQ.o.kept R (fun j z e=>by have:=aa.o _ z;omega));have aU:=ae (Nat.le_trans X.o R.size);go_roundg (p.length- (k+1));case measure=>omega
   case rel=>exact⟨k+1,y,af,ag,by go_num,rfl,by omega,r,aD,aS,aT,aR,aU⟩
  .obtain rfl:k=p.length:=by omega
   have z2:decide ((p.length:Int)< (p.length:Int))=false:=dF (by omega);have r:Hid (iH t p=some x):=ae (by rw[ab.o,List.drop_length];rfl);have f2:=fun i=>ax c.o i;obtain⟨d0,d1,d2⟩:=ah c.o
   go_wp2_with fail;have G:=aO c.o (.string x.name) (.string x.sort) (.slice B x.kids.length C);have hu:=aN wr (w.heap.size+1) (.string x.name) (.string x.sort) (.slice B x.kids.length C);obtain⟨K,L,M⟩:=ah G;refine bodyPost_ret (v:= .tuple #[.agg #[.string x.name,.string x.sort,.slice B x.kids.length C],.bool true]) (by simp[results,Tryz.results175,go_sem,K,L,M]) rfl ?_;have H:=A.o.trans' hu (fun j z e=>by omega);exact⟨.inr ⟨x,.slice B x.kids.length C,r.o,rfl,ad.o.kept hu (fun j z e=>by have:=aa.o _ z;omega)⟩,H⟩
theorem YO (t:Tm) (v:Value) (S:Nat->Prop) (w:World) (i:bQ S w t v):
  Calls Tryz.prog 178 #[v] w fun e w'=>e= .returned (.bool (formed aC t))/\Ext w w':=by
 have b:=qU (nm:=aC) t;have c:=fun W (hW:Ext w W)=>Bj t 1 1000 v _ W (i.ext hW) (by decide) (by decide) (by decide);obtain⟨sm,d⟩:=ay (small aC 1 1000 t)
 rw[d] at b;simp only[d] at c;rw[b];have g:=ae c;obtain⟨a,cap,rfl,l⟩:=i;have j:=(uR w).alloc (tO t a cap);have k:=ae j;have hb:=aj w (tO t a cap);obtain⟨n,p,q⟩:=ah hb;dsimp only[tV] at g⊢;clear j hb l c b d;go_enter Tryz.func178,Tryz.ntmps178;go_wp2_with fail;refine(g.o _ k.o).mono ?_;rintro e u ⟨rfl,h⟩;have r:=ae (k.o.trans h);clear h g n p q;go_wp2_with fail;go_ret;exact⟨rfl,r.o⟩
def xw (r:Rl) (u:Tm):Tm×Bool:=match kJ r.1 u [] with
 |none=>(dD,false)
 |some B=>if(bJ B r.2).size<=1000/\1+(bJ B r.2).depth<=61 then(bJ B r.2,true) else(dD,true)
theorem ahz (x y u:Tm) (c d:Option Addr) (g l:Nat) (ad:Value) (w:World) (h1:aG (fun k=>k<w.heap.size) w x.kids (.slice c x.kids.length g)) (aS:aG (fun k=>k<w.heap.size) w y.kids (.slice d y.kids.length l)) (aT:bQ (fun k=>k<w.heap.size) w u ad) (aF:u_ x) (ba:u_ y) (bb:x.size<=100000) (bc:y.size<=100000) (aH:u.size<=100000):
  Calls Tryz.prog 176 #[.agg #[.string x.name,.string x.sort,.slice c x.kids.length g,.string y.name,.string y.sort,.slice d y.kids.length l],ad] w fun e w'=> ∃r,e= .returned (.tuple #[tV (xw (x,y) u).1 r,.bool (xw (x,y) u).2])/\aG (fun k=>w.heap.size<=k/\k<w'.heap.size) w' (xw (x,y) u).1.kids r/\Ext w w':=by
 obtain⟨Z,af⟩:=ay (xw (x,y) u);rw[af];have aI:(dL x).length<=100000:=Nat.le_trans (U6 x) bb;have N:=ae (fun W (hW:Ext w W)=>N8 aI x u (tV x (.slice c x.kids.length g)) ad (.slice none 0 0) [] W ⟨c,g,rfl,(h1.ext hW).weaken (bW hW)⟩ ((aT.ext hW).weaken (bW hW)) (jb.nil _ _ _) (by omega) aH aF (fun f hf=>hf) (rQ.nil _ _));have M:=ae (fun C (hC:kJ x u []=some C)=>(BU (X:=dL x) (Y:=fun t=>t.size<=100000) (fun t x h hx=>Nat.le_trans (Nat.le_of_lt (ui hx)) h) x u [] C hC aF (fun f hf=>hf) aH (rQ.nil _ _)).1);have O:=ae (fun C (aV:rQ (dL x) (fun t=>t.size<=100000) C) (aW:Value) W (hW:Ext w W) (G:jb (fun k=>k<W.heap.size) (fun k=>k<W.heap.size) W aW C)=>aeh C aW _ _ W (ae G) (ae (fun k hk=>hk)) (ae (by have:=UI aV;omega)) (ae aV.val) y (tV y (.slice d y.kids.length l)) (fun k=>k<w.heap.size) W 1 1000 (au.refl _ _) ⟨d,l,rfl,aS.ext hW⟩ (bW hW) bc ba (by decide) (by decide));have Q:Z=match kJ x u [] with
  |none=>(dD,false)
  |some B=>if(bJ B y).size<=1000/\1+(bJ B y).depth<=61 then(bJ B y,true) else(dD,true):=af.symm
 obtain⟨o,ho⟩:=ay (kJ x u []);rw[ho] at Q N M;have ag:=ae Q;obtain⟨ua,uc,rfl,bg⟩:=aT;have aJ:=(((uR w).alloc (aA x.name x.sort c x.kids.length g y.name y.sort d y.kids.length l)).alloc (tO u ua uc)).alloc zO;have ai:=ae aJ;have R:=ae (ak (ak (aj w (aA x.name x.sort c x.kids.length g y.name y.sort d y.kids.length l)) (tO u ua uc)) zO);have aK:=ae (ak (alloc_at (w.alloc (aA x.name x.sort c x.kids.length g y.name y.sort d y.kids.length l)) (tO u ua uc) (n:=w.heap.size+1) (by simp)) zO);have aL:=ae (alloc_at ((w.alloc (aA x.name x.sort c x.kids.length g y.name y.sort d y.kids.length l)).alloc (tO u ua uc)) zO (n:=w.heap.size+2) (by simp));have aM:w.heap.size+3<=(((w.alloc (aA x.name x.sort c x.kids.length g y.name y.sort d y.kids.length l)).alloc (tO u ua uc)).alloc zO).heap.size:=by simp
 have aX:=ae aM;obtain⟨al,an,ao,aq,ar,av⟩:=eY R.o;obtain⟨bh,bj,bk⟩:=ah aK.o;dsimp only[tV] at N O⊢;clear Q af ho h1 aS bg aJ aM aI;go_enter Tryz.func176,Tryz.ntmps176;go_wp2_with fail;generalize (((w.alloc (aA x.name x.sort c x.kids.length g y.name y.sort d y.kids.length l)).alloc (tO u ua uc)).alloc zO)=w1 at*;refine(N.o _ ai.o).mono ?_;rintro e w3 ⟨r,rfl,hC,D⟩;have P:=ae (ai.o.trans D);have aY:=ae (D.heap R.o id);have H:=ae (D.heap aL.o id);have aw:=ae (Nat.le_trans aX.o D.size);clear D N ai R aK aL aX al an ao aq ar av bh bj bk;cases o with
 |none=>
  obtain rfl:Z=(dD,false):=ag.o;simp only[Option.isSome_none];clear hC M O;have f2:=fun i=>ax H.o i;obtain⟨d0,d1,d2⟩:=ah H.o
  go_wp2_with fail;have E:=aO H.o (.string ⟨#[]⟩) (.string ⟨#[]⟩) (.slice none 0 0);have hu:=aN w3 (w.heap.size+2) (.string ⟨#[]⟩) (.string ⟨#[]⟩) (.slice none 0 0);obtain⟨I,J,K⟩:=ah E;refine bodyPost_ret (v:= .tuple #[.agg #[.string ⟨#[]⟩,.string ⟨#[]⟩,.slice none 0 0],.bool false]) (by simp[results,Tryz.results176,go_sem,I,J,K]) rfl ?_;have F:=P.o.trans' hu (fun j L e=>by omega);exact⟨.slice none 0 0,rfl,aG.nil _ _,F⟩
 |some C=>
  have G:=hC C rfl;have aZ:=O.o C (M.o C rfl) r w3 P.o G;obtain⟨bn,rc,hr⟩:=G.shape;subst hr;have S:=ae aZ;simp only[Option.isSome_some];obtain⟨z,az⟩:=ay (bJ C y);have aQ:Z=if z.size<=1000/\1+z.depth<=61 then(z,true) else(dD,true):=by rw[<-az];exact ag.o
  rw[az] at S;have T:=ae aQ;clear aZ hC M O G az ag aQ;obtain⟨al,an,ao,aq,ar,av⟩:=eY aY.o;go_wp2_with fail;refine S.o.mono ?_;rintro e p ⟨q,a,b,aB,rfl,hQ,U⟩;have aC:=U.alloc (tO q a b);have a1:=ae (P.o.trans aC);have A:=ae (aC.heap H.o id);have a6:=ae (aj p (tO q a b));have bl:Hid (w.heap.size+3<=p.heap.size):=ae (Nat.le_trans aw.o U.size);have V:=ae hQ;clear U aC S P aY H al an ao aq ar av hQ;by_cases hf:z.size<=1000/\1+z.depth<=61;rotate_left
  .obtain rfl:Z=(dD,true):=by rw[T.o,if_neg hf]
   have aa:=V.o.2 hf;have t1:decide (aB<0)=true:=dT aa;have f2:=fun i=>ax A.o i;obtain⟨d0,d1,d2⟩:=ah A.o
   go_wp2_with fail;have E:=aO A.o (.string ⟨#[]⟩) (.string ⟨#[]⟩) (.slice none 0 0);have hu:=aN (p.alloc (tO q a b)) (w.heap.size+2) (.string ⟨#[]⟩) (.string ⟨#[]⟩) (.slice none 0 0);obtain⟨I,J,K⟩:=ah E;refine bodyPost_ret (v:= .tuple #[.agg #[.string ⟨#[]⟩,.string ⟨#[]⟩,.slice none 0 0],.bool true]) (by simp[results,Tryz.results176,go_sem,I,J,K]) rfl ?_;have F:=a1.o.trans' hu (fun j L e=>by omega);exact⟨.slice none 0 0,rfl,aG.nil _ _,F⟩
  obtain⟨rfl,bd,B,aR,a7⟩:=V.o.1 hf;obtain rfl:Z=(q,true):=by rw[T.o,if_pos hf]
  have aa: ¬aB<0:=by omega
  have t1:decide (aB<0)=false:=dF aa;have a8:=ae (aU.read aR);have aD:=ae a7;clear aR a7 bd V T;have aE:=((uR p).alloc (tO q a b))
  have bf:Hid (aG (fun k=>w.heap.size+3<=k/\k< (p.alloc (tO q a b)).heap.size) (p.alloc (tO q a b)) q.kids (.slice a q.kids.length b)):=ae ((a8.o.ext aE).weaken (fun k hk=>⟨Nat.le_trans aw.o (aD.o k hk).1,aP (aD.o k hk).2 aE.size⟩));clear aE a8 aD aw;dsimp only;obtain⟨bo,ab⟩:=ay p.heap.size;rw[ab] at a6 bl;obtain⟨m0,m1,m2⟩:=ah a6.o;have f2:=fun i=>ax A.o i;obtain⟨d0,d1,d2⟩:=ah A.o
  go_wp2_with fail;try rw[ab]
  generalize p.alloc (tO q a b)=bm at*;clear ab;have E:=aO A.o (.string q.name) (.string q.sort) (.slice a q.kids.length b);have hu:=aN bm (w.heap.size+2) (.string q.name) (.string q.sort) (.slice a q.kids.length b);obtain⟨I,J,K⟩:=ah E;refine bodyPost_ret (v:= .tuple #[.agg #[.string q.name,.string q.sort,.slice a q.kids.length b],.bool true]) (by simp[results,Tryz.results176,go_sem,I,J,K]) rfl ?_;have F:=a1.o.trans' hu (fun j L e=>by omega);have hk:=(bf.o.kept hu (fun j L e=>by omega)).weaken (fun j L=>(⟨by omega,aP L.2 hu.size⟩:w.heap.size<=j/\j<_));exact⟨.slice a q.kids.length b,rfl,hk,F⟩
theorem ahD {te:TypeId} {b:Nat} {w:World} {L:List Tm} {us:List Value} {i:Nat} {y:Tm} {u:Value} {S T:Nat->Prop} {g c:Nat} (hl:us.length=L.length) (hown:w.ownsRow b te 3 (.slice (az g) L.length c) L.length (dK L us))
  (hk: ∀j,j<L.length->aG S w (tg L j).kids (ug us j)) (hi:i<L.length) (hy:aG T w y.kids u) (hS: ∀k,S k->k≠g) (n: ∀k,T k->k≠g):
  aG (fun k=>k=g\/S k\/T k) (h_ w (g,i*3) y.name y.sort u) (L.set i y) (.slice (az g) L.length c):=by
 have d:=xe w (g,i*3) y.name y.sort u;have l:(h_ w (g,i*3) y.name y.sort u).ownsRow b te 3 (.slice (az g) L.length c) L.length (dK (L.set i y) (us.set i u)):=by
  rw[<-Di L us i y u hl hi];exact xx (xx (xx hown _ _) _ _) _ _
 refine .mk _ (us.set i u) _ (by simp[hl]) (by rw[List.length_set];exact(aB.gG l).weaken (fun k hk=> .inl (by injection hk with hk;exact hk.symm))) (fun j h=>?_);rw[List.length_set] at h;rw[RI L i j y hi,YP us i j u (by omega)];by_cases a:i=j
 .rw [if_pos a,if_pos a];exact(hy.kept d (fun k hk e=>n k hk e)).weaken (fun k hk=> .inr (.inr hk))
 .rw [if_neg a,if_neg a];exact((hk j h).kept d (fun k hk e=>hS k hk e)).weaken (fun k hk=> .inr (.inl hk))
theorem IB: ∀(L:List Tm) (us:List Value),(∀j,j<L.length->∃a n c,ug us j= .slice a n c)->∀v∈dK L us,v.oneCell'=true
 |[],_,_,v,h=>by cases h
 |t::L,us,hs,v,h=>by
  unfold dK at h;rcases List.mem_cons.1 h with rfl|h
  .rfl
  rcases List.mem_cons.1 h with rfl|h
  .rfl
  rcases List.mem_cons.1 h with rfl|h
  .obtain ⟨a,n,c,e⟩:=hs 0 (by simp);cases us with
   |nil=>rfl
   |cons x us=>
    have e:x= .slice a n c:=by simpa[ug] using e
    subst e;rfl
  .refine IB L us.tail (fun j b=>?_) v h;obtain⟨a,n,c,e⟩:=hs (j+1) (by simpa using b);refine⟨a,n,c,?_⟩;rw[<-e];cases us with
   |nil=>rfl
   |cons x us=>rfl
theorem aeu (u:Tm): ∀(p:List Nat) (t:Tm) (ao pv Q:Value) (S:Nat->Prop) (w:World),bQ S w t ao->bQ S w u Q->(∀k,S k->k<w.heap.size)->aB (fun k=>k<w.heap.size) w 1 pv p.length (p.map fun i:Nat=>Value.int .i64 (i:Int))->rM t p->t.size<=100000->p.length<=1000000->
  Calls Tryz.prog 177 #[ao,pv,Q] w fun e w'=> ∃r,e= .returned (tV (putAt t p u) r)/\aG (fun k=>S k\/(w.heap.size<=k/\k<w'.heap.size)) w' (putAt t p u).kids r/\Ext w w':=by
 intro p
 induction p with
 |nil=>
  intro t ao pv Q S w aJ aq aD I _ bV aZ;obtain⟨pa,J,rfl⟩:=I.shape;obtain⟨a,cap,rfl,Y⟩:=aJ;obtain⟨ua,uc,rfl,R⟩:=aq;have N:=(((uR w).alloc (tO t a cap)).alloc (tO u ua uc)).alloc zO;have bw:=ae N;have Z:=ae (ak (alloc_at (w.alloc (tO t a cap)) (tO u ua uc) (n:=w.heap.size+1) (by simp)) zO);have O:=ae (alloc_at ((w.alloc (tO t a cap)).alloc (tO u ua uc)) zO (n:=w.heap.size+2) (by simp));have P:w.heap.size+3<=(((w.alloc (tO t a cap)).alloc (tO u ua uc)).alloc zO).heap.size:=by simp
  have bx:=ae P;have bA:putAt t [] u=u:=by cases t;rfl
  rw[bA];have cv:=ae R;obtain⟨cX,cY,c0⟩:=ah Z.o;have f2:=fun i=>ax O.o i;obtain⟨d0,d1,d2⟩:=ah O.o;have cw:([]:List Nat).length=0:=rfl;rw[cw];clear Y R N P I bA;dsimp only[tV]
  go_enter Tryz.func177,Tryz.ntmps177;go_wp2_with fail;have a1:=(((uR w).alloc (tO t a cap)).alloc (tO u ua uc)).alloc (tO u ua uc);have aE:=alloc_at ((w.alloc (tO t a cap)).alloc (tO u ua uc)) (tO u ua uc) (n:=w.heap.size+2) (by simp);obtain⟨aK,q,F⟩:=ah aE;refine bodyPost_ret (v:= .agg #[.string u.name,.string u.sort,.slice ua u.kids.length uc]) (by simp[results,Tryz.results177,go_sem,aK,q,F]) rfl ?_;exact⟨.slice ua u.kids.length uc,rfl,(cv.o.ext a1).weaken (fun k hk=> .inl hk),a1⟩
 |cons i p bX=>
  intro t ao pv Q S w aJ aq aD I aa bV aZ;have ar:=ae aD;have bB:=fun(W:World) (hW:Ext w W) (cx cy:Value) hk cz=>bX (tg t.kids i) cx cy Q S W hk (aq.ext hW) (fun k hk=>aP (aD k hk) hW.size) cz aa.2 (by have:=ui (cZ t.kids i aa.1);omega) (by simp at aZ;omega);have aF:=ae bB;have cA:=ae I;have D:=ae aa.1;obtain⟨pa,J,rfl⟩:=I.shape;obtain⟨a,cap,rfl,Y⟩:=aJ;obtain⟨ua,uc,rfl,R⟩:=aq;have N:=((((uR w).alloc (tO t a cap)).alloc (tO u ua uc)).alloc zO).alloc (tO t a cap);have bw:=ae N;have a6:=ae (ak (ak (ak (aj w (tO t a cap)) (tO u ua uc)) zO) (tO t a cap));have Z:=ae (ak (ak (alloc_at (w.alloc (tO t a cap)) (tO u ua uc) (n:=w.heap.size+1) (by simp)) zO) (tO t a cap));have O:=ae (ak (alloc_at ((w.alloc (tO t a cap)).alloc (tO u ua uc)) zO (n:=w.heap.size+2) (by simp)) (tO t a cap));have a7:=ae (alloc_at ((((w.alloc (tO t a cap)).alloc (tO u ua uc)).alloc zO)) (tO t a cap) (n:=w.heap.size+3) (by simp));have P:w.heap.size+4<=(((((w.alloc (tO t a cap)).alloc (tO u ua uc)).alloc zO)).alloc (tO t a cap)).heap.size:=by simp
  have bx:=ae P;have bC:=ae Y;have c5:=ae R;have ab:=(ak (ak (aj w (tO t a cap)) (tO u ua uc)) zO)
  obtain⟨cB,cC,cD⟩:=ah ab;have c6:(((p.length+1:Nat):Int)==0)=false:=beq_eq_false_iff_ne.2 (by omega);have z2:decide (((p.length+1:Nat):Int)=0)=false:=dF (by omega);have aW:(i::p).length=p.length+1:=rfl;rw[aW];clear Y R N P I aa bB ab aW;cases bY:bC.o with
  |mk _ us _ hl a8 hk=>
  have cE:=ae a8;have bZ:=ae hk;have b0:=ae hl;obtain⟨cF,hi,ba,bb,bc⟩:=info_parts uZ;have aX:=IB t.kids us (fun j A=>by obtain⟨a,c,e⟩:=(hk j A).shape;exact⟨a,_,c,e⟩);have cG:=ae aX;have bD:=((((((uR w).alloc (tO t a cap)).alloc (tO u ua uc)).alloc zO).alloc (tO t a cap)).alloc (.cells #[] 24))
  have aL:=ae bD;have aY:Hid (((((((w.alloc (tO t a cap)).alloc (tO u ua uc)).alloc zO).alloc (tO t a cap)).alloc (.cells #[] 24))).ownsRow w.heap.size 24 3 (.slice (some ⟨w.heap.size+1+1+1+1,0,none⟩) 0 0) 0 []):=ae (by
   have h:=World.ownsRow_lit (base:=w.heap.size) (e:=24) (size:=3) (((((w.alloc (tO t a cap)).alloc (tO u ua uc)).alloc zO).alloc (tO t a cap))) #[] 0 (by simp;omega) (by unfold maxLen;omega) (by simp);simpa using h)
  have bd:t.kids.length<=100000:=by have:=size_eq t;have:=bz t.kids;omega
  have bf:=ae bd;clear bY hl a8 hk aX bD bd;dsimp only[tV];go_enter Tryz.func177,Tryz.ntmps177;go_wp2_with(at_builtin;refine kG _ rfl (.tmp 13) (.tmp 15) 22 rfl w.heap.size 24 cF (.agg #[.string ⟨#[]⟩,.string ⟨#[]⟩,.slice none 0 0]) 3 56 Tryz.underlying22 hi ba bb bc rfl (by decide) _ _ _ rfl aY.o S (.slice a t.kids.length cap) t.kids.length (dK t.kids us) rfl (aB.kept cE.o aL.o (fun _ _ h=>h)) cG.o ?c3 ?c4 aL.o.size ?_)
  case c3=>have:=bf.o;unfold maxLen;omega
  case c4=>have:=bf.o;omega
  intro c7 L U;obtain⟨g,l,cT,b1,b2,b3⟩:=ru U.own (by have:=D.o;omega);subst b1;have bg:(((((w.alloc (tO t a cap)).alloc (tO u ua uc)).alloc zO).alloc (tO t a cap)).alloc (.cells #[] 24)).heap.size=w.heap.size+5:=by simp
  have bh:w.heap.size+4<=g:=by
   rcases U.xK with h|h
   .have h':g=w.heap.size+1+1+1+1:=by injection h
    omega
   .have h':g=(((((w.alloc (tO t a cap)).alloc (tO u ua uc)).alloc zO).alloc (tO t a cap)).alloc (.cells #[] 24)).heap.size:=by injection h
    omega
  have hF: ∀k,k<w.heap.size+4->¬(Value.slice (some ⟨w.heap.size+1+1+1+1,0,none⟩) 0 0).ownBlock=some k:=fun k hk e=>by
   have e':w.heap.size+1+1+1+1=k:=by injection e
   omega
  have bj: ∀k,k<w.heap.size->¬(Value.slice (some ⟨w.heap.size+1+1+1+1,0,none⟩) 0 0).ownBlock=some k:=fun k hk e=>hF k (by omega) e;have hu:=U.upd;have bE:=ae (hu.heap (ak a6.o (.cells #[] 24)) (hF _ (by omega)));have bF:=ae (hu.heap (ak Z.o (.cells #[] 24)) (hF _ (by omega)));have bG:=ae (hu.heap (ak O.o (.cells #[] 24)) (hF _ (by omega)));have av:=ae (hu.heap (ak a7.o (.cells #[] 24)) (hF _ (by omega)));have bH:=ae (aL.o.trans' hu (fun j A e=>bj j A e));have bk:=ae U.own;have E:=ae bh;have bl:Hid (w.heap.size+5<=L.heap.size):=ae (Nat.le_trans (Nat.le_of_eq bg.symm) hu.size);have f3:=fun i=>ax av.o i;obtain⟨m0,m1,m2⟩:=ah av.o;clear U hu hF bj bh bg b2 b3 a6 Z O a7 bw bx aY hi ba bb bc cB cC cD
  go_upto_region 5 with fail;clear m0 m1 m2 f3;have ad:L.setCell ⟨w.heap.size+1+1+1,2,none⟩ (.slice (az g) t.kids.length l)=L.setCell ⟨w.heap.size+3,2,none⟩ (.slice (az g) t.kids.length l):=rfl;rw[ad];have hv:=(au.refl (fun k=>k=w.heap.size+3) L).setCell (p:=⟨w.heap.size+3,2,none⟩) (.inl rfl) (.slice (az g) t.kids.length l);have hb:=setBlock av.o 2 (.slice (az g) t.kids.length l);have bI:Hid ((L.setCell ⟨w.heap.size+3,2,none⟩ (.slice (az g) t.kids.length l)).heap[w.heap.size+3]?=some (af t.name t.sort (az g) t.kids.length l)):=ae (by simpa using hb);have cH:=ae (hv.heap bE.o (by omega));have aM:=ae (hv.heap bF.o (by omega));have cI:=ae (hv.heap bG.o (by omega));have aw:=ae (bH.o.trans' hv (fun j A e=>by omega));have bm:=ae (bM bk.o hv (fun k hk e=>by
   have h:g=k:=by injection hk
   have:=E.o;omega))
  have bn:=ae (Nat.le_trans bl.o hv.size);clear hv hb ad av bE bF bG bH bk bl;generalize L.setCell ⟨w.heap.size+3,2,none⟩ (.slice (az g) t.kids.length l)=b at*;obtain⟨G,B,cU,b4,ai,aH,aQ⟩:=aB.pos (aB.kept cA.o aw.o (fun _ _ h=>h)) (by simp);injection b4 with q F aR
  subst q;subst aR;have bJ:b.cell? ⟨G,B,none⟩=some (.int .i64 (i:Int)):=by have:=aQ 0 (by simp);simpa using this
  have bo:aB (fun k=>k<w.heap.size) b 1 (.slice (if J=1 then some ⟨G,B,none⟩ else some ⟨G,B+1,none⟩) p.length (J-1)) p.length (p.map fun i:Nat=>Value.int .i64 (i:Int)):=by
   by_cases bp:J=1
   .rw [if_pos bp];exact⟨by simp,.inr ⟨⟨G,B,none⟩,J-1,rfl,by simp at ai;omega,fun _=>⟨rfl,aH⟩,fun j A=>by simp at ai;omega⟩⟩
   .rw [if_neg bp];exact⟨by simp,.inr ⟨⟨G,B+1,none⟩,J-1,rfl,by simp at ai;omega,fun _=>⟨rfl,aH⟩,fun j A=>by
     have:=aQ (j+1) (by simp;omega);show b.cell? ⟨G,B+1+j,none⟩=_;rw[show B+1+j=B+(j+1) by omega,this];simp⟩⟩
  have cJ:=ae bo;obtain⟨aA,aC,b5,b6,bq⟩:=(bC.o.ext aw.o).at_ (by have:=D.o;omega);subst b5;obtain⟨bK,bL,aS,r1,r2,bN⟩:=bq i D.o;rw[<-Nat.add_assoc] at r1 r2;have bO:=ae bN;obtain⟨y,aT⟩:=ay (tg t.kids i);have b7:=ae aT;rw[aT] at aS r1 r2 bO aF;have cV:=D.o;have u0:(0:Int)<=(i:Int):=by omega
  have u1:(i:Int)< (t.kids.length:Int):=by omega
  have u2:(1:Int)<=(p.length:Int)+1:=by omega
  have ab: ∀x:XF (fun _=>False) b,x.val.cell? ⟨w.heap.size,2,none⟩=some (.slice (some ⟨aA,aC,none⟩) t.kids.length cap):=fun x=>x.upd.cell (ag cH.o 2 _ rfl) id;have b8: ∀x:XF (fun _=>False) b,x.val.cell? ⟨w.heap.size+3,2,none⟩=some (.slice (az g) t.kids.length l):=fun x=>x.upd.cell (ag bI.o 2 _ rfl) id;have b9: ∀x:XF (fun _=>False) b,x.val.cell? ⟨G,B,none⟩=some (.int .i64 (i:Int)):=fun x=>x.upd.cell bJ id;have ca: ∀x:XF (fun _=>False) b,x.val.cell? ⟨aA,aC+i*3,none⟩=some (.string y.name):=fun x=>x.upd.cell aS id;have cb: ∀x:XF (fun _=>False) b,x.val.cell? ⟨aA,aC+i*3+1,none⟩=some (.string y.sort):=fun x=>x.upd.cell r1 id;have cc: ∀x:XF (fun _=>False) b,x.val.cell? ⟨aA,aC+i*3+2,none⟩=some (.slice bK y.kids.length bL):=fun x=>x.upd.cell r2 id;have cd: ∀x:XF (fun _=>False) b,x.val.cell? ⟨w.heap.size+1,0,none⟩=some (.string u.name):=fun x=>x.upd.cell (ag aM.o 0 _ rfl) id;have cf: ∀x:XF (fun _=>False) b,x.val.cell? ⟨w.heap.size+1,1,none⟩=some (.string u.sort):=fun x=>x.upd.cell (ag aM.o 1 _ rfl) id;have cK: ∀x:XF (fun _=>False) b,x.val.cell? ⟨w.heap.size+1,2,none⟩=some (.slice ua u.kids.length uc):=fun x=>x.upd.cell (ag aM.o 2 _ rfl) id;clear aQ bo bq bN aT bJ aS r1 r2 F ai aH b6;refine DX [(0,0),(1,0),(2,0),(3,0),(4,0),(5,0),(6,0),(7,0),(8,0),(9,0),(10,0),(11,0),(12,0),(13,0),(14,0),(15,1),(16,2),(17,2)] 16 (fun W=> ∃x:XF (fun _=>False) b,W=x.val) (by kernel_rfl) (by kernel_rfl) (fun _ _ d _ _ h=>by cases d<;>exact h) ⟨⟨_,(au.refl _ b).drew⟩,rfl⟩ ?_;simp only[fA,List.getElem?_cons_zero,List.getElem?_cons_succ]
  iterate 15(refine Qm (fun K hK=>?_);go_simp;refine hK _ ?_;clear hK K)
  refine mY (fun K hK hS=>?_) ⟨⟨_,(au.refl _ b).drew⟩,rfl⟩;go_simp;have H:=(uR b).drew;have bP:=ae (aw.o.trans H);dsimp only[tV] at aF;refine(aF.o b.drew bP.o _ _ ⟨bK,bL,rfl,bO.o.ext H⟩ ((aB.kept cJ.o H (fun _ _ h=>h)).weaken (bW bP.o))).mono ?_;rintro e C ⟨r,rfl,al,aU⟩;refine hK _ _ ⟨⟨_,H.trans aU⟩,rfl⟩ ?_;clear hK K hS;obtain⟨z,bR⟩:=ay (putAt y p u);rw[bR] at al⊢;obtain⟨V,zc,hr⟩:=al.shape;subst hr;try dsimp only[tV]
  have M:=H.trans aU;have bS:=ae (aw.o.trans M);have aV:=bM bm.o M (fun _ _ h=>h);obtain⟨g0,cR,cW,cg,br,_⟩:=ru bm.o (by have:=D.o;omega);injection cg with d1 d2 d3
  injection d1 with d1
  injection d1 with d1
  subst d1;have bs:g<b.heap.size:=(Array.getElem?_eq_some_iff.1 br).1;have ch:=ae bs;obtain⟨g',cS,cur,cj,X,ck⟩:=ru aV (by have:=D.o;omega);injection cj with q F aR
  injection q with q
  injection q with q
  subst q;have bU:i*3+2<cur.size:=by have:=D.o;omega
  have m0:C.cell? ⟨g,i*3,none⟩=some (cur[i*3]'(by omega)):=ag X (i*3) _ (Array.getElem?_eq_getElem _);have m1:C.cell? ⟨g,i*3+1,none⟩=some (cur[i*3+1]'(by omega)):=ag X (i*3+1) _ (Array.getElem?_eq_getElem _);have m2:C.cell? ⟨g,i*3+2,none⟩=some (cur[i*3+2]'(by omega)):=ag X (i*3+2) _ (Array.getElem?_eq_getElem _);have cL:=fun i=>ax X i;generalize cur[i*3]'(by omega)=v0 at m0;generalize cur[i*3+1]'(by omega)=v1 at m1;generalize cur[i*3+2]'(by omega)=v2 at m2;have cm:=ae (M.heap bI.o id);have cM:=ae (M.heap cI.o id);have bt:=ahD (i:=i) (y:=z) (u:= .slice V z.kids.length zc) (S:=S) (T:=fun k=>S k\/(b.drew.heap.size<=k/\k<C.heap.size)) b0.o aV (fun j A=>(bZ.o j A).ext bS.o) D.o al (fun k hk e=>by have:=ar.o k hk;have:=E.o;omega) (fun k hk e=>by
   rcases hk with hk|hk
   .have:=ar.o k hk;have:=E.o;omega
   .have h1:=H.size;omega)
  have cN:=ae bt;have an:=ae (xe C (g,i*3) z.name z.sort (.slice V z.kids.length zc));have bu:b.heap.size<=C.heap.size:=M.size;have cO:=ae bu;try clear d2
  try clear d3
  try clear F
  try clear aR
  clear aV X br ck bU bt bu bs M H aU al ab b8 b9 ca cb cc cd cf cK;refine fD (fun K hK=>?_);go_simp;refine hK _ _ ?_;clear hK K;refine fD (fun K hK=>?_);go_simp;refine hK _ _ ?_;clear hK K;simp only[dA];clear m0 m1 m2 cL;have ad:((C.setCell ⟨g,i*3,none⟩ (.string z.name)).setCell ⟨g,i*3+1,none⟩ (.string z.sort)).setCell ⟨g,i*3+2,none⟩ (.slice V z.kids.length zc)=h_ C (g,i*3) z.name z.sort (.slice V z.kids.length zc):=rfl;rw[ad];generalize h_ C (g,i*3) z.name z.sort (.slice V z.kids.length zc)=bT at*;have cn:=ae (an.o.heap cm.o (by show ¬w.heap.size+3=g;have:=E.o;omega));have aI:=ae (an.o.heap cM.o (by show ¬w.heap.size+2=g;have:=E.o;omega));have cP:=ae (bS.o.trans' an.o (fun j A e=>by have:=E.o;have e':j=g:=e;omega));have cQ:=ae an.o.size;have f2:=fun i=>ax aI.o i;obtain⟨d0,d1,d2⟩:=ah aI.o;obtain⟨m0,m1,m2⟩:=ah cn.o
  go_wp2_with fail;all_goals
   try rw[show w.heap.size+1+1=w.heap.size+2 from rfl]
   have aE:=aO aI.o (.string t.name) (.string t.sort) (.slice (az g) t.kids.length l);have hu:=aN bT (w.heap.size+2) (.string t.name) (.string t.sort) (.slice (az g) t.kids.length l);obtain⟨aK,q,F⟩:=ah aE;refine bodyPost_ret (v:= .agg #[.string t.name,.string t.sort,.slice (az g) t.kids.length l]) (by simp[results,Tryz.results177,go_sem,aK,q,F]) rfl ?_;have cp:=cP.o.trans' hu (fun j A e=>by omega);have cq:(putAt t (i::p) u).name=t.name:=by cases t;rfl
   have cr:(putAt t (i::p) u).sort=t.sort:=by cases t;rfl
   have ct:(putAt t (i::p) u).kids=t.kids.set i z:=by rw[<-bR,<-b7.o];cases t;rfl
   have cu:=(cN.o.kept hu (fun k hk e=>by
    have:=E.o;have:=bn.o;rcases hk with hk|hk|hk|hk
    .omega
    .have:=ar.o k hk;omega
    .have:=ar.o k hk;omega
    .have:b.heap.size<=k:=hk.1;omega)).weaken (T:=fun k=>S k\/(w.heap.size<=k/\k< (((bT.setCell ⟨w.heap.size+2,0,none⟩ (.string t.name)).setCell ⟨w.heap.size+2,1,none⟩ (.string t.sort)).setCell ⟨w.heap.size+2,2,none⟩ (.slice (az g) t.kids.length l)).heap.size)) (fun k hk=>by
    have h1:=E.o;have c8:=ch.o;have c9:=cO.o;have da:=cQ.o;have db:=hu.size;have dc:=bn.o;rcases hk with hk|hk|hk|hk
    .exact .inr ⟨by omega,by omega⟩
    .exact .inl hk
    .exact .inl hk
    .have dd:b.heap.size<=k:=hk.1;exact .inr ⟨by omega,by omega⟩)
   refine⟨.slice (az g) t.kids.length l,by rw[cq,cr],?_,cp⟩;rw[ct];exact cu
theorem MI: ∀{p:List Int} {t u:Tm},iH t p=some u->∃q:List Nat,p=q.map (fun j:Nat=>(j:Int))/\rM t q/\u=wZ t q
 |[],t,u,h=>by
  have h:some t=some u:=by rw[<-h];rfl
  exact⟨[],rfl,trivial,(Option.some.inj h).symm⟩
 |i::p,t,u,h=>by
  rw[xM] at h;by_cases hc:i<0\/(t.kids.length:Int)<=i
  .rw [if_pos hc] at h;cases h
  .rw [if_neg hc] at h;obtain⟨q,h1,a,b⟩:=MI h;refine⟨i.toNat::q,?_,⟨by omega,a⟩,b⟩;rw[List.map_cons,<-h1];congr 1;omega
theorem ac' {n:By} (h:aC n=true):n≠ai:=fun e=>absurd (h.symm.trans (by rw[e];decide+kernel:aC n=false)) (by decide)
theorem aaN {r:Rl} {u:Tm} {B:List Bd} (hr:qN r=true) (hu: ∀x∈bu u,x.name≠ai) (h:kJ r.1 u []=some B):(bJ B r.2).name≠ai:=by
 obtain⟨h1,i,o,j⟩:=xu hr;obtain⟨k,_,hb,_⟩:=BU (X:=dL r.1) (Y:=fun y=> ∀x∈bu y,x.name≠ai) (fun t x l hx y hy=>l y (by
  rw[lS];exact List.mem_cons_of_mem _ (List.mem_flatMap.2 ⟨x,hx,hy⟩))) r.1 u [] B h (y_ h1) (fun f hf=>hf) hu (rQ.nil _ _)
 have hs:bJ B r.2∈bu (bJ B r.2):=by
  have e:=lS (bJ B r.2);rw[e];exact List.mem_cons_self
 rcases Rz (σ:=gW B) r.2 _ hs with⟨y,hy,_,_,hn,_⟩|⟨g,n,hx⟩
 .rw [hn];exact ac' ((oH.1 i).2.2.1 y hy).1
 .obtain ⟨x,a⟩:=hb g (j g n);have e:gW B g.1 g.2=x:=zL a;rw[e] at hx;obtain⟨b,c,_,d⟩:=uO a;exact k.val b c _ (by rw[d];exact hx)
theorem aev {t:Tm} {p:List Nat} (a:wf aC t=true) (hp:rM t p): ∀x∈bu (wZ t p),x.name≠ai:=fun x hx=>
 ac' ((oH.1 a).2.2.1 x (Om p t hp x hx)).1
theorem aew {l:List Rl} {t:Tm} {x:Rx} (hr:dQ l=true) (e:wf aC t=true):C_ l t x=match iH t x.2 with
  |none=>(dD,2)
  |some u=>if x.1<0\/(l.length:Int)<=x.1 then(dD,2) else if(xw (Go.Hw.rg l x.1.toNat) u).2=false then(dD,12) else if(xw (Go.Hw.rg l x.1.toNat) u).1.name=ai then(dD,4) else if formed aC (putAt t (x.2.map Int.toNat) (xw (Go.Hw.rg l x.1.toNat) u).1)=false then(dD,4) else(putAt t (x.2.map Int.toNat) (xw (Go.Hw.rg l x.1.toNat) u).1,0):=by
 unfold C_;cases hs:iH t x.2 with
 |none=>rfl
 |some u=>
  simp only;by_cases hc:x.1<0\/(l.length:Int)<=x.1
  .rw [if_pos hc,if_pos hc]
  .rw [if_neg hc,if_neg hc];obtain⟨q,g,b,hu⟩:=MI hs;have c:=zN hr (i:=x.1.toNat) (by omega);unfold xw;cases hm:kJ (Go.Hw.rg l x.1.toNat).1 u [] with
   |none=>rfl
   |some B=>
    have d:=aaN c (by rw[hu];exact aev e b) hm;simp only;by_cases hf:(bJ B (Go.Hw.rg l x.1.toNat).2).size<=1000/\1+(bJ B (Go.Hw.rg l x.1.toNat).2).depth<=61
    .have a: ¬(1000< (bJ B (Go.Hw.rg l x.1.toNat).2).size\/60< (bJ B (Go.Hw.rg l x.1.toNat).2).depth):=by omega
     rw[if_pos hf,if_neg a];simp only;rw[if_neg d];simp
    .have a:(1000< (bJ B (Go.Hw.rg l x.1.toNat).2).size\/60< (bJ B (Go.Hw.rg l x.1.toNat).2).depth):=by omega
     rw[if_neg hf,if_pos a];simp only;rw[if_neg (by decide: ¬(true=false)),if_pos (show dD.name=ai from rfl)]
end
end Go.Proofs.YtlkcjmaiahnodaaGreatDoor
