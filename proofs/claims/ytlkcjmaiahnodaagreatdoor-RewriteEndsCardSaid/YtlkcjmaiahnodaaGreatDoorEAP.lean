/- The texts N56 N57 N58 N59 N60 N61 N62 N63, one behind the other. -/
import Derived.Test.YtlkcjmaiahnodaaGreatDoorEAO
import Derived.Test.YtlkcjmaiahnodaaGreatDoorEAB
set_option maxRecDepth 100000
set_option maxHeartbeats 8000000
set_option linter.unusedVariables false
set_option linter.unusedSimpArgs false
namespace Go.Proofs.YtlkcjmaiahnodaaGreatDoor
open Go.RowKit Go.Hw Go Tm
section
open Go.Sort Go.Proofs Go.ChangeMaps
theorem afP:(Tryz.prog.info? 65).map (fun i=>(i.zero,i.size,i.bytes))=some (some (.agg #[.int .i64 0,.slice none 0 0]),2,32):=by kernel_rfl
theorem amH (w:World) (u0 u1:Value) (t:TypeId): ∀(j:Nat) (u:Value),[u0,u1][j]?=some u->(w.alloc (.cells #[u0,u1] t)).cell? ((⟨w.heap.size,0,none⟩:Addr).add j)=some u:=fun j u hj=>by
 match j,hj with
 |0,hj=>simp only[List.getElem?_cons_zero,Option.some.injEq] at hj;subst hj;simp only[Addr.add];exact af (ai _ _) 0 _ rfl
 |1,hj=>simp at hj;subst hj;simp only[Addr.add];exact af (ai _ _) 1 _ rfl
theorem Ul {S:Nat->Prop} {w:World} {u:Value} {p:List Nat} (h:az S w 1 u p.length (p.map fun i:Nat=>Value.int .i64 (i:Int))):wQ S w u (p.map fun j:Nat=>(j:Int)):=by
 unfold wQ;rw[List.length_map,List.map_map];exact h
theorem aba (l:List Rl) (t:Tm) (fuel:Int) (lv v:Value) (w:World) (hL:jc (fun k=>k<w.heap.size) w l lv) (hT:bC (fun k=>k<w.heap.size) w t v) (htab:bT w) (hll:l.length<=1000000) (hls: ∀r∈l,r.1.size<=100000/\r.2.size<=100000) (hrs:bY l=true->∀r∈l,r.2.size<=60) (hsz:t.size<=100000) (hfu: -9223372036854775808<=fuel/\fuel<=9223372036854775807):
  Calls Tryz.prog 109 #[lv,v,.int .i64 fuel] w fun e w'=> ∃r tv,e= .returned (.tuple #[tV (l_ l t fuel).1 r,tv,.int .i64 (l_ l t fuel).2.2])/\aA (fun k=>w.heap.size<=k/\k<w'.heap.size) w' (l_ l t fuel).1.kids r/\lK (fun k=>w.heap.size<=k/\k<w'.heap.size) (fun k=>w.heap.size<=k/\k<w'.heap.size) w' tv (l_ l t fuel).2.1/\Ext w w':=by
 obtain⟨Z,hZ⟩: ∃Z,l_ l t fuel=Z:=⟨_,rfl⟩
 rw[hZ];have iH:=ae hZ;have wR:=ae hL;have rV:=ae hT;have HAS:=ae htab;have FK:=ae hls;have Fa:=ae hrs;have hCH:=fun(tv:Value) (W:World) (hW:Ext w W) (hTL:aA (fun k=>k<W.heap.size) W [t] tv)=>WR l fuel [t] lv tv W (aC htab hW) ((hL.ext hW).weaken (fun k hk=>ay hk hW.size)) hTL hll hls (fun x hx=>by simp at hx;subst hx;omega) hfu (by simp);have zF:=ae (fun(c:Tm) (cv:Value) (S:Nat->Prop) (W:World) (hW:Ext w W) (hc:bC S W c cv) (hS: ∀k,S k->k<W.heap.size) (hcs:c.size<=1000)=>QB l hll hls c cv lv (.slice none 0 0) (fun k=>k<w.heap.size) S (fun _=>False) [] W hc (hL.ext hW) (az.nil _ _ _) (fun k hk=>ay hk hW.size) hS (by omega) (by simp;omega));obtain⟨la,lc,rfl⟩:=hL.shape;obtain⟨a,cap,rfl,hTL⟩:=hT;have Hf:=((uR w).alloc (tO t a cap)).alloc zO;have hZ1:=Hf.alloc (tO t a cap);have HCH:=ae (hCH (.slice (some ⟨w.heap.size+2,0,none⟩) 1 1) (((w.alloc (tO t a cap)).alloc zO).alloc (tO t a cap)) hZ1 (Iz (alloc_at ((w.alloc (tO t a cap)).alloc zO) (tO t a cap) (n:=w.heap.size+2) (by simp)) (by simp) ((hTL.ext hZ1).weaken (fun k hk=>ay hk hZ1.size))));have HZ1:=ae hZ1;have HB0:=ae (ak (ai w (tO t a cap)) zO);have H0:=ae (ak HB0.out (tO t a cap));have H1:=ae (ak (alloc_at (w.alloc (tO t a cap)) zO (n:=w.heap.size+1) (by simp)) (tO t a cap));have hz2:w.heap.size+3<=(((w.alloc (tO t a cap)).alloc zO).alloc (tO t a cap)).heap.size:=by simp
 have HZ2:=ae hz2;have cO:=ae hTL;obtain⟨x0,x1,x2⟩:=ag HB0.out;dsimp only[tV];clear hL htab hls hrs hCH hTL Hf hZ1 hz2 hZ
 go_enter Tryz.func109,Tryz.ntmps109
 go_wp2_with fail
 try rw[show w.heap.size+1+1=w.heap.size+2 from rfl]
 generalize ((w.alloc (tO t a cap)).alloc zO).alloc (tO t a cap)=w1 at*;refine HCH.out.mono ?_;rintro e w3 ⟨rfl,hw3⟩;have aS:=ae (HZ1.out.trans hw3);have H03:=ae (hw3.heap H0.out (fun h=>h));have IE:=ae (hw3.heap H1.out (fun h=>h));have gV:Hid (w.heap.size+3<=w3.heap.size):=ae (Nat.le_trans HZ2.out hw3.size);clear hw3 HCH HZ1 HB0 H0 H1 HZ2 x0 x1 x2;by_cases hf0:qx l fuel [t]=0
 rotate_left
 .obtain ⟨en,hen⟩: ∃n,qx l fuel [t]=n:=⟨_,rfl⟩
  obtain rfl:Z=(bP,[],en):=by rw[<-iH.out];unfold l_;rw[if_neg hf0,hen]
  rw[hen] at hf0⊢;have t1:(en==0)=false:=beq_eq_false_iff_ne.2 hf0;have t2:decide (en=0)=false:=dF hf0;clear hen;have f2:=fun i=>au IE.out i;obtain⟨d0,d1,d2⟩:=ag IE.out
  go_wp2_with fail
  have hr3:=aJ IE.out (.string ⟨#[]⟩) (.string ⟨#[]⟩) (.slice none 0 0);have hu:=aI w3 (w.heap.size+1) (.string ⟨#[]⟩) (.string ⟨#[]⟩) (.slice none 0 0);obtain⟨e0,e1,e2⟩:=ag hr3;refine bodyPost_ret (v:= .tuple #[.agg #[.string ⟨#[]⟩,.string ⟨#[]⟩,.slice none 0 0],.slice none 0 0,.int .i64 (en)]) (by simp[results,Tryz.results109,go_sem,e0,e1,e2]) rfl ?_;have hue:=aS.out.trans' hu (fun j hj e=>by omega)
  first|exact⟨.slice none 0 0,.slice none 0 0,rfl,aA.nil _ _,lK.nil _ _ _,hue⟩
 obtain⟨hr0,hw0,amI,amJ⟩:=Uk hf0;have Ah:=ae hr0;have Y6:=ae (Fa.out hr0);have hzz:Z=gW l fuel.toNat t []:=by rw[<-iH.out];unfold l_;rw[if_pos hf0]
 have RV:=ae hzz.symm;rw[hf0];have lH:=ae hw0;have hcp:=yF t (tV t (.slice a t.kids.length cap)) (fun k=>k<w3.heap.size) w3 ((rV.out.ext aS.out).weaken (fun k hk=>ay hk aS.out.size)) (fun k hk=>hk) hsz;have sZ:=ae hcp;dsimp only[tV] at sZ;have f1:=fun i=>au H03.out i;obtain⟨x0,x1,x2⟩:=ag H03.out;clear hf0 hr0 hw0 hzz iH hcp Fa wR rV
 go_wp2_with fail
 refine sZ.out.mono ?_;rintro e w4 ⟨r4,B4,rfl,OZ,hb4,hw4⟩;obtain⟨ya,yc,jB⟩:=aG.shape OZ;subst jB;have bQ:=ae (aS.out.trans hw4);have H04:=ae (hw4.heap H03.out (fun h=>h));have OL:=ae (hw4.heap IE.out (fun h=>h));have gQ:Hid (w.heap.size+3<=w4.heap.size):=ae (Nat.le_trans gV.out hw4.size);have HT4:=ae (OZ.read);have HB4:Hid (∀j,B4 j->w.heap.size+3<=j/\j<w4.heap.size):=ae (fun j hj=>⟨Nat.le_trans gV.out (hb4 j hj).1,(hb4 j hj).2⟩);dsimp only[tV];clear OZ hb4 hw4 sZ x0 x1 x2 f1;have f1:=fun i=>au H04.out i;obtain⟨x0,x1,x2⟩:=ag H04.out
 go_upto_region 6 with fail
 have pJ:=ae (aJ H04.out (.string t.name) (.string t.sort) (.slice ya t.kids.length yc));have gY:=ae (aI w4 w.heap.size (.string t.name) (.string t.sort) (.slice ya t.kids.length yc));have dX:=ae (bQ.out.trans' gY.out (fun j hj e=>by omega));have H15:=ae (gY.out.heap OL.out (by omega));have ql:=ae ((HT4.out.kept gY.out (fun j hj e=>by have:=(HB4.out j hj).1;omega)).weaken (fun j hj=>(⟨by have:=(HB4.out j hj).1;omega,ay (HB4.out j hj).2 gY.out.size⟩:w.heap.size+2<=j/\j<_)));have qi:Hid (w.heap.size+2<=(((w4.setCell ⟨w.heap.size,0,none⟩ (.string t.name)).setCell ⟨w.heap.size,1,none⟩ (.string t.sort)).setCell ⟨w.heap.size,2,none⟩ (.slice ya t.kids.length yc)).heap.size):=ae (Nat.le_trans (by have:=gQ.out;omega) gY.out.size);clear x0 x1 x2 f1;generalize (((w4.setCell ⟨w.heap.size,0,none⟩ (.string t.name)).setCell ⟨w.heap.size,1,none⟩ (.string t.sort)).setCell ⟨w.heap.size,2,none⟩ (.slice ya t.kids.length yc))=w5 at*;clear HT4 HB4 H04 OL bQ gY gQ;obtain⟨F,hF⟩: ∃F,fuel.toNat=F:=⟨_,rfl⟩
 have hFz:fuel=(F:Int):=by omega
 rw[hF] at RV;subst hFz;have hF2:F<=2000:=by omega
 clear hF amI amJ
 go_loopg [10] F (fun gk ov wr=> ∃(L:List Xe) (cur:Tm) (oa ca:Option Addr) (oc cc:Nat),ov= .slice oa L.length oc/\gk=F-L.length/\L.length<=F/\Hid (BU 65 (w.heap.size+2) wr (.slice oa L.length oc) L)/\Hid (wr.heap[w.heap.size]?=some (tO cur ca cc))/\Hid (wr.heap[w.heap.size+1]?=some zO)/\Hid (aA (fun j=>w.heap.size+2<=j/\j<wr.heap.size/\(Value.slice oa L.length oc).ownBlock≠some j) wr cur.kids (.slice ca cur.kids.length cc))/\Hid (Ext w wr)/\Hid (w.heap.size+2<=wr.heap.size)/\Hid (wf ax cur=true)/\Hid (gW l (F-L.length) cur (L.map (·.1))=Z))
 case atStart=>exact⟨[],t,none,ya,0,yc,rfl,rfl,Nat.zero_le _,ae (BU.start _ _ _),pJ,H15,ae (ql.out.weaken (fun j hj=>⟨hj.1,hj.2,fun e=>by cases e⟩)),dX,qi,lH,RV⟩
 case round=>
  clear pJ H15 ql dX qi lH RV aS H03 IE gV;obtain⟨L,cur,oa,ca,oc,cc,rfl,rfl,hLF,HG,HB0,HB1,FB,HE,HS,HW,Lj⟩:=hrel;have hcs:=jY HW.out;have bI:=ae (zF.out cur (tV cur (.slice ca cur.kids.length cc)) (fun j=>w.heap.size+2<=j/\j<wr.heap.size/\(Value.slice oa L.length oc).ownBlock≠some j) wr HE.out ⟨ca,cc,rfl,FB.out⟩ (fun k hk=>hk.2.1) hcs);dsimp only[tV] at bI;obtain⟨x0,x1,x2⟩:=ag HB0.out
  go_wp2_with fail
  refine bI.out.mono ?_;rintro e w4 ⟨⟨⟨pa,pc⟩,ua,uc⟩,B,rfl,hfd,hbd,hw4⟩;obtain⟨o,ho⟩: ∃o,jy l cur=o:=⟨_,rfl⟩
  have HO:=ae ho;rw[ho] at hfd⊢;clear ho x0 x1 x2 bI;dsimp only[BA];cases o with
  |none=>
   rw[show(fq none []).length=0 from rfl,show(ft none).name=⟨#[]⟩ from rfl,show(ft none).sort=⟨#[]⟩ from rfl,show(ft none).kids.length=0 from rfl,show((fi none:Nat):Int)=0 from rfl];have oG:=((uR w4).alloc (.cells #[.int .i64 0,.slice pa 0 pc] 65)).alloc (.cells #[.string ⟨#[]⟩,.string ⟨#[]⟩,.slice ua 0 uc] 24);have Am:=hw4.trans oG;have H5:=ae (HE.out.trans Am);have vP:=ae (Am.heap HB0.out (fun h=>h));have jm:=ae (Am.heap HB1.out (fun h=>h));have ql:=ae (FB.out.ext Am);have WT:=ae (HG.out.kept Am (fun _ _ _ h=>h));have hzz:Z=(cur,L.map (·.1),0):=by
    rw[<-Lj.out];cases F-L.length with
    |zero=>unfold gW;rw[HO.out]
    |succ n=>unfold gW;rw[HO.out]
   have HZ3:=ae hzz;have dw:=ae Am.size;simp only[Option.isSome_none];obtain⟨x0,x1,x2⟩:=ag vP.out;obtain⟨d0,d1,d2⟩:=ag jm.out;have f2:=fun i=>au jm.out i;clear hfd hbd hw4 oG Am hzz
   go_wp2_with fail
   generalize ((w4.alloc (.cells #[.int .i64 0,.slice pa 0 pc] 65)).alloc (.cells #[.string ⟨#[]⟩,.string ⟨#[]⟩,.slice ua 0 uc] 24))=w5 at*;have hr3:=aJ jm.out (.string cur.name) (.string cur.sort) (.slice ca cur.kids.length cc);have hu:=aI w5 (w.heap.size+1) (.string cur.name) (.string cur.sort) (.slice ca cur.kids.length cc);obtain⟨e0,e1,e2⟩:=ag hr3;have hs5:=HS.out;have hsz5:=dw.out;refine bodyPost_ret (v:= .tuple #[.agg #[.string cur.name,.string cur.sort,.slice ca cur.kids.length cc],.slice oa L.length oc,.int .i64 0]) (by simp[results,Tryz.results109,go_sem,e0,e1,e2]) rfl ?_;have hzz:=HZ3.out;subst hzz;have hrx:=(WT.out.kept hu (fun j hj _ e=>by omega)).rx;exact⟨.slice ca cur.kids.length cc,.slice oa L.length oc,rfl,(ql.out.kept hu (fun j hj e=>by omega)).weaken (fun j hj=>⟨by omega,by have:=hu.size;omega⟩),hrx.weaken (fun j hj=>⟨by omega,hj.2⟩) (fun j hj=>⟨by omega,hj.2⟩),H5.out.trans' hu (fun j hj e=>by omega)⟩
  |some y=>
   obtain⟨ri,pp,u⟩:=y;have MQ:fq (some (ri,pp,u)) []=pp:=by simp[fq]
   have hft:ft (some (ri,pp,u))=u:=rfl;have hfi:fi (some (ri,pp,u))=ri:=rfl;rw[MQ,hft,hfi];obtain⟨iP,hpart⟩:=hfd;rw[MQ] at iP;rw[hft] at hpart;dsimp only at iP hpart;have oG:=((uR w4).alloc (.cells #[.int .i64 (ri:Int),.slice pa pp.length pc] 65)).alloc (tO u ua uc);have Am:=hw4.trans oG;have H5:=ae (HE.out.trans Am);have dR:=ae Am;have vP:=ae (Am.heap HB0.out (fun h=>h));have jm:=ae (Am.heap HB1.out (fun h=>h));have H7:=ae (ak (ai w4 (.cells #[.int .i64 (ri:Int),.slice pa pp.length pc] 65)) (tO u ua uc));have H8:=ae (alloc_at (w4.alloc (.cells #[.int .i64 (ri:Int),.slice pa pp.length pc] 65)) (tO u ua uc) (n:=w4.heap.size+1) (by simp));have HPH:=ae (az.kept iP oG (fun _ _ h=>h));have oh:=ae ((hpart.kept oG (fun _ _ h=>h)).read);have jk:Hid (∀j,B j->wr.heap.size<=j/\j< ((w4.alloc (.cells #[.int .i64 (ri:Int),.slice pa pp.length pc] 65)).alloc (tO u ua uc)).heap.size):=ae (fun j hj=>⟨(hbd j hj).1,ay (hbd j hj).2 oG.size⟩);simp only[Option.isSome_some];have hpo:=zG l cur ri pp u HO.out;have Jj:=MR (N:=60) HO.out Y6.out;have hpl:=zH pp cur hpo.1;have Ey:u.size<=100000:=Nat.le_trans (Nat.le_trans Jj (Nat.mul_le_mul_left 60 hcs)) (by decide);have BC:Hid (wr.heap.size<=w4.heap.size):=ae hw4.size;clear hw4 oG iP hpart hbd MQ hft hfi Am;obtain⟨nb,hnb⟩: ∃n,w4.heap.size=n:=⟨_,rfl⟩
   rw[hnb] at H7 H8 BC;by_cases hlim:L.length=F
   .obtain rfl:Z=(bP,[],6):=by
     rw[<-Lj.out,hlim,Nat.sub_self];unfold gW;rw[HO.out]
    have t1:((L.length:Int)==(F:Int))=true:=by rw[hlim];exact beq_self_eq_true _
    have t2:decide ((L.length:Int)=(F:Int))=true:=dT (by omega);clear hpo Jj Ey hpl hnb;subst hlim;have d9:=jm;have f2:=fun i=>au jm.out i;obtain⟨d0,d1,d2⟩:=ag jm.out
    go_wp2_with fail
    have hr3:=aJ jm.out (.string ⟨#[]⟩) (.string ⟨#[]⟩) (.slice none 0 0);have hu:=aI ((w4.alloc (.cells #[.int .i64 (ri:Int),.slice pa pp.length pc] 65)).alloc (tO u ua uc)) (w.heap.size+1) (.string ⟨#[]⟩) (.string ⟨#[]⟩) (.slice none 0 0);obtain⟨e0,e1,e2⟩:=ag hr3;refine bodyPost_ret (v:= .tuple #[.agg #[.string ⟨#[]⟩,.string ⟨#[]⟩,.slice none 0 0],.slice none 0 0,.int .i64 (6)]) (by simp[results,Tryz.results109,go_sem,e0,e1,e2]) rfl ?_;have hue:=H5.out.trans' hu (fun j hj e=>by omega)
    first|exact⟨.slice none 0 0,.slice none 0 0,rfl,aA.nil _ _,lK.nil _ _ _,hue⟩
   have t1:((L.length:Int)==(F:Int))=false:=beq_eq_false_iff_ne.2 (by omega);have t2:decide ((L.length:Int)=(F:Int))=false:=dF (by omega);have yu:=ae (MJ cur u pp (tV cur (.slice ca cur.kids.length cc)) (tV u (.slice ua u.kids.length uc)) (.slice pa pp.length pc) (fun j=>w.heap.size+2<=j/\j<wr.heap.size/\(Value.slice oa L.length oc).ownBlock≠some j) B B ((w4.alloc (.cells #[.int .i64 (ri:Int),.slice pa pp.length pc] 65)).alloc (tO u ua uc)) ⟨ca,cc,rfl,FB.out.ext dR.out⟩ ⟨ua,uc,rfl,oh.out⟩ (fun k hk=>ay hk.2.1 dR.out.size) (fun k hk=>(jk.out k hk).2) HPH.out hpo.1 (aC HAS.out H5.out) (by omega) Ey (by omega));obtain⟨G,hG⟩: ∃G,gK cur pp u=G:=⟨_,rfl⟩
   have hG2:G.2=0\/G.2=4:=by
    rw[<-hG];unfold gK;split
    .exact .inl rfl
    .exact .inr rfl
   have hGw:G.2=0->wf ax G.1=true:=fun h=>by
    rw[<-hG] at h⊢;have:=rM h;rw[this.1];exact this.2
   have hrun:Z=if G.2=0 then gW l (F- (L.length+1)) G.1 (L.map (·.1)++[nG ri pp]) else(bP,[],G.2):=by
    rw[<-Lj.out,show F-L.length=(F- (L.length+1))+1 by omega]
    conv=>lhs;unfold gW
    rw[HO.out];simp only;rw[hG]
   rw[hG] at yu;have Y7:=ae hrun;have HGW:=ae hGw;dsimp only[tV] at yu;obtain⟨x0,x1,x2⟩:=ag vP.out;obtain⟨m0,m1⟩:=aP H7.out;obtain⟨n0,n1,n2⟩:=ag H8.out;clear hpo Jj Ey hpl hG hrun hGw
   go_wp2_with fail
   try rw[hnb]
   generalize ((w4.alloc (.cells #[.int .i64 (ri:Int),.slice pa pp.length pc] 65)).alloc (tO u ua uc))=w5 at*;clear hnb;refine yu.out.mono ?_;rintro e w6 ⟨r,rfl,hTl,hw6⟩;obtain⟨nx,en⟩:=G;dsimp only at hTl hG2 Y7 HGW⊢;obtain⟨na,nc,hrn⟩:=hTl.shape;subst hrn;have Ll:=hw6.alloc (tO nx na nc);have H9:=ae (H5.out.trans Ll);have O0:=ae (dR.out.trans Ll);have Gt:=ae (Ll.heap vP.out (fun h=>h));have tJ:=ae (Ll.heap jm.out (fun h=>h));have Vf:=ae (Ll.heap H7.out (fun h=>h));have HN9:=ae (ai w6 (tO nx na nc));have WU:Hid (aA (fun j=>wr.heap.size<=j/\j< (w6.alloc (tO nx na nc)).heap.size) (w6.alloc (tO nx na nc)) nx.kids (.slice na nx.kids.length nc)):=ae ((hTl.ext ((uR w6).alloc (tO nx na nc))).weaken (fun j hj=>by
    have h1:=((uR w6).alloc (tO nx na nc)).size;have h2:=hw6.size;have h4:=dR.out.size;rcases hj with hj|hj
    .exact ⟨by omega,by omega⟩
    .have h5:=jk.out j hj;exact⟨by omega,by omega⟩))
   have amK:=ae (az.kept HPH.out Ll (fun _ _ h=>h));have amL:Hid (∀j,B j->wr.heap.size<=j/\j< (w6.alloc (tO nx na nc)).heap.size):=ae (fun j hj=>⟨(jk.out j hj).1,ay (jk.out j hj).2 Ll.size⟩);have pF:Hid (w.heap.size+2<=(w6.alloc (tO nx na nc)).heap.size):=ae (Nat.le_trans HS.out O0.out.size);have HN6:Hid (wr.heap.size<=w6.heap.size):=ae (Nat.le_trans dR.out.size hw6.size);clear hTl hw6 Ll yu x0 x1 x2 m0 m1 n0 n1 n2 H5 dR vP jm H7 H8 HPH oh jk;by_cases hen:en=0
   rotate_left
   .have u1:(en==0)=false:=beq_eq_false_iff_ne.2 hen;have u2:decide (en=0)=false:=dF hen;obtain rfl:Z=(bP,[],en):=by rw[Y7.out,if_neg hen]
    clear hen hG2;have f2:=fun i=>au tJ.out i;obtain⟨d0,d1,d2⟩:=ag tJ.out
    go_wp2_with fail
    have hr3:=aJ tJ.out (.string ⟨#[]⟩) (.string ⟨#[]⟩) (.slice none 0 0);have hu:=aI (w6.alloc (tO nx na nc)) (w.heap.size+1) (.string ⟨#[]⟩) (.string ⟨#[]⟩) (.slice none 0 0);obtain⟨e0,e1,e2⟩:=ag hr3;refine bodyPost_ret (v:= .tuple #[.agg #[.string ⟨#[]⟩,.string ⟨#[]⟩,.slice none 0 0],.slice none 0 0,.int .i64 (en)]) (by simp[results,Tryz.results109,go_sem,e0,e1,e2]) rfl ?_;have hue:=H9.out.trans' hu (fun j hj e=>by omega)
    first|exact⟨.slice none 0 0,.slice none 0 0,rfl,aA.nil _ _,lK.nil _ _ _,hue⟩
   subst hen;have hrun2:Z=gW l (F- (L.length+1)) nx (L.map (·.1)++[nG ri pp]):=by rw[Y7.out,if_pos rfl]
   have ai0:=ae hrun2;have HWN:=ae (HGW.out rfl);clear hG2 hrun2;obtain⟨nn,hnn⟩: ∃n,w6.heap.size=n:=⟨_,rfl⟩
   rw[hnn] at HN9 HN6
   go_upto_region 14 with fail
   try rw[hnn]
   generalize w6.alloc (tO nx na nc)=w9 at*;clear hnn;have hown: ∀j,(Value.slice oa L.length oc).ownBlock=some j->w.heap.size+2<=j/\j<wr.heap.size:=fun j e=>HG.out.own.lt j e;have HOWN:=ae hown;have hDA:=((uR w9).drew).alloc (.cells #[.int .i64 (ri:Int),.slice pa pp.length pc] 65);have HOW:Hid ((w9.drew.alloc (.cells #[.int .i64 (ri:Int),.slice pa pp.length pc] 65)).ownsRow (w.heap.size+2) 65 2 (.slice oa L.length oc) L.length (L.flatMap tK)):=ae (df (df HG.out.own O0.out (fun _ _ h=>h)) hDA (fun _ _ h=>h));have oN:Hid (∀(j:Nat) (u:Value),[Value.int .i64 (ri:Int),.slice pa pp.length pc][j]?=some u->(w9.drew.alloc (.cells #[.int .i64 (ri:Int),.slice pa pp.length pc] 65)).cell? ((⟨w9.drew.heap.size,0,none⟩:Addr).add j)=some u):=ae (amH w9.drew _ _ 65);have mW:Hid (∀u∈[Value.int .i64 (ri:Int),.slice pa pp.length pc],u.oneCell'=true):=ae (fun u hu=>by simp at hu;rcases hu with h|h<;>(subst h;rfl));have hLb:L.length+1<=2001:=by omega
   have jA:Hid (L.length+1<=maxLen/\(L.length+1)*32<=140737488355328/\w.heap.size+2<=(w9.drew.alloc (.cells #[.int .i64 (ri:Int),.slice pa pp.length pc] 65)).heap.size):=ae ⟨by unfold maxLen;omega,by omega,Nat.le_trans pF.out hDA.size⟩;have HRO:=ae (hDA.heap Gt.out (fun h=>h));have hx0: ∀x:XF (fun j=>(Value.slice oa L.length oc).ownBlock=some j) w9,x.val.cell? ⟨nn,0,none⟩=some (.string nx.name):=fun x=>x.upd.cell (af HN9.out 0 _ rfl) (fun e=>by have:=(HOWN.out _ e).2;have:=HN6.out;dsimp only at*;omega);have hx1: ∀x:XF (fun j=>(Value.slice oa L.length oc).ownBlock=some j) w9,x.val.cell? ⟨nn,1,none⟩=some (.string nx.sort):=fun x=>x.upd.cell (af HN9.out 1 _ rfl) (fun e=>by have:=(HOWN.out _ e).2;have:=HN6.out;dsimp only at*;omega);have hx2: ∀x:XF (fun j=>(Value.slice oa L.length oc).ownBlock=some j) w9,x.val.cell? ⟨nn,2,none⟩=some (.slice na nx.kids.length nc):=fun x=>x.upd.cell (af HN9.out 2 _ rfl) (fun e=>by have:=(HOWN.out _ e).2;have:=HN6.out;dsimp only at*;omega);have hy0: ∀x:XF (fun j=>(Value.slice oa L.length oc).ownBlock=some j) w9,x.val.cell? ⟨nb,0,none⟩=some (.int .i64 (ri:Int)):=fun x=>x.upd.cell (af Vf.out 0 _ rfl) (fun e=>by have:=(HOWN.out _ e).2;have:=BC.out;dsimp only at*;omega);have hy1: ∀x:XF (fun j=>(Value.slice oa L.length oc).ownBlock=some j) w9,x.val.cell? ⟨nb,1,none⟩=some (.slice pa pp.length pc):=fun x=>x.upd.cell (af Vf.out 1 _ rfl) (fun e=>by have:=(HOWN.out _ e).2;have:=BC.out;dsimp only at*;omega);obtain⟨iT,hi,hz0,hz1,hz2⟩:=info_parts afP;clear hDA hown;refine MF [(0,0),(1,0),(2,0),(3,1),(4,1),(5,2),(6,2)] 5 (fun W=> ∃x:XF (fun j=>(Value.slice oa L.length oc).ownBlock=some j) w9,W=x.val) (by kernel_rfl) (by kernel_rfl) (fun _ _ d _ _ h=>by cases d<;>exact h) ⟨⟨_,(aj.refl _ w9).drew⟩,rfl⟩ ?_;simp only[gG,List.getElem?_cons_zero,List.getElem?_cons_succ]
   iterate 3(refine YE (fun K hK=>?_);go_simp;refine hK _ ?_;clear hK K)
   refine kN (fun K hK hS=>?_) ⟨⟨_,(aj.refl _ w9).drew⟩,rfl⟩;go_simp;refine hK _ _ ⟨⟨_,((aj.refl _ w9).drew).alloc _⟩,rfl⟩ ?_;clear hK K hS hx0 hx1 hx2 hy0 hy1;refine kN (fun K hK hS=>?_) ⟨⟨_,(((aj.refl _ w9).drew).alloc _)⟩,rfl⟩;clear hS;refine dP _ (.tmp 58) (.tmp 60) 54 rfl (w.heap.size+2) 65 iT (.agg #[.int .i64 0,.slice none 0 0]) 2 32 Tryz.underlying54 hi hz0 hz1 hz2 rfl (by decide) _ _ _ rfl HOW.out _ 1 1 [Value.int .i64 (ri:Int),.slice pa pp.length pc] rfl rfl oN.out mW.out jA.out.1 jA.out.2.1 jA.out.2.2 ?_;intro v7 w7 dE;obtain⟨a7,c7,hv7⟩:=bJ dE.own;subst hv7;refine hK _ _ ⟨⟨_,((((aj.refl _ w9).drew).alloc (.cells #[.int .i64 (ri:Int),.slice pa pp.length pc] 65))).trans (dE.upd)⟩,rfl⟩ ?_;clear hK K;have hR7:=dE.upd.heap HRO.out (fun e=>by have:=HOWN.out _ e;omega);obtain⟨x0,x1,x2⟩:=ag hR7;have f7:=fun i=>au hR7 i;refine iE (fun K hK=>?_);go_simp;refine hK _ _ ?_;clear hK K;refine iE (fun K hK=>?_);go_simp;refine hK _ _ ?_;clear hK K;simp only[cu];have hxe:tK ((nG ri pp,pa,pc):Xe)=[Value.int .i64 (ri:Int),.slice pa pp.length pc]:=by simp[tK,D9,nG]
   have dE:Grew (w.heap.size+2) 65 2 (.slice oa L.length oc) (L.length+1) (L.flatMap tK++tK ((nG ri pp,pa,pc):Xe)) (w9.drew.alloc (.cells #[.int .i64 (ri:Int),.slice pa pp.length pc] 65)) w7 (.slice a7 (L.length+1) c7):=by rw[hxe];exact dE
   have hGX:=HG.out.grow HS.out O0.out (x:=(nG ri pp,pa,pc)) (by
    have:=Ul amK.out;have e:D9 ((nG ri pp,pa,pc):Xe)= .slice pa pp.length pc:=by simp[D9,nG]
    rw[e];exact this) amL.out (((uR w9).drew).alloc (.cells #[.int .i64 (ri:Int),.slice pa pp.length pc] 65)) (fun _ h=>h.elim) dE
   have HQ8:=ae (aJ hR7 (.string nx.name) (.string nx.sort) (.slice na nx.kids.length nc));have dG:=ae (aI w7 w.heap.size (.string nx.name) (.string nx.sort) (.slice na nx.kids.length nc));have JJ:aj (fun j=>(Value.slice oa L.length oc).ownBlock=some j) w9 w7:=((((uR w9).drew).alloc (.cells #[.int .i64 (ri:Int),.slice pa pp.length pc] 65)).mono (fun _ _ h=>h.elim)).trans dE.upd;have hwh:=dE.xE;have HGX:=ae (hGX.kept dG.out (fun j hj _ e=>by omega));have bV:=ae ((H9.out.trans' JJ (fun j hj e=>by have:=HOWN.out _ e;omega)).trans' dG.out (fun j hj e=>by omega));have JK:=ae (dG.out.heap (JJ.heap tJ.out (fun e=>by have:=HOWN.out _ e;omega)) (by omega));have HT8:=ae (((WU.out.kept JJ (fun j hj e=>by have:=HOWN.out _ e;omega)).kept dG.out (fun j hj e=>by have:=HS.out;omega)).weaken (fun j hj=>(⟨by have:=HS.out;omega,ay hj.2 (Nat.le_trans JJ.size dG.out.size),fun e=>by
    rcases hwh with h|h
    .rw [h] at e;have:=HOWN.out _ e;omega
    .rw [h] at e;injection e with e;have:=hj.2;have h9:w9.heap.size< (w9.drew.alloc (.cells #[.int .i64 (ri:Int),.slice pa pp.length pc] 65)).heap.size:=by simp;
     omega⟩:w.heap.size+2<=j/\j<_/\(Value.slice a7 (L.length+1) c7).ownBlock≠some j)))
   have ji:=ae (Nat.le_trans pF.out (Nat.le_trans JJ.size dG.out.size));have hlen:(L++[((nG ri pp,pa,pc):Xe)]).length=L.length+1:=by simp
   have amM:Hid (gW l (F- (L++[((nG ri pp,pa,pc):Xe)]).length) nx ((L++[((nG ri pp,pa,pc):Xe)]).map (·.1))=Z):=ae (by rw[hlen,List.map_append];exact ai0.out.symm);rw[<-hlen] at HGX HT8⊢;clear hGX hwh JJ hR7 hxe dE x0 x1 x2 f7 hi hz0 hz1 hz2
   go_wp2_with fail
   go_roundg (F- (L++[((nG ri pp,pa,pc):Xe)]).length)
   case measure=>rw[hlen];omega
   case rel=>exact⟨_,nx,a7,na,c7,nc,by rw[hlen],rfl,by rw[hlen];omega,HGX,HQ8,JK,HT8,bV,ji,HWN,amM⟩
theorem Gu (l:List Rl) (t:Tm) (fuel:Int) (lv v:Value) (w:World) (hL:jc (fun k=>k<w.heap.size) w l lv) (hT:bC (fun k=>k<w.heap.size) w t v) (htab:bT w) (hll:l.length<=1000000) (hls: ∀r∈l,r.1.size<=100000/\r.2.size<=100000) (hrs:bY l=true->∀r∈l,r.2.size<=60) (hsz:t.size<=100000) (hfu: -9223372036854775808<=fuel/\fuel<=9223372036854775807):
  Calls Tryz.prog 38 #[lv,v,.int .i64 fuel] w fun e w'=> ∃r,e= .returned (.tuple #[tV (l_ l t fuel).1 r,.int .i64 ((l_ l t fuel).2.1.length:Int),.int .i64 (l_ l t fuel).2.2])/\aA (fun k=>w.heap.size<=k/\k<w'.heap.size) w' (l_ l t fuel).1.kids r/\Ext w w':=by
 obtain⟨Z,hZ⟩: ∃Z,l_ l t fuel=Z:=⟨_,rfl⟩
 have jD:=ae (fun(W:World) (hW:Ext w W)=>aba l t fuel lv v W ((hL.ext hW).weaken (fun k hk=>ay hk hW.size)) ((hT.ext hW).weaken (fun k hk=>ay hk hW.size)) (aC htab hW) hll hls hrs hsz hfu);rw[hZ] at jD⊢;obtain⟨nx,tr,en⟩:=Z;obtain⟨la,lc,rfl⟩:=hL.shape;obtain⟨a,cap,rfl,hTL⟩:=hT;dsimp only[tV] at jD⊢;have HZ1:=ae (((uR w).alloc (tO t a cap)).alloc zO);have HB0:=ae (ak (ai w (tO t a cap)) zO);have H1:=ae (alloc_at (w.alloc (tO t a cap)) zO (n:=w.heap.size+1) (by simp));have hz2:w.heap.size+2<=((w.alloc (tO t a cap)).alloc zO).heap.size:=by simp
 have HZ2:=ae hz2;clear hz2;obtain⟨x0,x1,x2⟩:=ag HB0.out;clear hL htab hls hrs hTL hZ
 go_enter Tryz.func38,Tryz.ntmps38
 go_wp2_with fail
 generalize ((w.alloc (tO t a cap)).alloc zO)=w1 at*;refine(jD.out _ HZ1.out).mono ?_;rintro e w3 ⟨r,tv,rfl,hTl,yJ,hw3⟩;obtain⟨na,nc,hrn⟩:=hTl.shape;subst hrn;obtain⟨ra,rc,hrr⟩:=yJ.shape;subst hrr;have hX:=hw3.alloc (tO nx na nc);have aS:=ae (HZ1.out.trans hX);have IE:=ae (hX.heap H1.out (fun h=>h));have HN:=ae (ai w3 (tO nx na nc));have gV:Hid (w.heap.size+2<=(w3.alloc (tO nx na nc)).heap.size):=ae (Nat.le_trans HZ2.out hX.size);have gQ:Hid (w.heap.size+2<=w3.heap.size):=ae (Nat.le_trans HZ2.out hw3.size);have WU:Hid (aA (fun j=>w.heap.size+2<=j/\j< (w3.alloc (tO nx na nc)).heap.size) (w3.alloc (tO nx na nc)) nx.kids (.slice na nx.kids.length nc)):=ae ((hTl.ext ((uR w3).alloc (tO nx na nc))).weaken (fun j hj=>⟨by have:=HZ2.out;omega,ay hj.2 ((uR w3).alloc (tO nx na nc)).size⟩));clear hTl yJ hw3 hX jD HZ1 HB0 H1 HZ2 x0 x1 x2;dsimp only;obtain⟨nb,hnb⟩: ∃n,w3.heap.size=n:=⟨_,rfl⟩
 rw[hnb] at HN gQ;obtain⟨m0,m1,m2⟩:=ag HN.out;have f2:=fun i=>au IE.out i;obtain⟨d0,d1,d2⟩:=ag IE.out
 go_wp2_with fail
 try rw[hnb]
 generalize w3.alloc (tO nx na nc)=w4 at*;clear hnb;have hr3:=aJ IE.out (.string nx.name) (.string nx.sort) (.slice na nx.kids.length nc);have hu:=aI w4 (w.heap.size+1) (.string nx.name) (.string nx.sort) (.slice na nx.kids.length nc);obtain⟨e0,e1,e2⟩:=ag hr3;refine bodyPost_ret (v:= .tuple #[.agg #[.string nx.name,.string nx.sort,.slice na nx.kids.length nc],.int .i64 (tr.length:Int),.int .i64 en]) (by simp[results,Tryz.results38,go_sem,e0,e1,e2]) rfl ?_;have hue:=aS.out.trans' hu (fun j hj e=>by omega);have hk:=(WU.out.kept hu (fun j hj e=>by omega)).weaken (fun j hj=>(⟨by omega,ay hj.2 hu.size⟩:w.heap.size<=j/\j<_));exact⟨.slice na nx.kids.length nc,rfl,hk,hue⟩
theorem acQ (l:List Rl) (t:Tm) (fuel:Int) (lv v:Value) (w:World) (hL:jc (fun k=>k<w.heap.size) w l lv) (hT:bC (fun k=>k<w.heap.size) w t v) (htab:bT w) (hll:l.length<=1000000) (hls: ∀r∈l,r.1.size<=100000/\r.2.size<=100000) (hrs:bY l=true->∀r∈l,r.2.size<=60) (hsz:t.size<=100000) (hfu: -9223372036854775808<=fuel/\fuel<=9223372036854775807):
  Calls Tryz.prog 39 #[lv,v,.int .i64 fuel] w fun e w'=> ∃tv,e= .returned (.tuple #[tv,.int .i64 (l_ l t fuel).2.2])/\lK (fun k=>w.heap.size<=k/\k<w'.heap.size) (fun k=>w.heap.size<=k/\k<w'.heap.size) w' tv (l_ l t fuel).2.1/\Ext w w':=by
 obtain⟨Z,hZ⟩: ∃Z,l_ l t fuel=Z:=⟨_,rfl⟩
 have jD:=ae (fun(W:World) (hW:Ext w W)=>aba l t fuel lv v W ((hL.ext hW).weaken (fun k hk=>ay hk hW.size)) ((hT.ext hW).weaken (fun k hk=>ay hk hW.size)) (aC htab hW) hll hls hrs hsz hfu);rw[hZ] at jD⊢;obtain⟨nx,tr,en⟩:=Z;obtain⟨la,lc,rfl⟩:=hL.shape;obtain⟨a,cap,rfl,hTL⟩:=hT;dsimp only[tV] at jD⊢;have HZ1:=ae ((uR w).alloc (tO t a cap));have HB0:=ae (ai w (tO t a cap));obtain⟨x0,x1,x2⟩:=ag HB0.out;clear hL htab hls hrs hTL hZ
 go_enter Tryz.func39,Tryz.ntmps39
 go_wp2_with fail
 generalize (w.alloc (tO t a cap))=w1 at*;refine(jD.out _ HZ1.out).mono ?_;rintro e w3 ⟨r,tv,rfl,hTl,yJ,hw3⟩;obtain⟨na,nc,hrn⟩:=hTl.shape;subst hrn;obtain⟨ra,rc,hrr⟩:=yJ.shape;subst hrr;have hX:=hw3.alloc (tO nx na nc);have aS:=ae (HZ1.out.trans hX);have hr9:=lK.weaken (yJ.ext ((uR w3).alloc (tO nx na nc))) (Q:=fun k=>w.heap.size<=k/\k< (w3.alloc (tO nx na nc)).heap.size) (T:=fun k=>w.heap.size<=k/\k< (w3.alloc (tO nx na nc)).heap.size) (fun j hj=>⟨by have:=HZ1.out.size;omega,ay hj.2 ((uR w3).alloc (tO nx na nc)).size⟩) (fun j hj=>⟨by have:=HZ1.out.size;omega,ay hj.2 ((uR w3).alloc (tO nx na nc)).size⟩);have HRX:=ae hr9;clear hTl yJ hw3 hX jD HZ1 HB0 x0 x1 x2 hr9;dsimp only
 go_wp2_with fail
 refine bodyPost_ret (v:= .tuple #[.slice ra tr.length rc,.int .i64 en]) (by simp[results,Tryz.results39,go_sem]) rfl ?_;exact⟨_,rfl,HRX.out,aS.out⟩
def uB (r:Rl):Bool:=pY [r.1]||pY [r.2]||(formed ax r.1&&decide (60<r.1.size))||(formed ax r.2&&decide (60<r.2.size))
def D_ (l:List Rl):Bool:=(decide (20<l.length)&&decide (l.length<=100))||decide (110<l.length)||l.any uB
theorem acR (x y:Tm) (xa ya:Option Addr) (xc yc:Nat) (w:World) (h1:aA (fun k=>k<w.heap.size) w x.kids (.slice xa x.kids.length xc)) (h2:aA (fun k=>k<w.heap.size) w y.kids (.slice ya y.kids.length yc)):
  Calls Tryz.prog 107 #[.agg #[.string x.name,.string x.sort,.slice xa x.kids.length xc,.string y.name,.string y.sort,.slice ya y.kids.length yc]] w fun e w'=>e= .returned (.bool (uB (x,y)))/\Ext w w':=by
 obtain⟨Z,hZ⟩: ∃Z,uB (x,y)=Z:=⟨_,rfl⟩
 rw[hZ];have afT:=rY (nm:=ax) x;have oK:=rY (nm:=ax) y;have Um:=ae (fun W (hW:Ext w W)=>Ez x 1 1000 (tV x (.slice xa x.kids.length xc)) _ W ⟨xa,xc,rfl,h1.ext hW⟩ (by decide) (by decide) (by decide));have JL:=ae (fun W (hW:Ext w W)=>Ez y 1 1000 (tV y (.slice ya y.kids.length yc)) _ W ⟨ya,yc,rfl,h2.ext hW⟩ (by decide) (by decide) (by decide));have abl:=ae (fun(hs:x.size<=1000000) W (hW:Ext w W)=>JE x (tV x (.slice xa x.kids.length xc)) _ W ⟨xa,xc,rfl,h1.ext hW⟩ hs);have abm:=ae (fun(hs:y.size<=1000000) W (hW:Ext w W)=>JE y (tV y (.slice ya y.kids.length yc)) _ W ⟨ya,yc,rfl,h2.ext hW⟩ hs);have hE1:=((uR w).alloc (.cells #[.string x.name,.string x.sort,.slice xa x.kids.length xc,.string y.name,.string y.sort,.slice ya y.kids.length yc] 146))
 have hE2:=hE1.alloc (tO x xa xc);have HE2:=ae hE2;have je:=ae (AU [x] _ (fun k=>k< ((w.alloc (.cells #[.string x.name,.string x.sort,.slice xa x.kids.length xc,.string y.name,.string y.sort,.slice ya y.kids.length yc] 146)).alloc (tO x xa xc)).heap.size) _ (Iz (n:=w.heap.size+1) (alloc_at (w.alloc (.cells #[.string x.name,.string x.sort,.slice xa x.kids.length xc,.string y.name,.string y.sort,.slice ya y.kids.length yc] 146)) (tO x xa xc) (by simp)) (by simp) ((h1.ext hE2).weaken (fun k hk=>ay hk hE2.size))) (fun k hk=>hk) (by simp));have HBY:=ae (fun W (hW:Ext w W)=>AU [y] (.slice (some ⟨W.heap.size,0,none⟩) 1 1) (fun k=>k< (W.alloc (tO y ya yc)).heap.size) (W.alloc (tO y ya yc)) (Iz (ai W (tO y ya yc)) (by simp) ((h2.ext (hW.alloc (tO y ya yc))).weaken (fun k hk=>ay hk (hW.alloc (tO y ya yc)).size))) (fun k hk=>hk) (by simp));have HB2:=ae (ak (ai w (.cells #[.string x.name,.string x.sort,.slice xa x.kids.length xc,.string y.name,.string y.sort,.slice ya y.kids.length yc] 146)) (tO x xa xc));have hb1:=ai w (.cells #[.string x.name,.string x.sort,.slice xa x.kids.length xc,.string y.name,.string y.sort,.slice ya y.kids.length yc] 146);obtain⟨x0,x1,x2,x3,x4,x5⟩:=eG hb1;have hzz:Z=(pY [x]||pY [y]||(formed ax x&&decide (60<x.size))||(formed ax y&&decide (60<y.size))):=hZ.symm;rw[afT,oK] at hzz;have hg1:pY [x]=false->x.size<=1000000:=fun h=>by have:=rJ h;omega
 have hg2:pY [y]=false->y.size<=1000000:=fun h=>by have:=rJ h;omega
 obtain⟨s1,hs1⟩: ∃s,small ax 1 1000 x=s:=⟨_,rfl⟩
 obtain⟨s2,hs2⟩: ∃s,small ax 1 1000 y=s:=⟨_,rfl⟩
 rw[hs1] at hzz Um;rw[hs2] at hzz JL;have Ea:=ae (fun h=>abl.out (hg1 h));have Eb:=ae (fun h=>abm.out (hg2 h));obtain⟨b1,hb1'⟩: ∃b,pY [x]=b:=⟨_,rfl⟩
 obtain⟨b2,hb2'⟩: ∃b,pY [y]=b:=⟨_,rfl⟩
 obtain⟨n1,hn1⟩: ∃n,x.size=n:=⟨_,rfl⟩
 obtain⟨n2,hn2⟩: ∃n,y.size=n:=⟨_,rfl⟩
 rw[hb1',hb2',hn1,hn2] at hzz;rw[hb1'] at je Ea;rw[hb2'] at HBY Eb;rw[hn1] at Ea;rw[hn2] at Eb;have HZ:=ae hzz;dsimp only[tV] at Um JL Ea Eb;clear hzz hZ afT oK h1 h2 hE1 hE2 hb1 hg1 hg2 hs1 hs2 hb1' hb2' hn1 hn2 abl abm
 go_enter Tryz.func107,Tryz.ntmps107
 go_wp2_with fail
 generalize (w.alloc (.cells #[.string x.name,.string x.sort,.slice xa x.kids.length xc,.string y.name,.string y.sort,.slice ya y.kids.length yc] 146)).alloc (tO x xa xc)=w1 at*;refine je.out.mono ?_;rintro e w3 ⟨rfl,hw3⟩;have aS:=ae (HE2.out.trans hw3);have HB3:=ae (hw3.heap HB2.out (fun h=>h));clear hw3 je HE2 HB2 x0 x1 x2 x3 x4 x5;cases b1 with
 |true=>
  obtain rfl:Z=true:=by have h:=HZ.out;simp[] at h;exact h
  go_wp2_with fail
  go_ret;exact⟨by first|rfl|simp,aS.out⟩
 |false=>
  have afV:=ae (Ea.out rfl);clear Ea;obtain⟨x0,x1,x2,x3,x4,x5⟩:=eG HB3.out
  go_wp2_with fail
  refine(HBY.out _ aS.out).mono ?_;rintro e w4 ⟨rfl,hw4⟩;have bQ:=ae (aS.out.trans (((uR w3).alloc (tO y ya yc)).trans hw4));have HB4:=ae (hw4.heap (ak HB3.out (tO y ya yc)) (fun h=>h));clear hw4 HBY aS HB3 x0 x1 x2 x3 x4 x5;cases b2 with
  |true=>
   obtain rfl:Z=true:=by have h:=HZ.out;simp[] at h;exact h
   go_wp2_with fail
   go_ret;exact⟨by first|rfl|simp,bQ.out⟩
  |false=>
   have uM:=ae (Eb.out rfl);clear Eb;obtain⟨x0,x1,x2,x3,x4,x5⟩:=eG HB4.out
   go_wp2_with fail
   refine(Um.out _ bQ.out).mono ?_;rintro e w4s ⟨rfl,hws⟩;have Un:=ae (bQ.out.trans hws);have Uo:=ae (hws.heap HB4.out (fun h=>h));clear hws Um x0 x1 x2 x3 x4 x5;by_cases hs1:0<=s1
   .have t1:decide ((0:Int)<=s1)=true:=dT hs1;have yP:=ae (afV.out _ Un.out);clear afV;obtain⟨x0,x1,x2,x3,x4,x5⟩:=eG Uo.out
    go_wp2_with fail
    refine yP.out.mono ?_;rintro e w4z ⟨rfl,hwz⟩;have Y8:=ae (Un.out.trans hwz);have afW:=ae (hwz.heap Uo.out (fun h=>h));clear hwz yP x0 x1 x2 x3 x4 x5;by_cases hz1:(60:Int)< (n1:Int)
    .have u1:decide ((60:Int)< (n1:Int))=true:=dT hz1;have hn1:60<n1:=by omega
     obtain rfl:Z=true:=by have h:=HZ.out;simp[hn1,t1] at h;exact h
     go_wp2_with fail
     go_ret;exact⟨by first|rfl|simp,Y8.out⟩
    .have u1:decide ((60:Int)< (n1:Int))=false:=dF hz1;have hn1: ¬60<n1:=by omega
     obtain⟨x0,x1,x2,x3,x4,x5⟩:=eG afW.out
     go_wp2_with fail
     refine(JL.out _ Y8.out).mono ?_;rintro e ao8 ⟨rfl,hws⟩;have Us:=ae (Y8.out.trans hws);have abn:=ae (hws.heap afW.out (fun h=>h));clear hws JL x0 x1 x2 x3 x4 x5;by_cases hs2:0<=s2
     .have t2:decide ((0:Int)<=s2)=true:=dT hs2;have Ec:=ae (uM.out _ Us.out);clear uM;obtain⟨x0,x1,x2,x3,x4,x5⟩:=eG abn.out
      go_wp2_with fail
      refine Ec.out.mono ?_;rintro e ao9 ⟨rfl,hwz⟩;have abo:=ae (Us.out.trans hwz);have aoT:=ae (hwz.heap abn.out (fun h=>h));clear hwz Ec x0 x1 x2 x3 x4 x5;by_cases hz2:(60:Int)< (n2:Int)
      .have u2:decide ((60:Int)< (n2:Int))=true:=dT hz2;have hn2:60<n2:=by omega
       obtain rfl:Z=true:=by have h:=HZ.out;simp[hn1,t1,hn2,t2] at h;exact h
       go_wp2_with fail
       go_ret;exact⟨by first|rfl|simp,abo.out⟩
      .have u2:decide ((60:Int)< (n2:Int))=false:=dF hz2;have hn2: ¬60<n2:=by omega
       obtain rfl:Z=false:=by have h:=HZ.out;simp[hn1,t1,hn2,t2] at h;exact h
       go_wp2_with fail
       go_ret;exact⟨by first|rfl|simp,abo.out⟩
     .have t2:decide ((0:Int)<=s2)=false:=dF hs2;obtain rfl:Z=false:=by have h:=HZ.out;simp[hn1,t1,t2] at h;exact h
      go_wp2_with fail
      go_ret;exact⟨by first|rfl|simp,Us.out⟩
   .have t1:decide ((0:Int)<=s1)=false:=dF hs1;obtain⟨x0,x1,x2,x3,x4,x5⟩:=eG Uo.out
    go_wp2_with fail
    refine(JL.out _ Un.out).mono ?_;rintro e ao_ ⟨rfl,hws⟩;have Ut:=ae (Un.out.trans hws);have abp:=ae (hws.heap Uo.out (fun h=>h));clear hws JL x0 x1 x2 x3 x4 x5;by_cases hs2:0<=s2
    .have t2:decide ((0:Int)<=s2)=true:=dT hs2;have Ec:=ae (uM.out _ Ut.out);clear uM;obtain⟨x0,x1,x2,x3,x4,x5⟩:=eG abp.out
     go_wp2_with fail
     refine Ec.out.mono ?_;rintro e apa ⟨rfl,hwz⟩;have abq:=ae (Ut.out.trans hwz);have aoU:=ae (hwz.heap abp.out (fun h=>h));clear hwz Ec x0 x1 x2 x3 x4 x5;by_cases hz2:(60:Int)< (n2:Int)
     .have u2:decide ((60:Int)< (n2:Int))=true:=dT hz2;have hn2:60<n2:=by omega
      obtain rfl:Z=true:=by have h:=HZ.out;simp[t1,hn2,t2] at h;exact h
      go_wp2_with fail
      go_ret;exact⟨by first|rfl|simp,abq.out⟩
     .have u2:decide ((60:Int)< (n2:Int))=false:=dF hz2;have hn2: ¬60<n2:=by omega
      obtain rfl:Z=false:=by have h:=HZ.out;simp[t1,hn2,t2] at h;exact h
      go_wp2_with fail
      go_ret;exact⟨by first|rfl|simp,abq.out⟩
    .have t2:decide ((0:Int)<=s2)=false:=dF hs2;obtain rfl:Z=false:=by have h:=HZ.out;simp[t1,t2] at h;exact h
     go_wp2_with fail
     go_ret;exact⟨by first|rfl|simp,Ut.out⟩
theorem WV (L:List Rl) (v:Value) (w:World) (hR:jc (fun k=>k<w.heap.size) w L v) (hl:L.length<=1000000):
  Calls Tryz.prog 165 #[v,.func (.func 107) #[] #[]] w fun e w'=> ∃r:Int,e= .returned (.int .i64 r)/\decide (0<=r)=L.any uB/\Ext w w':=by
 obtain⟨a,cap,rfl⟩:=hR.shape;have HR:=ae hR;clear hR
 go_enter Tryz.func165,Tryz.ntmps165
 go_wp2_with fail
 go_loopg [8] L.length (fun gk iv wr=> ∃k:Nat,iv= .int .i64 (k:Int)/\gk=L.length-k/\k<=L.length/\Hid (Ext w wr)/\Hid ((L.take k).any uB=false))
 case atStart=>exact⟨0,rfl,rfl,Nat.zero_le _,ae (aj.refl _ _),ae rfl⟩
 case round=>
  obtain⟨k,rfl,rfl,hk,HE,HM⟩:=hrel;by_cases hlt:k<L.length
  .obtain ⟨g,off,hga,_,hat⟩:=(HR.out.ext HE.out).at_ (by omega);subst hga;obtain⟨xa,xc,ya,yc,q0,q1,q2,q3,q4,q5,hk1,hk2⟩:=hat k hlt;obtain⟨z0,z1,z2,z2'⟩:=bz hlt;have hmem:rg L k∈L:=by
    unfold Go.Hw.rg;rw[List.getD_eq_getElem?_getD,List.getElem?_eq_getElem hlt];exact List.getElem_mem hlt
   have htk:L.take (k+1)=L.take k++[rg L k]:=by
    unfold Go.Hw.rg;rw[List.getD_eq_getElem?_getD,List.getElem?_eq_getElem hlt];rw[List.take_add_one,List.getElem?_eq_getElem hlt];rfl
   have bI:=ae (acR (rg L k).1 (rg L k).2 xa ya xc yc wr (hk1.weaken (fun k hk=>ay hk HE.out.size)) (hk2.weaken (fun k hk=>ay hk HE.out.size)));have HN:Hid (uB (rg L k)=false->(L.take (k+1)).any uB=false):=ae (fun h=>by
    rw[htk,List.any_append,HM.out,List.any_cons,List.any_nil,h];rfl)
   have HY:Hid (uB (rg L k)=true->L.any uB=true):=ae (fun h=>List.any_eq_true.2 ⟨_,hmem,h⟩);obtain⟨⟨x,y⟩,hx⟩: ∃x,rg L k=x:=⟨_,rfl⟩
   rw[hx] at q0 q1 q2 q3 q4 q5 bI HN HY;simp only at q0 q1 q2 q3 q4 q5 bI;obtain⟨b,hb⟩: ∃b,uB (x,y)=b:=⟨_,rfl⟩
   rw[hb] at bI HN HY;clear hat hmem hx hb HM hk1 hk2 htk
   go_wp2_with fail
   refine bI.out.mono ?_;rintro e w4 ⟨rfl,hw4⟩;have H4:=ae (HE.out.trans hw4);clear hw4 q0 q1 q2 q3 q4 q5 bI HE;cases b
   .have fV:=ae (HN.out rfl);clear HN HY
    go_wp2_with fail
    go_roundg (L.length- (k+1))
    case measure=>omega
    case rel=>exact⟨k+1,by go_num,rfl,by omega,H4,fV⟩
   .have qh:=ae (HY.out rfl);clear HN HY
    go_wp2_with fail
    go_ret;exact⟨_,rfl,by rw[qh.out];exact dT z0,H4.out⟩
  .obtain rfl:k=L.length:=by omega
   have z2:decide ((L.length:Int)< (L.length:Int))=false:=dF (by omega);have jr:=HM.out;rw[List.take_length] at jr;have KG:=ae jr;clear jr
   go_wp2_with fail
   go_ret;exact⟨_,rfl,by rw[KG.out];rfl,HE.out⟩
theorem WW (L:List Rl) (v:Value) (w:World) (hR:jc (fun k=>k<w.heap.size) w L v) (hl:L.length<=1000000):
  Calls Tryz.prog 106 #[v,.func (.func 107) #[] #[]] w fun e w'=>e= .returned (.bool (L.any uB))/\Ext w w':=by
 have HI:=ae (WV L v w hR hl);clear hR
 go_enter Tryz.func106,Tryz.ntmps106
 go_wp2_with fail
 refine HI.out.mono ?_;rintro e w4 ⟨r,rfl,hr,hw4⟩;have H4:=ae hw4;have HRR:=ae hr;clear hw4 hr
 go_wp2_with fail
 go_ret;rw[<-HRR.out];exact⟨rfl,H4.out⟩
theorem acS (L:List Rl) (v:Value) (w:World) (hR:jc (fun k=>k<w.heap.size) w L v) (hl:L.length<=maxLen):
  Calls Tryz.prog 36 #[v] w fun e w'=>e= .returned (.bool (D_ L))/\Ext w w':=by
 have HC:=ae (fun h=>WW L v w hR h);obtain⟨Z,hZ⟩: ∃Z,D_ L=Z:=⟨_,rfl⟩
 rw[hZ];have HZ:Hid (Z=((decide (20<L.length)&&decide (L.length<=100))||decide (110<L.length)||L.any uB)):=ae hZ.symm;obtain⟨a,cap,rfl⟩:=hR.shape;obtain⟨b,hb⟩: ∃b,L.any uB=b:=⟨_,rfl⟩
 rw[hb] at HC HZ;have HE:Hid (Ext w w):=ae (aj.refl _ _);clear hR hZ hb;have yK:=HC;clear HC;obtain⟨n,hn⟩: ∃n,L.length=n:=⟨_,rfl⟩
 rw[hn] at yK HZ hl⊢;by_cases p1:20<n
 .have t1:decide ((20:Int)< (n:Int))=true:=dT (by omega);by_cases p2:n<=100
  .have t2:decide ((n:Int)<=(100:Int))=true:=dT (by omega);obtain rfl:Z=true:=by have h:=HZ.out;simp[p1,p2] at h;exact h
   clear yK
   go_enter Tryz.func36,Tryz.ntmps36
   go_wp2_with fail
   go_ret;exact⟨rfl,HE.out⟩
  .have t2:decide ((n:Int)<=(100:Int))=false:=dF (by omega);by_cases p3:110<n
   .have t3:decide ((110:Int)< (n:Int))=true:=dT (by omega);obtain rfl:Z=true:=by have h:=HZ.out;simp[p3] at h;exact h
    clear yK
    go_enter Tryz.func36,Tryz.ntmps36
    go_wp2_with fail
    go_ret;exact⟨rfl,HE.out⟩
   .have t3:decide ((110:Int)< (n:Int))=false:=dF (by omega);have d2:decide (n<=100)=false:=dF p2;have d3:decide (110<n)=false:=dF p3;obtain rfl:Z=b:=by have h:=HZ.out;simpa[d2,d3] using h
    have HC:=ae (yK.out (by omega));clear yK
    go_enter Tryz.func36,Tryz.ntmps36
    go_wp2_with fail
    refine HC.out.mono ?_;rintro e w4 ⟨rfl,hw4⟩
    go_wp2_with fail
    go_ret;exact⟨rfl,hw4⟩
 .have t1:decide ((20:Int)< (n:Int))=false:=dF (by omega);have t3:decide ((110:Int)< (n:Int))=false:=dF (by omega);have d1:decide (20<n)=false:=dF p1;have d3:decide (110<n)=false:=dF (by omega);obtain rfl:Z=b:=by have h:=HZ.out;simpa[d1,d3] using h
  have HC:=ae (yK.out (by omega));clear yK
  go_enter Tryz.func36,Tryz.ntmps36
  go_wp2_with fail
  refine HC.out.mono ?_;rintro e w4 ⟨rfl,hw4⟩
  go_wp2_with fail
  go_ret;exact⟨rfl,hw4⟩
theorem afX (p q:List Int) (v u:Value) (S T:Nat->Prop) (w:World) (hp:wQ S w v p) (hq:wQ T w u q) (hpl:p.length<=1000000):
  Calls Tryz.prog 113 #[v,u] w fun e w'=>e= .returned (.bool (decide (p=q)))/\Ext w w':=by
 have HP:=ae hp;have HQ:=ae hq;obtain⟨a,c,rfl⟩:=hp.shape;obtain⟨b,d,rfl⟩:=hq.shape;obtain⟨Z,hZ⟩: ∃Z,decide (p=q)=Z:=⟨_,rfl⟩
 rw[hZ];have HZ:=ae hZ.symm;have H0:Hid (Ext w w):=ae (aj.refl _ _);clear hp hq hZ;by_cases hl:p.length=q.length
 rotate_left
 .have e1:((p.length:Int)==(q.length:Int))=false:=beq_eq_false_iff_ne.2 (by omega);have e2:decide ((p.length:Int)=(q.length:Int))=false:=dF (by omega);obtain rfl:Z=false:=by rw[HZ.out];exact dF (fun h=>hl (by rw[h]))
  clear hl HP HQ
  go_enter Tryz.func113,Tryz.ntmps113
  go_wp2_with fail
  go_ret;exact⟨rfl,H0.out⟩
 have HL:=ae hl.symm;rw[HL.out];clear hl
 go_enter Tryz.func113,Tryz.ntmps113
 go_wp2_with fail
 go_loopg [5] p.length (fun gk iv wr=> ∃k:Nat,iv= .int .i64 (k:Int)/\gk=p.length-k/\k<=p.length/\Hid (∀j,j<k->p[j]?=q[j]?)/\Hid (Ext w wr))
 case atStart=>exact⟨0,rfl,rfl,Nat.zero_le _,ae (fun j h=>absurd h (Nat.not_lt_zero _)),H0⟩
 case round=>
  obtain⟨k,rfl,rfl,hk,HC,HE⟩:=hrel;by_cases hlt:k<p.length
  .have hlq:k<q.length:=by have:=HL.out;omega
   obtain⟨g,off,c',e,_,_,hj⟩:=az.pos (az.kept HP.out HE.out (fun _ _ h=>h)) (by omega);injection e with e e3 e4
   subst e;obtain⟨g2,lU,d',e,_,_,hj2⟩:=az.pos (az.kept HQ.out HE.out (fun _ _ h=>h)) (by omega);injection e with e e5 e6
   subst e;obtain⟨x,hx⟩: ∃x,p[k]?=some x:=⟨_,List.getElem?_eq_getElem hlt⟩
   obtain⟨y,hy⟩: ∃y,q[k]?=some y:=⟨_,List.getElem?_eq_getElem hlq⟩
   have q0:wr.cell? ⟨g,off+k,none⟩=some (.int .i64 x):=by rw[hj k (by omega),List.getElem?_map,hx];rfl
   have q1:wr.cell? ⟨g2,lU+k,none⟩=some (.int .i64 y):=by rw[hj2 k (by omega),List.getElem?_map,hy];rfl
   obtain⟨z0,z1,z2,z2'⟩:=bz hlt;clear hj hj2 e3 e4 e5 e6;by_cases hxy:x=y
   .subst hxy;have HC2:Hid (∀j,j<k+1->p[j]?=q[j]?):=ae (fun j h=>by
     rcases Nat.lt_succ_iff_lt_or_eq.1 h with h|h
     .exact HC.out j h
     .rw [h,hx,hy])
    clear hx hy HC
    go_wp2_with fail
    go_quiet (fail)
    go_wp2_with fail
    go_roundg (p.length- (k+1))
    case measure=>omega
    case rel=>exact⟨k+1,by go_num,rfl,by omega,HC2,ae (HE.out.drewN' _)⟩
   .have t1:(x==y)=false:=beq_eq_false_iff_ne.2 hxy;have t2:decide (x=y)=false:=dF hxy;obtain rfl:Z=false:=by
     rw[HZ.out];refine dF (fun h=>hxy ?_);rw[h,hy] at hx;exact(Option.some.inj hx).symm
    clear hx hy HC hxy
    go_wp2_with fail
    go_quiet (fail)
    go_wp2_with fail
    go_ret;exact⟨rfl,HE.out.drewN' _⟩
  .obtain rfl:k=p.length:=by omega
   have z2:decide ((p.length:Int)< (p.length:Int))=false:=dF (by omega);obtain rfl:Z=true:=by
    rw[HZ.out];refine dT (List.ext_getElem? (fun j=>?_));by_cases hj:j<p.length
    .exact HC.out j hj
    .rw [List.getElem?_eq_none (by omega),List.getElem?_eq_none (by have:=HL.out;omega)]
   clear HC
   go_wp2_with fail
   go_ret;exact⟨rfl,HE.out⟩
theorem JM: ∀{p:List Int} {t u:Tm},jh t p=some u->∃q:List Nat,p=q.map (fun j:Nat=>(j:Int))/\uj t q/\u=uJ t q
 |[],t,u,h=>by
  have h:some t=some u:=by rw[<-h];rfl
  exact⟨[],rfl,trivial,(Option.some.inj h).symm⟩
 |i::p,t,u,h=>by
  rw[yC] at h;by_cases hc:i<0\/(t.kids.length:Int)<=i
  .rw [if_pos hc] at h;cases h
  .rw [if_neg hc] at h;obtain⟨q,h1,h2,h3⟩:=JM h;refine⟨i.toNat::q,?_,⟨by omega,h2⟩,h3⟩;rw[List.map_cons,<-h1]
   congr 1
   omega
end
end Go.Proofs.YtlkcjmaiahnodaaGreatDoor
