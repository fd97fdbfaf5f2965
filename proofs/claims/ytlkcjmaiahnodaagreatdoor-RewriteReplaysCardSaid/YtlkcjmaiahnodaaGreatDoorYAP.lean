/- The texts N56 N57 N58 N59 N60 N61 N62 N63, one behind the other. -/
import Derived.Test.YtlkcjmaiahnodaaGreatDoorYAO
import Derived.Test.YtlkcjmaiahnodaaGreatDoorYAB
set_option maxRecDepth 100000
set_option maxHeartbeats 8000000
set_option linter.unusedVariables false
set_option linter.unusedSimpArgs false
namespace Go.Proofs.YtlkcjmaiahnodaaGreatDoor
open Go.RowKit Go.Hw Go Tm
section
open Go.Sort Go.Proofs Go.ChangeMaps
theorem aen:(Tryz.prog.info? 65).map (fun i=>(i.zero,i.size,i.bytes))=some (some (.agg #[.int .i64 0,.slice none 0 0]),2,32):=by kernel_rfl
theorem ajK (w:World) (u0 u1:Value) (t:TypeId): ∀(j:Nat) (u:Value),[u0,u1][j]?=some u->(w.alloc (.cells #[u0,u1] t)).cell? ((⟨w.heap.size,0,none⟩:Addr).add j)=some u:=fun j u hj=>by
 match j,hj with
 |0,hj=>simp only[List.getElem?_cons_zero,Option.some.injEq] at hj;subst hj;simp only[Addr.add];exact ag (aj _ _) 0 _ rfl
 |1,hj=>simp at hj;subst hj;simp only[Addr.add];exact ag (aj _ _) 1 _ rfl
theorem Tn {S:Nat->Prop} {w:World} {u:Value} {p:List Nat} (h:aA S w 1 u p.length (p.map fun i:Nat=>Value.int .i64 (i:Int))):pG S w u (p.map fun j:Nat=>(j:Int)):=by
 unfold pG;rw[List.length_map,List.map_map];exact h
theorem agN (l:List Rl) (t:Tm) (fuel:Int) (lv v:Value) (w:World) (hL:iJ (fun k=>k<w.heap.size) w l lv) (hT:bG (fun k=>k<w.heap.size) w t v) (htab:cO w) (hll:l.length<=1000000) (hls: ∀r∈l,r.1.size<=100000/\r.2.size<=100000) (hrs:dA l=true->∀r∈l,r.2.size<=60) (hsz:t.size<=100000) (hfu: -9223372036854775808<=fuel/\fuel<=9223372036854775807):
  Calls Tryz.prog 109 #[lv,v,.int .i64 fuel] w fun e w'=> ∃r tv,e= .returned (.tuple #[tV (qV l t fuel).1 r,tv,.int .i64 (qV l t fuel).2.2])/\ay (fun k=>w.heap.size<=k/\k<w'.heap.size) w' (qV l t fuel).1.kids r/\l7 (fun k=>w.heap.size<=k/\k<w'.heap.size) (fun k=>w.heap.size<=k/\k<w'.heap.size) w' tv (qV l t fuel).2.1/\Ext w w':=by
 obtain⟨Z,hZ⟩: ∃Z,qV l t fuel=Z:=⟨_,rfl⟩
 rw[hZ];have gY:=ae hZ;have BI:=ae hL;have tX:=ae hT;have HAS:=ae htab;have wo:=ae hls;have CV:=ae hrs;have hCH:=fun(tv:Value) (W:World) (hW:Ext w W) (hTL:ay (fun k=>k<W.heap.size) W [t] tv)=>VR l fuel [t] lv tv W (aJ htab hW) ((hL.ext hW).weaken (fun k hk=>ax hk hW.size)) hTL hll hls (fun x hx=>by simp at hx;subst hx;omega) hfu (by simp);have yY:=ae (fun(c:Tm) (cv:Value) (S:Nat->Prop) (W:World) (hW:Ext w W) (hc:bG S W c cv) (hS: ∀k,S k->k<W.heap.size) (hcs:c.size<=1000)=>PW l hll hls c cv lv (.slice none 0 0) (fun k=>k<w.heap.size) S (fun _=>False) [] W hc (hL.ext hW) (aA.nil _ _ _) (fun k hk=>ax hk hW.size) hS (by omega) (by simp;omega));obtain⟨la,lc,rfl⟩:=hL.shape;obtain⟨a,cap,rfl,hTL⟩:=hT;have Cm:=((uR w).alloc (tO t a cap)).alloc zO;have hZ1:=Cm.alloc (tO t a cap);have HCH:=ae (hCH (.slice (some ⟨w.heap.size+2,0,none⟩) 1 1) (((w.alloc (tO t a cap)).alloc zO).alloc (tO t a cap)) hZ1 (Hy (alloc_at ((w.alloc (tO t a cap)).alloc zO) (tO t a cap) (n:=w.heap.size+2) (by simp)) (by simp) ((hTL.ext hZ1).weaken (fun k hk=>ax hk hZ1.size))));have HZ1:=ae hZ1;have HB0:=ae (ak (aj w (tO t a cap)) zO);have H0:=ae (ak HB0.out (tO t a cap));have H1:=ae (ak (alloc_at (w.alloc (tO t a cap)) zO (n:=w.heap.size+1) (by simp)) (tO t a cap));have hz2:w.heap.size+3<=(((w.alloc (tO t a cap)).alloc zO).alloc (tO t a cap)).heap.size:=by simp
 have HZ2:=ae hz2;have cZ:=ae hTL;obtain⟨x0,x1,x2⟩:=af HB0.out;dsimp only[tV];clear hL htab hls hrs hCH hTL Cm hZ1 hz2 hZ
 go_enter Tryz.func109,Tryz.ntmps109
 go_wp2_with fail
 try rw[show w.heap.size+1+1=w.heap.size+2 from rfl]
 generalize ((w.alloc (tO t a cap)).alloc zO).alloc (tO t a cap)=w1 at*;refine HCH.out.mono ?_;rintro e w3 ⟨rfl,hw3⟩;have aT:=ae (HZ1.out.trans hw3);have ZU:=ae (hw3.heap H0.out (fun h=>h));have Ig:=ae (hw3.heap H1.out (fun h=>h));have eP:Hid (w.heap.size+3<=w3.heap.size):=ae (Nat.le_trans HZ2.out hw3.size);clear hw3 HCH HZ1 HB0 H0 H1 HZ2 x0 x1 x2;by_cases hf0:mG l fuel [t]=0
 rotate_left
 .obtain ⟨en,hen⟩: ∃n,mG l fuel [t]=n:=⟨_,rfl⟩
  obtain rfl:Z=(a_,[],en):=by rw[<-gY.out];unfold qV;rw[if_neg hf0,hen]
  rw[hen] at hf0⊢;have t1:(en==0)=false:=beq_eq_false_iff_ne.2 hf0;have t2:decide (en=0)=false:=dF hf0;clear hen;have f2:=fun i=>ai Ig.out i;obtain⟨d0,d1,d2⟩:=af Ig.out
  go_wp2_with fail
  have hr3:=aF Ig.out (.string ⟨#[]⟩) (.string ⟨#[]⟩) (.slice none 0 0);have hu:=aC w3 (w.heap.size+1) (.string ⟨#[]⟩) (.string ⟨#[]⟩) (.slice none 0 0);obtain⟨e0,e1,e2⟩:=af hr3;refine bodyPost_ret (v:= .tuple #[.agg #[.string ⟨#[]⟩,.string ⟨#[]⟩,.slice none 0 0],.slice none 0 0,.int .i64 (en)]) (by simp[results,Tryz.results109,go_sem,e0,e1,e2]) rfl ?_;have hue:=aT.out.trans' hu (fun j hj e=>by omega)
  first|exact⟨.slice none 0 0,.slice none 0 0,rfl,ay.nil _ _,l7.nil _ _ _,hue⟩
 obtain⟨hr0,hw0,ajL,ajM⟩:=Ie hf0;have zB:=ae hr0;have X6:=ae (CV.out hr0);have hzz:Z=xE l fuel.toNat t []:=by rw[<-gY.out];unfold qV;rw[if_pos hf0]
 have Ih:=ae hzz.symm;rw[hf0];have lX:=ae hw0;have hcp:=xY t (tV t (.slice a t.kids.length cap)) (fun k=>k<w3.heap.size) w3 ((tX.out.ext aT.out).weaken (fun k hk=>ax hk aT.out.size)) (fun k hk=>hk) hsz;have oH:=ae hcp;dsimp only[tV] at oH;have f1:=fun i=>ai ZU.out i;obtain⟨x0,x1,x2⟩:=af ZU.out;clear hf0 hr0 hw0 hzz gY hcp CV BI tX
 go_wp2_with fail
 refine oH.out.mono ?_;rintro e w4 ⟨r4,B4,rfl,Ou,hb4,hw4⟩;obtain⟨ya,yc,iO⟩:=aG.shape Ou;subst iO;have bD:=ae (aT.out.trans hw4);have ZV:=ae (hw4.heap ZU.out (fun h=>h));have N8:=ae (hw4.heap Ig.out (fun h=>h));have eY:Hid (w.heap.size+3<=w4.heap.size):=ae (Nat.le_trans eP.out hw4.size);have HT4:=ae (Ou.read);have HB4:Hid (∀j,B4 j->w.heap.size+3<=j/\j<w4.heap.size):=ae (fun j hj=>⟨Nat.le_trans eP.out (hb4 j hj).1,(hb4 j hj).2⟩);dsimp only[tV];clear Ou hb4 hw4 oH x0 x1 x2 f1;have f1:=fun i=>ai ZV.out i;obtain⟨x0,x1,x2⟩:=af ZV.out
 go_upto_region 6 with fail
 have kz:=ae (aF ZV.out (.string t.name) (.string t.sort) (.slice ya t.kids.length yc));have iV:=ae (aC w4 w.heap.size (.string t.name) (.string t.sort) (.slice ya t.kids.length yc));have di:=ae (bD.out.trans' iV.out (fun j hj e=>by omega));have ZM:=ae (iV.out.heap N8.out (by omega));have p_:=ae ((HT4.out.kept iV.out (fun j hj e=>by have:=(HB4.out j hj).1;omega)).weaken (fun j hj=>(⟨by have:=(HB4.out j hj).1;omega,ax (HB4.out j hj).2 iV.out.size⟩:w.heap.size+2<=j/\j<_)));have oP:Hid (w.heap.size+2<=(((w4.setCell ⟨w.heap.size,0,none⟩ (.string t.name)).setCell ⟨w.heap.size,1,none⟩ (.string t.sort)).setCell ⟨w.heap.size,2,none⟩ (.slice ya t.kids.length yc)).heap.size):=ae (Nat.le_trans (by have:=eY.out;omega) iV.out.size);clear x0 x1 x2 f1;generalize (((w4.setCell ⟨w.heap.size,0,none⟩ (.string t.name)).setCell ⟨w.heap.size,1,none⟩ (.string t.sort)).setCell ⟨w.heap.size,2,none⟩ (.slice ya t.kids.length yc))=w5 at*;clear HT4 HB4 ZV N8 bD iV eY;obtain⟨F,hF⟩: ∃F,fuel.toNat=F:=⟨_,rfl⟩
 have hFz:fuel=(F:Int):=by omega
 rw[hF] at Ih;subst hFz;have hF2:F<=2000:=by omega
 clear hF ajL ajM
 go_loopg [10] F (fun gk ov wr=> ∃(L:List Xe) (cur:Tm) (oa ca:Option Addr) (oc cc:Nat),ov= .slice oa L.length oc/\gk=F-L.length/\L.length<=F/\Hid (BJ 65 (w.heap.size+2) wr (.slice oa L.length oc) L)/\Hid (wr.heap[w.heap.size]?=some (tO cur ca cc))/\Hid (wr.heap[w.heap.size+1]?=some zO)/\Hid (ay (fun j=>w.heap.size+2<=j/\j<wr.heap.size/\(Value.slice oa L.length oc).ownBlock≠some j) wr cur.kids (.slice ca cur.kids.length cc))/\Hid (Ext w wr)/\Hid (w.heap.size+2<=wr.heap.size)/\Hid (wf aB cur=true)/\Hid (xE l (F-L.length) cur (L.map (·.1))=Z))
 case atStart=>exact⟨[],t,none,ya,0,yc,rfl,rfl,Nat.zero_le _,ae (BJ.start _ _ _),kz,ZM,ae (p_.out.weaken (fun j hj=>⟨hj.1,hj.2,fun e=>by cases e⟩)),di,oP,lX,Ih⟩
 case round=>
  clear kz ZM p_ di oP lX Ih aT ZU Ig eP;obtain⟨L,cur,oa,ca,oc,cc,rfl,rfl,hLF,HG,HB0,HB1,yj,HE,HS,HW,zL⟩:=hrel;have hcs:=nT HW.out;have eu:=ae (yY.out cur (tV cur (.slice ca cur.kids.length cc)) (fun j=>w.heap.size+2<=j/\j<wr.heap.size/\(Value.slice oa L.length oc).ownBlock≠some j) wr HE.out ⟨ca,cc,rfl,yj.out⟩ (fun k hk=>hk.2.1) hcs);dsimp only[tV] at eu;obtain⟨x0,x1,x2⟩:=af HB0.out
  go_wp2_with fail
  refine eu.out.mono ?_;rintro e w4 ⟨⟨⟨pa,pc⟩,ua,uc⟩,B,rfl,hfd,hbd,hw4⟩;obtain⟨o,ho⟩: ∃o,oM l cur=o:=⟨_,rfl⟩
  have HO:=ae ho;rw[ho] at hfd⊢;clear ho x0 x1 x2 eu;dsimp only[A7];cases o with
  |none=>
   rw[show(fq none []).length=0 from rfl,show(ft none).name=⟨#[]⟩ from rfl,show(ft none).sort=⟨#[]⟩ from rfl,show(ft none).kids.length=0 from rfl,show((fi none:Nat):Int)=0 from rfl];have oN:=((uR w4).alloc (.cells #[.int .i64 0,.slice pa 0 pc] 65)).alloc (.cells #[.string ⟨#[]⟩,.string ⟨#[]⟩,.slice ua 0 uc] 24);have zM:=hw4.trans oN;have H5:=ae (HE.out.trans zM);have vH:=ae (zM.heap HB0.out (fun h=>h));have kR:=ae (zM.heap HB1.out (fun h=>h));have p_:=ae (yj.out.ext zM);have HG5:=ae (HG.out.kept zM (fun _ _ _ h=>h));have hzz:Z=(cur,L.map (·.1),0):=by
    rw[<-zL.out];cases F-L.length with
    |zero=>unfold xE;rw[HO.out]
    |succ n=>unfold xE;rw[HO.out]
   have HZ3:=ae hzz;have bT:=ae zM.size;simp only[Option.isSome_none];obtain⟨x0,x1,x2⟩:=af vH.out;obtain⟨d0,d1,d2⟩:=af kR.out;have f2:=fun i=>ai kR.out i;clear hfd hbd hw4 oN zM hzz
   go_wp2_with fail
   generalize ((w4.alloc (.cells #[.int .i64 0,.slice pa 0 pc] 65)).alloc (.cells #[.string ⟨#[]⟩,.string ⟨#[]⟩,.slice ua 0 uc] 24))=w5 at*;have hr3:=aF kR.out (.string cur.name) (.string cur.sort) (.slice ca cur.kids.length cc);have hu:=aC w5 (w.heap.size+1) (.string cur.name) (.string cur.sort) (.slice ca cur.kids.length cc);obtain⟨e0,e1,e2⟩:=af hr3;have hs5:=HS.out;have hsz5:=bT.out;refine bodyPost_ret (v:= .tuple #[.agg #[.string cur.name,.string cur.sort,.slice ca cur.kids.length cc],.slice oa L.length oc,.int .i64 0]) (by simp[results,Tryz.results109,go_sem,e0,e1,e2]) rfl ?_;have hzz:=HZ3.out;subst hzz;have hrx:=(HG5.out.kept hu (fun j hj _ e=>by omega)).rx;exact⟨.slice ca cur.kids.length cc,.slice oa L.length oc,rfl,(p_.out.kept hu (fun j hj e=>by omega)).weaken (fun j hj=>⟨by omega,by have:=hu.size;omega⟩),hrx.weaken (fun j hj=>⟨by omega,hj.2⟩) (fun j hj=>⟨by omega,hj.2⟩),H5.out.trans' hu (fun j hj e=>by omega)⟩
  |some y=>
   obtain⟨ri,pp,u⟩:=y;have Lu:fq (some (ri,pp,u)) []=pp:=by simp[fq]
   have hft:ft (some (ri,pp,u))=u:=rfl;have hfi:fi (some (ri,pp,u))=ri:=rfl;rw[Lu,hft,hfi];obtain⟨iK,hpart⟩:=hfd;rw[Lu] at iK;rw[hft] at hpart;dsimp only at iK hpart;have oN:=((uR w4).alloc (.cells #[.int .i64 (ri:Int),.slice pa pp.length pc] 65)).alloc (tO u ua uc);have zM:=hw4.trans oN;have H5:=ae (HE.out.trans zM);have eF:=ae zM;have vH:=ae (zM.heap HB0.out (fun h=>h));have kR:=ae (zM.heap HB1.out (fun h=>h));have H7:=ae (ak (aj w4 (.cells #[.int .i64 (ri:Int),.slice pa pp.length pc] 65)) (tO u ua uc));have H8:=ae (alloc_at (w4.alloc (.cells #[.int .i64 (ri:Int),.slice pa pp.length pc] 65)) (tO u ua uc) (n:=w4.heap.size+1) (by simp));have HPH:=ae (aA.kept iK oN (fun _ _ h=>h));have VS:=ae ((hpart.kept oN (fun _ _ h=>h)).read);have kN:Hid (∀j,B j->wr.heap.size<=j/\j< ((w4.alloc (.cells #[.int .i64 (ri:Int),.slice pa pp.length pc] 65)).alloc (tO u ua uc)).heap.size):=ae (fun j hj=>⟨(hbd j hj).1,ax (hbd j hj).2 oN.size⟩);simp only[Option.isSome_some];have hpo:=IU l cur ri pp u HO.out;have IV:=LC (N:=60) HO.out X6.out;have hpl:=Eu pp cur hpo.1;have Ew:u.size<=100000:=Nat.le_trans (Nat.le_trans IV (Nat.mul_le_mul_left 60 hcs)) (by decide);have A8:Hid (wr.heap.size<=w4.heap.size):=ae hw4.size;clear hw4 oN iK hpart hbd Lu hft hfi zM;obtain⟨nb,hnb⟩: ∃n,w4.heap.size=n:=⟨_,rfl⟩
   rw[hnb] at H7 H8 A8;by_cases hlim:L.length=F
   .obtain rfl:Z=(a_,[],6):=by
     rw[<-zL.out,hlim,Nat.sub_self];unfold xE;rw[HO.out]
    have t1:((L.length:Int)==(F:Int))=true:=by rw[hlim];exact beq_self_eq_true _
    have t2:decide ((L.length:Int)=(F:Int))=true:=dT (by omega);clear hpo IV Ew hpl hnb;subst hlim;have d9:=kR;have f2:=fun i=>ai kR.out i;obtain⟨d0,d1,d2⟩:=af kR.out
    go_wp2_with fail
    have hr3:=aF kR.out (.string ⟨#[]⟩) (.string ⟨#[]⟩) (.slice none 0 0);have hu:=aC ((w4.alloc (.cells #[.int .i64 (ri:Int),.slice pa pp.length pc] 65)).alloc (tO u ua uc)) (w.heap.size+1) (.string ⟨#[]⟩) (.string ⟨#[]⟩) (.slice none 0 0);obtain⟨e0,e1,e2⟩:=af hr3;refine bodyPost_ret (v:= .tuple #[.agg #[.string ⟨#[]⟩,.string ⟨#[]⟩,.slice none 0 0],.slice none 0 0,.int .i64 (6)]) (by simp[results,Tryz.results109,go_sem,e0,e1,e2]) rfl ?_;have hue:=H5.out.trans' hu (fun j hj e=>by omega)
    first|exact⟨.slice none 0 0,.slice none 0 0,rfl,ay.nil _ _,l7.nil _ _ _,hue⟩
   have t1:((L.length:Int)==(F:Int))=false:=beq_eq_false_iff_ne.2 (by omega);have t2:decide ((L.length:Int)=(F:Int))=false:=dF (by omega);have oO:=ae (Lh cur u pp (tV cur (.slice ca cur.kids.length cc)) (tV u (.slice ua u.kids.length uc)) (.slice pa pp.length pc) (fun j=>w.heap.size+2<=j/\j<wr.heap.size/\(Value.slice oa L.length oc).ownBlock≠some j) B B ((w4.alloc (.cells #[.int .i64 (ri:Int),.slice pa pp.length pc] 65)).alloc (tO u ua uc)) ⟨ca,cc,rfl,yj.out.ext eF.out⟩ ⟨ua,uc,rfl,VS.out⟩ (fun k hk=>ax hk.2.1 eF.out.size) (fun k hk=>(kN.out k hk).2) HPH.out hpo.1 (aJ HAS.out H5.out) (by omega) Ew (by omega));obtain⟨G,hG⟩: ∃G,jd cur pp u=G:=⟨_,rfl⟩
   have hG2:G.2=0\/G.2=4:=by
    rw[<-hG];unfold jd;split
    .exact .inl rfl
    .exact .inr rfl
   have hGw:G.2=0->wf aB G.1=true:=fun h=>by
    rw[<-hG] at h⊢;have:=DY h;rw[this.1];exact this.2
   have hrun:Z=if G.2=0 then xE l (F- (L.length+1)) G.1 (L.map (·.1)++[qU ri pp]) else(a_,[],G.2):=by
    rw[<-zL.out,show F-L.length=(F- (L.length+1))+1 by omega]
    conv=>lhs;unfold xE
    rw[HO.out];simp only;rw[hG]
   rw[hG] at oO;have X7:=ae hrun;have HGW:=ae hGw;dsimp only[tV] at oO;obtain⟨x0,x1,x2⟩:=af vH.out;obtain⟨m0,m1⟩:=df H7.out;obtain⟨n0,n1,n2⟩:=af H8.out;clear hpo IV Ew hpl hG hrun hGw
   go_wp2_with fail
   try rw[hnb]
   generalize ((w4.alloc (.cells #[.int .i64 (ri:Int),.slice pa pp.length pc] 65)).alloc (tO u ua uc))=w5 at*;clear hnb;refine oO.out.mono ?_;rintro e w6 ⟨r,rfl,hTl,hw6⟩;obtain⟨nx,en⟩:=G;dsimp only at hTl hG2 X7 HGW⊢;obtain⟨na,nc,hrn⟩:=hTl.shape;subst hrn;have Kv:=hw6.alloc (tO nx na nc);have H9:=ae (H5.out.trans Kv);have Kw:=ae (eF.out.trans Kv);have tq:=ae (Kv.heap vH.out (fun h=>h));have lg:=ae (Kv.heap kR.out (fun h=>h));have Uu:=ae (Kv.heap H7.out (fun h=>h));have ZW:=ae (aj w6 (tO nx na nc));have VT:Hid (ay (fun j=>wr.heap.size<=j/\j< (w6.alloc (tO nx na nc)).heap.size) (w6.alloc (tO nx na nc)) nx.kids (.slice na nx.kids.length nc)):=ae ((hTl.ext ((uR w6).alloc (tO nx na nc))).weaken (fun j hj=>by
    have h1:=((uR w6).alloc (tO nx na nc)).size;have h2:=hw6.size;have h4:=eF.out.size;rcases hj with hj|hj
    .exact ⟨by omega,by omega⟩
    .have h5:=kN.out j hj;exact⟨by omega,by omega⟩))
   have ajN:=ae (aA.kept HPH.out Kv (fun _ _ h=>h));have ajO:Hid (∀j,B j->wr.heap.size<=j/\j< (w6.alloc (tO nx na nc)).heap.size):=ae (fun j hj=>⟨(kN.out j hj).1,ax (kN.out j hj).2 Kv.size⟩);have jy:Hid (w.heap.size+2<=(w6.alloc (tO nx na nc)).heap.size):=ae (Nat.le_trans HS.out Kw.out.size);have ZX:Hid (wr.heap.size<=w6.heap.size):=ae (Nat.le_trans eF.out.size hw6.size);clear hTl hw6 Kv oO x0 x1 x2 m0 m1 n0 n1 n2 H5 eF vH kR H7 H8 HPH VS kN;by_cases hen:en=0
   rotate_left
   .have u1:(en==0)=false:=beq_eq_false_iff_ne.2 hen;have u2:decide (en=0)=false:=dF hen;obtain rfl:Z=(a_,[],en):=by rw[X7.out,if_neg hen]
    clear hen hG2;have f2:=fun i=>ai lg.out i;obtain⟨d0,d1,d2⟩:=af lg.out
    go_wp2_with fail
    have hr3:=aF lg.out (.string ⟨#[]⟩) (.string ⟨#[]⟩) (.slice none 0 0);have hu:=aC (w6.alloc (tO nx na nc)) (w.heap.size+1) (.string ⟨#[]⟩) (.string ⟨#[]⟩) (.slice none 0 0);obtain⟨e0,e1,e2⟩:=af hr3;refine bodyPost_ret (v:= .tuple #[.agg #[.string ⟨#[]⟩,.string ⟨#[]⟩,.slice none 0 0],.slice none 0 0,.int .i64 (en)]) (by simp[results,Tryz.results109,go_sem,e0,e1,e2]) rfl ?_;have hue:=H9.out.trans' hu (fun j hj e=>by omega)
    first|exact⟨.slice none 0 0,.slice none 0 0,rfl,ay.nil _ _,l7.nil _ _ _,hue⟩
   subst hen;have hrun2:Z=xE l (F- (L.length+1)) nx (L.map (·.1)++[qU ri pp]):=by rw[X7.out,if_pos rfl]
   have agO:=ae hrun2;have VU:=ae (HGW.out rfl);clear hG2 hrun2;obtain⟨nn,hnn⟩: ∃n,w6.heap.size=n:=⟨_,rfl⟩
   rw[hnn] at ZW ZX
   go_upto_region 14 with fail
   try rw[hnn]
   generalize w6.alloc (tO nx na nc)=w9 at*;clear hnn;have hown: ∀j,(Value.slice oa L.length oc).ownBlock=some j->w.heap.size+2<=j/\j<wr.heap.size:=fun j e=>HG.out.own.lt j e;have HOWN:=ae hown;have ZY:=((uR w9).drew).alloc (.cells #[.int .i64 (ri:Int),.slice pa pp.length pc] 65);have HOW:Hid ((w9.drew.alloc (.cells #[.int .i64 (ri:Int),.slice pa pp.length pc] 65)).ownsRow (w.heap.size+2) 65 2 (.slice oa L.length oc) L.length (L.flatMap tu)):=ae (bI (bI HG.out.own Kw.out (fun _ _ h=>h)) ZY (fun _ _ h=>h));have ni:Hid (∀(j:Nat) (u:Value),[Value.int .i64 (ri:Int),.slice pa pp.length pc][j]?=some u->(w9.drew.alloc (.cells #[.int .i64 (ri:Int),.slice pa pp.length pc] 65)).cell? ((⟨w9.drew.heap.size,0,none⟩:Addr).add j)=some u):=ae (ajK w9.drew _ _ 65);have kM:Hid (∀u∈[Value.int .i64 (ri:Int),.slice pa pp.length pc],u.oneCell'=true):=ae (fun u hu=>by simp at hu;rcases hu with h|h<;>(subst h;rfl));have hLb:L.length+1<=2001:=by omega
   have iM:Hid (L.length+1<=maxLen/\(L.length+1)*32<=140737488355328/\w.heap.size+2<=(w9.drew.alloc (.cells #[.int .i64 (ri:Int),.slice pa pp.length pc] 65)).heap.size):=ae ⟨by unfold maxLen;omega,by omega,Nat.le_trans jy.out ZY.size⟩;have HRO:=ae (ZY.heap tq.out (fun h=>h));have hx0: ∀x:XF (fun j=>(Value.slice oa L.length oc).ownBlock=some j) w9,x.val.cell? ⟨nn,0,none⟩=some (.string nx.name):=fun x=>x.upd.cell (ag ZW.out 0 _ rfl) (fun e=>by have:=(HOWN.out _ e).2;have:=ZX.out;dsimp only at*;omega);have hx1: ∀x:XF (fun j=>(Value.slice oa L.length oc).ownBlock=some j) w9,x.val.cell? ⟨nn,1,none⟩=some (.string nx.sort):=fun x=>x.upd.cell (ag ZW.out 1 _ rfl) (fun e=>by have:=(HOWN.out _ e).2;have:=ZX.out;dsimp only at*;omega);have hx2: ∀x:XF (fun j=>(Value.slice oa L.length oc).ownBlock=some j) w9,x.val.cell? ⟨nn,2,none⟩=some (.slice na nx.kids.length nc):=fun x=>x.upd.cell (ag ZW.out 2 _ rfl) (fun e=>by have:=(HOWN.out _ e).2;have:=ZX.out;dsimp only at*;omega);have hy0: ∀x:XF (fun j=>(Value.slice oa L.length oc).ownBlock=some j) w9,x.val.cell? ⟨nb,0,none⟩=some (.int .i64 (ri:Int)):=fun x=>x.upd.cell (ag Uu.out 0 _ rfl) (fun e=>by have:=(HOWN.out _ e).2;have:=A8.out;dsimp only at*;omega);have hy1: ∀x:XF (fun j=>(Value.slice oa L.length oc).ownBlock=some j) w9,x.val.cell? ⟨nb,1,none⟩=some (.slice pa pp.length pc):=fun x=>x.upd.cell (ag Uu.out 1 _ rfl) (fun e=>by have:=(HOWN.out _ e).2;have:=A8.out;dsimp only at*;omega);obtain⟨iT,hi,hz0,hz1,hz2⟩:=info_parts aen;clear ZY hown;refine Bj [(0,0),(1,0),(2,0),(3,1),(4,1),(5,2),(6,2)] 5 (fun W=> ∃x:XF (fun j=>(Value.slice oa L.length oc).ownBlock=some j) w9,W=x.val) (by kernel_rfl) (by kernel_rfl) (fun _ _ d _ _ h=>by cases d<;>exact h) ⟨⟨_,(au.refl _ w9).drew⟩,rfl⟩ ?_;simp only[fF,List.getElem?_cons_zero,List.getElem?_cons_succ]
   iterate 3(refine MV (fun K hK=>?_);go_simp;refine hK _ ?_;clear hK K)
   refine kE (fun K hK hS=>?_) ⟨⟨_,(au.refl _ w9).drew⟩,rfl⟩;go_simp;refine hK _ _ ⟨⟨_,((au.refl _ w9).drew).alloc _⟩,rfl⟩ ?_;clear hK K hS hx0 hx1 hx2 hy0 hy1;refine kE (fun K hK hS=>?_) ⟨⟨_,(((au.refl _ w9).drew).alloc _)⟩,rfl⟩;clear hS;refine dJ _ (.tmp 58) (.tmp 60) 54 rfl (w.heap.size+2) 65 iT (.agg #[.int .i64 0,.slice none 0 0]) 2 32 Tryz.underlying54 hi hz0 hz1 hz2 rfl (by decide) _ _ _ rfl HOW.out _ 1 1 [Value.int .i64 (ri:Int),.slice pa pp.length pc] rfl rfl ni.out kM.out iM.out.1 iM.out.2.1 iM.out.2.2 ?_;intro v7 w7 bF;obtain⟨a7,c7,hv7⟩:=aY bF.own;subst hv7;refine hK _ _ ⟨⟨_,((((au.refl _ w9).drew).alloc (.cells #[.int .i64 (ri:Int),.slice pa pp.length pc] 65))).trans (bF.upd)⟩,rfl⟩ ?_;clear hK K;have ZZ:=bF.upd.heap HRO.out (fun e=>by have:=HOWN.out _ e;omega);obtain⟨x0,x1,x2⟩:=af ZZ;have f7:=fun i=>ai ZZ i;refine dM (fun K hK=>?_);go_simp;refine hK _ _ ?_;clear hK K;refine dM (fun K hK=>?_);go_simp;refine hK _ _ ?_;clear hK K;simp only[bW];have hxe:tu ((qU ri pp,pa,pc):Xe)=[Value.int .i64 (ri:Int),.slice pa pp.length pc]:=by simp[tu,D5,qU]
   have bF:Grew (w.heap.size+2) 65 2 (.slice oa L.length oc) (L.length+1) (L.flatMap tu++tu ((qU ri pp,pa,pc):Xe)) (w9.drew.alloc (.cells #[.int .i64 (ri:Int),.slice pa pp.length pc] 65)) w7 (.slice a7 (L.length+1) c7):=by rw[hxe];exact bF
   have hGX:=HG.out.grow HS.out Kw.out (x:=(qU ri pp,pa,pc)) (by
    have:=Tn ajN.out;have e:D5 ((qU ri pp,pa,pc):Xe)= .slice pa pp.length pc:=by simp[D5,qU]
    rw[e];exact this) ajO.out (((uR w9).drew).alloc (.cells #[.int .i64 (ri:Int),.slice pa pp.length pc] 65)) (fun _ h=>h.elim) bF
   have VV:=ae (aF ZZ (.string nx.name) (.string nx.sort) (.slice na nx.kids.length nc));have bQ:=ae (aC w7 w.heap.size (.string nx.name) (.string nx.sort) (.slice na nx.kids.length nc));have Jh:au (fun j=>(Value.slice oa L.length oc).ownBlock=some j) w9 w7:=((((uR w9).drew).alloc (.cells #[.int .i64 (ri:Int),.slice pa pp.length pc] 65)).mono (fun _ _ h=>h.elim)).trans bF.upd;have hwh:=bF.uT;have HGX:=ae (hGX.kept bQ.out (fun j hj _ e=>by omega));have bU:=ae ((H9.out.trans' Jh (fun j hj e=>by have:=HOWN.out _ e;omega)).trans' bQ.out (fun j hj e=>by omega));have vN:=ae (bQ.out.heap (Jh.heap lg.out (fun e=>by have:=HOWN.out _ e;omega)) (by omega));have Q3:=ae (((VT.out.kept Jh (fun j hj e=>by have:=HOWN.out _ e;omega)).kept bQ.out (fun j hj e=>by have:=HS.out;omega)).weaken (fun j hj=>(⟨by have:=HS.out;omega,ax hj.2 (Nat.le_trans Jh.size bQ.out.size),fun e=>by
    rcases hwh with h|h
    .rw [h] at e;have:=HOWN.out _ e;omega
    .rw [h] at e;injection e with e;have:=hj.2;have h9:w9.heap.size< (w9.drew.alloc (.cells #[.int .i64 (ri:Int),.slice pa pp.length pc] 65)).heap.size:=by simp;
     omega⟩:w.heap.size+2<=j/\j<_/\(Value.slice a7 (L.length+1) c7).ownBlock≠some j)))
   have fO:=ae (Nat.le_trans jy.out (Nat.le_trans Jh.size bQ.out.size));have hlen:(L++[((qU ri pp,pa,pc):Xe)]).length=L.length+1:=by simp
   have ajP:Hid (xE l (F- (L++[((qU ri pp,pa,pc):Xe)]).length) nx ((L++[((qU ri pp,pa,pc):Xe)]).map (·.1))=Z):=ae (by rw[hlen,List.map_append];exact agO.out.symm);rw[<-hlen] at HGX Q3⊢;clear hGX hwh Jh ZZ hxe bF x0 x1 x2 f7 hi hz0 hz1 hz2
   go_wp2_with fail
   go_roundg (F- (L++[((qU ri pp,pa,pc):Xe)]).length)
   case measure=>rw[hlen];omega
   case rel=>exact⟨_,nx,a7,na,c7,nc,by rw[hlen],rfl,by rw[hlen];omega,HGX,VV,vN,Q3,bU,fO,VU,ajP⟩
theorem X8 (l:List Rl) (t:Tm) (fuel:Int) (lv v:Value) (w:World) (hL:iJ (fun k=>k<w.heap.size) w l lv) (hT:bG (fun k=>k<w.heap.size) w t v) (htab:cO w) (hll:l.length<=1000000) (hls: ∀r∈l,r.1.size<=100000/\r.2.size<=100000) (hrs:dA l=true->∀r∈l,r.2.size<=60) (hsz:t.size<=100000) (hfu: -9223372036854775808<=fuel/\fuel<=9223372036854775807):
  Calls Tryz.prog 38 #[lv,v,.int .i64 fuel] w fun e w'=> ∃r,e= .returned (.tuple #[tV (qV l t fuel).1 r,.int .i64 ((qV l t fuel).2.1.length:Int),.int .i64 (qV l t fuel).2.2])/\ay (fun k=>w.heap.size<=k/\k<w'.heap.size) w' (qV l t fuel).1.kids r/\Ext w w':=by
 obtain⟨Z,hZ⟩: ∃Z,qV l t fuel=Z:=⟨_,rfl⟩
 have g_:=ae (fun(W:World) (hW:Ext w W)=>agN l t fuel lv v W ((hL.ext hW).weaken (fun k hk=>ax hk hW.size)) ((hT.ext hW).weaken (fun k hk=>ax hk hW.size)) (aJ htab hW) hll hls hrs hsz hfu);rw[hZ] at g_⊢;obtain⟨nx,tr,en⟩:=Z;obtain⟨la,lc,rfl⟩:=hL.shape;obtain⟨a,cap,rfl,hTL⟩:=hT;dsimp only[tV] at g_⊢;have HZ1:=ae (((uR w).alloc (tO t a cap)).alloc zO);have HB0:=ae (ak (aj w (tO t a cap)) zO);have H1:=ae (alloc_at (w.alloc (tO t a cap)) zO (n:=w.heap.size+1) (by simp));have hz2:w.heap.size+2<=((w.alloc (tO t a cap)).alloc zO).heap.size:=by simp
 have HZ2:=ae hz2;clear hz2;obtain⟨x0,x1,x2⟩:=af HB0.out;clear hL htab hls hrs hTL hZ
 go_enter Tryz.func38,Tryz.ntmps38
 go_wp2_with fail
 generalize ((w.alloc (tO t a cap)).alloc zO)=w1 at*;refine(g_.out _ HZ1.out).mono ?_;rintro e w3 ⟨r,tv,rfl,hTl,Qo,hw3⟩;obtain⟨na,nc,hrn⟩:=hTl.shape;subst hrn;obtain⟨ra,rc,hrr⟩:=Qo.shape;subst hrr;have hX:=hw3.alloc (tO nx na nc);have aT:=ae (HZ1.out.trans hX);have Ig:=ae (hX.heap H1.out (fun h=>h));have HN:=ae (aj w3 (tO nx na nc));have eP:Hid (w.heap.size+2<=(w3.alloc (tO nx na nc)).heap.size):=ae (Nat.le_trans HZ2.out hX.size);have eY:Hid (w.heap.size+2<=w3.heap.size):=ae (Nat.le_trans HZ2.out hw3.size);have VT:Hid (ay (fun j=>w.heap.size+2<=j/\j< (w3.alloc (tO nx na nc)).heap.size) (w3.alloc (tO nx na nc)) nx.kids (.slice na nx.kids.length nc)):=ae ((hTl.ext ((uR w3).alloc (tO nx na nc))).weaken (fun j hj=>⟨by have:=HZ2.out;omega,ax hj.2 ((uR w3).alloc (tO nx na nc)).size⟩));clear hTl Qo hw3 hX g_ HZ1 HB0 H1 HZ2 x0 x1 x2;dsimp only;obtain⟨nb,hnb⟩: ∃n,w3.heap.size=n:=⟨_,rfl⟩
 rw[hnb] at HN eY;obtain⟨m0,m1,m2⟩:=af HN.out;have f2:=fun i=>ai Ig.out i;obtain⟨d0,d1,d2⟩:=af Ig.out
 go_wp2_with fail
 try rw[hnb]
 generalize w3.alloc (tO nx na nc)=w4 at*;clear hnb;have hr3:=aF Ig.out (.string nx.name) (.string nx.sort) (.slice na nx.kids.length nc);have hu:=aC w4 (w.heap.size+1) (.string nx.name) (.string nx.sort) (.slice na nx.kids.length nc);obtain⟨e0,e1,e2⟩:=af hr3;refine bodyPost_ret (v:= .tuple #[.agg #[.string nx.name,.string nx.sort,.slice na nx.kids.length nc],.int .i64 (tr.length:Int),.int .i64 en]) (by simp[results,Tryz.results38,go_sem,e0,e1,e2]) rfl ?_;have hue:=aT.out.trans' hu (fun j hj e=>by omega);have hk:=(VT.out.kept hu (fun j hj e=>by omega)).weaken (fun j hj=>(⟨by omega,ax hj.2 hu.size⟩:w.heap.size<=j/\j<_));exact⟨.slice na nx.kids.length nc,rfl,hk,hue⟩
def uk (r:Rl):Bool:=nZ [r.1]||nZ [r.2]||(formed aB r.1&&decide (60<r.1.size))||(formed aB r.2&&decide (60<r.2.size))
def D6 (l:List Rl):Bool:=(decide (20<l.length)&&decide (l.length<=100))||decide (110<l.length)||l.any uk
theorem abm (x y:Tm) (xa ya:Option Addr) (xc yc:Nat) (w:World) (h1:ay (fun k=>k<w.heap.size) w x.kids (.slice xa x.kids.length xc)) (h2:ay (fun k=>k<w.heap.size) w y.kids (.slice ya y.kids.length yc)):
  Calls Tryz.prog 107 #[.agg #[.string x.name,.string x.sort,.slice xa x.kids.length xc,.string y.name,.string y.sort,.slice ya y.kids.length yc]] w fun e w'=>e= .returned (.bool (uk (x,y)))/\Ext w w':=by
 obtain⟨Z,hZ⟩: ∃Z,uk (x,y)=Z:=⟨_,rfl⟩
 rw[hZ];have aep:=oQ (nm:=aB) x;have oV:=oQ (nm:=aB) y;have Tq:=ae (fun W (hW:Ext w W)=>yZ x 1 1000 (tV x (.slice xa x.kids.length xc)) _ W ⟨xa,xc,rfl,h1.ext hW⟩ (by decide) (by decide) (by decide));have Ji:=ae (fun W (hW:Ext w W)=>yZ y 1 1000 (tV y (.slice ya y.kids.length yc)) _ W ⟨ya,yc,rfl,h2.ext hW⟩ (by decide) (by decide) (by decide));have Z4:=ae (fun(hs:x.size<=1000000) W (hW:Ext w W)=>ED x (tV x (.slice xa x.kids.length xc)) _ W ⟨xa,xc,rfl,h1.ext hW⟩ hs);have Z5:=ae (fun(hs:y.size<=1000000) W (hW:Ext w W)=>ED y (tV y (.slice ya y.kids.length yc)) _ W ⟨ya,yc,rfl,h2.ext hW⟩ hs);have hE1:=((uR w).alloc (.cells #[.string x.name,.string x.sort,.slice xa x.kids.length xc,.string y.name,.string y.sort,.slice ya y.kids.length yc] 146))
 have hE2:=hE1.alloc (tO x xa xc);have HE2:=ae hE2;have jo:=ae (Lp [x] _ (fun k=>k< ((w.alloc (.cells #[.string x.name,.string x.sort,.slice xa x.kids.length xc,.string y.name,.string y.sort,.slice ya y.kids.length yc] 146)).alloc (tO x xa xc)).heap.size) _ (Hy (n:=w.heap.size+1) (alloc_at (w.alloc (.cells #[.string x.name,.string x.sort,.slice xa x.kids.length xc,.string y.name,.string y.sort,.slice ya y.kids.length yc] 146)) (tO x xa xc) (by simp)) (by simp) ((h1.ext hE2).weaken (fun k hk=>ax hk hE2.size))) (fun k hk=>hk) (by simp));have HBY:=ae (fun W (hW:Ext w W)=>Lp [y] (.slice (some ⟨W.heap.size,0,none⟩) 1 1) (fun k=>k< (W.alloc (tO y ya yc)).heap.size) (W.alloc (tO y ya yc)) (Hy (aj W (tO y ya yc)) (by simp) ((h2.ext (hW.alloc (tO y ya yc))).weaken (fun k hk=>ax hk (hW.alloc (tO y ya yc)).size))) (fun k hk=>hk) (by simp));have HB2:=ae (ak (aj w (.cells #[.string x.name,.string x.sort,.slice xa x.kids.length xc,.string y.name,.string y.sort,.slice ya y.kids.length yc] 146)) (tO x xa xc));have hb1:=aj w (.cells #[.string x.name,.string x.sort,.slice xa x.kids.length xc,.string y.name,.string y.sort,.slice ya y.kids.length yc] 146);obtain⟨x0,x1,x2,x3,x4,x5⟩:=dR hb1;have hzz:Z=(nZ [x]||nZ [y]||(formed aB x&&decide (60<x.size))||(formed aB y&&decide (60<y.size))):=hZ.symm;rw[aep,oV] at hzz;have hg1:nZ [x]=false->x.size<=1000000:=fun h=>by have:=rH h;omega
 have hg2:nZ [y]=false->y.size<=1000000:=fun h=>by have:=rH h;omega
 obtain⟨s1,hs1⟩: ∃s,small aB 1 1000 x=s:=⟨_,rfl⟩
 obtain⟨s2,hs2⟩: ∃s,small aB 1 1000 y=s:=⟨_,rfl⟩
 rw[hs1] at hzz Tq;rw[hs2] at hzz Ji;have D7:=ae (fun h=>Z4.out (hg1 h));have D8:=ae (fun h=>Z5.out (hg2 h));obtain⟨b1,hb1'⟩: ∃b,nZ [x]=b:=⟨_,rfl⟩
 obtain⟨b2,hb2'⟩: ∃b,nZ [y]=b:=⟨_,rfl⟩
 obtain⟨n1,hn1⟩: ∃n,x.size=n:=⟨_,rfl⟩
 obtain⟨n2,hn2⟩: ∃n,y.size=n:=⟨_,rfl⟩
 rw[hb1',hb2',hn1,hn2] at hzz;rw[hb1'] at jo D7;rw[hb2'] at HBY D8;rw[hn1] at D7;rw[hn2] at D8;have HZ:=ae hzz;dsimp only[tV] at Tq Ji D7 D8;clear hzz hZ aep oV h1 h2 hE1 hE2 hb1 hg1 hg2 hs1 hs2 hb1' hb2' hn1 hn2 Z4 Z5
 go_enter Tryz.func107,Tryz.ntmps107
 go_wp2_with fail
 generalize (w.alloc (.cells #[.string x.name,.string x.sort,.slice xa x.kids.length xc,.string y.name,.string y.sort,.slice ya y.kids.length yc] 146)).alloc (tO x xa xc)=w1 at*;refine jo.out.mono ?_;rintro e w3 ⟨rfl,hw3⟩;have aT:=ae (HE2.out.trans hw3);have HB3:=ae (hw3.heap HB2.out (fun h=>h));clear hw3 jo HE2 HB2 x0 x1 x2 x3 x4 x5;cases b1 with
 |true=>
  obtain rfl:Z=true:=by have h:=HZ.out;simp[] at h;exact h
  go_wp2_with fail
  go_ret;exact⟨by first|rfl|simp,aT.out⟩
 |false=>
  have aer:=ae (D7.out rfl);clear D7;obtain⟨x0,x1,x2,x3,x4,x5⟩:=dR HB3.out
  go_wp2_with fail
  refine(HBY.out _ aT.out).mono ?_;rintro e w4 ⟨rfl,hw4⟩;have bD:=ae (aT.out.trans (((uR w3).alloc (tO y ya yc)).trans hw4));have HB4:=ae (hw4.heap (ak HB3.out (tO y ya yc)) (fun h=>h));clear hw4 HBY aT HB3 x0 x1 x2 x3 x4 x5;cases b2 with
  |true=>
   obtain rfl:Z=true:=by have h:=HZ.out;simp[] at h;exact h
   go_wp2_with fail
   go_ret;exact⟨by first|rfl|simp,bD.out⟩
  |false=>
   have uC:=ae (D8.out rfl);clear D8;obtain⟨x0,x1,x2,x3,x4,x5⟩:=dR HB4.out
   go_wp2_with fail
   refine(Tq.out _ bD.out).mono ?_;rintro e w4s ⟨rfl,hws⟩;have Tt:=ae (bD.out.trans hws);have Tv:=ae (hws.heap HB4.out (fun h=>h));clear hws Tq x0 x1 x2 x3 x4 x5;by_cases hs1:0<=s1
   .have t1:decide ((0:Int)<=s1)=true:=dT hs1;have yz:=ae (aer.out _ Tt.out);clear aer;obtain⟨x0,x1,x2,x3,x4,x5⟩:=dR Tv.out
    go_wp2_with fail
    refine yz.out.mono ?_;rintro e w4z ⟨rfl,hwz⟩;have X9:=ae (Tt.out.trans hwz);have aes:=ae (hwz.heap Tv.out (fun h=>h));clear hwz yz x0 x1 x2 x3 x4 x5;by_cases hz1:(60:Int)< (n1:Int)
    .have u1:decide ((60:Int)< (n1:Int))=true:=dT hz1;have hn1:60<n1:=by omega
     obtain rfl:Z=true:=by have h:=HZ.out;simp[hn1,t1] at h;exact h
     go_wp2_with fail
     go_ret;exact⟨by first|rfl|simp,X9.out⟩
    .have u1:decide ((60:Int)< (n1:Int))=false:=dF hz1;have hn1: ¬60<n1:=by omega
     obtain⟨x0,x1,x2,x3,x4,x5⟩:=dR aes.out
     go_wp2_with fail
     refine(Ji.out _ X9.out).mono ?_;rintro e al_ ⟨rfl,hws⟩;have Tz:=ae (X9.out.trans hws);have Z7:=ae (hws.heap aes.out (fun h=>h));clear hws Ji x0 x1 x2 x3 x4 x5;by_cases hs2:0<=s2
     .have t2:decide ((0:Int)<=s2)=true:=dT hs2;have zC:=ae (uC.out _ Tz.out);clear uC;obtain⟨x0,x1,x2,x3,x4,x5⟩:=dR Z7.out
      go_wp2_with fail
      refine zC.out.mono ?_;rintro e ama ⟨rfl,hwz⟩;have Z8:=ae (Tz.out.trans hwz);have alW:=ae (hwz.heap Z7.out (fun h=>h));clear hwz zC x0 x1 x2 x3 x4 x5;by_cases hz2:(60:Int)< (n2:Int)
      .have u2:decide ((60:Int)< (n2:Int))=true:=dT hz2;have hn2:60<n2:=by omega
       obtain rfl:Z=true:=by have h:=HZ.out;simp[hn1,t1,hn2,t2] at h;exact h
       go_wp2_with fail
       go_ret;exact⟨by first|rfl|simp,Z8.out⟩
      .have u2:decide ((60:Int)< (n2:Int))=false:=dF hz2;have hn2: ¬60<n2:=by omega
       obtain rfl:Z=false:=by have h:=HZ.out;simp[hn1,t1,hn2,t2] at h;exact h
       go_wp2_with fail
       go_ret;exact⟨by first|rfl|simp,Z8.out⟩
     .have t2:decide ((0:Int)<=s2)=false:=dF hs2;obtain rfl:Z=false:=by have h:=HZ.out;simp[hn1,t1,t2] at h;exact h
      go_wp2_with fail
      go_ret;exact⟨by first|rfl|simp,Tz.out⟩
   .have t1:decide ((0:Int)<=s1)=false:=dF hs1;obtain⟨x0,x1,x2,x3,x4,x5⟩:=dR Tv.out
    go_wp2_with fail
    refine(Ji.out _ Tt.out).mono ?_;rintro e amb ⟨rfl,hws⟩;have TA:=ae (Tt.out.trans hws);have Z9:=ae (hws.heap Tv.out (fun h=>h));clear hws Ji x0 x1 x2 x3 x4 x5;by_cases hs2:0<=s2
    .have t2:decide ((0:Int)<=s2)=true:=dT hs2;have zC:=ae (uC.out _ TA.out);clear uC;obtain⟨x0,x1,x2,x3,x4,x5⟩:=dR Z9.out
     go_wp2_with fail
     refine zC.out.mono ?_;rintro e amc ⟨rfl,hwz⟩;have Z_:=ae (TA.out.trans hwz);have alX:=ae (hwz.heap Z9.out (fun h=>h));clear hwz zC x0 x1 x2 x3 x4 x5;by_cases hz2:(60:Int)< (n2:Int)
     .have u2:decide ((60:Int)< (n2:Int))=true:=dT hz2;have hn2:60<n2:=by omega
      obtain rfl:Z=true:=by have h:=HZ.out;simp[t1,hn2,t2] at h;exact h
      go_wp2_with fail
      go_ret;exact⟨by first|rfl|simp,Z_.out⟩
     .have u2:decide ((60:Int)< (n2:Int))=false:=dF hz2;have hn2: ¬60<n2:=by omega
      obtain rfl:Z=false:=by have h:=HZ.out;simp[t1,hn2,t2] at h;exact h
      go_wp2_with fail
      go_ret;exact⟨by first|rfl|simp,Z_.out⟩
    .have t2:decide ((0:Int)<=s2)=false:=dF hs2;obtain rfl:Z=false:=by have h:=HZ.out;simp[t1,t2] at h;exact h
     go_wp2_with fail
     go_ret;exact⟨by first|rfl|simp,TA.out⟩
theorem VW (L:List Rl) (v:Value) (w:World) (hR:iJ (fun k=>k<w.heap.size) w L v) (hl:L.length<=1000000):
  Calls Tryz.prog 165 #[v,.func (.func 107) #[] #[]] w fun e w'=> ∃r:Int,e= .returned (.int .i64 r)/\decide (0<=r)=L.any uk/\Ext w w':=by
 obtain⟨a,cap,rfl⟩:=hR.shape;have HR:=ae hR;clear hR
 go_enter Tryz.func165,Tryz.ntmps165
 go_wp2_with fail
 go_loopg [8] L.length (fun gk iv wr=> ∃k:Nat,iv= .int .i64 (k:Int)/\gk=L.length-k/\k<=L.length/\Hid (Ext w wr)/\Hid ((L.take k).any uk=false))
 case atStart=>exact⟨0,rfl,rfl,Nat.zero_le _,ae (au.refl _ _),ae rfl⟩
 case round=>
  obtain⟨k,rfl,rfl,hk,HE,HM⟩:=hrel;by_cases hlt:k<L.length
  .obtain ⟨g,off,hga,_,hat⟩:=(HR.out.ext HE.out).at_ (by omega);subst hga;obtain⟨xa,xc,ya,yc,q0,q1,q2,q3,q4,q5,hk1,hk2⟩:=hat k hlt;obtain⟨z0,z1,z2,z2'⟩:=bJ hlt;have hmem:rg L k∈L:=by
    unfold Go.Hw.rg;rw[List.getD_eq_getElem?_getD,List.getElem?_eq_getElem hlt];exact List.getElem_mem hlt
   have htk:L.take (k+1)=L.take k++[rg L k]:=by
    unfold Go.Hw.rg;rw[List.getD_eq_getElem?_getD,List.getElem?_eq_getElem hlt];rw[List.take_add_one,List.getElem?_eq_getElem hlt];rfl
   have eu:=ae (abm (rg L k).1 (rg L k).2 xa ya xc yc wr (hk1.weaken (fun k hk=>ax hk HE.out.size)) (hk2.weaken (fun k hk=>ax hk HE.out.size)));have HN:Hid (uk (rg L k)=false->(L.take (k+1)).any uk=false):=ae (fun h=>by
    rw[htk,List.any_append,HM.out,List.any_cons,List.any_nil,h];rfl)
   have HY:Hid (uk (rg L k)=true->L.any uk=true):=ae (fun h=>List.any_eq_true.2 ⟨_,hmem,h⟩);obtain⟨⟨x,y⟩,hx⟩: ∃x,rg L k=x:=⟨_,rfl⟩
   rw[hx] at q0 q1 q2 q3 q4 q5 eu HN HY;simp only at q0 q1 q2 q3 q4 q5 eu;obtain⟨b,hb⟩: ∃b,uk (x,y)=b:=⟨_,rfl⟩
   rw[hb] at eu HN HY;clear hat hmem hx hb HM hk1 hk2 htk
   go_wp2_with fail
   refine eu.out.mono ?_;rintro e w4 ⟨rfl,hw4⟩;have H4:=ae (HE.out.trans hw4);clear hw4 q0 q1 q2 q3 q4 q5 eu HE;cases b
   .have jh:=ae (HN.out rfl);clear HN HY
    go_wp2_with fail
    go_roundg (L.length- (k+1))
    case measure=>omega
    case rel=>exact⟨k+1,by go_num,rfl,by omega,H4,jh⟩
   .have yX:=ae (HY.out rfl);clear HN HY
    go_wp2_with fail
    go_ret;exact⟨_,rfl,by rw[yX.out];exact dT z0,H4.out⟩
  .obtain rfl:k=L.length:=by omega
   have z2:decide ((L.length:Int)< (L.length:Int))=false:=dF (by omega);have ku:=HM.out;rw[List.take_length] at ku;have EX:=ae ku;clear ku
   go_wp2_with fail
   go_ret;exact⟨_,rfl,by rw[EX.out];rfl,HE.out⟩
theorem VZ (L:List Rl) (v:Value) (w:World) (hR:iJ (fun k=>k<w.heap.size) w L v) (hl:L.length<=1000000):
  Calls Tryz.prog 106 #[v,.func (.func 107) #[] #[]] w fun e w'=>e= .returned (.bool (L.any uk))/\Ext w w':=by
 have HI:=ae (VW L v w hR hl);clear hR
 go_enter Tryz.func106,Tryz.ntmps106
 go_wp2_with fail
 refine HI.out.mono ?_;rintro e w4 ⟨r,rfl,hr,hw4⟩;have H4:=ae hw4;have HRR:=ae hr;clear hw4 hr
 go_wp2_with fail
 go_ret;rw[<-HRR.out];exact⟨rfl,H4.out⟩
theorem abn (L:List Rl) (v:Value) (w:World) (hR:iJ (fun k=>k<w.heap.size) w L v) (hl:L.length<=maxLen):
  Calls Tryz.prog 36 #[v] w fun e w'=>e= .returned (.bool (D6 L))/\Ext w w':=by
 have HC:=ae (fun h=>VZ L v w hR h);obtain⟨Z,hZ⟩: ∃Z,D6 L=Z:=⟨_,rfl⟩
 rw[hZ];have HZ:Hid (Z=((decide (20<L.length)&&decide (L.length<=100))||decide (110<L.length)||L.any uk)):=ae hZ.symm;obtain⟨a,cap,rfl⟩:=hR.shape;obtain⟨b,hb⟩: ∃b,L.any uk=b:=⟨_,rfl⟩
 rw[hb] at HC HZ;have HE:Hid (Ext w w):=ae (au.refl _ _);clear hR hZ hb;have yh:=HC;clear HC;obtain⟨n,hn⟩: ∃n,L.length=n:=⟨_,rfl⟩
 rw[hn] at yh HZ hl⊢;by_cases p1:20<n
 .have t1:decide ((20:Int)< (n:Int))=true:=dT (by omega);by_cases p2:n<=100
  .have t2:decide ((n:Int)<=(100:Int))=true:=dT (by omega);obtain rfl:Z=true:=by have h:=HZ.out;simp[p1,p2] at h;exact h
   clear yh
   go_enter Tryz.func36,Tryz.ntmps36
   go_wp2_with fail
   go_ret;exact⟨rfl,HE.out⟩
  .have t2:decide ((n:Int)<=(100:Int))=false:=dF (by omega);by_cases p3:110<n
   .have t3:decide ((110:Int)< (n:Int))=true:=dT (by omega);obtain rfl:Z=true:=by have h:=HZ.out;simp[p3] at h;exact h
    clear yh
    go_enter Tryz.func36,Tryz.ntmps36
    go_wp2_with fail
    go_ret;exact⟨rfl,HE.out⟩
   .have t3:decide ((110:Int)< (n:Int))=false:=dF (by omega);have d2:decide (n<=100)=false:=dF p2;have d3:decide (110<n)=false:=dF p3;obtain rfl:Z=b:=by have h:=HZ.out;simpa[d2,d3] using h
    have HC:=ae (yh.out (by omega));clear yh
    go_enter Tryz.func36,Tryz.ntmps36
    go_wp2_with fail
    refine HC.out.mono ?_;rintro e w4 ⟨rfl,hw4⟩
    go_wp2_with fail
    go_ret;exact⟨rfl,hw4⟩
 .have t1:decide ((20:Int)< (n:Int))=false:=dF (by omega);have t3:decide ((110:Int)< (n:Int))=false:=dF (by omega);have d1:decide (20<n)=false:=dF p1;have d3:decide (110<n)=false:=dF (by omega);obtain rfl:Z=b:=by have h:=HZ.out;simpa[d1,d3] using h
  have HC:=ae (yh.out (by omega));clear yh
  go_enter Tryz.func36,Tryz.ntmps36
  go_wp2_with fail
  refine HC.out.mono ?_;rintro e w4 ⟨rfl,hw4⟩
  go_wp2_with fail
  go_ret;exact⟨rfl,hw4⟩
theorem aet (p q:List Int) (v u:Value) (S T:Nat->Prop) (w:World) (hp:pG S w v p) (hq:pG T w u q) (hpl:p.length<=1000000):
  Calls Tryz.prog 113 #[v,u] w fun e w'=>e= .returned (.bool (decide (p=q)))/\Ext w w':=by
 have HP:=ae hp;have HQ:=ae hq;obtain⟨a,c,rfl⟩:=hp.shape;obtain⟨b,d,rfl⟩:=hq.shape;obtain⟨Z,hZ⟩: ∃Z,decide (p=q)=Z:=⟨_,rfl⟩
 rw[hZ];have HZ:=ae hZ.symm;have H0:Hid (Ext w w):=ae (au.refl _ _);clear hp hq hZ;by_cases hl:p.length=q.length
 rotate_left
 .have e1:((p.length:Int)==(q.length:Int))=false:=beq_eq_false_iff_ne.2 (by omega);have e2:decide ((p.length:Int)=(q.length:Int))=false:=dF (by omega);obtain rfl:Z=false:=by rw[HZ.out];exact dF (fun h=>hl (by rw[h]))
  clear hl HP HQ
  go_enter Tryz.func113,Tryz.ntmps113
  go_wp2_with fail
  go_ret;exact⟨rfl,H0.out⟩
 have HL:=ae hl.symm;rw[HL.out];clear hl
 go_enter Tryz.func113,Tryz.ntmps113
 go_wp2_with fail
 go_loopg [5] p.length (fun gk iv wr=> ∃k:Nat,iv= .int .i64 (k:Int)/\gk=p.length-k/\k<=p.length/\Hid (∀j,j<k->p[j]?=q[j]?)/\Hid (Ext w wr))
 case atStart=>exact⟨0,rfl,rfl,Nat.zero_le _,ae (fun j h=>absurd h (Nat.not_lt_zero _)),H0⟩
 case round=>
  obtain⟨k,rfl,rfl,hk,HC,HE⟩:=hrel;by_cases hlt:k<p.length
  .have hlq:k<q.length:=by have:=HL.out;omega
   obtain⟨g,off,c',e,_,_,hj⟩:=aA.pos (aA.kept HP.out HE.out (fun _ _ h=>h)) (by omega);injection e with e e3 e4
   subst e;obtain⟨g2,nX,d',e,_,_,hj2⟩:=aA.pos (aA.kept HQ.out HE.out (fun _ _ h=>h)) (by omega);injection e with e e5 e6
   subst e;obtain⟨x,hx⟩: ∃x,p[k]?=some x:=⟨_,List.getElem?_eq_getElem hlt⟩
   obtain⟨y,hy⟩: ∃y,q[k]?=some y:=⟨_,List.getElem?_eq_getElem hlq⟩
   have q0:wr.cell? ⟨g,off+k,none⟩=some (.int .i64 x):=by rw[hj k (by omega),List.getElem?_map,hx];rfl
   have q1:wr.cell? ⟨g2,nX+k,none⟩=some (.int .i64 y):=by rw[hj2 k (by omega),List.getElem?_map,hy];rfl
   obtain⟨z0,z1,z2,z2'⟩:=bJ hlt;clear hj hj2 e3 e4 e5 e6;by_cases hxy:x=y
   .subst hxy;have HC2:Hid (∀j,j<k+1->p[j]?=q[j]?):=ae (fun j h=>by
     rcases Nat.lt_succ_iff_lt_or_eq.1 h with h|h
     .exact HC.out j h
     .rw [h,hx,hy])
    clear hx hy HC
    go_wp2_with fail
    go_quiet (fail)
    go_wp2_with fail
    go_roundg (p.length- (k+1))
    case measure=>omega
    case rel=>exact⟨k+1,by go_num,rfl,by omega,HC2,ae (HE.out.drewN' _)⟩
   .have t1:(x==y)=false:=beq_eq_false_iff_ne.2 hxy;have t2:decide (x=y)=false:=dF hxy;obtain rfl:Z=false:=by
     rw[HZ.out];refine dF (fun h=>hxy ?_);rw[h,hy] at hx;exact(Option.some.inj hx).symm
    clear hx hy HC hxy
    go_wp2_with fail
    go_quiet (fail)
    go_wp2_with fail
    go_ret;exact⟨rfl,HE.out.drewN' _⟩
  .obtain rfl:k=p.length:=by omega
   have z2:decide ((p.length:Int)< (p.length:Int))=false:=dF (by omega);obtain rfl:Z=true:=by
    rw[HZ.out];refine dT (List.ext_getElem? (fun j=>?_));by_cases hj:j<p.length
    .exact HC.out j hj
    .rw [List.getElem?_eq_none (by omega),List.getElem?_eq_none (by have:=HL.out;omega)]
   clear HC
   go_wp2_with fail
   go_ret;exact⟨rfl,HE.out⟩
def AtR (S:Nat->Prop) (w:World) (t:Tm) (p:List Int) (e:Ending):Prop:=
 (eH t p=none/\e= .returned (.tuple #[.agg #[.string ⟨#[]⟩,.string ⟨#[]⟩,.slice none 0 0],.bool false]))\/∃x r,eH t p=some x/\e= .returned (.tuple #[tV x r,.bool true])/\ay S w x.kids r
theorem aew (t:Tm) (p:List Int) (tv pv:Value) (S T:Nat->Prop) (w:World) (hT:bG S w t tv) (hS: ∀k,S k->k<w.heap.size) (hP:pG T w pv p) (hTB: ∀k,T k->k<w.heap.size) (hl:p.length<=1000000):
  Calls Tryz.prog 175 #[tv,pv] w fun e w'=>AtR S w' t p e/\Ext w w':=by
 have HP:=ae hP;obtain⟨pa,pc,rfl⟩:=hP.shape;obtain⟨a,cap,rfl,hTL⟩:=hT;have hZ:=((uR w).alloc (tO t a cap)).alloc zO;have HZ:=ae hZ;have cZ:=ae (hTL.ext hZ);have HB0:=ae (ak (aj w (tO t a cap)) zO);have HB1:=ae (alloc_at (w.alloc (tO t a cap)) zO (n:=w.heap.size+1) (by simp));have hz2:w.heap.size+2<=((w.alloc (tO t a cap)).alloc zO).heap.size:=by simp
 have HZ2:=ae hz2;have vZ:=ae hS;have Qw:=ae hTB;clear hP hTL hZ hz2 hS hTB;dsimp only[tV]
 go_enter Tryz.func175,Tryz.ntmps175
 go_wp2_with fail
 generalize ((w.alloc (tO t a cap)).alloc zO)=w1 at*
 go_loopg [6] p.length (fun gk iv wr=> ∃(k:Nat) (x:Tm) (xa:Option Addr) (xc:Nat),iv= .int .i64 (k:Int)/\gk=p.length-k/\k<=p.length/\Hid (eH t p=eH x (p.drop k))/\Hid (wr.heap[w.heap.size]?=some (tO x xa xc))/\Hid (wr.heap[w.heap.size+1]?=some zO)/\Hid (ay S wr x.kids (.slice xa x.kids.length xc))/\Hid (Ext w wr)/\Hid (w.heap.size+2<=wr.heap.size))
 case atStart=>exact⟨0,t,a,cap,rfl,rfl,Nat.zero_le _,ae rfl,HB0,HB1,cZ,HZ,HZ2⟩
 case round=>
  clear cZ HZ HZ2 HB0 HB1;obtain⟨k,x,xa,xc,rfl,rfl,hk,HS,HB0,HB1,HX,HE,HZ2⟩:=hrel;obtain⟨x0,x1,x2⟩:=af HB0.out;have f1:=fun i=>ai HB0.out i;by_cases hlt:k<p.length
  .obtain ⟨g,off,hga,hTg,hat⟩:=aA.CG (d:=(0:Int)) (aA.kept HP.out HE.out (fun _ _ h=>h)) (by omega);subst hga;have q0:=hat k hlt;have hgw:=Qw.out _ hTg;obtain⟨z0,z1,z2,z2'⟩:=bJ hlt;have hd:p.drop k=p.getD k 0::p.drop (k+1):=by
    rw[List.drop_eq_getElem_cons hlt,List.getD_eq_getElem?_getD,List.getElem?_eq_getElem hlt];rfl
   have hs:=HS.out;rw[hd,xX] at hs;have HS2:=ae hs;obtain⟨i,hi⟩: ∃i,p.getD k 0=i:=⟨_,rfl⟩
   rw[hi] at q0 HS2;have hTL:=HX.out;clear hat hd hs hi HS HX hTg f1;by_cases hi0:i<0
   .have HV:Hid (eH t p=none):=ae (by rw[HS2.out,if_pos (.inl hi0)]);have y1:decide (i<0)=true:=dT hi0
    go_wp2_with fail
    go_quiet (fail)
    have hD:=(uR wr).drewN' nq;have D9:=ae (HE.out.trans hD);have Ov:=ae (hD.heap HB0.out (fun h=>h));have Au:=ae (hD.heap HB1.out (fun h=>h));have HTD:=ae (hTL.ext hD);have q0D:=hD.cell q0 (fun h=>h);have HZD:=ae (Nat.le_trans HZ2.out hD.size);clear hD HE HB0 HB1 hTL x0 x1 x2 q0;generalize wr.drewN nq=wd at*;have f2:=fun i=>ai Au.out i;obtain⟨d0,d1,d2⟩:=af Au.out
    go_wp2_with fail
    have hr3:=aF Au.out (.string ⟨#[]⟩) (.string ⟨#[]⟩) (.slice none 0 0);have hu:=aC wd (w.heap.size+1) (.string ⟨#[]⟩) (.string ⟨#[]⟩) (.slice none 0 0);obtain⟨e0,e1,e2⟩:=af hr3;refine bodyPost_ret (v:= .tuple #[.agg #[.string ⟨#[]⟩,.string ⟨#[]⟩,.slice none 0 0],.bool false]) (by simp[results,Tryz.results175,go_sem,e0,e1,e2]) rfl ?_;have hue:=D9.out.trans' hu (fun j hj e=>by omega);exact⟨.inl ⟨HV.out,rfl⟩,hue⟩
   have y1:decide (i<0)=false:=dF hi0;by_cases hi1:(x.kids.length:Int)<=i
   .have HV:Hid (eH t p=none):=ae (by rw[HS2.out,if_pos (.inr hi1)]);have y2:decide ((x.kids.length:Int)<=i)=true:=dT hi1
    go_wp2_with fail
    go_quiet (fail)
    have hD:=(uR wr).drewN' nq;have D9:=ae (HE.out.trans hD);have Ov:=ae (hD.heap HB0.out (fun h=>h));have Au:=ae (hD.heap HB1.out (fun h=>h));have HTD:=ae (hTL.ext hD);have q0D:=hD.cell q0 (fun h=>h);have HZD:=ae (Nat.le_trans HZ2.out hD.size);clear hD HE HB0 HB1 hTL x0 x1 x2 q0;generalize wr.drewN nq=wd at*;have f2:=fun i=>ai Au.out i;obtain⟨d0,d1,d2⟩:=af Au.out
    go_wp2_with fail
    have hr3:=aF Au.out (.string ⟨#[]⟩) (.string ⟨#[]⟩) (.slice none 0 0);have hu:=aC wd (w.heap.size+1) (.string ⟨#[]⟩) (.string ⟨#[]⟩) (.slice none 0 0);obtain⟨e0,e1,e2⟩:=af hr3;refine bodyPost_ret (v:= .tuple #[.agg #[.string ⟨#[]⟩,.string ⟨#[]⟩,.slice none 0 0],.bool false]) (by simp[results,Tryz.results175,go_sem,e0,e1,e2]) rfl ?_;have hue:=D9.out.trans' hu (fun j hj e=>by omega);exact⟨.inl ⟨HV.out,rfl⟩,hue⟩
   have y2:decide ((x.kids.length:Int)<=i)=false:=dF hi1;have HV:Hid (eH t p=eH (tg x.kids i.toNat) (p.drop (k+1))):=ae (by rw[HS2.out,if_neg (by omega)]);obtain⟨j,rfl⟩: ∃j:Nat,i=(j:Int):=⟨i.toNat,by omega⟩
   have hjn:((j:Int)).toNat=j:=by omega
   rw[hjn] at HV;have hj:j<x.kids.length:=by omega
   have u0:(0:Int)<=(j:Int):=by omega
   have u1:(j:Int)< (x.kids.length:Int):=by omega
   go_wp2_with fail
   go_quiet (fail)
   have hD:=(uR wr).drewN' nq;have D9:=ae (HE.out.trans hD);have Ov:=ae (hD.heap HB0.out (fun h=>h));have Au:=ae (hD.heap HB1.out (fun h=>h));have HTD:=ae (hTL.ext hD);have q0D:=hD.cell q0 (fun h=>h);have HZD:=ae (Nat.le_trans HZ2.out hD.size);clear hD HE HB0 HB1 hTL x0 x1 x2 q0;generalize wr.drewN nq=wd at*;have c7:True:=trivial;obtain⟨g2,nX,zU,hSg,wY⟩:=HTD.out.at_ (by omega);subst zU;have hgs:=vZ.out _ hSg;obtain⟨ya,yc,r0,r1,r2,hy⟩:=wY j hj;rw[<-Nat.add_assoc] at r1 r2;obtain⟨y,Q7⟩: ∃y,tg x.kids j=y:=⟨_,rfl⟩
   rw[Q7] at r0 r1 r2 hy HV;obtain⟨x0,x1,x2⟩:=af Ov.out;have f1:=fun i=>ai Ov.out i;have HY:=ae hy;clear wY Q7 hy HS2 hi0 hi1 hjn HTD
   go_wp2_with fail
   go_still_tail 8,(by kernel_rfl)
   change wpList _ _ _ _ _ wd.drew
   go_wp2_with fail
   have hu:=aC wd w.heap.size (.string y.name) (.string y.sort) (.slice ya y.kids.length yc);have hr:=aF Ov.out (.string y.name) (.string y.sort) (.slice ya y.kids.length yc);have hu2:=hu.drewN' 1;have bD:=ae (D9.out.trans' hu2 (fun j hj e=>by omega));have Jj:=ae (((uR _).drewN' 1).heap hr (fun h=>h));have qJ:=ae (hu2.heap Au.out (by omega));have vW:=ae (HY.out.kept hu2 (fun j hj e=>by have:=vZ.out _ hj;omega));have GH:=ae (Nat.le_trans HZD.out hu2.size)
   go_roundg (p.length- (k+1))
   case measure=>omega
   case rel=>exact⟨k+1,y,ya,yc,by go_num,rfl,by omega,HV,Jj,qJ,vW,bD,GH⟩
  .obtain rfl:k=p.length:=by omega
   have z2:decide ((p.length:Int)< (p.length:Int))=false:=dF (by omega);have HV:Hid (eH t p=some x):=ae (by rw[HS.out,List.drop_length];rfl);have f2:=fun i=>ai HB1.out i;obtain⟨d0,d1,d2⟩:=af HB1.out
   go_wp2_with fail
   have hr3:=aF HB1.out (.string x.name) (.string x.sort) (.slice xa x.kids.length xc);have hu:=aC wr (w.heap.size+1) (.string x.name) (.string x.sort) (.slice xa x.kids.length xc);obtain⟨e0,e1,e2⟩:=af hr3;refine bodyPost_ret (v:= .tuple #[.agg #[.string x.name,.string x.sort,.slice xa x.kids.length xc],.bool true]) (by simp[results,Tryz.results175,go_sem,e0,e1,e2]) rfl ?_;have hue:=HE.out.trans' hu (fun j hj e=>by omega);exact⟨.inr ⟨x,.slice xa x.kids.length xc,HV.out,rfl,HX.out.kept hu (fun j hj e=>by have:=vZ.out _ hj;omega)⟩,hue⟩
theorem V4 (t:Tm) (v:Value) (S:Nat->Prop) (w:World) (hT:bG S w t v):
  Calls Tryz.prog 178 #[v] w fun e w'=>e= .returned (.bool (formed aB t))/\Ext w w':=by
 have hsf:=oQ (nm:=aB) t;have hSM:=fun W (hW:Ext w W)=>yZ t 1 1000 v _ W (hT.ext hW) (by decide) (by decide) (by decide);obtain⟨sm,hsm⟩: ∃s,small aB 1 1000 t=s:=⟨_,rfl⟩
 rw[hsm] at hsf;simp only[hsm] at hSM;rw[hsf];have qY:=ae hSM;obtain⟨a,cap,rfl,hTL⟩:=hT;have hE:=(uR w).alloc (tO t a cap);have HE:=ae hE;have hb:=aj w (tO t a cap);obtain⟨x0,x1,x2⟩:=af hb;dsimp only[tV] at qY⊢;clear hE hb hTL hSM hsf hsm
 go_enter Tryz.func178,Tryz.ntmps178
 go_wp2_with fail
 refine(qY.out _ HE.out).mono ?_;rintro e w4 ⟨rfl,hw4⟩;have H4:=ae (HE.out.trans hw4);clear hw4 qY x0 x1 x2
 go_wp2_with fail
 go_ret;exact⟨rfl,H4.out⟩
def uG (r:Rl) (u:Tm):Tm×Bool:=match jG r.1 u [] with
 |none=>(a_,false)
 |some B=>if(bu B r.2).size<=1000/\1+(bu B r.2).depth<=61 then(bu B r.2,true) else(a_,true)
theorem aex (x y u:Tm) (xa ya:Option Addr) (xc yc:Nat) (uv:Value) (w:World) (h1:ay (fun k=>k<w.heap.size) w x.kids (.slice xa x.kids.length xc)) (h2:ay (fun k=>k<w.heap.size) w y.kids (.slice ya y.kids.length yc)) (hU:bG (fun k=>k<w.heap.size) w u uv) (hnx:tZ x) (hny:tZ y) (hsx:x.size<=100000) (hsy:y.size<=100000) (hsu:u.size<=100000):
  Calls Tryz.prog 176 #[.agg #[.string x.name,.string x.sort,.slice xa x.kids.length xc,.string y.name,.string y.sort,.slice ya y.kids.length yc],uv] w fun e w'=> ∃r,e= .returned (.tuple #[tV (uG (x,y) u).1 r,.bool (uG (x,y) u).2])/\ay (fun k=>w.heap.size<=k/\k<w'.heap.size) w' (uG (x,y) u).1.kids r/\Ext w w':=by
 obtain⟨Z,hZ⟩: ∃Z,uG (x,y) u=Z:=⟨_,rfl⟩
 rw[hZ];have hvl:(cu x).length<=100000:=Nat.le_trans (abo x) hsx;have HM:=ae (fun W (hW:Ext w W)=>Vw hvl x u (tV x (.slice xa x.kids.length xc)) uv (.slice none 0 0) [] W ⟨xa,xc,rfl,(h1.ext hW).weaken (fun k hk=>ax hk hW.size)⟩ ((hU.ext hW).weaken (fun k hk=>ax hk hW.size)) (gQ.nil _ _ _) (by omega) hsu hnx (fun f hf=>hf) (qm.nil _ _));have HCI:=ae (fun C (hC:jG x u []=some C)=>(zF (X:=cu x) (Y:=fun t=>t.size<=100000) (fun t x h hx=>Nat.le_trans (Nat.le_of_lt (uA hx)) h) x u [] C hC hnx (fun f hf=>hf) hsu (qm.nil _ _)).1);have oO:=ae (fun C (hI:qm (cu x) (fun t=>t.size<=100000) C) (vB:Value) W (hW:Ext w W) (hB:gQ (fun k=>k<W.heap.size) (fun k=>k<W.heap.size) W vB C)=>abb C vB _ _ W (ae hB) (ae (fun k hk=>hk)) (ae (by have:=QE hI;omega)) (ae hI.val) y (tV y (.slice ya y.kids.length yc)) (fun k=>k<w.heap.size) W 1 1000 (au.refl _ _) ⟨ya,yc,rfl,h2.ext hW⟩ (fun k hk=>ax hk hW.size) hsy hny (by decide) (by decide));have hzz:Z=match jG x u [] with
  |none=>(a_,false)
  |some B=>if(bu B y).size<=1000/\1+(bu B y).depth<=61 then(bu B y,true) else(a_,true):=hZ.symm
 obtain⟨o,ho⟩: ∃o,jG x u []=o:=⟨_,rfl⟩
 rw[ho] at hzz HM HCI;have HZ:=ae hzz;obtain⟨ua,uc,rfl,D_⟩:=hU;have hE1:=(((uR w).alloc (.cells #[.string x.name,.string x.sort,.slice xa x.kids.length xc,.string y.name,.string y.sort,.slice ya y.kids.length yc] 146)).alloc (tO u ua uc)).alloc zO;have kU:=ae hE1;have HB0:=ae (ak (ak (aj w (.cells #[.string x.name,.string x.sort,.slice xa x.kids.length xc,.string y.name,.string y.sort,.slice ya y.kids.length yc] 146)) (tO u ua uc)) zO);have HB1:=ae (ak (alloc_at (w.alloc (.cells #[.string x.name,.string x.sort,.slice xa x.kids.length xc,.string y.name,.string y.sort,.slice ya y.kids.length yc] 146)) (tO u ua uc) (n:=w.heap.size+1) (by simp)) zO);have HB2:=ae (alloc_at ((w.alloc (.cells #[.string x.name,.string x.sort,.slice xa x.kids.length xc,.string y.name,.string y.sort,.slice ya y.kids.length yc] 146)).alloc (tO u ua uc)) zO (n:=w.heap.size+2) (by simp));have hz3:w.heap.size+3<=(((w.alloc (.cells #[.string x.name,.string x.sort,.slice xa x.kids.length xc,.string y.name,.string y.sort,.slice ya y.kids.length yc] 146)).alloc (tO u ua uc)).alloc zO).heap.size:=by simp
 have lZ:=ae hz3;obtain⟨x0,x1,x2,x3,x4,x5⟩:=dR HB0.out;obtain⟨y0,y1,y2⟩:=af HB1.out;dsimp only[tV] at HM oO⊢;clear hzz hZ ho h1 h2 D_ hE1 hz3 hvl
 go_enter Tryz.func176,Tryz.ntmps176
 go_wp2_with fail
 generalize (((w.alloc (.cells #[.string x.name,.string x.sort,.slice xa x.kids.length xc,.string y.name,.string y.sort,.slice ya y.kids.length yc] 146)).alloc (tO u ua uc)).alloc zO)=w1 at*;refine(HM.out _ kU.out).mono ?_;rintro e w3 ⟨r,rfl,hC,hw3⟩;have aT:=ae (kU.out.trans hw3);have n_:=ae (hw3.heap HB0.out (fun h=>h));have fG:=ae (hw3.heap HB2.out (fun h=>h));have eP:=ae (Nat.le_trans lZ.out hw3.size);clear hw3 HM kU HB0 HB1 HB2 lZ x0 x1 x2 x3 x4 x5 y0 y1 y2;cases o with
 |none=>
  obtain rfl:Z=(a_,false):=HZ.out;simp only[Option.isSome_none];clear hC HCI oO;have f2:=fun i=>ai fG.out i;obtain⟨d0,d1,d2⟩:=af fG.out
  go_wp2_with fail
  have hr3:=aF fG.out (.string ⟨#[]⟩) (.string ⟨#[]⟩) (.slice none 0 0);have hu:=aC w3 (w.heap.size+2) (.string ⟨#[]⟩) (.string ⟨#[]⟩) (.slice none 0 0);obtain⟨e0,e1,e2⟩:=af hr3;refine bodyPost_ret (v:= .tuple #[.agg #[.string ⟨#[]⟩,.string ⟨#[]⟩,.slice none 0 0],.bool false]) (by simp[results,Tryz.results176,go_sem,e0,e1,e2]) rfl ?_;have hue:=aT.out.trans' hu (fun j hj e=>by omega);exact⟨.slice none 0 0,rfl,ay.nil _ _,hue⟩
 |some C=>
  have hB:=hC C rfl;have HP:=oO.out C (HCI.out C rfl) r w3 aT.out hB;obtain⟨ra,rc,hr⟩:=hB.shape;subst hr;have HPP:=ae HP;simp only[Option.isSome_some];obtain⟨z,hz⟩: ∃z,bu C y=z:=⟨_,rfl⟩
  have hz1:Z=if z.size<=1000/\1+z.depth<=61 then(z,true) else(a_,true):=by rw[<-hz];exact HZ.out
  rw[hz] at HPP;have HZ1:=ae hz1;clear HP hC HCI oO hB hz HZ hz1;obtain⟨x0,x1,x2,x3,x4,x5⟩:=dR n_.out
  go_wp2_with fail
  refine HPP.out.mono ?_;rintro e w4 ⟨q,qa,qc,rr,rfl,hQ,hw4⟩;have hX:=hw4.alloc (tO q qa qc);have bD:=ae (aT.out.trans hX);have dQ:=ae (hX.heap fG.out (fun h=>h));have HN:=ae (aj w4 (tO q qa qc));have eY:Hid (w.heap.size+3<=w4.heap.size):=ae (Nat.le_trans eP.out hw4.size);have HQP:=ae hQ;clear hw4 hX HPP aT n_ fG x0 x1 x2 x3 x4 x5 hQ;by_cases hf:z.size<=1000/\1+z.depth<=61
  rotate_left
  .obtain rfl:Z=(a_,true):=by rw[HZ1.out,if_neg hf]
   have hr0:=HQP.out.2 hf;have t1:decide (rr<0)=true:=dT hr0;have f2:=fun i=>ai dQ.out i;obtain⟨d0,d1,d2⟩:=af dQ.out
   go_wp2_with fail
   have hr3:=aF dQ.out (.string ⟨#[]⟩) (.string ⟨#[]⟩) (.slice none 0 0);have hu:=aC (w4.alloc (tO q qa qc)) (w.heap.size+2) (.string ⟨#[]⟩) (.string ⟨#[]⟩) (.slice none 0 0);obtain⟨e0,e1,e2⟩:=af hr3;refine bodyPost_ret (v:= .tuple #[.agg #[.string ⟨#[]⟩,.string ⟨#[]⟩,.slice none 0 0],.bool true]) (by simp[results,Tryz.results176,go_sem,e0,e1,e2]) rfl ?_;have hue:=bD.out.trans' hu (fun j hj e=>by omega);exact⟨.slice none 0 0,rfl,ay.nil _ _,hue⟩
  obtain⟨rfl,hrr,B,hTO,UH⟩:=HQP.out.1 hf;obtain rfl:Z=(q,true):=by rw[HZ1.out,if_pos hf]
  have hr0: ¬rr<0:=by omega
  have t1:decide (rr<0)=false:=dF hr0;have tX:=ae (aG.read hTO);have gW:=ae UH;clear hTO UH hrr HQP HZ1;have QV:=((uR w4).alloc (tO q qa qc))
  have HTQ:Hid (ay (fun k=>w.heap.size+3<=k/\k< (w4.alloc (tO q qa qc)).heap.size) (w4.alloc (tO q qa qc)) q.kids (.slice qa q.kids.length qc)):=ae ((tX.out.ext QV).weaken (fun k hk=>⟨Nat.le_trans eP.out (gW.out k hk).1,ax (gW.out k hk).2 QV.size⟩));clear QV tX gW eP;dsimp only;obtain⟨nb,hnb⟩: ∃n,w4.heap.size=n:=⟨_,rfl⟩
  rw[hnb] at HN eY;obtain⟨m0,m1,m2⟩:=af HN.out;have f2:=fun i=>ai dQ.out i;obtain⟨d0,d1,d2⟩:=af dQ.out
  go_wp2_with fail
  try rw[hnb]
  generalize w4.alloc (tO q qa qc)=w5 at*;clear hnb;have hr3:=aF dQ.out (.string q.name) (.string q.sort) (.slice qa q.kids.length qc);have hu:=aC w5 (w.heap.size+2) (.string q.name) (.string q.sort) (.slice qa q.kids.length qc);obtain⟨e0,e1,e2⟩:=af hr3;refine bodyPost_ret (v:= .tuple #[.agg #[.string q.name,.string q.sort,.slice qa q.kids.length qc],.bool true]) (by simp[results,Tryz.results176,go_sem,e0,e1,e2]) rfl ?_;have hue:=bD.out.trans' hu (fun j hj e=>by omega);have hk:=(HTQ.out.kept hu (fun j hj e=>by omega)).weaken (fun j hj=>(⟨by omega,ax hj.2 hu.size⟩:w.heap.size<=j/\j<_));exact⟨.slice qa q.kids.length qc,rfl,hk,hue⟩
theorem aeB {te:TypeId} {b:Nat} {w:World} {L:List Tm} {us:List Value} {i:Nat} {y:Tm} {u:Value} {S T:Nat->Prop} {g c:Nat} (hl:us.length=L.length) (hown:w.ownsRow b te 3 (.slice (some ⟨g,0,none⟩) L.length c) L.length (bY L us))
  (hk: ∀j,j<L.length->ay S w (tg L j).kids (ug us j)) (hi:i<L.length) (hy:ay T w y.kids u) (hS: ∀k,S k->k≠g) (hT: ∀k,T k->k≠g):
  ay (fun k=>k=g\/S k\/T k) (fH w (g,i*3) y.name y.sort u) (L.set i y) (.slice (some ⟨g,0,none⟩) L.length c):=by
 have hU:=uB w (g,i*3) y.name y.sort u;have hown2:(fH w (g,i*3) y.name y.sort u).ownsRow b te 3 (.slice (some ⟨g,0,none⟩) L.length c) L.length (bY (L.set i y) (us.set i u)):=by
  rw[<-Aw L us i y u hl hi];exact uH (uH (uH hown _ _) _ _) _ _
 refine .mk _ (us.set i u) _ (by simp[hl]) (by rw[List.length_set];exact(aA.fC hown2).weaken (fun k hk=> .inl (by injection hk with hk;exact hk.symm))) (fun j hj=>?_);rw[List.length_set] at hj;rw[Ox L i j y hi,V5 us i j u (by omega)];by_cases hij:i=j
 .rw [if_pos hij,if_pos hij];exact(hy.kept hU (fun k hk e=>hT k hk e)).weaken (fun k hk=> .inr (.inr hk))
 .rw [if_neg hij,if_neg hij];exact((hk j hj).kept hU (fun k hk e=>hS k hk e)).weaken (fun k hk=> .inr (.inl hk))
theorem Fz: ∀(L:List Tm) (us:List Value),(∀j,j<L.length->∃a n c,ug us j= .slice a n c)->∀v∈bY L us,v.oneCell'=true
 |[],_,_,v,h=>by cases h
 |t::L,us,hs,v,h=>by
  unfold bY at h;rcases List.mem_cons.1 h with rfl|h
  .rfl
  rcases List.mem_cons.1 h with rfl|h
  .rfl
  rcases List.mem_cons.1 h with rfl|h
  .obtain ⟨a,n,c,e⟩:=hs 0 (by simp);cases us with
   |nil=>rfl
   |cons x us=>
    have e:x= .slice a n c:=by simpa[ug] using e
    subst e;rfl
  .refine Fz L us.tail (fun j hj=>?_) v h;obtain⟨a,n,c,e⟩:=hs (j+1) (by simpa using hj);refine⟨a,n,c,?_⟩;rw[<-e];cases us with
   |nil=>rfl
   |cons x us=>rfl
theorem abp (u:Tm): ∀(p:List Nat) (t:Tm) (tv pv uv:Value) (S:Nat->Prop) (w:World),bG S w t tv->bG S w u uv->(∀k,S k->k<w.heap.size)->aA (fun k=>k<w.heap.size) w 1 pv p.length (p.map fun i:Nat=>Value.int .i64 (i:Int))->pF t p->t.size<=100000->p.length<=1000000->
  Calls Tryz.prog 177 #[tv,pv,uv] w fun e w'=> ∃r,e= .returned (tV (putAt t p u) r)/\ay (fun k=>S k\/(w.heap.size<=k/\k<w'.heap.size)) w' (putAt t p u).kids r/\Ext w w':=by
 intro p
 induction p with
 |nil=>
  intro t tv pv uv S w hT hU hSS hP _ hsz hpl;obtain⟨pa,pc,rfl⟩:=hP.shape;obtain⟨a,cap,rfl,hTL⟩:=hT;obtain⟨ua,uc,rfl,D_⟩:=hU;have hE1:=(((uR w).alloc (tO t a cap)).alloc (tO u ua uc)).alloc zO;have kU:=ae hE1;have HB1:=ae (ak (alloc_at (w.alloc (tO t a cap)) (tO u ua uc) (n:=w.heap.size+1) (by simp)) zO);have HB2:=ae (alloc_at ((w.alloc (tO t a cap)).alloc (tO u ua uc)) zO (n:=w.heap.size+2) (by simp));have hz3:w.heap.size+3<=(((w.alloc (tO t a cap)).alloc (tO u ua uc)).alloc zO).heap.size:=by simp
  have lZ:=ae hz3;have e4:putAt t [] u=u:=by cases t;rfl
  rw[e4];have ve:=ae D_;obtain⟨y0,y1,y2⟩:=af HB1.out;have f2:=fun i=>ai HB2.out i;obtain⟨d0,d1,d2⟩:=af HB2.out;have zl:([]:List Nat).length=0:=rfl;rw[zl];clear hTL D_ hE1 hz3 hP e4;dsimp only[tV]
  go_enter Tryz.func177,Tryz.ntmps177
  go_wp2_with fail
  have hE2:=(((uR w).alloc (tO t a cap)).alloc (tO u ua uc)).alloc (tO u ua uc);have hr3:=alloc_at ((w.alloc (tO t a cap)).alloc (tO u ua uc)) (tO u ua uc) (n:=w.heap.size+2) (by simp);obtain⟨e0,e1,e2⟩:=af hr3;refine bodyPost_ret (v:= .agg #[.string u.name,.string u.sort,.slice ua u.kids.length uc]) (by simp[results,Tryz.results177,go_sem,e0,e1,e2]) rfl ?_;exact⟨.slice ua u.kids.length uc,rfl,(ve.out.ext hE2).weaken (fun k hk=> .inl hk),hE2⟩
 |cons i p ihp=>
  intro t tv pv uv S w hT hU hSS hP hok hsz hpl;have gm:=ae hSS;have IH:=fun(W:World) (hW:Ext w W) (kv qv:Value) hk hq=>ihp (tg t.kids i) kv qv uv S W hk (hU.ext hW) (fun k hk=>ax (hSS k hk) hW.size) hq hok.2 (by have:=uA (bM t.kids i hok.1);omega) (by simp at hpl;omega);have HIH:=ae IH;have HP:=ae hP;have HI:=ae hok.1;obtain⟨pa,pc,rfl⟩:=hP.shape;obtain⟨a,cap,rfl,hTL⟩:=hT;obtain⟨ua,uc,rfl,D_⟩:=hU;have hE1:=((((uR w).alloc (tO t a cap)).alloc (tO u ua uc)).alloc zO).alloc (tO t a cap);have kU:=ae hE1;have HB0:=ae (ak (ak (ak (aj w (tO t a cap)) (tO u ua uc)) zO) (tO t a cap));have HB1:=ae (ak (ak (alloc_at (w.alloc (tO t a cap)) (tO u ua uc) (n:=w.heap.size+1) (by simp)) zO) (tO t a cap));have HB2:=ae (ak (alloc_at ((w.alloc (tO t a cap)).alloc (tO u ua uc)) zO (n:=w.heap.size+2) (by simp)) (tO t a cap));have HB3:=ae (alloc_at ((((w.alloc (tO t a cap)).alloc (tO u ua uc)).alloc zO)) (tO t a cap) (n:=w.heap.size+3) (by simp));have hz3:w.heap.size+4<=(((((w.alloc (tO t a cap)).alloc (tO u ua uc)).alloc zO)).alloc (tO t a cap)).heap.size:=by simp
  have lZ:=ae hz3;have cZ:=ae hTL;have Nv:=ae D_;have hx0:=(ak (ak (aj w (tO t a cap)) (tO u ua uc)) zO)
  obtain⟨x0,x1,x2⟩:=af hx0;have z1:(((p.length+1:Nat):Int)==0)=false:=beq_eq_false_iff_ne.2 (by omega);have z2:decide (((p.length+1:Nat):Int)=0)=false:=dF (by omega);have hpl2:(i::p).length=p.length+1:=rfl;rw[hpl2];clear hTL D_ hE1 hz3 hP hok IH hx0 hpl2;cases ajR:cZ.out with
  |mk _ us _ hl hsl hk=>
  have kK:=ae hsl;have HKK:=ae hk;have ajS:=ae hl;obtain⟨iT,hi,hz0,hz1,hz2⟩:=info_parts rQ;have hone:=Fz t.kids us (fun j hj=>by obtain⟨a,c,e⟩:=(hk j hj).shape;exact⟨a,_,c,e⟩);have kM:=ae hone;have rU:=((((((uR w).alloc (tO t a cap)).alloc (tO u ua uc)).alloc zO).alloc (tO t a cap)).alloc (.cells #[] 24))
  have di:=ae rU;have HOWN:Hid (((((((w.alloc (tO t a cap)).alloc (tO u ua uc)).alloc zO).alloc (tO t a cap)).alloc (.cells #[] 24))).ownsRow w.heap.size 24 3 (.slice (some ⟨w.heap.size+1+1+1+1,0,none⟩) 0 0) 0 []):=ae (by
   have h:=World.ownsRow_lit (base:=w.heap.size) (e:=24) (size:=3) (((((w.alloc (tO t a cap)).alloc (tO u ua uc)).alloc zO).alloc (tO t a cap))) #[] 0 (by simp;omega) (by unfold maxLen;omega) (by simp);simpa using h)
  have hks:t.kids.length<=100000:=by have:=size_eq t;have:=aX t.kids;omega
  have HKS:=ae hks;clear ajR hl hsl hk hone rU hks;dsimp only[tV]
  go_enter Tryz.func177,Tryz.ntmps177
  go_wp2_with(at_builtin;refine jm _ rfl (.tmp 13) (.tmp 15) 22 rfl w.heap.size 24 iT (.agg #[.string ⟨#[]⟩,.string ⟨#[]⟩,.slice none 0 0]) 3 56 Tryz.underlying22 hi hz0 hz1 hz2 rfl (by decide) _ _ _ rfl HOWN.out S (.slice a t.kids.length cap) t.kids.length (bY t.kids us) rfl (aA.kept kK.out di.out (fun _ _ h=>h)) kM.out ?c3 ?c4 di.out.size ?_)
  case c3=>have:=HKS.out;unfold maxLen;omega
  case c4=>have:=HKS.out;omega
  intro v7 w7 hG;obtain⟨g,c7,amd,hv7,hg7,hs7⟩:=o8 hG.own (by have:=HI.out;omega);subst hv7;have hw5:(((((w.alloc (tO t a cap)).alloc (tO u ua uc)).alloc zO).alloc (tO t a cap)).alloc (.cells #[] 24)).heap.size=w.heap.size+5:=by simp
  have hge:w.heap.size+4<=g:=by
   rcases hG.uT with h|h
   .have h':g=w.heap.size+1+1+1+1:=by injection h
    omega
   .have h':g=(((((w.alloc (tO t a cap)).alloc (tO u ua uc)).alloc zO).alloc (tO t a cap)).alloc (.cells #[] 24)).heap.size:=by injection h
    omega
  have hF: ∀k,k<w.heap.size+4->¬(Value.slice (some ⟨w.heap.size+1+1+1+1,0,none⟩) 0 0).ownBlock=some k:=fun k hk e=>by
   have e':w.heap.size+1+1+1+1=k:=by injection e
   omega
  have hF2: ∀k,k<w.heap.size->¬(Value.slice (some ⟨w.heap.size+1+1+1+1,0,none⟩) 0 0).ownBlock=some k:=fun k hk e=>hF k (by omega) e;have hu:=hG.upd;have Jk:=ae (hu.heap (ak HB0.out (.cells #[] 24)) (hF _ (by omega)));have Oy:=ae (hu.heap (ak HB1.out (.cells #[] 24)) (hF _ (by omega)));have Az:=ae (hu.heap (ak HB2.out (.cells #[] 24)) (hF _ (by omega)));have pO:=ae (hu.heap (ak HB3.out (.cells #[] 24)) (hF _ (by omega)));have ig:=ae (di.out.trans' hu (fun j hj e=>hF2 j hj e));have aeC:=ae hG.own;have jw:=ae hge;have aeD:Hid (w.heap.size+5<=w7.heap.size):=ae (Nat.le_trans (Nat.le_of_eq hw5.symm) hu.size);have f3:=fun i=>ai pO.out i;obtain⟨m0,m1,m2⟩:=af pO.out;clear hG hu hF hF2 hge hw5 hg7 hs7 HB0 HB1 HB2 HB3 kU lZ HOWN hi hz0 hz1 hz2 x0 x1 x2
  go_upto_region 5 with fail
  clear m0 m1 m2 f3;have hst:w7.setCell ⟨w.heap.size+1+1+1,2,none⟩ (.slice (some ⟨g,0,none⟩) t.kids.length c7)=w7.setCell ⟨w.heap.size+3,2,none⟩ (.slice (some ⟨g,0,none⟩) t.kids.length c7):=rfl;rw[hst];have hv:=(au.refl (fun k=>k=w.heap.size+3) w7).setCell (p:=⟨w.heap.size+3,2,none⟩) (.inl rfl) (.slice (some ⟨g,0,none⟩) t.kids.length c7);have hb:=setBlock pO.out 2 (.slice (some ⟨g,0,none⟩) t.kids.length c7);have kX:Hid ((w7.setCell ⟨w.heap.size+3,2,none⟩ (.slice (some ⟨g,0,none⟩) t.kids.length c7)).heap[w.heap.size+3]?=some (.cells #[.string t.name,.string t.sort,.slice (some ⟨g,0,none⟩) t.kids.length c7] 24 (0,0))):=ae (by simpa using hb);have TB:=ae (hv.heap Jk.out (by omega));have vN:=ae (hv.heap Oy.out (by omega));have lL:=ae (hv.heap Az.out (by omega));have bU:=ae (ig.out.trans' hv (fun j hj e=>by omega));have aeE:=ae (bI aeC.out hv (fun k hk e=>by
   have h:g=k:=by injection hk
   have:=jw.out;omega))
  have aeF:=ae (Nat.le_trans aeD.out hv.size);clear hv hb hst pO Jk Oy Az ig aeC aeD;generalize w7.setCell ⟨w.heap.size+3,2,none⟩ (.slice (some ⟨g,0,none⟩) t.kids.length c7)=w8 at*;obtain⟨pg,AA,pc',hpv,hpc,hpS,kS⟩:=aA.pos (aA.kept HP.out bU.out (fun _ _ h=>h)) (by simp);injection hpv with e1 e2 e3
  subst e1;subst e3;have q0:w8.cell? ⟨pg,AA,none⟩=some (.int .i64 (i:Int)):=by have:=kS 0 (by simp);simpa using this
  have hqq:aA (fun k=>k<w.heap.size) w8 1 (.slice (if pc=1 then some ⟨pg,AA,none⟩ else some ⟨pg,AA+1,none⟩) p.length (pc-1)) p.length (p.map fun i:Nat=>Value.int .i64 (i:Int)):=by
   by_cases hc1:pc=1
   .rw [if_pos hc1];exact⟨by simp,.inr ⟨⟨pg,AA,none⟩,pc-1,rfl,by simp at hpc;omega,fun _=>⟨rfl,hpS⟩,fun j hj=>by simp at hpc;omega⟩⟩
   .rw [if_neg hc1];exact⟨by simp,.inr ⟨⟨pg,AA+1,none⟩,pc-1,rfl,by simp at hpc;omega,fun _=>⟨rfl,hpS⟩,fun j hj=>by
     have:=kS (j+1) (by simp;omega);show w8.cell? ⟨pg,AA+1+j,none⟩=_;rw[show AA+1+j=AA+(j+1) by omega,this];simp⟩⟩
  have J9:=ae hqq;obtain⟨kg,TC,hka,hkS,hat⟩:=(cZ.out.ext bU.out).at_ (by have:=HI.out;omega);subst hka;obtain⟨xa,xc,r0,r1,r2,aQ⟩:=hat i HI.out;rw[<-Nat.add_assoc] at r1 r2;have CW:=ae aQ;obtain⟨y,Q7⟩: ∃y,tg t.kids i=y:=⟨_,rfl⟩
  have HYY:=ae Q7;rw[Q7] at r0 r1 r2 CW HIH;have hii:=HI.out;have u0:(0:Int)<=(i:Int):=by omega
  have u1:(i:Int)< (t.kids.length:Int):=by omega
  have u2:(1:Int)<=(p.length:Int)+1:=by omega
  have hx0: ∀x:XF (fun _=>False) w8,x.val.cell? ⟨w.heap.size,2,none⟩=some (.slice (some ⟨kg,TC,none⟩) t.kids.length cap):=fun x=>x.upd.cell (ag TB.out 2 _ rfl) (fun h=>h);have hx1: ∀x:XF (fun _=>False) w8,x.val.cell? ⟨w.heap.size+3,2,none⟩=some (.slice (some ⟨g,0,none⟩) t.kids.length c7):=fun x=>x.upd.cell (ag kX.out 2 _ rfl) (fun h=>h);have hx2: ∀x:XF (fun _=>False) w8,x.val.cell? ⟨pg,AA,none⟩=some (.int .i64 (i:Int)):=fun x=>x.upd.cell q0 (fun h=>h);have hx3: ∀x:XF (fun _=>False) w8,x.val.cell? ⟨kg,TC+i*3,none⟩=some (.string y.name):=fun x=>x.upd.cell r0 (fun h=>h);have hx4: ∀x:XF (fun _=>False) w8,x.val.cell? ⟨kg,TC+i*3+1,none⟩=some (.string y.sort):=fun x=>x.upd.cell r1 (fun h=>h);have hx5: ∀x:XF (fun _=>False) w8,x.val.cell? ⟨kg,TC+i*3+2,none⟩=some (.slice xa y.kids.length xc):=fun x=>x.upd.cell r2 (fun h=>h);have hx6: ∀x:XF (fun _=>False) w8,x.val.cell? ⟨w.heap.size+1,0,none⟩=some (.string u.name):=fun x=>x.upd.cell (ag vN.out 0 _ rfl) (fun h=>h);have hx7: ∀x:XF (fun _=>False) w8,x.val.cell? ⟨w.heap.size+1,1,none⟩=some (.string u.sort):=fun x=>x.upd.cell (ag vN.out 1 _ rfl) (fun h=>h);have Qy: ∀x:XF (fun _=>False) w8,x.val.cell? ⟨w.heap.size+1,2,none⟩=some (.slice ua u.kids.length uc):=fun x=>x.upd.cell (ag vN.out 2 _ rfl) (fun h=>h);clear kS hqq hat aQ Q7 q0 r0 r1 r2 e2 hpc hpS hkS;refine Bj [(0,0),(1,0),(2,0),(3,0),(4,0),(5,0),(6,0),(7,0),(8,0),(9,0),(10,0),(11,0),(12,0),(13,0),(14,0),(15,1),(16,2),(17,2)] 16 (fun W=> ∃x:XF (fun _=>False) w8,W=x.val) (by kernel_rfl) (by kernel_rfl) (fun _ _ d _ _ h=>by cases d<;>exact h) ⟨⟨_,(au.refl _ w8).drew⟩,rfl⟩ ?_;simp only[fF,List.getElem?_cons_zero,List.getElem?_cons_succ]
  iterate 15(refine MV (fun K hK=>?_);go_simp;refine hK _ ?_;clear hK K)
  refine kE (fun K hK hS=>?_) ⟨⟨_,(au.refl _ w8).drew⟩,rfl⟩;go_simp;have Oz:=(uR w8).drew;have D9:=ae (bU.out.trans Oz);dsimp only[tV] at HIH;refine(HIH.out w8.drew D9.out _ _ ⟨xa,xc,rfl,CW.out.ext Oz⟩ ((aA.kept J9.out Oz (fun _ _ h=>h)).weaken (fun k hk=>ax hk D9.out.size))).mono ?_;rintro e w9 ⟨r,rfl,hT9,iy⟩;refine hK _ _ ⟨⟨_,Oz.trans iy⟩,rfl⟩ ?_;clear hK K hS;obtain⟨z,hz⟩: ∃z,putAt y p u=z:=⟨_,rfl⟩
  rw[hz] at hT9⊢;obtain⟨za,zc,hr⟩:=hT9.shape;subst hr
  try dsimp only[tV]
  have Q8:=Oz.trans iy;have fD:=ae (bU.out.trans Q8);have TD:=bI aeE.out Q8 (fun _ _ h=>h);obtain⟨g0,cap0,ame,hv0,aae,_⟩:=o8 aeE.out (by have:=HI.out;omega);injection hv0 with d1 d2 d3
  injection d1 with d1
  injection d1 with d1
  subst d1;have hg8:g<w8.heap.size:=(Array.getElem?_eq_some_iff.1 aae).1;have Zw:=ae hg8;obtain⟨g',cap',cur,hv',xe,hcb⟩:=o8 TD (by have:=HI.out;omega);injection hv' with e1 e2 e3
  injection e1 with e1
  injection e1 with e1
  subst e1;have hcb2:i*3+2<cur.size:=by have:=HI.out;omega
  have m0:w9.cell? ⟨g,i*3,none⟩=some (cur[i*3]'(by omega)):=ag xe (i*3) _ (Array.getElem?_eq_getElem _);have m1:w9.cell? ⟨g,i*3+1,none⟩=some (cur[i*3+1]'(by omega)):=ag xe (i*3+1) _ (Array.getElem?_eq_getElem _);have m2:w9.cell? ⟨g,i*3+2,none⟩=some (cur[i*3+2]'(by omega)):=ag xe (i*3+2) _ (Array.getElem?_eq_getElem _);have fz:=fun i=>ai xe i;generalize cur[i*3]'(by omega)=v0 at m0;generalize cur[i*3+1]'(by omega)=v1 at m1;generalize cur[i*3+2]'(by omega)=v2 at m2;have ajT:=ae (Q8.heap kX.out (fun h=>h));have yM:=ae (Q8.heap lL.out (fun h=>h));have hTS:=aeB (i:=i) (y:=z) (u:= .slice za z.kids.length zc) (S:=S) (T:=fun k=>S k\/(w8.drew.heap.size<=k/\k<w9.heap.size)) ajS.out TD (fun j hj=>(HKK.out j hj).ext fD.out) HI.out hT9 (fun k hk e=>by have:=gm.out k hk;have:=jw.out;omega) (fun k hk e=>by
   rcases hk with hk|hk
   .have:=gm.out k hk;have:=jw.out;omega
   .have h1:=Oz.size;omega)
  have QQ:=ae hTS;have HST:=ae (uB w9 (g,i*3) z.name z.sort (.slice za z.kids.length zc));have hs9:w8.heap.size<=w9.heap.size:=Q8.size;have jy:=ae hs9
  try clear d2
  try clear d3
  try clear e2
  try clear e3
  clear TD xe aae hcb hcb2 hTS hs9 hg8 Q8 Oz iy hT9 hx0 hx1 hx2 hx3 hx4 hx5 hx6 hx7 Qy;refine dM (fun K hK=>?_);go_simp;refine hK _ _ ?_;clear hK K;refine dM (fun K hK=>?_);go_simp;refine hK _ _ ?_;clear hK K;simp only[bW];clear m0 m1 m2 fz;have hst:((w9.setCell ⟨g,i*3,none⟩ (.string z.name)).setCell ⟨g,i*3+1,none⟩ (.string z.sort)).setCell ⟨g,i*3+2,none⟩ (.slice za z.kids.length zc)=fH w9 (g,i*3) z.name z.sort (.slice za z.kids.length zc):=rfl;rw[hst];generalize fH w9 (g,i*3) z.name z.sort (.slice za z.kids.length zc)=wA at*;have ajU:=ae (HST.out.heap ajT.out (by show ¬w.heap.size+3=g;have:=jw.out;omega));have Yd:=ae (HST.out.heap yM.out (by show ¬w.heap.size+2=g;have:=jw.out;omega));have mW:=ae (fD.out.trans' HST.out (fun j hj e=>by have:=jw.out;have e':j=g:=e;omega));have qh:=ae HST.out.size;have f2:=fun i=>ai Yd.out i;obtain⟨d0,d1,d2⟩:=af Yd.out;obtain⟨m0,m1,m2⟩:=af ajU.out
  go_wp2_with fail
  all_goals
   try rw[show w.heap.size+1+1=w.heap.size+2 from rfl]
   have hr3:=aF Yd.out (.string t.name) (.string t.sort) (.slice (some ⟨g,0,none⟩) t.kids.length c7);have hu:=aC wA (w.heap.size+2) (.string t.name) (.string t.sort) (.slice (some ⟨g,0,none⟩) t.kids.length c7);obtain⟨e0,e1,e2⟩:=af hr3;refine bodyPost_ret (v:= .agg #[.string t.name,.string t.sort,.slice (some ⟨g,0,none⟩) t.kids.length c7]) (by simp[results,Tryz.results177,go_sem,e0,e1,e2]) rfl ?_;have hue:=mW.out.trans' hu (fun j hj e=>by omega);have hnm:(putAt t (i::p) u).name=t.name:=by cases t;rfl
   have hso:(putAt t (i::p) u).sort=t.sort:=by cases t;rfl
   have hki:(putAt t (i::p) u).kids=t.kids.set i z:=by rw[<-hz,<-HYY.out];cases t;rfl
   have hkt:=(QQ.out.kept hu (fun k hk e=>by
    have:=jw.out;have:=aeF.out;rcases hk with hk|hk|hk|hk
    .omega
    .have:=gm.out k hk;omega
    .have:=gm.out k hk;omega
    .have:w8.heap.size<=k:=hk.1;omega)).weaken (T:=fun k=>S k\/(w.heap.size<=k/\k< (((wA.setCell ⟨w.heap.size+2,0,none⟩ (.string t.name)).setCell ⟨w.heap.size+2,1,none⟩ (.string t.sort)).setCell ⟨w.heap.size+2,2,none⟩ (.slice (some ⟨g,0,none⟩) t.kids.length c7)).heap.size)) (fun k hk=>by
    have h1:=jw.out;have h2:=Zw.out;have h3:=jy.out;have h4:=qh.out;have h5:=hu.size;have h6:=aeF.out;rcases hk with hk|hk|hk|hk
    .exact .inr ⟨by omega,by omega⟩
    .exact .inl hk
    .exact .inl hk
    .have h7:w8.heap.size<=k:=hk.1;exact .inr ⟨by omega,by omega⟩)
   refine⟨.slice (some ⟨g,0,none⟩) t.kids.length c7,by rw[hnm,hso],?_,hue⟩;rw[hki];exact hkt
theorem zN: ∀{p:List Int} {t u:Tm},eH t p=some u->∃q:List Nat,p=q.map (fun j:Nat=>(j:Int))/\pF t q/\u=uz t q
 |[],t,u,h=>by
  have h:some t=some u:=by rw[<-h];rfl
  exact⟨[],rfl,trivial,(Option.some.inj h).symm⟩
 |i::p,t,u,h=>by
  rw[xX] at h;by_cases hc:i<0\/(t.kids.length:Int)<=i
  .rw [if_pos hc] at h;cases h
  .rw [if_neg hc] at h;obtain⟨q,h1,h2,h3⟩:=zN h;refine⟨i.toNat::q,?_,⟨by omega,h2⟩,h3⟩;rw[List.map_cons,<-h1]
   congr 1
   omega
theorem aaf {n:By} (h:aB n=true):n≠ah:=fun e=>absurd (h.symm.trans (by rw[e];decide+kernel:aB n=false)) (by decide)
theorem Ye {r:Rl} {u:Tm} {B:List Bd} (hr:oL r=true) (hu: ∀x∈aV u,x.name≠ah) (h:jG r.1 u []=some B):(bu B r.2).name≠ah:=by
 obtain⟨h1,h2,h3,h4⟩:=xC hr;obtain⟨hI,_,hb,_⟩:=zF (X:=cu r.1) (Y:=fun y=> ∀x∈aV y,x.name≠ah) (fun t x ht hx y hy=>ht y (by
  rw[lq];exact List.mem_cons_of_mem _ (List.mem_flatMap.2 ⟨x,hx,hy⟩))) r.1 u [] B h (Cc h1) (fun f hf=>hf) hu (qm.nil _ _)
 have hs:bu B r.2∈aV (bu B r.2):=by
  have e:=lq (bu B r.2);rw[e];exact List.mem_cons_self
 rcases Oq (σ:=fE B) r.2 _ hs with⟨y,hy,_,_,hn,_⟩|⟨g,hg,hx⟩
 .rw [hn];exact aaf ((mF.1 h2).2.2.1 y hy).1
 .obtain ⟨x,hbx⟩:=hb g (h4 g hg);have e:fE B g.1 g.2=x:=xA hbx;rw[e] at hx;obtain⟨b,hbm,_,hbe⟩:=rE hbx;exact hI.val b hbm _ (by rw[hbe];exact hx)
theorem abq {t:Tm} {p:List Nat} (ht:wf aB t=true) (hp:pF t p): ∀x∈aV (uz t p),x.name≠ah:=fun x hx=>
 aaf ((mF.1 ht).2.2.1 x (Ky p t hp x hx)).1
theorem abr {l:List Rl} {t:Tm} {x:Rx} (hr:dA l=true) (ht:wf aB t=true):DX l t x=match eH t x.2 with
  |none=>(a_,2)
  |some u=>if x.1<0\/(l.length:Int)<=x.1 then(a_,2) else if(uG (Go.Hw.rg l x.1.toNat) u).2=false then(a_,12) else if(uG (Go.Hw.rg l x.1.toNat) u).1.name=ah then(a_,4) else if formed aB (putAt t (x.2.map Int.toNat) (uG (Go.Hw.rg l x.1.toNat) u).1)=false then(a_,4) else(putAt t (x.2.map Int.toNat) (uG (Go.Hw.rg l x.1.toNat) u).1,0):=by
 unfold DX;cases hs:eH t x.2 with
 |none=>rfl
 |some u=>
  simp only;by_cases hc:x.1<0\/(l.length:Int)<=x.1
  .rw [if_pos hc,if_pos hc]
  .rw [if_neg hc,if_neg hc];obtain⟨q,hq,hok,hu⟩:=zN hs;have hrr:=Ap hr (i:=x.1.toNat) (by omega);unfold uG;cases hm:jG (Go.Hw.rg l x.1.toNat).1 u [] with
   |none=>rfl
   |some B=>
    have hnm:=Ye hrr (by rw[hu];exact abq ht hok) hm;simp only;by_cases hf:(bu B (Go.Hw.rg l x.1.toNat).2).size<=1000/\1+(bu B (Go.Hw.rg l x.1.toNat).2).depth<=61
    .have hno: ¬(1000< (bu B (Go.Hw.rg l x.1.toNat).2).size\/60< (bu B (Go.Hw.rg l x.1.toNat).2).depth):=by omega
     rw[if_pos hf,if_neg hno];simp only;rw[if_neg hnm];simp
    .have hno:(1000< (bu B (Go.Hw.rg l x.1.toNat).2).size\/60< (bu B (Go.Hw.rg l x.1.toNat).2).depth):=by omega
     rw[if_neg hf,if_pos hno];simp only;rw[if_neg (by decide: ¬(true=false)),if_pos (show a_.name=ah from rfl)]
end
end Go.Proofs.YtlkcjmaiahnodaaGreatDoor
