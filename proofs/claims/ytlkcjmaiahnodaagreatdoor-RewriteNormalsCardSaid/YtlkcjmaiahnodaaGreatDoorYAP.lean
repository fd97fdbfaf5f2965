/- The texts N56 N57 N58 N59 N60 N61 N62 N63, one behind the other. -/
import Derived.Test.YtlkcjmaiahnodaaGreatDoorYAO
import Derived.Test.YtlkcjmaiahnodaaGreatDoorYAB
set_option maxRecDepth 100000
set_option maxHeartbeats 8000000
set_option linter.unusedVariables false
set_option linter.unusedSimpArgs false
namespace Go.Proofs.YtlkcjmaiahnodaaGreatDoor
open Go.RowKit Go.Hw Go Tm
section
open Go.Sort Go.Proofs Go.ChangeMaps
theorem X6:(Tryz.prog.info? 65).map (fun i=>(i.zero,i.size,i.bytes))=some (some (.agg #[.int .i64 0,.slice none 0 0]),2,32):=by kernel_rfl
theorem new2 (w:World) (u0 u1:Value) (t:TypeId): ∀(j:Nat) (u:Value),[u0,u1][j]?=some u->(w.alloc (.cells #[u0,u1] t)).cell? ((⟨w.heap.size,0,none⟩:Addr).add j)=some u:=fun j u hj=>by
 match j,hj with
 |0,hj=>simp only[List.getElem?_cons_zero,Option.some.injEq] at hj;subst hj;simp only[Addr.add];exact aj (ay _ _) 0 _ rfl
 |1,hj=>simp at hj;subst hj;simp only[Addr.add];exact aj (ay _ _) 1 _ rfl
theorem Oe {S:Nat->Prop} {w:World} {u:Value} {p:List Nat} (h:aG S w 1 u p.length (p.map fun i:Nat=>Value.int .i64 (i:Int))):rV S w u (p.map fun j:Nat=>(j:Int)):=by
 unfold rV;rw[List.length_map,List.map_map];exact h
theorem abH (l:List Rl) (t:Tm) (fuel:Int) (lv v:Value) (w:World) (hL:jq (fun k=>k<w.heap.size) w l lv) (hT:bQ (fun k=>k<w.heap.size) w t v) (htab:dN w) (hll:l.length<=1000000) (hls: ∀r∈l,r.1.size<=100000/\r.2.size<=100000) (hrs:dX l=true->∀r∈l,r.2.size<=60) (hsz:t.size<=100000) (hfu: -9223372036854775808<=fuel/\fuel<=9223372036854775807):
  Calls Tryz.prog 109 #[lv,v,.int .i64 fuel] w fun e w'=> ∃r tv,e= .returned (.tuple #[tV (ny l t fuel).1 r,tv,.int .i64 (ny l t fuel).2.2])/\aI (fun k=>w.heap.size<=k/\k<w'.heap.size) w' (ny l t fuel).1.kids r/\nK (fun k=>w.heap.size<=k/\k<w'.heap.size) (fun k=>w.heap.size<=k/\k<w'.heap.size) w' tv (ny l t fuel).2.1/\Ext w w':=by
 obtain⟨Z,hZ⟩: ∃Z,ny l t fuel=Z:=⟨_,rfl⟩
 rw[hZ];have jm:=ah hZ;have Fq:=ah hL;have t_:=ah hT;have HAS:=ah htab;have yU:=ah hls;have xO:=ah hrs;have hCH:=fun(tv:Value) (W:World) (hW:Ext w W) (hTL:aI (fun k=>k<W.heap.size) W [t] tv)=>X4 l fuel [t] lv tv W (aS htab hW) ((hL.ext hW).weaken (fun k hk=>aF hk hW.size)) hTL hll hls (fun x hx=>by simp at hx;subst hx;omega) hfu (by simp);have vG:=ah (fun(c:Tm) (cv:Value) (S:Nat->Prop) (W:World) (hW:Ext w W) (hc:bQ S W c cv) (hS: ∀k,S k->k<W.heap.size) (hcs:c.size<=1000)=>Sl l hll hls c cv lv (.slice none 0 0) (fun k=>k<w.heap.size) S (fun _=>False) [] W hc (hL.ext hW) (aG.nil _ _ _) (fun k hk=>aF hk hW.size) hS (by omega) (by simp;omega));obtain⟨la,lc,rfl⟩:=hL.shape;obtain⟨a,cap,rfl,hTL⟩:=hT;have hZ0:=((uR w).alloc (tO t a cap)).alloc zO;have hZ1:=hZ0.alloc (tO t a cap);have HCH:=ah (hCH (.slice (some ⟨w.heap.size+2,0,none⟩) 1 1) (((w.alloc (tO t a cap)).alloc zO).alloc (tO t a cap)) hZ1 (Jv (alloc_at ((w.alloc (tO t a cap)).alloc zO) (tO t a cap) (n:=w.heap.size+2) (by simp)) (by simp) ((hTL.ext hZ1).weaken (fun k hk=>aF hk hZ1.size))));have HZ1:=ah hZ1;have HB0:=ah (aB (ay w (tO t a cap)) zO);have H0:=ah (aB HB0.out (tO t a cap));have H1:=ah (aB (alloc_at (w.alloc (tO t a cap)) zO (n:=w.heap.size+1) (by simp)) (tO t a cap));have hz2:w.heap.size+3<=(((w.alloc (tO t a cap)).alloc zO).alloc (tO t a cap)).heap.size:=by simp
 have HZ2:=ah hz2;have dH:=ah hTL;obtain⟨x0,x1,x2⟩:=ak HB0.out;dsimp only[tV];clear hL htab hls hrs hCH hTL hZ0 hZ1 hz2 hZ
 go_enter Tryz.func109,Tryz.ntmps109
 go_wp2_with fail
 try rw[show w.heap.size+1+1=w.heap.size+2 from rfl]
 generalize ((w.alloc (tO t a cap)).alloc zO).alloc (tO t a cap)=w1 at*;refine HCH.out.mono ?_;rintro e w3 ⟨rfl,hw3⟩;have aY:=ah (HZ1.out.trans hw3);have H03:=ah (hw3.heap H0.out (fun h=>h));have JG:=ah (hw3.heap H1.out (fun h=>h));have fU:Hid (w.heap.size+3<=w3.heap.size):=ah (Nat.le_trans HZ2.out hw3.size);clear hw3 HCH HZ1 HB0 H0 H1 HZ2 x0 x1 x2;by_cases hf0:qB l fuel [t]=0
 rotate_left
 .obtain ⟨en,hen⟩: ∃n,qB l fuel [t]=n:=⟨_,rfl⟩
  obtain rfl:Z=(cZ,[],en):=by rw[<-jm.out];unfold ny;rw[if_neg hf0,hen]
  rw[hen] at hf0⊢;have t1:(en==0)=false:=beq_eq_false_iff_ne.2 hf0;have t2:decide (en=0)=false:=dF hf0;clear hen;have f2:=fun i=>aA JG.out i;obtain⟨d0,d1,d2⟩:=ak JG.out
  go_wp2_with fail
  have hr3:=aN JG.out (.string ⟨#[]⟩) (.string ⟨#[]⟩) (.slice none 0 0);have hu:=aK w3 (w.heap.size+1) (.string ⟨#[]⟩) (.string ⟨#[]⟩) (.slice none 0 0);obtain⟨e0,e1,e2⟩:=ak hr3;refine bodyPost_ret (v:= .tuple #[.agg #[.string ⟨#[]⟩,.string ⟨#[]⟩,.slice none 0 0],.slice none 0 0,.int .i64 (en)]) (by simp[results,Tryz.results109,go_sem,e0,e1,e2]) rfl ?_;have hue:=aY.out.trans' hu (fun j hj e=>by omega)
  first|exact⟨.slice none 0 0,.slice none 0 0,rfl,aI.nil _ _,nK.nil _ _ _,hue⟩
 obtain⟨hr0,hw0,ZM,Vu⟩:=JF hf0;have ES:=ah hr0;have als:=ah (xO.out hr0);have hzz:Z=iZ l fuel.toNat t []:=by rw[<-jm.out];unfold ny;rw[if_pos hf0]
 have Uf:=ah hzz.symm;rw[hf0];have sV:=ah hw0;have hcp:=Ei t (tV t (.slice a t.kids.length cap)) (fun k=>k<w3.heap.size) w3 ((t_.out.ext aY.out).weaken (fun k hk=>aF hk aY.out.size)) (fun k hk=>hk) hsz;have tu:=ah hcp;dsimp only[tV] at tu;have f1:=fun i=>aA H03.out i;obtain⟨x0,x1,x2⟩:=ak H03.out;clear hf0 hr0 hw0 hzz jm hcp xO Fq t_
 go_wp2_with fail
 refine tu.out.mono ?_;rintro e w4 ⟨r4,B4,rfl,hT4,hb4,hw4⟩;obtain⟨ya,yc,jP⟩:=aP.shape hT4;subst jP;have bW:=ah (aY.out.trans hw4);have H04:=ah (hw4.heap H03.out (fun h=>h));have Qi:=ah (hw4.heap JG.out (fun h=>h));have gW:Hid (w.heap.size+3<=w4.heap.size):=ah (Nat.le_trans fU.out hw4.size);have HT4:=ah (hT4.read);have HB4:Hid (∀j,B4 j->w.heap.size+3<=j/\j<w4.heap.size):=ah (fun j hj=>⟨Nat.le_trans fU.out (hb4 j hj).1,(hb4 j hj).2⟩);dsimp only[tV];clear hT4 hb4 hw4 tu x0 x1 x2 f1;have f1:=fun i=>aA H04.out i;obtain⟨x0,x1,x2⟩:=ak H04.out
 go_upto_region 6 with fail
 have mX:=ah (aN H04.out (.string t.name) (.string t.sort) (.slice ya t.kids.length yc));have kX:=ah (aK w4 w.heap.size (.string t.name) (.string t.sort) (.slice ya t.kids.length yc));have dA:=ah (bW.out.trans' kX.out (fun j hj e=>by omega));have H15:=ah (kX.out.heap Qi.out (by omega));have o7:=ah ((HT4.out.kept kX.out (fun j hj e=>by have:=(HB4.out j hj).1;omega)).weaken (fun j hj=>(⟨by have:=(HB4.out j hj).1;omega,aF (HB4.out j hj).2 kX.out.size⟩:w.heap.size+2<=j/\j<_)));have nO:Hid (w.heap.size+2<=(((w4.setCell ⟨w.heap.size,0,none⟩ (.string t.name)).setCell ⟨w.heap.size,1,none⟩ (.string t.sort)).setCell ⟨w.heap.size,2,none⟩ (.slice ya t.kids.length yc)).heap.size):=ah (Nat.le_trans (by have:=gW.out;omega) kX.out.size);clear x0 x1 x2 f1;generalize (((w4.setCell ⟨w.heap.size,0,none⟩ (.string t.name)).setCell ⟨w.heap.size,1,none⟩ (.string t.sort)).setCell ⟨w.heap.size,2,none⟩ (.slice ya t.kids.length yc))=w5 at*;clear HT4 HB4 H04 Qi bW kX gW;obtain⟨F,hF⟩: ∃F,fuel.toNat=F:=⟨_,rfl⟩
 have hFz:fuel=(F:Int):=by omega
 rw[hF] at Uf;subst hFz;have hF2:F<=2000:=by omega
 clear hF ZM Vu
 go_loopg [10] F (fun gk ov wr=> ∃(L:List Xe) (cur:Tm) (oa ca:Option Addr) (oc cc:Nat),ov= .slice oa L.length oc/\gk=F-L.length/\L.length<=F/\Hid (zL 65 (w.heap.size+2) wr (.slice oa L.length oc) L)/\Hid (wr.heap[w.heap.size]?=some (tO cur ca cc))/\Hid (wr.heap[w.heap.size+1]?=some zO)/\Hid (aI (fun j=>w.heap.size+2<=j/\j<wr.heap.size/\(Value.slice oa L.length oc).ownBlock≠some j) wr cur.kids (.slice ca cur.kids.length cc))/\Hid (Ext w wr)/\Hid (w.heap.size+2<=wr.heap.size)/\Hid (wf aJ cur=true)/\Hid (iZ l (F-L.length) cur (L.map (·.1))=Z))
 case atStart=>exact⟨[],t,none,ya,0,yc,rfl,rfl,Nat.zero_le _,ah (zL.start _ _ _),mX,H15,ah (o7.out.weaken (fun j hj=>⟨hj.1,hj.2,fun e=>by cases e⟩)),dA,nO,sV,Uf⟩
 case round=>
  clear mX H15 o7 dA nO sV Uf aY H03 JG fU;obtain⟨L,cur,oa,ca,oc,cc,rfl,rfl,hLF,HG,HB0,HB1,Ju,HE,HS,HW,Hl⟩:=hrel;have hcs:=qG HW.out;have gB:=ah (vG.out cur (tV cur (.slice ca cur.kids.length cc)) (fun j=>w.heap.size+2<=j/\j<wr.heap.size/\(Value.slice oa L.length oc).ownBlock≠some j) wr HE.out ⟨ca,cc,rfl,Ju.out⟩ (fun k hk=>hk.2.1) hcs);dsimp only[tV] at gB;obtain⟨x0,x1,x2⟩:=ak HB0.out
  go_wp2_with fail
  refine gB.out.mono ?_;rintro e w4 ⟨⟨⟨pa,pc⟩,ua,uc⟩,B,rfl,hfd,hbd,hw4⟩;obtain⟨o,ho⟩: ∃o,iw l cur=o:=⟨_,rfl⟩
  have HO:=ah ho;rw[ho] at hfd⊢;clear ho x0 x1 x2 gB;dsimp only[Dh];cases o with
  |none=>
   rw[show(fq none []).length=0 from rfl,show(ft none).name=⟨#[]⟩ from rfl,show(ft none).sort=⟨#[]⟩ from rfl,show(ft none).kids.length=0 from rfl,show((fi none:Nat):Int)=0 from rfl];have mG:=((uR w4).alloc (.cells #[.int .i64 0,.slice pa 0 pc] 65)).alloc (.cells #[.string ⟨#[]⟩,.string ⟨#[]⟩,.slice ua 0 uc] 24);have qQ:=hw4.trans mG;have H5:=ah (HE.out.trans qQ);have qm:=ah (qQ.heap HB0.out (fun h=>h));have eY:=ah (qQ.heap HB1.out (fun h=>h));have o7:=ah (Ju.out.ext qQ);have HG5:=ah (HG.out.kept qQ (fun _ _ _ h=>h));have hzz:Z=(cur,L.map (·.1),0):=by
    rw[<-Hl.out];cases F-L.length with
    |zero=>unfold iZ;rw[HO.out]
    |succ n=>unfold iZ;rw[HO.out]
   have HZ3:=ah hzz;have bU:=ah qQ.size;simp only[Option.isSome_none];obtain⟨x0,x1,x2⟩:=ak qm.out;obtain⟨d0,d1,d2⟩:=ak eY.out;have f2:=fun i=>aA eY.out i;clear hfd hbd hw4 mG qQ hzz
   go_wp2_with fail
   generalize ((w4.alloc (.cells #[.int .i64 0,.slice pa 0 pc] 65)).alloc (.cells #[.string ⟨#[]⟩,.string ⟨#[]⟩,.slice ua 0 uc] 24))=w5 at*;have hr3:=aN eY.out (.string cur.name) (.string cur.sort) (.slice ca cur.kids.length cc);have hu:=aK w5 (w.heap.size+1) (.string cur.name) (.string cur.sort) (.slice ca cur.kids.length cc);obtain⟨e0,e1,e2⟩:=ak hr3;have hs5:=HS.out;have hsz5:=bU.out;refine bodyPost_ret (v:= .tuple #[.agg #[.string cur.name,.string cur.sort,.slice ca cur.kids.length cc],.slice oa L.length oc,.int .i64 0]) (by simp[results,Tryz.results109,go_sem,e0,e1,e2]) rfl ?_;have hzz:=HZ3.out;subst hzz;have hrx:=(HG5.out.kept hu (fun j hj _ e=>by omega)).rx;exact⟨.slice ca cur.kids.length cc,.slice oa L.length oc,rfl,(o7.out.kept hu (fun j hj e=>by omega)).weaken (fun j hj=>⟨by omega,by have:=hu.size;omega⟩),hrx.weaken (fun j hj=>⟨by omega,hj.2⟩) (fun j hj=>⟨by omega,hj.2⟩),H5.out.trans' hu (fun j hj e=>by omega)⟩
  |some y=>
   obtain⟨ri,pp,u⟩:=y;have DZ:fq (some (ri,pp,u)) []=pp:=by simp[fq]
   have hft:ft (some (ri,pp,u))=u:=rfl;have hfi:fi (some (ri,pp,u))=ri:=rfl;rw[DZ,hft,hfi];obtain⟨jw,hpart⟩:=hfd;rw[DZ] at jw;rw[hft] at hpart;dsimp only at jw hpart;have mG:=((uR w4).alloc (.cells #[.int .i64 (ri:Int),.slice pa pp.length pc] 65)).alloc (tO u ua uc);have qQ:=hw4.trans mG;have H5:=ah (HE.out.trans qQ);have eX:=ah qQ;have qm:=ah (qQ.heap HB0.out (fun h=>h));have eY:=ah (qQ.heap HB1.out (fun h=>h));have H7:=ah (aB (ay w4 (.cells #[.int .i64 (ri:Int),.slice pa pp.length pc] 65)) (tO u ua uc));have H8:=ah (alloc_at (w4.alloc (.cells #[.int .i64 (ri:Int),.slice pa pp.length pc] 65)) (tO u ua uc) (n:=w4.heap.size+1) (by simp));have HPH:=ah (aG.kept jw mG (fun _ _ h=>h));have X7:=ah ((hpart.kept mG (fun _ _ h=>h)).read);have lG:Hid (∀j,B j->wr.heap.size<=j/\j< ((w4.alloc (.cells #[.int .i64 (ri:Int),.slice pa pp.length pc] 65)).alloc (tO u ua uc)).heap.size):=ah (fun j hj=>⟨(hbd j hj).1,aF (hbd j hj).2 mG.size⟩);simp only[Option.isSome_some];have hpo:=yh l cur ri pp u HO.out;have Ku:=Ol (N:=60) HO.out als.out;have hpl:=Aw pp cur hpo.1;have Gj:u.size<=100000:=Nat.le_trans (Nat.le_trans Ku (Nat.mul_le_mul_left 60 hcs)) (by decide);have Az:Hid (wr.heap.size<=w4.heap.size):=ah hw4.size;clear hw4 mG jw hpart hbd DZ hft hfi qQ;obtain⟨nb,hnb⟩: ∃n,w4.heap.size=n:=⟨_,rfl⟩
   rw[hnb] at H7 H8 Az;by_cases hlim:L.length=F
   .obtain rfl:Z=(cZ,[],6):=by
     rw[<-Hl.out,hlim,Nat.sub_self];unfold iZ;rw[HO.out]
    have t1:((L.length:Int)==(F:Int))=true:=by rw[hlim];exact beq_self_eq_true _
    have t2:decide ((L.length:Int)=(F:Int))=true:=dT (by omega);clear hpo Ku Gj hpl hnb;subst hlim;have d9:=eY;have f2:=fun i=>aA eY.out i;obtain⟨d0,d1,d2⟩:=ak eY.out
    go_wp2_with fail
    have hr3:=aN eY.out (.string ⟨#[]⟩) (.string ⟨#[]⟩) (.slice none 0 0);have hu:=aK ((w4.alloc (.cells #[.int .i64 (ri:Int),.slice pa pp.length pc] 65)).alloc (tO u ua uc)) (w.heap.size+1) (.string ⟨#[]⟩) (.string ⟨#[]⟩) (.slice none 0 0);obtain⟨e0,e1,e2⟩:=ak hr3;refine bodyPost_ret (v:= .tuple #[.agg #[.string ⟨#[]⟩,.string ⟨#[]⟩,.slice none 0 0],.slice none 0 0,.int .i64 (6)]) (by simp[results,Tryz.results109,go_sem,e0,e1,e2]) rfl ?_;have hue:=H5.out.trans' hu (fun j hj e=>by omega)
    first|exact⟨.slice none 0 0,.slice none 0 0,rfl,aI.nil _ _,nK.nil _ _ _,hue⟩
   have t1:((L.length:Int)==(F:Int))=false:=beq_eq_false_iff_ne.2 (by omega);have t2:decide ((L.length:Int)=(F:Int))=false:=dF (by omega);have uf:=ah (UK cur u pp (tV cur (.slice ca cur.kids.length cc)) (tV u (.slice ua u.kids.length uc)) (.slice pa pp.length pc) (fun j=>w.heap.size+2<=j/\j<wr.heap.size/\(Value.slice oa L.length oc).ownBlock≠some j) B B ((w4.alloc (.cells #[.int .i64 (ri:Int),.slice pa pp.length pc] 65)).alloc (tO u ua uc)) ⟨ca,cc,rfl,Ju.out.ext eX.out⟩ ⟨ua,uc,rfl,X7.out⟩ (fun k hk=>aF hk.2.1 eX.out.size) (fun k hk=>(lG.out k hk).2) HPH.out hpo.1 (aS HAS.out H5.out) (by omega) Gj (by omega));obtain⟨G,hG⟩: ∃G,gJ cur pp u=G:=⟨_,rfl⟩
   have hG2:G.2=0\/G.2=4:=by
    rw[<-hG];unfold gJ;split
    .exact .inl rfl
    .exact .inr rfl
   have hGw:G.2=0->wf aJ G.1=true:=fun h=>by
    rw[<-hG] at h⊢;have:=Fp h;rw[this.1];exact this.2
   have hrun:Z=if G.2=0 then iZ l (F- (L.length+1)) G.1 (L.map (·.1)++[kR ri pp]) else(cZ,[],G.2):=by
    rw[<-Hl.out,show F-L.length=(F- (L.length+1))+1 by omega]
    conv=>lhs;unfold iZ
    rw[HO.out];simp only;rw[hG]
   rw[hG] at uf;have QB:=ah hrun;have HGW:=ah hGw;dsimp only[tV] at uf;obtain⟨x0,x1,x2⟩:=ak qm.out;obtain⟨m0,m1⟩:=bT H7.out;obtain⟨n0,n1,n2⟩:=ak H8.out;clear hpo Ku Gj hpl hG hrun hGw
   go_wp2_with fail
   try rw[hnb]
   generalize ((w4.alloc (.cells #[.int .i64 (ri:Int),.slice pa pp.length pc] 65)).alloc (tO u ua uc))=w5 at*;clear hnb;refine uf.out.mono ?_;rintro e w6 ⟨r,rfl,hTl,hw6⟩;obtain⟨nx,en⟩:=G;dsimp only at hTl hG2 QB HGW⊢;obtain⟨na,nc,hrn⟩:=hTl.shape;subst hrn;have Np:=hw6.alloc (tO nx na nc);have H9:=ah (H5.out.trans Np);have QC:=ah (eX.out.trans Np);have Fv:=ah (Np.heap qm.out (fun h=>h));have rE:=ah (Np.heap eY.out (fun h=>h));have WA:=ah (Np.heap H7.out (fun h=>h));have HN9:=ah (ay w6 (tO nx na nc));have HTN:Hid (aI (fun j=>wr.heap.size<=j/\j< (w6.alloc (tO nx na nc)).heap.size) (w6.alloc (tO nx na nc)) nx.kids (.slice na nx.kids.length nc)):=ah ((hTl.ext ((uR w6).alloc (tO nx na nc))).weaken (fun j hj=>by
    have h1:=((uR w6).alloc (tO nx na nc)).size;have h2:=hw6.size;have h4:=eX.out.size;rcases hj with hj|hj
    .exact ⟨by omega,by omega⟩
    .have h5:=lG.out j hj;exact⟨by omega,by omega⟩))
   have alu:=ah (aG.kept HPH.out Np (fun _ _ h=>h));have alv:Hid (∀j,B j->wr.heap.size<=j/\j< (w6.alloc (tO nx na nc)).heap.size):=ah (fun j hj=>⟨(lG.out j hj).1,aF (lG.out j hj).2 Np.size⟩);have jX:Hid (w.heap.size+2<=(w6.alloc (tO nx na nc)).heap.size):=ah (Nat.le_trans HS.out QC.out.size);have HN6:Hid (wr.heap.size<=w6.heap.size):=ah (Nat.le_trans eX.out.size hw6.size);clear hTl hw6 Np uf x0 x1 x2 m0 m1 n0 n1 n2 H5 eX qm eY H7 H8 HPH X7 lG;by_cases hen:en=0
   rotate_left
   .have u1:(en==0)=false:=beq_eq_false_iff_ne.2 hen;have u2:decide (en=0)=false:=dF hen;obtain rfl:Z=(cZ,[],en):=by rw[QB.out,if_neg hen]
    clear hen hG2;have f2:=fun i=>aA rE.out i;obtain⟨d0,d1,d2⟩:=ak rE.out
    go_wp2_with fail
    have hr3:=aN rE.out (.string ⟨#[]⟩) (.string ⟨#[]⟩) (.slice none 0 0);have hu:=aK (w6.alloc (tO nx na nc)) (w.heap.size+1) (.string ⟨#[]⟩) (.string ⟨#[]⟩) (.slice none 0 0);obtain⟨e0,e1,e2⟩:=ak hr3;refine bodyPost_ret (v:= .tuple #[.agg #[.string ⟨#[]⟩,.string ⟨#[]⟩,.slice none 0 0],.slice none 0 0,.int .i64 (en)]) (by simp[results,Tryz.results109,go_sem,e0,e1,e2]) rfl ?_;have hue:=H9.out.trans' hu (fun j hj e=>by omega)
    first|exact⟨.slice none 0 0,.slice none 0 0,rfl,aI.nil _ _,nK.nil _ _ _,hue⟩
   subst hen;have hrun2:Z=iZ l (F- (L.length+1)) nx (L.map (·.1)++[kR ri pp]):=by rw[QB.out,if_pos rfl]
   have aiJ:=ah hrun2;have HWN:=ah (HGW.out rfl);clear hG2 hrun2;obtain⟨nn,hnn⟩: ∃n,w6.heap.size=n:=⟨_,rfl⟩
   rw[hnn] at HN9 HN6
   go_upto_region 14 with fail
   try rw[hnn]
   generalize w6.alloc (tO nx na nc)=w9 at*;clear hnn;have hown: ∀j,(Value.slice oa L.length oc).ownBlock=some j->w.heap.size+2<=j/\j<wr.heap.size:=fun j e=>HG.out.own.lt j e;have HOWN:=ah hown;have Nq:=((uR w9).drew).alloc (.cells #[.int .i64 (ri:Int),.slice pa pp.length pc] 65);have HOW:Hid ((w9.drew.alloc (.cells #[.int .i64 (ri:Int),.slice pa pp.length pc] 65)).ownsRow (w.heap.size+2) 65 2 (.slice oa L.length oc) L.length (L.flatMap nM)):=ah (bH (bH HG.out.own QC.out (fun _ _ h=>h)) Nq (fun _ _ h=>h));have oD:Hid (∀(j:Nat) (u:Value),[Value.int .i64 (ri:Int),.slice pa pp.length pc][j]?=some u->(w9.drew.alloc (.cells #[.int .i64 (ri:Int),.slice pa pp.length pc] 65)).cell? ((⟨w9.drew.heap.size,0,none⟩:Addr).add j)=some u):=ah (new2 w9.drew _ _ 65);have kF:Hid (∀u∈[Value.int .i64 (ri:Int),.slice pa pp.length pc],u.oneCell'=true):=ah (fun u hu=>by simp at hu;rcases hu with h|h<;>(subst h;rfl));have hLb:L.length+1<=2001:=by omega
   have iW:Hid (L.length+1<=maxLen/\(L.length+1)*32<=140737488355328/\w.heap.size+2<=(w9.drew.alloc (.cells #[.int .i64 (ri:Int),.slice pa pp.length pc] 65)).heap.size):=ah ⟨by unfold maxLen;omega,by omega,Nat.le_trans jX.out Nq.size⟩;have HRO:=ah (Nq.heap Fv.out (fun h=>h));have hx0: ∀x:XF (fun j=>(Value.slice oa L.length oc).ownBlock=some j) w9,x.val.cell? ⟨nn,0,none⟩=some (.string nx.name):=fun x=>x.upd.cell (aj HN9.out 0 _ rfl) (fun e=>by have:=(HOWN.out _ e).2;have:=HN6.out;dsimp only at*;omega);have hx1: ∀x:XF (fun j=>(Value.slice oa L.length oc).ownBlock=some j) w9,x.val.cell? ⟨nn,1,none⟩=some (.string nx.sort):=fun x=>x.upd.cell (aj HN9.out 1 _ rfl) (fun e=>by have:=(HOWN.out _ e).2;have:=HN6.out;dsimp only at*;omega);have hx2: ∀x:XF (fun j=>(Value.slice oa L.length oc).ownBlock=some j) w9,x.val.cell? ⟨nn,2,none⟩=some (.slice na nx.kids.length nc):=fun x=>x.upd.cell (aj HN9.out 2 _ rfl) (fun e=>by have:=(HOWN.out _ e).2;have:=HN6.out;dsimp only at*;omega);have hy0: ∀x:XF (fun j=>(Value.slice oa L.length oc).ownBlock=some j) w9,x.val.cell? ⟨nb,0,none⟩=some (.int .i64 (ri:Int)):=fun x=>x.upd.cell (aj WA.out 0 _ rfl) (fun e=>by have:=(HOWN.out _ e).2;have:=Az.out;dsimp only at*;omega);have hy1: ∀x:XF (fun j=>(Value.slice oa L.length oc).ownBlock=some j) w9,x.val.cell? ⟨nb,1,none⟩=some (.slice pa pp.length pc):=fun x=>x.upd.cell (aj WA.out 1 _ rfl) (fun e=>by have:=(HOWN.out _ e).2;have:=Az.out;dsimp only at*;omega);obtain⟨iT,hi,hz0,hz1,hz2⟩:=info_parts X6;clear Nq hown;refine Dt [(0,0),(1,0),(2,0),(3,1),(4,1),(5,2),(6,2)] 5 (fun W=> ∃x:XF (fun j=>(Value.slice oa L.length oc).ownBlock=some j) w9,W=x.val) (by kernel_rfl) (by kernel_rfl) (fun _ _ d _ _ h=>by cases d<;>exact h) ⟨⟨_,(aC.refl _ w9).drew⟩,rfl⟩ ?_;simp only[eG,List.getElem?_cons_zero,List.getElem?_cons_succ]
   iterate 3(refine O4 (fun K hK=>?_);go_simp;refine hK _ ?_;clear hK K)
   refine mD (fun K hK hS=>?_) ⟨⟨_,(aC.refl _ w9).drew⟩,rfl⟩;go_simp;refine hK _ _ ⟨⟨_,((aC.refl _ w9).drew).alloc _⟩,rfl⟩ ?_;clear hK K hS hx0 hx1 hx2 hy0 hy1;refine mD (fun K hK hS=>?_) ⟨⟨_,(((aC.refl _ w9).drew).alloc _)⟩,rfl⟩;clear hS;refine dY _ (.tmp 58) (.tmp 60) 54 rfl (w.heap.size+2) 65 iT (.agg #[.int .i64 0,.slice none 0 0]) 2 32 Tryz.underlying54 hi hz0 hz1 hz2 rfl (by decide) _ _ _ rfl HOW.out _ 1 1 [Value.int .i64 (ri:Int),.slice pa pp.length pc] rfl rfl oD.out kF.out iW.out.1 iW.out.2.1 iW.out.2.2 ?_;intro v7 w7 bK;obtain⟨a7,c7,hv7⟩:=bF bK.own;subst hv7;refine hK _ _ ⟨⟨_,((((aC.refl _ w9).drew).alloc (.cells #[.int .i64 (ri:Int),.slice pa pp.length pc] 65))).trans (bK.upd)⟩,rfl⟩ ?_;clear hK K;have hR7:=bK.upd.heap HRO.out (fun e=>by have:=HOWN.out _ e;omega);obtain⟨x0,x1,x2⟩:=ak hR7;have f7:=fun i=>aA hR7 i;refine eP (fun K hK=>?_);go_simp;refine hK _ _ ?_;clear hK K;refine eP (fun K hK=>?_);go_simp;refine hK _ _ ?_;clear hK K;simp only[cO];have hxe:nM ((kR ri pp,pa,pc):Xe)=[Value.int .i64 (ri:Int),.slice pa pp.length pc]:=by simp[nM,zM,kR]
   have bK:Grew (w.heap.size+2) 65 2 (.slice oa L.length oc) (L.length+1) (L.flatMap nM++nM ((kR ri pp,pa,pc):Xe)) (w9.drew.alloc (.cells #[.int .i64 (ri:Int),.slice pa pp.length pc] 65)) w7 (.slice a7 (L.length+1) c7):=by rw[hxe];exact bK
   have X8:=HG.out.grow HS.out QC.out (x:=(kR ri pp,pa,pc)) (by
    have:=Oe alu.out;have e:zM ((kR ri pp,pa,pc):Xe)= .slice pa pp.length pc:=by simp[zM,kR]
    rw[e];exact this) alv.out (((uR w9).drew).alloc (.cells #[.int .i64 (ri:Int),.slice pa pp.length pc] 65)) (fun _ h=>h.elim) bK
   have HQ8:=ah (aN hR7 (.string nx.name) (.string nx.sort) (.slice na nx.kids.length nc));have dB:=ah (aK w7 w.heap.size (.string nx.name) (.string nx.sort) (.slice na nx.kids.length nc));have KY:aC (fun j=>(Value.slice oa L.length oc).ownBlock=some j) w9 w7:=((((uR w9).drew).alloc (.cells #[.int .i64 (ri:Int),.slice pa pp.length pc] 65)).mono (fun _ _ h=>h.elim)).trans bK.upd;have hwh:=bK.uw;have X9:=ah (X8.kept dB.out (fun j hj _ e=>by omega));have dG:=ah ((H9.out.trans' KY (fun j hj e=>by have:=HOWN.out _ e;omega)).trans' dB.out (fun j hj e=>by omega));have Ae:=ah (dB.out.heap (KY.heap rE.out (fun e=>by have:=HOWN.out _ e;omega)) (by omega));have X_:=ah (((HTN.out.kept KY (fun j hj e=>by have:=HOWN.out _ e;omega)).kept dB.out (fun j hj e=>by have:=HS.out;omega)).weaken (fun j hj=>(⟨by have:=HS.out;omega,aF hj.2 (Nat.le_trans KY.size dB.out.size),fun e=>by
    rcases hwh with h|h
    .rw [h] at e;have:=HOWN.out _ e;omega
    .rw [h] at e;injection e with e;have:=hj.2;have h9:w9.heap.size< (w9.drew.alloc (.cells #[.int .i64 (ri:Int),.slice pa pp.length pc] 65)).heap.size:=by simp;
     omega⟩:w.heap.size+2<=j/\j<_/\(Value.slice a7 (L.length+1) c7).ownBlock≠some j)))
   have ig:=ah (Nat.le_trans jX.out (Nat.le_trans KY.size dB.out.size));have hlen:(L++[((kR ri pp,pa,pc):Xe)]).length=L.length+1:=by simp
   have ZN:Hid (iZ l (F- (L++[((kR ri pp,pa,pc):Xe)]).length) nx ((L++[((kR ri pp,pa,pc):Xe)]).map (·.1))=Z):=ah (by rw[hlen,List.map_append];exact aiJ.out.symm);rw[<-hlen] at X9 X_⊢;clear X8 hwh KY hR7 hxe bK x0 x1 x2 f7 hi hz0 hz1 hz2
   go_wp2_with fail
   go_roundg (F- (L++[((kR ri pp,pa,pc):Xe)]).length)
   case measure=>rw[hlen];omega
   case rel=>exact⟨_,nx,a7,na,c7,nc,by rw[hlen],rfl,by rw[hlen];omega,X9,HQ8,Ae,X_,dG,ig,HWN,ZN⟩
theorem QD (l:List Rl) (t:Tm) (fuel:Int) (lv v:Value) (w:World) (hL:jq (fun k=>k<w.heap.size) w l lv) (hT:bQ (fun k=>k<w.heap.size) w t v) (htab:dN w) (hll:l.length<=1000000) (hls: ∀r∈l,r.1.size<=100000/\r.2.size<=100000) (hrs:dX l=true->∀r∈l,r.2.size<=60) (hsz:t.size<=100000) (hfu: -9223372036854775808<=fuel/\fuel<=9223372036854775807):
  Calls Tryz.prog 38 #[lv,v,.int .i64 fuel] w fun e w'=> ∃r,e= .returned (.tuple #[tV (ny l t fuel).1 r,.int .i64 ((ny l t fuel).2.1.length:Int),.int .i64 (ny l t fuel).2.2])/\aI (fun k=>w.heap.size<=k/\k<w'.heap.size) w' (ny l t fuel).1.kids r/\Ext w w':=by
 obtain⟨Z,hZ⟩: ∃Z,ny l t fuel=Z:=⟨_,rfl⟩
 have iV:=ah (fun(W:World) (hW:Ext w W)=>abH l t fuel lv v W ((hL.ext hW).weaken (fun k hk=>aF hk hW.size)) ((hT.ext hW).weaken (fun k hk=>aF hk hW.size)) (aS htab hW) hll hls hrs hsz hfu);rw[hZ] at iV⊢;obtain⟨nx,tr,en⟩:=Z;obtain⟨la,lc,rfl⟩:=hL.shape;obtain⟨a,cap,rfl,hTL⟩:=hT;dsimp only[tV] at iV⊢;have HZ1:=ah (((uR w).alloc (tO t a cap)).alloc zO);have HB0:=ah (aB (ay w (tO t a cap)) zO);have H1:=ah (alloc_at (w.alloc (tO t a cap)) zO (n:=w.heap.size+1) (by simp));have hz2:w.heap.size+2<=((w.alloc (tO t a cap)).alloc zO).heap.size:=by simp
 have HZ2:=ah hz2;clear hz2;obtain⟨x0,x1,x2⟩:=ak HB0.out;clear hL htab hls hrs hTL hZ
 go_enter Tryz.func38,Tryz.ntmps38
 go_wp2_with fail
 generalize ((w.alloc (tO t a cap)).alloc zO)=w1 at*;refine(iV.out _ HZ1.out).mono ?_;rintro e w3 ⟨r,tv,rfl,hTl,vI,hw3⟩;obtain⟨na,nc,hrn⟩:=hTl.shape;subst hrn;obtain⟨ra,rc,hrr⟩:=vI.shape;subst hrr;have hX:=hw3.alloc (tO nx na nc);have aY:=ah (HZ1.out.trans hX);have JG:=ah (hX.heap H1.out (fun h=>h));have HN:=ah (ay w3 (tO nx na nc));have fU:Hid (w.heap.size+2<=(w3.alloc (tO nx na nc)).heap.size):=ah (Nat.le_trans HZ2.out hX.size);have gW:Hid (w.heap.size+2<=w3.heap.size):=ah (Nat.le_trans HZ2.out hw3.size);have HTN:Hid (aI (fun j=>w.heap.size+2<=j/\j< (w3.alloc (tO nx na nc)).heap.size) (w3.alloc (tO nx na nc)) nx.kids (.slice na nx.kids.length nc)):=ah ((hTl.ext ((uR w3).alloc (tO nx na nc))).weaken (fun j hj=>⟨by have:=HZ2.out;omega,aF hj.2 ((uR w3).alloc (tO nx na nc)).size⟩));clear hTl vI hw3 hX iV HZ1 HB0 H1 HZ2 x0 x1 x2;dsimp only;obtain⟨nb,hnb⟩: ∃n,w3.heap.size=n:=⟨_,rfl⟩
 rw[hnb] at HN gW;obtain⟨m0,m1,m2⟩:=ak HN.out;have f2:=fun i=>aA JG.out i;obtain⟨d0,d1,d2⟩:=ak JG.out
 go_wp2_with fail
 try rw[hnb]
 generalize w3.alloc (tO nx na nc)=w4 at*;clear hnb;have hr3:=aN JG.out (.string nx.name) (.string nx.sort) (.slice na nx.kids.length nc);have hu:=aK w4 (w.heap.size+1) (.string nx.name) (.string nx.sort) (.slice na nx.kids.length nc);obtain⟨e0,e1,e2⟩:=ak hr3;refine bodyPost_ret (v:= .tuple #[.agg #[.string nx.name,.string nx.sort,.slice na nx.kids.length nc],.int .i64 (tr.length:Int),.int .i64 en]) (by simp[results,Tryz.results38,go_sem,e0,e1,e2]) rfl ?_;have hue:=aY.out.trans' hu (fun j hj e=>by omega);have hk:=(HTN.out.kept hu (fun j hj e=>by omega)).weaken (fun j hj=>(⟨by omega,aF hj.2 hu.size⟩:w.heap.size<=j/\j<_));exact⟨.slice na nx.kids.length nc,rfl,hk,hue⟩
theorem adl (l:List Rl) (t:Tm) (fuel:Int) (lv v:Value) (w:World) (hL:jq (fun k=>k<w.heap.size) w l lv) (hT:bQ (fun k=>k<w.heap.size) w t v) (htab:dN w) (hll:l.length<=1000000) (hls: ∀r∈l,r.1.size<=100000/\r.2.size<=100000) (hrs:dX l=true->∀r∈l,r.2.size<=60) (hsz:t.size<=100000) (hfu: -9223372036854775808<=fuel/\fuel<=9223372036854775807):
  Calls Tryz.prog 39 #[lv,v,.int .i64 fuel] w fun e w'=> ∃tv,e= .returned (.tuple #[tv,.int .i64 (ny l t fuel).2.2])/\nK (fun k=>w.heap.size<=k/\k<w'.heap.size) (fun k=>w.heap.size<=k/\k<w'.heap.size) w' tv (ny l t fuel).2.1/\Ext w w':=by
 obtain⟨Z,hZ⟩: ∃Z,ny l t fuel=Z:=⟨_,rfl⟩
 have iV:=ah (fun(W:World) (hW:Ext w W)=>abH l t fuel lv v W ((hL.ext hW).weaken (fun k hk=>aF hk hW.size)) ((hT.ext hW).weaken (fun k hk=>aF hk hW.size)) (aS htab hW) hll hls hrs hsz hfu);rw[hZ] at iV⊢;obtain⟨nx,tr,en⟩:=Z;obtain⟨la,lc,rfl⟩:=hL.shape;obtain⟨a,cap,rfl,hTL⟩:=hT;dsimp only[tV] at iV⊢;have HZ1:=ah ((uR w).alloc (tO t a cap));have HB0:=ah (ay w (tO t a cap));obtain⟨x0,x1,x2⟩:=ak HB0.out;clear hL htab hls hrs hTL hZ
 go_enter Tryz.func39,Tryz.ntmps39
 go_wp2_with fail
 generalize (w.alloc (tO t a cap))=w1 at*;refine(iV.out _ HZ1.out).mono ?_;rintro e w3 ⟨r,tv,rfl,hTl,vI,hw3⟩;obtain⟨na,nc,hrn⟩:=hTl.shape;subst hrn;obtain⟨ra,rc,hrr⟩:=vI.shape;subst hrr;have hX:=hw3.alloc (tO nx na nc);have aY:=ah (HZ1.out.trans hX);have hr9:=nK.weaken (vI.ext ((uR w3).alloc (tO nx na nc))) (Q:=fun k=>w.heap.size<=k/\k< (w3.alloc (tO nx na nc)).heap.size) (T:=fun k=>w.heap.size<=k/\k< (w3.alloc (tO nx na nc)).heap.size) (fun j hj=>⟨by have:=HZ1.out.size;omega,aF hj.2 ((uR w3).alloc (tO nx na nc)).size⟩) (fun j hj=>⟨by have:=HZ1.out.size;omega,aF hj.2 ((uR w3).alloc (tO nx na nc)).size⟩);have HRX:=ah hr9;clear hTl vI hw3 hX iV HZ1 HB0 x0 x1 x2 hr9;dsimp only
 go_wp2_with fail
 refine bodyPost_ret (v:= .tuple #[.slice ra tr.length rc,.int .i64 en]) (by simp[results,Tryz.results39,go_sem]) rfl ?_;exact⟨_,rfl,HRX.out,aY.out⟩
def vP (r:Rl):Bool:=pR [r.1]||pR [r.2]||(formed aJ r.1&&decide (60<r.1.size))||(formed aJ r.2&&decide (60<r.2.size))
def Fz (l:List Rl):Bool:=(decide (20<l.length)&&decide (l.length<=100))||decide (110<l.length)||l.any vP
theorem adn (x y:Tm) (xa ya:Option Addr) (xc yc:Nat) (w:World) (h1:aI (fun k=>k<w.heap.size) w x.kids (.slice xa x.kids.length xc)) (h2:aI (fun k=>k<w.heap.size) w y.kids (.slice ya y.kids.length yc)):
  Calls Tryz.prog 107 #[.agg #[.string x.name,.string x.sort,.slice xa x.kids.length xc,.string y.name,.string y.sort,.slice ya y.kids.length yc]] w fun e w'=>e= .returned (.bool (vP (x,y)))/\Ext w w':=by
 obtain⟨Z,hZ⟩: ∃Z,vP (x,y)=Z:=⟨_,rfl⟩
 rw[hZ];have af9:=qo (nm:=aJ) x;have qw:=qo (nm:=aJ) y;have Vw:=ah (fun W (hW:Ext w W)=>AA x 1 1000 (tV x (.slice xa x.kids.length xc)) _ W ⟨xa,xc,rfl,h1.ext hW⟩ (by decide) (by decide) (by decide));have KZ:=ah (fun W (hW:Ext w W)=>AA y 1 1000 (tV y (.slice ya y.kids.length yc)) _ W ⟨ya,yc,rfl,h2.ext hW⟩ (by decide) (by decide) (by decide));have abP:=ah (fun(hs:x.size<=1000000) W (hW:Ext w W)=>Gp x (tV x (.slice xa x.kids.length xc)) _ W ⟨xa,xc,rfl,h1.ext hW⟩ hs);have abQ:=ah (fun(hs:y.size<=1000000) W (hW:Ext w W)=>Gp y (tV y (.slice ya y.kids.length yc)) _ W ⟨ya,yc,rfl,h2.ext hW⟩ hs);have hE1:=((uR w).alloc (.cells #[.string x.name,.string x.sort,.slice xa x.kids.length xc,.string y.name,.string y.sort,.slice ya y.kids.length yc] 146))
 have hE2:=hE1.alloc (tO x xa xc);have HE2:=ah hE2;have jS:=ah (Oc [x] _ (fun k=>k< ((w.alloc (.cells #[.string x.name,.string x.sort,.slice xa x.kids.length xc,.string y.name,.string y.sort,.slice ya y.kids.length yc] 146)).alloc (tO x xa xc)).heap.size) _ (Jv (n:=w.heap.size+1) (alloc_at (w.alloc (.cells #[.string x.name,.string x.sort,.slice xa x.kids.length xc,.string y.name,.string y.sort,.slice ya y.kids.length yc] 146)) (tO x xa xc) (by simp)) (by simp) ((h1.ext hE2).weaken (fun k hk=>aF hk hE2.size))) (fun k hk=>hk) (by simp));have HBY:=ah (fun W (hW:Ext w W)=>Oc [y] (.slice (some ⟨W.heap.size,0,none⟩) 1 1) (fun k=>k< (W.alloc (tO y ya yc)).heap.size) (W.alloc (tO y ya yc)) (Jv (ay W (tO y ya yc)) (by simp) ((h2.ext (hW.alloc (tO y ya yc))).weaken (fun k hk=>aF hk (hW.alloc (tO y ya yc)).size))) (fun k hk=>hk) (by simp));have HB2:=ah (aB (ay w (.cells #[.string x.name,.string x.sort,.slice xa x.kids.length xc,.string y.name,.string y.sort,.slice ya y.kids.length yc] 146)) (tO x xa xc));have hb1:=ay w (.cells #[.string x.name,.string x.sort,.slice xa x.kids.length xc,.string y.name,.string y.sort,.slice ya y.kids.length yc] 146);obtain⟨x0,x1,x2,x3,x4,x5⟩:=fA hb1;have hzz:Z=(pR [x]||pR [y]||(formed aJ x&&decide (60<x.size))||(formed aJ y&&decide (60<y.size))):=hZ.symm;rw[af9,qw] at hzz;have hg1:pR [x]=false->x.size<=1000000:=fun h=>by have:=tK h;omega
 have hg2:pR [y]=false->y.size<=1000000:=fun h=>by have:=tK h;omega
 obtain⟨s1,hs1⟩: ∃s,small aJ 1 1000 x=s:=⟨_,rfl⟩
 obtain⟨s2,hs2⟩: ∃s,small aJ 1 1000 y=s:=⟨_,rfl⟩
 rw[hs1] at hzz Vw;rw[hs2] at hzz KZ;have FB:=ah (fun h=>abP.out (hg1 h));have FC:=ah (fun h=>abQ.out (hg2 h));obtain⟨b1,hb1'⟩: ∃b,pR [x]=b:=⟨_,rfl⟩
 obtain⟨b2,hb2'⟩: ∃b,pR [y]=b:=⟨_,rfl⟩
 obtain⟨n1,hn1⟩: ∃n,x.size=n:=⟨_,rfl⟩
 obtain⟨n2,hn2⟩: ∃n,y.size=n:=⟨_,rfl⟩
 rw[hb1',hb2',hn1,hn2] at hzz;rw[hb1'] at jS FB;rw[hb2'] at HBY FC;rw[hn1] at FB;rw[hn2] at FC;have HZ:=ah hzz;dsimp only[tV] at Vw KZ FB FC;clear hzz hZ af9 qw h1 h2 hE1 hE2 hb1 hg1 hg2 hs1 hs2 hb1' hb2' hn1 hn2 abP abQ
 go_enter Tryz.func107,Tryz.ntmps107
 go_wp2_with fail
 generalize (w.alloc (.cells #[.string x.name,.string x.sort,.slice xa x.kids.length xc,.string y.name,.string y.sort,.slice ya y.kids.length yc] 146)).alloc (tO x xa xc)=w1 at*;refine jS.out.mono ?_;rintro e w3 ⟨rfl,hw3⟩;have aY:=ah (HE2.out.trans hw3);have HB3:=ah (hw3.heap HB2.out (fun h=>h));clear hw3 jS HE2 HB2 x0 x1 x2 x3 x4 x5;cases b1 with
 |true=>
  obtain rfl:Z=true:=by have h:=HZ.out;simp[] at h;exact h
  go_wp2_with fail
  go_ret;exact⟨by first|rfl|simp,aY.out⟩
 |false=>
  have af':=ah (FB.out rfl);clear FB;obtain⟨x0,x1,x2,x3,x4,x5⟩:=fA HB3.out
  go_wp2_with fail
  refine(HBY.out _ aY.out).mono ?_;rintro e w4 ⟨rfl,hw4⟩;have bW:=ah (aY.out.trans (((uR w3).alloc (tO y ya yc)).trans hw4));have HB4:=ah (hw4.heap (aB HB3.out (tO y ya yc)) (fun h=>h));clear hw4 HBY aY HB3 x0 x1 x2 x3 x4 x5;cases b2 with
  |true=>
   obtain rfl:Z=true:=by have h:=HZ.out;simp[] at h;exact h
   go_wp2_with fail
   go_ret;exact⟨by first|rfl|simp,bW.out⟩
  |false=>
   have vZ:=ah (FC.out rfl);clear FC;obtain⟨x0,x1,x2,x3,x4,x5⟩:=fA HB4.out
   go_wp2_with fail
   refine(Vw.out _ bW.out).mono ?_;rintro e w4s ⟨rfl,hws⟩;have Vx:=ah (bW.out.trans hws);have Vy:=ah (hws.heap HB4.out (fun h=>h));clear hws Vw x0 x1 x2 x3 x4 x5;by_cases hs1:0<=s1
   .have t1:decide ((0:Int)<=s1)=true:=dT hs1;have Ns:=ah (af'.out _ Vx.out);clear af';obtain⟨x0,x1,x2,x3,x4,x5⟩:=fA Vy.out
    go_wp2_with fail
    refine Ns.out.mono ?_;rintro e w4z ⟨rfl,hwz⟩;have ZO:=ah (Vx.out.trans hwz);have aga:=ah (hwz.heap Vy.out (fun h=>h));clear hwz Ns x0 x1 x2 x3 x4 x5;by_cases hz1:(60:Int)< (n1:Int)
    .have u1:decide ((60:Int)< (n1:Int))=true:=dT hz1;have hn1:60<n1:=by omega
     obtain rfl:Z=true:=by have h:=HZ.out;simp[hn1,t1] at h;exact h
     go_wp2_with fail
     go_ret;exact⟨by first|rfl|simp,ZO.out⟩
    .have u1:decide ((60:Int)< (n1:Int))=false:=dF hz1;have hn1: ¬60<n1:=by omega
     obtain⟨x0,x1,x2,x3,x4,x5⟩:=fA aga.out
     go_wp2_with fail
     refine(KZ.out _ ZO.out).mono ?_;rintro e anV ⟨rfl,hws⟩;have Vz:=ah (ZO.out.trans hws);have abR:=ah (hws.heap aga.out (fun h=>h));clear hws KZ x0 x1 x2 x3 x4 x5;by_cases hs2:0<=s2
     .have t2:decide ((0:Int)<=s2)=true:=dT hs2;have Jz:=ah (vZ.out _ Vz.out);clear vZ;obtain⟨x0,x1,x2,x3,x4,x5⟩:=fA abR.out
      go_wp2_with fail
      refine Jz.out.mono ?_;rintro e anW ⟨rfl,hwz⟩;have abS:=ah (Vz.out.trans hwz);have anI:=ah (hwz.heap abR.out (fun h=>h));clear hwz Jz x0 x1 x2 x3 x4 x5;by_cases hz2:(60:Int)< (n2:Int)
      .have u2:decide ((60:Int)< (n2:Int))=true:=dT hz2;have hn2:60<n2:=by omega
       obtain rfl:Z=true:=by have h:=HZ.out;simp[hn1,t1,hn2,t2] at h;exact h
       go_wp2_with fail
       go_ret;exact⟨by first|rfl|simp,abS.out⟩
      .have u2:decide ((60:Int)< (n2:Int))=false:=dF hz2;have hn2: ¬60<n2:=by omega
       obtain rfl:Z=false:=by have h:=HZ.out;simp[hn1,t1,hn2,t2] at h;exact h
       go_wp2_with fail
       go_ret;exact⟨by first|rfl|simp,abS.out⟩
     .have t2:decide ((0:Int)<=s2)=false:=dF hs2;obtain rfl:Z=false:=by have h:=HZ.out;simp[hn1,t1,t2] at h;exact h
      go_wp2_with fail
      go_ret;exact⟨by first|rfl|simp,Vz.out⟩
   .have t1:decide ((0:Int)<=s1)=false:=dF hs1;obtain⟨x0,x1,x2,x3,x4,x5⟩:=fA Vy.out
    go_wp2_with fail
    refine(KZ.out _ Vx.out).mono ?_;rintro e anX ⟨rfl,hws⟩;have VA:=ah (Vx.out.trans hws);have abT:=ah (hws.heap Vy.out (fun h=>h));clear hws KZ x0 x1 x2 x3 x4 x5;by_cases hs2:0<=s2
    .have t2:decide ((0:Int)<=s2)=true:=dT hs2;have Jz:=ah (vZ.out _ VA.out);clear vZ;obtain⟨x0,x1,x2,x3,x4,x5⟩:=fA abT.out
     go_wp2_with fail
     refine Jz.out.mono ?_;rintro e anY ⟨rfl,hwz⟩;have abU:=ah (VA.out.trans hwz);have anJ:=ah (hwz.heap abT.out (fun h=>h));clear hwz Jz x0 x1 x2 x3 x4 x5;by_cases hz2:(60:Int)< (n2:Int)
     .have u2:decide ((60:Int)< (n2:Int))=true:=dT hz2;have hn2:60<n2:=by omega
      obtain rfl:Z=true:=by have h:=HZ.out;simp[t1,hn2,t2] at h;exact h
      go_wp2_with fail
      go_ret;exact⟨by first|rfl|simp,abU.out⟩
     .have u2:decide ((60:Int)< (n2:Int))=false:=dF hz2;have hn2: ¬60<n2:=by omega
      obtain rfl:Z=false:=by have h:=HZ.out;simp[t1,hn2,t2] at h;exact h
      go_wp2_with fail
      go_ret;exact⟨by first|rfl|simp,abU.out⟩
    .have t2:decide ((0:Int)<=s2)=false:=dF hs2;obtain rfl:Z=false:=by have h:=HZ.out;simp[t1,t2] at h;exact h
     go_wp2_with fail
     go_ret;exact⟨by first|rfl|simp,VA.out⟩
theorem Ya (L:List Rl) (v:Value) (w:World) (hR:jq (fun k=>k<w.heap.size) w L v) (hl:L.length<=1000000):
  Calls Tryz.prog 165 #[v,.func (.func 107) #[] #[]] w fun e w'=> ∃r:Int,e= .returned (.int .i64 r)/\decide (0<=r)=L.any vP/\Ext w w':=by
 obtain⟨a,cap,rfl⟩:=hR.shape;have HR:=ah hR;clear hR
 go_enter Tryz.func165,Tryz.ntmps165
 go_wp2_with fail
 go_loopg [8] L.length (fun gk iv wr=> ∃k:Nat,iv= .int .i64 (k:Int)/\gk=L.length-k/\k<=L.length/\Hid (Ext w wr)/\Hid ((L.take k).any vP=false))
 case atStart=>exact⟨0,rfl,rfl,Nat.zero_le _,ah (aC.refl _ _),ah rfl⟩
 case round=>
  obtain⟨k,rfl,rfl,hk,HE,HM⟩:=hrel;by_cases hlt:k<L.length
  .obtain ⟨g,off,hga,_,hat⟩:=(HR.out.ext HE.out).at_ (by omega);subst hga;obtain⟨xa,xc,ya,yc,q0,q1,q2,q3,q4,q5,hk1,hk2⟩:=hat k hlt;obtain⟨z0,z1,z2,z2'⟩:=bZ hlt;have hmem:rg L k∈L:=by
    unfold Go.Hw.rg;rw[List.getD_eq_getElem?_getD,List.getElem?_eq_getElem hlt];exact List.getElem_mem hlt
   have htk:L.take (k+1)=L.take k++[rg L k]:=by
    unfold Go.Hw.rg;rw[List.getD_eq_getElem?_getD,List.getElem?_eq_getElem hlt];rw[List.take_add_one,List.getElem?_eq_getElem hlt];rfl
   have gB:=ah (adn (rg L k).1 (rg L k).2 xa ya xc yc wr (hk1.weaken (fun k hk=>aF hk HE.out.size)) (hk2.weaken (fun k hk=>aF hk HE.out.size)));have HN:Hid (vP (rg L k)=false->(L.take (k+1)).any vP=false):=ah (fun h=>by
    rw[htk,List.any_append,HM.out,List.any_cons,List.any_nil,h];rfl)
   have HY:Hid (vP (rg L k)=true->L.any vP=true):=ah (fun h=>List.any_eq_true.2 ⟨_,hmem,h⟩);obtain⟨⟨x,y⟩,hx⟩: ∃x,rg L k=x:=⟨_,rfl⟩
   rw[hx] at q0 q1 q2 q3 q4 q5 gB HN HY;simp only at q0 q1 q2 q3 q4 q5 gB;obtain⟨b,hb⟩: ∃b,vP (x,y)=b:=⟨_,rfl⟩
   rw[hb] at gB HN HY;clear hat hmem hx hb HM hk1 hk2 htk
   go_wp2_with fail
   refine gB.out.mono ?_;rintro e w4 ⟨rfl,hw4⟩;have H4:=ah (HE.out.trans hw4);clear hw4 q0 q1 q2 q3 q4 q5 gB HE;cases b
   .have jV:=ah (HN.out rfl);clear HN HY
    go_wp2_with fail
    go_roundg (L.length- (k+1))
    case measure=>omega
    case rel=>exact⟨k+1,by go_num,rfl,by omega,H4,jV⟩
   .have DY:=ah (HY.out rfl);clear HN HY
    go_wp2_with fail
    go_ret;exact⟨_,rfl,by rw[DY.out];exact dT z0,H4.out⟩
  .obtain rfl:k=L.length:=by omega
   have z2:decide ((L.length:Int)< (L.length:Int))=false:=dF (by omega);have nI:=HM.out;rw[List.take_length] at nI;have L9:=ah nI;clear nI
   go_wp2_with fail
   go_ret;exact⟨_,rfl,by rw[L9.out];rfl,HE.out⟩
theorem Yb (L:List Rl) (v:Value) (w:World) (hR:jq (fun k=>k<w.heap.size) w L v) (hl:L.length<=1000000):
  Calls Tryz.prog 106 #[v,.func (.func 107) #[] #[]] w fun e w'=>e= .returned (.bool (L.any vP))/\Ext w w':=by
 have HI:=ah (Ya L v w hR hl);clear hR
 go_enter Tryz.func106,Tryz.ntmps106
 go_wp2_with fail
 refine HI.out.mono ?_;rintro e w4 ⟨r,rfl,hr,hw4⟩;have H4:=ah hw4;have HRR:=ah hr;clear hw4 hr
 go_wp2_with fail
 go_ret;rw[<-HRR.out];exact⟨rfl,H4.out⟩
theorem ado (L:List Rl) (v:Value) (w:World) (hR:jq (fun k=>k<w.heap.size) w L v) (hl:L.length<=maxLen):
  Calls Tryz.prog 36 #[v] w fun e w'=>e= .returned (.bool (Fz L))/\Ext w w':=by
 have HC:=ah (fun h=>Yb L v w hR h);obtain⟨Z,hZ⟩: ∃Z,Fz L=Z:=⟨_,rfl⟩
 rw[hZ];have HZ:Hid (Z=((decide (20<L.length)&&decide (L.length<=100))||decide (110<L.length)||L.any vP)):=ah hZ.symm;obtain⟨a,cap,rfl⟩:=hR.shape;obtain⟨b,hb⟩: ∃b,L.any vP=b:=⟨_,rfl⟩
 rw[hb] at HC HZ;have HE:Hid (Ext w w):=ah (aC.refl _ _);clear hR hZ hb;have zF:=HC;clear HC;obtain⟨n,hn⟩: ∃n,L.length=n:=⟨_,rfl⟩
 rw[hn] at zF HZ hl⊢;by_cases p1:20<n
 .have t1:decide ((20:Int)< (n:Int))=true:=dT (by omega);by_cases p2:n<=100
  .have t2:decide ((n:Int)<=(100:Int))=true:=dT (by omega);obtain rfl:Z=true:=by have h:=HZ.out;simp[p1,p2] at h;exact h
   clear zF
   go_enter Tryz.func36,Tryz.ntmps36
   go_wp2_with fail
   go_ret;exact⟨rfl,HE.out⟩
  .have t2:decide ((n:Int)<=(100:Int))=false:=dF (by omega);by_cases p3:110<n
   .have t3:decide ((110:Int)< (n:Int))=true:=dT (by omega);obtain rfl:Z=true:=by have h:=HZ.out;simp[p3] at h;exact h
    clear zF
    go_enter Tryz.func36,Tryz.ntmps36
    go_wp2_with fail
    go_ret;exact⟨rfl,HE.out⟩
   .have t3:decide ((110:Int)< (n:Int))=false:=dF (by omega);have d2:decide (n<=100)=false:=dF p2;have d3:decide (110<n)=false:=dF p3;obtain rfl:Z=b:=by have h:=HZ.out;simpa[d2,d3] using h
    have HC:=ah (zF.out (by omega));clear zF
    go_enter Tryz.func36,Tryz.ntmps36
    go_wp2_with fail
    refine HC.out.mono ?_;rintro e w4 ⟨rfl,hw4⟩
    go_wp2_with fail
    go_ret;exact⟨rfl,hw4⟩
 .have t1:decide ((20:Int)< (n:Int))=false:=dF (by omega);have t3:decide ((110:Int)< (n:Int))=false:=dF (by omega);have d1:decide (20<n)=false:=dF p1;have d3:decide (110<n)=false:=dF (by omega);obtain rfl:Z=b:=by have h:=HZ.out;simpa[d1,d3] using h
  have HC:=ah (zF.out (by omega));clear zF
  go_enter Tryz.func36,Tryz.ntmps36
  go_wp2_with fail
  refine HC.out.mono ?_;rintro e w4 ⟨rfl,hw4⟩
  go_wp2_with fail
  go_ret;exact⟨rfl,hw4⟩
theorem Yc (p q:List Int) (v u:Value) (S T:Nat->Prop) (w:World) (hp:rV S w v p) (hq:rV T w u q) (hpl:p.length<=1000000):
  Calls Tryz.prog 113 #[v,u] w fun e w'=>e= .returned (.bool (decide (p=q)))/\Ext w w':=by
 have HP:=ah hp;have HQ:=ah hq;obtain⟨a,c,rfl⟩:=hp.shape;obtain⟨b,d,rfl⟩:=hq.shape;obtain⟨Z,hZ⟩: ∃Z,decide (p=q)=Z:=⟨_,rfl⟩
 rw[hZ];have HZ:=ah hZ.symm;have H0:Hid (Ext w w):=ah (aC.refl _ _);clear hp hq hZ;by_cases hl:p.length=q.length
 rotate_left
 .have e1:((p.length:Int)==(q.length:Int))=false:=beq_eq_false_iff_ne.2 (by omega);have e2:decide ((p.length:Int)=(q.length:Int))=false:=dF (by omega);obtain rfl:Z=false:=by rw[HZ.out];exact dF (fun h=>hl (by rw[h]))
  clear hl HP HQ
  go_enter Tryz.func113,Tryz.ntmps113
  go_wp2_with fail
  go_ret;exact⟨rfl,H0.out⟩
 have HL:=ah hl.symm;rw[HL.out];clear hl
 go_enter Tryz.func113,Tryz.ntmps113
 go_wp2_with fail
 go_loopg [5] p.length (fun gk iv wr=> ∃k:Nat,iv= .int .i64 (k:Int)/\gk=p.length-k/\k<=p.length/\Hid (∀j,j<k->p[j]?=q[j]?)/\Hid (Ext w wr))
 case atStart=>exact⟨0,rfl,rfl,Nat.zero_le _,ah (fun j h=>absurd h (Nat.not_lt_zero _)),H0⟩
 case round=>
  obtain⟨k,rfl,rfl,hk,HC,HE⟩:=hrel;by_cases hlt:k<p.length
  .have hlq:k<q.length:=by have:=HL.out;omega
   obtain⟨g,off,c',e,_,_,hj⟩:=aG.pos (aG.kept HP.out HE.out (fun _ _ h=>h)) (by omega);injection e with e e3 e4
   subst e;obtain⟨g2,off2,d',e,_,_,hj2⟩:=aG.pos (aG.kept HQ.out HE.out (fun _ _ h=>h)) (by omega);injection e with e e5 e6
   subst e;obtain⟨x,hx⟩: ∃x,p[k]?=some x:=⟨_,List.getElem?_eq_getElem hlt⟩
   obtain⟨y,hy⟩: ∃y,q[k]?=some y:=⟨_,List.getElem?_eq_getElem hlq⟩
   have q0:wr.cell? ⟨g,off+k,none⟩=some (.int .i64 x):=by rw[hj k (by omega),List.getElem?_map,hx];rfl
   have q1:wr.cell? ⟨g2,off2+k,none⟩=some (.int .i64 y):=by rw[hj2 k (by omega),List.getElem?_map,hy];rfl
   obtain⟨z0,z1,z2,z2'⟩:=bZ hlt;clear hj hj2 e3 e4 e5 e6;by_cases hxy:x=y
   .subst hxy;have HC2:Hid (∀j,j<k+1->p[j]?=q[j]?):=ah (fun j h=>by
     rcases Nat.lt_succ_iff_lt_or_eq.1 h with h|h
     .exact HC.out j h
     .rw [h,hx,hy])
    clear hx hy HC
    go_wp2_with fail
    go_quiet (fail)
    go_wp2_with fail
    go_roundg (p.length- (k+1))
    case measure=>omega
    case rel=>exact⟨k+1,by go_num,rfl,by omega,HC2,ah (HE.out.drewN' _)⟩
   .have t1:(x==y)=false:=beq_eq_false_iff_ne.2 hxy;have t2:decide (x=y)=false:=dF hxy;obtain rfl:Z=false:=by
     rw[HZ.out];refine dF (fun h=>hxy ?_);rw[h,hy] at hx;exact(Option.some.inj hx).symm
    clear hx hy HC hxy
    go_wp2_with fail
    go_quiet (fail)
    go_wp2_with fail
    go_ret;exact⟨rfl,HE.out.drewN' _⟩
  .obtain rfl:k=p.length:=by omega
   have z2:decide ((p.length:Int)< (p.length:Int))=false:=dF (by omega);obtain rfl:Z=true:=by
    rw[HZ.out];refine dT (List.ext_getElem? (fun j=>?_));by_cases hj:j<p.length
    .exact HC.out j hj
    .rw [List.getElem?_eq_none (by omega),List.getElem?_eq_none (by have:=HL.out;omega)]
   clear HC
   go_wp2_with fail
   go_ret;exact⟨rfl,HE.out⟩
theorem QE (l m:List Rx) (v u:Value) (R S R2 S2:Nat->Prop) (w:World) (hl:nK R S w v l) (hm:nK R2 S2 w u m) (hll:l.length<=1000000) (hpl: ∀x∈l,x.2.length<=1000000):
  Calls Tryz.prog 44 #[v,u] w fun e w'=>e= .returned (.bool (decide (l=m)))/\Ext w w':=by
 have HP:=ah hl;have HQ:=ah hm;have nS:=ah hpl;obtain⟨a,c,rfl⟩:=hl.shape;obtain⟨b,d,rfl⟩:=hm.shape;obtain⟨Z,hZ⟩: ∃Z,decide (l=m)=Z:=⟨_,rfl⟩
 rw[hZ];have HZ:=ah hZ.symm;have H0:Hid (Ext w w):=ah (aC.refl _ _);clear hl hm hZ hpl;by_cases hl:l.length=m.length
 rotate_left
 .have e1:((l.length:Int)==(m.length:Int))=false:=beq_eq_false_iff_ne.2 (by omega);have e2:decide ((l.length:Int)=(m.length:Int))=false:=dF (by omega);obtain rfl:Z=false:=by rw[HZ.out];exact dF (fun h=>hl (by rw[h]))
  clear hl HP HQ
  go_enter Tryz.func44,Tryz.ntmps44
  go_wp2_with fail
  go_ret;exact⟨rfl,H0.out⟩
 have HL:=ah hl.symm;rw[HL.out];clear hl
 go_enter Tryz.func44,Tryz.ntmps44
 go_wp2_with fail
 go_loopg [5] l.length (fun gk iv wr=> ∃k:Nat,iv= .int .i64 (k:Int)/\gk=l.length-k/\k<=l.length/\Hid (∀j,j<k->l[j]?=m[j]?)/\Hid (Ext w wr))
 case atStart=>exact⟨0,rfl,rfl,Nat.zero_le _,ah (fun j h=>absurd h (Nat.not_lt_zero _)),H0⟩
 case round=>
  obtain⟨k,rfl,rfl,hk,HC,HE⟩:=hrel;by_cases hlt:k<l.length
  .have hlq:k<m.length:=by have:=HL.out;omega
   obtain⟨g,off,e,_,hj⟩:=(HP.out.ext HE.out).at_ (by omega);subst e;obtain⟨g2,off2,e,_,hj2⟩:=(HQ.out.ext HE.out).at_ (by omega);subst e;obtain⟨ka,kc,q0,q1,hk1⟩:=hj k hlt;obtain⟨ma,mc,q2,q3,hk2⟩:=hj2 k hlq;have hxm:=nS.out _ (agb hlt);have hx0:l[k]?=some (xg l k):=by rw[QF hlt];exact List.getElem?_eq_getElem hlt
   have hy0:m[k]?=some (xg m k):=by rw[QF hlq];exact List.getElem?_eq_getElem hlq
   obtain⟨⟨i,p⟩,hx⟩: ∃x,xg l k=x:=⟨_,rfl⟩
   obtain⟨⟨j,q⟩,hy⟩: ∃x,xg m k=x:=⟨_,rfl⟩
   rw[hx] at q0 q1 hk1 hxm hx0;rw[hy] at q2 q3 hk2 hy0;simp only at q0 q1 q2 q3 hk1 hk2 hxm;have HF:=ah (fun W (hW:Ext wr W)=>Yc p q _ _ _ _ W (hk1.kept hW (fun _ _ h=>h)) (hk2.kept hW (fun _ _ h=>h)) hxm);obtain⟨z0,z1,z2,z2'⟩:=bZ hlt;clear hj hj2 hx hy hk1 hk2 hxm;have HX0:=ah hx0;have HY0:=ah hy0;clear hx0 hy0;have xq0:=fun x:XW wr=>x.ext.cell q0 (fun h=>h);have xq1:=fun x:XW wr=>x.ext.cell q1 (fun h=>h);have xq2:=fun x:XW wr=>x.ext.cell q2 (fun h=>h);have xq3:=fun x:XW wr=>x.ext.cell q3 (fun h=>h);have hrf:=uR wr;obtain⟨b1,hb1⟩: ∃b,decide (p=q)=b:=⟨_,rfl⟩
   have HB1:=ah hb1;rw[hb1] at HF;clear hb1 q0 q1 q2 q3;by_cases hij:i=j
   .subst hij;cases b1 with
    |true=>
     have HC2:Hid (∀j,j<k+1->l[j]?=m[j]?):=ah (fun j h=>by
      rcases Nat.lt_succ_iff_lt_or_eq.1 h with h|h
      .exact HC.out j h
      .rw [h,HX0.out,HY0.out,of_decide_eq_true HB1.out])
     clear HC
     go_wp2_with fail
     refine dw wr (by assumption) (by kernel_rfl) (by kernel_rfl) ?_
     repeat (first|go_big_quiet_skip|(go_big_quiet_want;go_big_quiet_op;first|go_big_quiet_on|(apply Exists.intro;refine⟨fun x=>?_,?_⟩;((go_at_call 113;with_reducible exact XW.call (HF.out x.val x.ext)));go_big_quiet_on)))
     refine wpQuiet_nil ?_;rintro w8 ⟨⟨_,gu⟩,rfl⟩
     try dsimp only
     have H8:=ah (HE.out.trans gu)
     go_wp2_with fail
     go_roundg (l.length- (k+1))
     case measure=>omega
     case rel=>exact⟨k+1,by go_num,rfl,by omega,HC2,H8⟩
    |false=>
     obtain rfl:Z=false:=by
      rw[HZ.out];refine dF (fun h=>?_);have h1:=HX0.out;rw[h,HY0.out] at h1;injection h1 with h1
      injection h1 with _ h1
      exact of_decide_eq_false HB1.out h1.symm
     go_wp2_with fail
     refine dw wr (by assumption) (by kernel_rfl) (by kernel_rfl) ?_
     repeat (first|go_big_quiet_skip|(go_big_quiet_want;go_big_quiet_op;first|go_big_quiet_on|(apply Exists.intro;refine⟨fun x=>?_,?_⟩;((go_at_call 113;with_reducible exact XW.call (HF.out x.val x.ext)));go_big_quiet_on)))
     refine wpQuiet_nil ?_;rintro w8 ⟨⟨_,gu⟩,rfl⟩
     try dsimp only
     have H8:=ah (HE.out.trans gu)
     go_wp2_with fail
     all_goals go_ret
     all_goals exact⟨rfl,H8.out⟩
   .have t1:(i==j)=false:=beq_eq_false_iff_ne.2 hij;have t3:(i !=j)=true:=bne_iff_ne.2 hij;have t2:decide (i=j)=false:=dF hij;obtain rfl:Z=false:=by
     rw[HZ.out];refine dF (fun h=>?_);have h1:=HX0.out;rw[h,HY0.out] at h1;injection h1 with h1
     injection h1 with h1 _
     exact hij h1.symm
    go_wp2_with fail
    refine dw wr (by assumption) (by kernel_rfl) (by kernel_rfl) ?_
    repeat (first|go_big_quiet_skip|(go_big_quiet_want;go_big_quiet_op;first|go_big_quiet_on|(apply Exists.intro;refine⟨fun x=>?_,?_⟩;((go_at_call 113;with_reducible exact XW.call (HF.out x.val x.ext)));go_big_quiet_on)))
    refine wpQuiet_nil ?_;rintro w8 ⟨⟨_,gu⟩,rfl⟩
    try dsimp only
    have H8:=ah (HE.out.trans gu)
    go_wp2_with fail
    all_goals go_ret
    all_goals exact⟨rfl,H8.out⟩
  .obtain rfl:k=l.length:=by omega
   have z2:decide ((l.length:Int)< (l.length:Int))=false:=dF (by omega);obtain rfl:Z=true:=by
    rw[HZ.out];refine dT (List.ext_getElem? (fun j=>?_));by_cases hj:j<l.length
    .exact HC.out j hj
    .rw [List.getElem?_eq_none (by omega),List.getElem?_eq_none (by have:=HL.out;omega)]
   clear HC
   go_wp2_with fail
   go_ret;exact⟨rfl,HE.out⟩
def AtR (S:Nat->Prop) (w:World) (t:Tm) (p:List Int) (e:Ending):Prop:=
 (g_ t p=none/\e= .returned (.tuple #[.agg #[.string ⟨#[]⟩,.string ⟨#[]⟩,.slice none 0 0],.bool false]))\/∃x r,g_ t p=some x/\e= .returned (.tuple #[tV x r,.bool true])/\aI S w x.kids r
theorem agh (t:Tm) (p:List Int) (tv pv:Value) (S T:Nat->Prop) (w:World) (hT:bQ S w t tv) (hS: ∀k,S k->k<w.heap.size) (hP:rV T w pv p) (hTB: ∀k,T k->k<w.heap.size) (hl:p.length<=1000000):
  Calls Tryz.prog 175 #[tv,pv] w fun e w'=>AtR S w' t p e/\Ext w w':=by
 have HP:=ah hP;obtain⟨pa,pc,rfl⟩:=hP.shape;obtain⟨a,cap,rfl,hTL⟩:=hT;have hZ:=((uR w).alloc (tO t a cap)).alloc zO;have HZ:=ah hZ;have dH:=ah (hTL.ext hZ);have HB0:=ah (aB (ay w (tO t a cap)) zO);have HB1:=ah (alloc_at (w.alloc (tO t a cap)) zO (n:=w.heap.size+1) (by simp));have hz2:w.heap.size+2<=((w.alloc (tO t a cap)).alloc zO).heap.size:=by simp
 have HZ2:=ah hz2;have xQ:=ah hS;have Tn:=ah hTB;clear hP hTL hZ hz2 hS hTB;dsimp only[tV]
 go_enter Tryz.func175,Tryz.ntmps175
 go_wp2_with fail
 generalize ((w.alloc (tO t a cap)).alloc zO)=w1 at*
 go_loopg [6] p.length (fun gk iv wr=> ∃(k:Nat) (x:Tm) (xa:Option Addr) (xc:Nat),iv= .int .i64 (k:Int)/\gk=p.length-k/\k<=p.length/\Hid (g_ t p=g_ x (p.drop k))/\Hid (wr.heap[w.heap.size]?=some (tO x xa xc))/\Hid (wr.heap[w.heap.size+1]?=some zO)/\Hid (aI S wr x.kids (.slice xa x.kids.length xc))/\Hid (Ext w wr)/\Hid (w.heap.size+2<=wr.heap.size))
 case atStart=>exact⟨0,t,a,cap,rfl,rfl,Nat.zero_le _,ah rfl,HB0,HB1,dH,HZ,HZ2⟩
 case round=>
  clear dH HZ HZ2 HB0 HB1;obtain⟨k,x,xa,xc,rfl,rfl,hk,HS,HB0,HB1,HX,HE,HZ2⟩:=hrel;obtain⟨x0,x1,x2⟩:=ak HB0.out;have f1:=fun i=>aA HB0.out i;by_cases hlt:k<p.length
  .obtain ⟨g,off,hga,hTg,hat⟩:=aG.Ef (d:=(0:Int)) (aG.kept HP.out HE.out (fun _ _ h=>h)) (by omega);subst hga;have q0:=hat k hlt;have hgw:=Tn.out _ hTg;obtain⟨z0,z1,z2,z2'⟩:=bZ hlt;have hd:p.drop k=p.getD k 0::p.drop (k+1):=by
    rw[List.drop_eq_getElem_cons hlt,List.getD_eq_getElem?_getD,List.getElem?_eq_getElem hlt];rfl
   have hs:=HS.out;rw[hd,wR] at hs;have HS2:=ah hs;obtain⟨i,hi⟩: ∃i,p.getD k 0=i:=⟨_,rfl⟩
   rw[hi] at q0 HS2;have hTL:=HX.out;clear hat hd hs hi HS HX hTg f1;by_cases hi0:i<0
   .have HV:Hid (g_ t p=none):=ah (by rw[HS2.out,if_pos (.inl hi0)]);have y1:decide (i<0)=true:=dT hi0
    go_wp2_with fail
    go_quiet (fail)
    have hD:=(uR wr).drewN' nq;have FD:=ah (HE.out.trans hD);have QG:=ah (hD.heap HB0.out (fun h=>h));have CJ:=ah (hD.heap HB1.out (fun h=>h));have HTD:=ah (hTL.ext hD);have q0D:=hD.cell q0 (fun h=>h);have HZD:=ah (Nat.le_trans HZ2.out hD.size);clear hD HE HB0 HB1 hTL x0 x1 x2 q0;generalize wr.drewN nq=wd at*;have f2:=fun i=>aA CJ.out i;obtain⟨d0,d1,d2⟩:=ak CJ.out
    go_wp2_with fail
    have hr3:=aN CJ.out (.string ⟨#[]⟩) (.string ⟨#[]⟩) (.slice none 0 0);have hu:=aK wd (w.heap.size+1) (.string ⟨#[]⟩) (.string ⟨#[]⟩) (.slice none 0 0);obtain⟨e0,e1,e2⟩:=ak hr3;refine bodyPost_ret (v:= .tuple #[.agg #[.string ⟨#[]⟩,.string ⟨#[]⟩,.slice none 0 0],.bool false]) (by simp[results,Tryz.results175,go_sem,e0,e1,e2]) rfl ?_;have hue:=FD.out.trans' hu (fun j hj e=>by omega);exact⟨.inl ⟨HV.out,rfl⟩,hue⟩
   have y1:decide (i<0)=false:=dF hi0;by_cases hi1:(x.kids.length:Int)<=i
   .have HV:Hid (g_ t p=none):=ah (by rw[HS2.out,if_pos (.inr hi1)]);have y2:decide ((x.kids.length:Int)<=i)=true:=dT hi1
    go_wp2_with fail
    go_quiet (fail)
    have hD:=(uR wr).drewN' nq;have FD:=ah (HE.out.trans hD);have QG:=ah (hD.heap HB0.out (fun h=>h));have CJ:=ah (hD.heap HB1.out (fun h=>h));have HTD:=ah (hTL.ext hD);have q0D:=hD.cell q0 (fun h=>h);have HZD:=ah (Nat.le_trans HZ2.out hD.size);clear hD HE HB0 HB1 hTL x0 x1 x2 q0;generalize wr.drewN nq=wd at*;have f2:=fun i=>aA CJ.out i;obtain⟨d0,d1,d2⟩:=ak CJ.out
    go_wp2_with fail
    have hr3:=aN CJ.out (.string ⟨#[]⟩) (.string ⟨#[]⟩) (.slice none 0 0);have hu:=aK wd (w.heap.size+1) (.string ⟨#[]⟩) (.string ⟨#[]⟩) (.slice none 0 0);obtain⟨e0,e1,e2⟩:=ak hr3;refine bodyPost_ret (v:= .tuple #[.agg #[.string ⟨#[]⟩,.string ⟨#[]⟩,.slice none 0 0],.bool false]) (by simp[results,Tryz.results175,go_sem,e0,e1,e2]) rfl ?_;have hue:=FD.out.trans' hu (fun j hj e=>by omega);exact⟨.inl ⟨HV.out,rfl⟩,hue⟩
   have y2:decide ((x.kids.length:Int)<=i)=false:=dF hi1;have HV:Hid (g_ t p=g_ (tg x.kids i.toNat) (p.drop (k+1))):=ah (by rw[HS2.out,if_neg (by omega)]);obtain⟨j,rfl⟩: ∃j:Nat,i=(j:Int):=⟨i.toNat,by omega⟩
   have hjn:((j:Int)).toNat=j:=by omega
   rw[hjn] at HV;have hj:j<x.kids.length:=by omega
   have u0:(0:Int)<=(j:Int):=by omega
   have u1:(j:Int)< (x.kids.length:Int):=by omega
   go_wp2_with fail
   go_quiet (fail)
   have hD:=(uR wr).drewN' nq;have FD:=ah (HE.out.trans hD);have QG:=ah (hD.heap HB0.out (fun h=>h));have CJ:=ah (hD.heap HB1.out (fun h=>h));have HTD:=ah (hTL.ext hD);have q0D:=hD.cell q0 (fun h=>h);have HZD:=ah (Nat.le_trans HZ2.out hD.size);clear hD HE HB0 HB1 hTL x0 x1 x2 q0;generalize wr.drewN nq=wd at*;have c7:True:=trivial;obtain⟨g2,off2,BH,hSg,yF⟩:=HTD.out.at_ (by omega);subst BH;have hgs:=xQ.out _ hSg;obtain⟨ya,yc,r0,r1,r2,hy⟩:=yF j hj;rw[<-Nat.add_assoc] at r1 r2;obtain⟨y,Ui⟩: ∃y,tg x.kids j=y:=⟨_,rfl⟩
   rw[Ui] at r0 r1 r2 hy HV;obtain⟨x0,x1,x2⟩:=ak QG.out;have f1:=fun i=>aA QG.out i;have HY:=ah hy;clear yF Ui hy HS2 hi0 hi1 hjn HTD
   go_wp2_with fail
   go_still_tail 8,(by kernel_rfl)
   change wpList _ _ _ _ _ wd.drew
   go_wp2_with fail
   have hu:=aK wd w.heap.size (.string y.name) (.string y.sort) (.slice ya y.kids.length yc);have hr:=aN QG.out (.string y.name) (.string y.sort) (.slice ya y.kids.length yc);have hu2:=hu.drewN' 1;have bW:=ah (FD.out.trans' hu2 (fun j hj e=>by omega));have aly:=ah (((uR _).drewN' 1).heap hr (fun h=>h));have EP:=ah (hu2.heap CJ.out (by omega));have xP:=ah (HY.out.kept hu2 (fun j hj e=>by have:=xQ.out _ hj;omega));have QH:=ah (Nat.le_trans HZD.out hu2.size)
   go_roundg (p.length- (k+1))
   case measure=>omega
   case rel=>exact⟨k+1,y,ya,yc,by go_num,rfl,by omega,HV,aly,EP,xP,bW,QH⟩
  .obtain rfl:k=p.length:=by omega
   have z2:decide ((p.length:Int)< (p.length:Int))=false:=dF (by omega);have HV:Hid (g_ t p=some x):=ah (by rw[HS.out,List.drop_length];rfl);have f2:=fun i=>aA HB1.out i;obtain⟨d0,d1,d2⟩:=ak HB1.out
   go_wp2_with fail
   have hr3:=aN HB1.out (.string x.name) (.string x.sort) (.slice xa x.kids.length xc);have hu:=aK wr (w.heap.size+1) (.string x.name) (.string x.sort) (.slice xa x.kids.length xc);obtain⟨e0,e1,e2⟩:=ak hr3;refine bodyPost_ret (v:= .tuple #[.agg #[.string x.name,.string x.sort,.slice xa x.kids.length xc],.bool true]) (by simp[results,Tryz.results175,go_sem,e0,e1,e2]) rfl ?_;have hue:=HE.out.trans' hu (fun j hj e=>by omega);exact⟨.inr ⟨x,.slice xa x.kids.length xc,HV.out,rfl,HX.out.kept hu (fun j hj e=>by have:=xQ.out _ hj;omega)⟩,hue⟩
theorem Ye (t:Tm) (v:Value) (S:Nat->Prop) (w:World) (hT:bQ S w t v):
  Calls Tryz.prog 178 #[v] w fun e w'=>e= .returned (.bool (formed aJ t))/\Ext w w':=by
 have hsf:=qo (nm:=aJ) t;have hSM:=fun W (hW:Ext w W)=>AA t 1 1000 v _ W (hT.ext hW) (by decide) (by decide) (by decide);obtain⟨sm,hsm⟩: ∃s,small aJ 1 1000 t=s:=⟨_,rfl⟩
 rw[hsm] at hsf;simp only[hsm] at hSM;rw[hsf];have sQ:=ah hSM;obtain⟨a,cap,rfl,hTL⟩:=hT;have hE:=(uR w).alloc (tO t a cap);have HE:=ah hE;have hb:=ay w (tO t a cap);obtain⟨x0,x1,x2⟩:=ak hb;dsimp only[tV] at sQ⊢;clear hE hb hTL hSM hsf hsm
 go_enter Tryz.func178,Tryz.ntmps178
 go_wp2_with fail
 refine(sQ.out _ HE.out).mono ?_;rintro e w4 ⟨rfl,hw4⟩;have H4:=ah (HE.out.trans hw4);clear hw4 sQ x0 x1 x2
 go_wp2_with fail
 go_ret;exact⟨rfl,H4.out⟩
def wG (r:Rl) (u:Tm):Tm×Bool:=match jT r.1 u [] with
 |none=>(cZ,false)
 |some B=>if(bI B r.2).size<=1000/\1+(bI B r.2).depth<=61 then(bI B r.2,true) else(cZ,true)
theorem agi (x y u:Tm) (xa ya:Option Addr) (xc yc:Nat) (uv:Value) (w:World) (h1:aI (fun k=>k<w.heap.size) w x.kids (.slice xa x.kids.length xc)) (h2:aI (fun k=>k<w.heap.size) w y.kids (.slice ya y.kids.length yc)) (hU:bQ (fun k=>k<w.heap.size) w u uv) (hnx:vH x) (hny:vH y) (hsx:x.size<=100000) (hsy:y.size<=100000) (hsu:u.size<=100000):
  Calls Tryz.prog 176 #[.agg #[.string x.name,.string x.sort,.slice xa x.kids.length xc,.string y.name,.string y.sort,.slice ya y.kids.length yc],uv] w fun e w'=> ∃r,e= .returned (.tuple #[tV (wG (x,y) u).1 r,.bool (wG (x,y) u).2])/\aI (fun k=>w.heap.size<=k/\k<w'.heap.size) w' (wG (x,y) u).1.kids r/\Ext w w':=by
 obtain⟨Z,hZ⟩: ∃Z,wG (x,y) u=Z:=⟨_,rfl⟩
 rw[hZ];have hvl:(dJ x).length<=100000:=Nat.le_trans (Uj x) hsx;have HM:=ah (fun W (hW:Ext w W)=>MV hvl x u (tV x (.slice xa x.kids.length xc)) uv (.slice none 0 0) [] W ⟨xa,xc,rfl,(h1.ext hW).weaken (fun k hk=>aF hk hW.size)⟩ ((hU.ext hW).weaken (fun k hk=>aF hk hW.size)) (iM.nil _ _ _) (by omega) hsu hnx (fun f hf=>hf) (qP.nil _ _));have HCI:=ah (fun C (hC:jT x u []=some C)=>(Bj (X:=dJ x) (Y:=fun t=>t.size<=100000) (fun t x h hx=>Nat.le_trans (Nat.le_of_lt (vW hx)) h) x u [] C hC hnx (fun f hf=>hf) hsu (qP.nil _ _)).1);have uf:=ah (fun C (hI:qP (dJ x) (fun t=>t.size<=100000) C) (vB:Value) W (hW:Ext w W) (hB:iM (fun k=>k<W.heap.size) (fun k=>k<W.heap.size) W vB C)=>ac_ C vB _ _ W (ah hB) (ah (fun k hk=>hk)) (ah (by have:=TF hI;omega)) (ah hI.val) y (tV y (.slice ya y.kids.length yc)) (fun k=>k<w.heap.size) W 1 1000 (aC.refl _ _) ⟨ya,yc,rfl,h2.ext hW⟩ (fun k hk=>aF hk hW.size) hsy hny (by decide) (by decide));have hzz:Z=match jT x u [] with
  |none=>(cZ,false)
  |some B=>if(bI B y).size<=1000/\1+(bI B y).depth<=61 then(bI B y,true) else(cZ,true):=hZ.symm
 obtain⟨o,ho⟩: ∃o,jT x u []=o:=⟨_,rfl⟩
 rw[ho] at hzz HM HCI;have HZ:=ah hzz;obtain⟨ua,uc,rfl,FH⟩:=hU;have hE1:=(((uR w).alloc (.cells #[.string x.name,.string x.sort,.slice xa x.kids.length xc,.string y.name,.string y.sort,.slice ya y.kids.length yc] 146)).alloc (tO u ua uc)).alloc zO;have pq:=ah hE1;have HB0:=ah (aB (aB (ay w (.cells #[.string x.name,.string x.sort,.slice xa x.kids.length xc,.string y.name,.string y.sort,.slice ya y.kids.length yc] 146)) (tO u ua uc)) zO);have HB1:=ah (aB (alloc_at (w.alloc (.cells #[.string x.name,.string x.sort,.slice xa x.kids.length xc,.string y.name,.string y.sort,.slice ya y.kids.length yc] 146)) (tO u ua uc) (n:=w.heap.size+1) (by simp)) zO);have HB2:=ah (alloc_at ((w.alloc (.cells #[.string x.name,.string x.sort,.slice xa x.kids.length xc,.string y.name,.string y.sort,.slice ya y.kids.length yc] 146)).alloc (tO u ua uc)) zO (n:=w.heap.size+2) (by simp));have hz3:w.heap.size+3<=(((w.alloc (.cells #[.string x.name,.string x.sort,.slice xa x.kids.length xc,.string y.name,.string y.sort,.slice ya y.kids.length yc] 146)).alloc (tO u ua uc)).alloc zO).heap.size:=by simp
 have nJ:=ah hz3;obtain⟨x0,x1,x2,x3,x4,x5⟩:=fA HB0.out;obtain⟨y0,y1,y2⟩:=ak HB1.out;dsimp only[tV] at HM uf⊢;clear hzz hZ ho h1 h2 FH hE1 hz3 hvl
 go_enter Tryz.func176,Tryz.ntmps176
 go_wp2_with fail
 generalize (((w.alloc (.cells #[.string x.name,.string x.sort,.slice xa x.kids.length xc,.string y.name,.string y.sort,.slice ya y.kids.length yc] 146)).alloc (tO u ua uc)).alloc zO)=w1 at*;refine(HM.out _ pq.out).mono ?_;rintro e w3 ⟨r,rfl,hC,hw3⟩;have aY:=ah (pq.out.trans hw3);have rF:=ah (hw3.heap HB0.out (fun h=>h));have eH:=ah (hw3.heap HB2.out (fun h=>h));have fU:=ah (Nat.le_trans nJ.out hw3.size);clear hw3 HM pq HB0 HB1 HB2 nJ x0 x1 x2 x3 x4 x5 y0 y1 y2;cases o with
 |none=>
  obtain rfl:Z=(cZ,false):=HZ.out;simp only[Option.isSome_none];clear hC HCI uf;have f2:=fun i=>aA eH.out i;obtain⟨d0,d1,d2⟩:=ak eH.out
  go_wp2_with fail
  have hr3:=aN eH.out (.string ⟨#[]⟩) (.string ⟨#[]⟩) (.slice none 0 0);have hu:=aK w3 (w.heap.size+2) (.string ⟨#[]⟩) (.string ⟨#[]⟩) (.slice none 0 0);obtain⟨e0,e1,e2⟩:=ak hr3;refine bodyPost_ret (v:= .tuple #[.agg #[.string ⟨#[]⟩,.string ⟨#[]⟩,.slice none 0 0],.bool false]) (by simp[results,Tryz.results176,go_sem,e0,e1,e2]) rfl ?_;have hue:=aY.out.trans' hu (fun j hj e=>by omega);exact⟨.slice none 0 0,rfl,aI.nil _ _,hue⟩
 |some C=>
  have hB:=hC C rfl;have HP:=uf.out C (HCI.out C rfl) r w3 aY.out hB;obtain⟨ra,rc,hr⟩:=hB.shape;subst hr;have HPP:=ah HP;simp only[Option.isSome_some];obtain⟨z,hz⟩: ∃z,bI C y=z:=⟨_,rfl⟩
  have hz1:Z=if z.size<=1000/\1+z.depth<=61 then(z,true) else(cZ,true):=by rw[<-hz];exact HZ.out
  rw[hz] at HPP;have HZ1:=ah hz1;clear HP hC HCI uf hB hz HZ hz1;obtain⟨x0,x1,x2,x3,x4,x5⟩:=fA rF.out
  go_wp2_with fail
  refine HPP.out.mono ?_;rintro e w4 ⟨q,qa,qc,rr,rfl,hQ,hw4⟩;have hX:=hw4.alloc (tO q qa qc);have bW:=ah (aY.out.trans hX);have gV:=ah (hX.heap eH.out (fun h=>h));have HN:=ah (ay w4 (tO q qa qc));have gW:Hid (w.heap.size+3<=w4.heap.size):=ah (Nat.le_trans fU.out hw4.size);have HQP:=ah hQ;clear hw4 hX HPP aY rF eH x0 x1 x2 x3 x4 x5 hQ;by_cases hf:z.size<=1000/\1+z.depth<=61
  rotate_left
  .obtain rfl:Z=(cZ,true):=by rw[HZ1.out,if_neg hf]
   have hr0:=HQP.out.2 hf;have t1:decide (rr<0)=true:=dT hr0;have f2:=fun i=>aA gV.out i;obtain⟨d0,d1,d2⟩:=ak gV.out
   go_wp2_with fail
   have hr3:=aN gV.out (.string ⟨#[]⟩) (.string ⟨#[]⟩) (.slice none 0 0);have hu:=aK (w4.alloc (tO q qa qc)) (w.heap.size+2) (.string ⟨#[]⟩) (.string ⟨#[]⟩) (.slice none 0 0);obtain⟨e0,e1,e2⟩:=ak hr3;refine bodyPost_ret (v:= .tuple #[.agg #[.string ⟨#[]⟩,.string ⟨#[]⟩,.slice none 0 0],.bool true]) (by simp[results,Tryz.results176,go_sem,e0,e1,e2]) rfl ?_;have hue:=bW.out.trans' hu (fun j hj e=>by omega);exact⟨.slice none 0 0,rfl,aI.nil _ _,hue⟩
  obtain⟨rfl,hrr,B,hTO,WR⟩:=HQP.out.1 hf;obtain rfl:Z=(q,true):=by rw[HZ1.out,if_pos hf]
  have hr0: ¬rr<0:=by omega
  have t1:decide (rr<0)=false:=dF hr0;have t_:=ah (aP.read hTO);have jD:=ah WR;clear hTO WR hrr HQP HZ1;have T_:=((uR w4).alloc (tO q qa qc))
  have HTQ:Hid (aI (fun k=>w.heap.size+3<=k/\k< (w4.alloc (tO q qa qc)).heap.size) (w4.alloc (tO q qa qc)) q.kids (.slice qa q.kids.length qc)):=ah ((t_.out.ext T_).weaken (fun k hk=>⟨Nat.le_trans fU.out (jD.out k hk).1,aF (jD.out k hk).2 T_.size⟩));clear T_ t_ jD fU;dsimp only;obtain⟨nb,hnb⟩: ∃n,w4.heap.size=n:=⟨_,rfl⟩
  rw[hnb] at HN gW;obtain⟨m0,m1,m2⟩:=ak HN.out;have f2:=fun i=>aA gV.out i;obtain⟨d0,d1,d2⟩:=ak gV.out
  go_wp2_with fail
  try rw[hnb]
  generalize w4.alloc (tO q qa qc)=w5 at*;clear hnb;have hr3:=aN gV.out (.string q.name) (.string q.sort) (.slice qa q.kids.length qc);have hu:=aK w5 (w.heap.size+2) (.string q.name) (.string q.sort) (.slice qa q.kids.length qc);obtain⟨e0,e1,e2⟩:=ak hr3;refine bodyPost_ret (v:= .tuple #[.agg #[.string q.name,.string q.sort,.slice qa q.kids.length qc],.bool true]) (by simp[results,Tryz.results176,go_sem,e0,e1,e2]) rfl ?_;have hue:=bW.out.trans' hu (fun j hj e=>by omega);have hk:=(HTQ.out.kept hu (fun j hj e=>by omega)).weaken (fun j hj=>(⟨by omega,aF hj.2 hu.size⟩:w.heap.size<=j/\j<_));exact⟨.slice qa q.kids.length qc,rfl,hk,hue⟩
theorem agm {te:TypeId} {b:Nat} {w:World} {L:List Tm} {us:List Value} {i:Nat} {y:Tm} {u:Value} {S T:Nat->Prop} {g c:Nat} (hl:us.length=L.length) (hown:w.ownsRow b te 3 (.slice (some ⟨g,0,none⟩) L.length c) L.length (dI L us))
  (hk: ∀j,j<L.length->aI S w (tg L j).kids (ug us j)) (hi:i<L.length) (hy:aI T w y.kids u) (hS: ∀k,S k->k≠g) (hT: ∀k,T k->k≠g):
  aI (fun k=>k=g\/S k\/T k) (gK w (g,i*3) y.name y.sort u) (L.set i y) (.slice (some ⟨g,0,none⟩) L.length c):=by
 have hU:=vX w (g,i*3) y.name y.sort u;have hown2:(gK w (g,i*3) y.name y.sort u).ownsRow b te 3 (.slice (some ⟨g,0,none⟩) L.length c) L.length (dI (L.set i y) (us.set i u)):=by
  rw[<-CO L us i y u hl hi];exact wH (wH (wH hown _ _) _ _) _ _
 refine .mk _ (us.set i u) _ (by simp[hl]) (by rw[List.length_set];exact(aG.fM hown2).weaken (fun k hk=> .inl (by injection hk with hk;exact hk.symm))) (fun j hj=>?_);rw[List.length_set] at hj;rw[QI L i j y hi,Yf us i j u (by omega)];by_cases hij:i=j
 .rw [if_pos hij,if_pos hij];exact(hy.kept hU (fun k hk e=>hT k hk e)).weaken (fun k hk=> .inr (.inr hk))
 .rw [if_neg hij,if_neg hij];exact((hk j hj).kept hU (fun k hk e=>hS k hk e)).weaken (fun k hk=> .inr (.inl hk))
theorem Ho: ∀(L:List Tm) (us:List Value),(∀j,j<L.length->∃a n c,ug us j= .slice a n c)->∀v∈dI L us,v.oneCell'=true
 |[],_,_,v,h=>by cases h
 |t::L,us,hs,v,h=>by
  unfold dI at h;rcases List.mem_cons.1 h with rfl|h
  .rfl
  rcases List.mem_cons.1 h with rfl|h
  .rfl
  rcases List.mem_cons.1 h with rfl|h
  .obtain ⟨a,n,c,e⟩:=hs 0 (by simp);cases us with
   |nil=>rfl
   |cons x us=>
    have e:x= .slice a n c:=by simpa[ug] using e
    subst e;rfl
  .refine Ho L us.tail (fun j hj=>?_) v h;obtain⟨a,n,c,e⟩:=hs (j+1) (by simpa using hj);refine⟨a,n,c,?_⟩;rw[<-e];cases us with
   |nil=>rfl
   |cons x us=>rfl
theorem adp (u:Tm): ∀(p:List Nat) (t:Tm) (tv pv uv:Value) (S:Nat->Prop) (w:World),bQ S w t tv->bQ S w u uv->(∀k,S k->k<w.heap.size)->aG (fun k=>k<w.heap.size) w 1 pv p.length (p.map fun i:Nat=>Value.int .i64 (i:Int))->qM t p->t.size<=100000->p.length<=1000000->
  Calls Tryz.prog 177 #[tv,pv,uv] w fun e w'=> ∃r,e= .returned (tV (putAt t p u) r)/\aI (fun k=>S k\/(w.heap.size<=k/\k<w'.heap.size)) w' (putAt t p u).kids r/\Ext w w':=by
 intro p
 induction p with
 |nil=>
  intro t tv pv uv S w hT hU hSS hP _ hsz hpl;obtain⟨pa,pc,rfl⟩:=hP.shape;obtain⟨a,cap,rfl,hTL⟩:=hT;obtain⟨ua,uc,rfl,FH⟩:=hU;have hE1:=(((uR w).alloc (tO t a cap)).alloc (tO u ua uc)).alloc zO;have pq:=ah hE1;have HB1:=ah (aB (alloc_at (w.alloc (tO t a cap)) (tO u ua uc) (n:=w.heap.size+1) (by simp)) zO);have HB2:=ah (alloc_at ((w.alloc (tO t a cap)).alloc (tO u ua uc)) zO (n:=w.heap.size+2) (by simp));have hz3:w.heap.size+3<=(((w.alloc (tO t a cap)).alloc (tO u ua uc)).alloc zO).heap.size:=by simp
  have nJ:=ah hz3;have e4:putAt t [] u=u:=by cases t;rfl
  rw[e4];have wZ:=ah FH;obtain⟨y0,y1,y2⟩:=ak HB1.out;have f2:=fun i=>aA HB2.out i;obtain⟨d0,d1,d2⟩:=ak HB2.out;have zl:([]:List Nat).length=0:=rfl;rw[zl];clear hTL FH hE1 hz3 hP e4;dsimp only[tV]
  go_enter Tryz.func177,Tryz.ntmps177
  go_wp2_with fail
  have hE2:=(((uR w).alloc (tO t a cap)).alloc (tO u ua uc)).alloc (tO u ua uc);have hr3:=alloc_at ((w.alloc (tO t a cap)).alloc (tO u ua uc)) (tO u ua uc) (n:=w.heap.size+2) (by simp);obtain⟨e0,e1,e2⟩:=ak hr3;refine bodyPost_ret (v:= .agg #[.string u.name,.string u.sort,.slice ua u.kids.length uc]) (by simp[results,Tryz.results177,go_sem,e0,e1,e2]) rfl ?_;exact⟨.slice ua u.kids.length uc,rfl,(wZ.out.ext hE2).weaken (fun k hk=> .inl hk),hE2⟩
 |cons i p ihp=>
  intro t tv pv uv S w hT hU hSS hP hok hsz hpl;have iE:=ah hSS;have IH:=fun(W:World) (hW:Ext w W) (kv qv:Value) hk hq=>ihp (tg t.kids i) kv qv uv S W hk (hU.ext hW) (fun k hk=>aF (hSS k hk) hW.size) hq hok.2 (by have:=vW (bY t.kids i hok.1);omega) (by simp at hpl;omega);have HIH:=ah IH;have HP:=ah hP;have HI:=ah hok.1;obtain⟨pa,pc,rfl⟩:=hP.shape;obtain⟨a,cap,rfl,hTL⟩:=hT;obtain⟨ua,uc,rfl,FH⟩:=hU;have hE1:=((((uR w).alloc (tO t a cap)).alloc (tO u ua uc)).alloc zO).alloc (tO t a cap);have pq:=ah hE1;have HB0:=ah (aB (aB (aB (ay w (tO t a cap)) (tO u ua uc)) zO) (tO t a cap));have HB1:=ah (aB (aB (alloc_at (w.alloc (tO t a cap)) (tO u ua uc) (n:=w.heap.size+1) (by simp)) zO) (tO t a cap));have HB2:=ah (aB (alloc_at ((w.alloc (tO t a cap)).alloc (tO u ua uc)) zO (n:=w.heap.size+2) (by simp)) (tO t a cap));have HB3:=ah (alloc_at ((((w.alloc (tO t a cap)).alloc (tO u ua uc)).alloc zO)) (tO t a cap) (n:=w.heap.size+3) (by simp));have hz3:w.heap.size+4<=(((((w.alloc (tO t a cap)).alloc (tO u ua uc)).alloc zO)).alloc (tO t a cap)).heap.size:=by simp
  have nJ:=ah hz3;have dH:=ah hTL;have Py:=ah FH;have hx0:=(aB (aB (ay w (tO t a cap)) (tO u ua uc)) zO)
  obtain⟨x0,x1,x2⟩:=ak hx0;have z1:(((p.length+1:Nat):Int)==0)=false:=beq_eq_false_iff_ne.2 (by omega);have z2:decide (((p.length+1:Nat):Int)=0)=false:=dF (by omega);have hpl2:(i::p).length=p.length+1:=rfl;rw[hpl2];clear hTL FH hE1 hz3 hP hok IH hx0 hpl2;cases alz:dH.out with
  |mk _ us _ hl hsl hk=>
  have HSL:=ah hsl;have HKK:=ah hk;have alA:=ah hl;obtain⟨iT,hi,hz0,hz1,hz2⟩:=info_parts um;have hone:=Ho t.kids us (fun j hj=>by obtain⟨a,c,e⟩:=(hk j hj).shape;exact⟨a,_,c,e⟩);have kF:=ah hone;have uo:=((((((uR w).alloc (tO t a cap)).alloc (tO u ua uc)).alloc zO).alloc (tO t a cap)).alloc (.cells #[] 24))
  have dA:=ah uo;have HOWN:Hid (((((((w.alloc (tO t a cap)).alloc (tO u ua uc)).alloc zO).alloc (tO t a cap)).alloc (.cells #[] 24))).ownsRow w.heap.size 24 3 (.slice (some ⟨w.heap.size+1+1+1+1,0,none⟩) 0 0) 0 []):=ah (by
   have h:=World.ownsRow_lit (base:=w.heap.size) (e:=24) (size:=3) (((((w.alloc (tO t a cap)).alloc (tO u ua uc)).alloc zO).alloc (tO t a cap))) #[] 0 (by simp;omega) (by unfold maxLen;omega) (by simp);simpa using h)
  have hks:t.kids.length<=100000:=by have:=size_eq t;have:=bG t.kids;omega
  have HKS:=ah hks;clear alz hl hsl hk hone uo hks;dsimp only[tV]
  go_enter Tryz.func177,Tryz.ntmps177
  go_wp2_with(at_builtin;refine ji _ rfl (.tmp 13) (.tmp 15) 22 rfl w.heap.size 24 iT (.agg #[.string ⟨#[]⟩,.string ⟨#[]⟩,.slice none 0 0]) 3 56 Tryz.underlying22 hi hz0 hz1 hz2 rfl (by decide) _ _ _ rfl HOWN.out S (.slice a t.kids.length cap) t.kids.length (dI t.kids us) rfl (aG.kept HSL.out dA.out (fun _ _ h=>h)) kF.out ?c3 ?c4 dA.out.size ?_)
  case c3=>have:=HKS.out;unfold maxLen;omega
  case c4=>have:=HKS.out;omega
  intro v7 w7 hG;obtain⟨g,c7,anZ,hv7,hg7,hs7⟩:=qE hG.own (by have:=HI.out;omega);subst hv7;have hw5:(((((w.alloc (tO t a cap)).alloc (tO u ua uc)).alloc zO).alloc (tO t a cap)).alloc (.cells #[] 24)).heap.size=w.heap.size+5:=by simp
  have hge:w.heap.size+4<=g:=by
   rcases hG.uw with h|h
   .have h':g=w.heap.size+1+1+1+1:=by injection h
    omega
   .have h':g=(((((w.alloc (tO t a cap)).alloc (tO u ua uc)).alloc zO).alloc (tO t a cap)).alloc (.cells #[] 24)).heap.size:=by injection h
    omega
  have hF: ∀k,k<w.heap.size+4->¬(Value.slice (some ⟨w.heap.size+1+1+1+1,0,none⟩) 0 0).ownBlock=some k:=fun k hk e=>by
   have e':w.heap.size+1+1+1+1=k:=by injection e
   omega
  have hF2: ∀k,k<w.heap.size->¬(Value.slice (some ⟨w.heap.size+1+1+1+1,0,none⟩) 0 0).ownBlock=some k:=fun k hk e=>hF k (by omega) e;have hu:=hG.upd;have Af:=ah (hu.heap (aB HB0.out (.cells #[] 24)) (hF _ (by omega)));have Iy:=ah (hu.heap (aB HB1.out (.cells #[] 24)) (hF _ (by omega)));have CP:=ah (hu.heap (aB HB2.out (.cells #[] 24)) (hF _ (by omega)));have qZ:=ah (hu.heap (aB HB3.out (.cells #[] 24)) (hF _ (by omega)));have iG:=ah (dA.out.trans' hu (fun j hj e=>hF2 j hj e));have agn:=ah hG.own;have jO:=ah hge;have agp:Hid (w.heap.size+5<=w7.heap.size):=ah (Nat.le_trans (Nat.le_of_eq hw5.symm) hu.size);have f3:=fun i=>aA qZ.out i;obtain⟨m0,m1,m2⟩:=ak qZ.out;clear hG hu hF hF2 hge hw5 hg7 hs7 HB0 HB1 HB2 HB3 pq nJ HOWN hi hz0 hz1 hz2 x0 x1 x2
  go_upto_region 5 with fail
  clear m0 m1 m2 f3;have hst:w7.setCell ⟨w.heap.size+1+1+1,2,none⟩ (.slice (some ⟨g,0,none⟩) t.kids.length c7)=w7.setCell ⟨w.heap.size+3,2,none⟩ (.slice (some ⟨g,0,none⟩) t.kids.length c7):=rfl;rw[hst];have hv:=(aC.refl (fun k=>k=w.heap.size+3) w7).setCell (p:=⟨w.heap.size+3,2,none⟩) (.inl rfl) (.slice (some ⟨g,0,none⟩) t.kids.length c7);have hb:=setBlock qZ.out 2 (.slice (some ⟨g,0,none⟩) t.kids.length c7);have lY:Hid ((w7.setCell ⟨w.heap.size+3,2,none⟩ (.slice (some ⟨g,0,none⟩) t.kids.length c7)).heap[w.heap.size+3]?=some (.cells #[.string t.name,.string t.sort,.slice (some ⟨g,0,none⟩) t.kids.length c7] 24 (0,0))):=ah (by simpa using hb);have VB:=ah (hv.heap Af.out (by omega));have Ae:=ah (hv.heap Iy.out (by omega));have mY:=ah (hv.heap CP.out (by omega));have dG:=ah (iG.out.trans' hv (fun j hj e=>by omega));have agq:=ah (bH agn.out hv (fun k hk e=>by
   have h:g=k:=by injection hk
   have:=jO.out;omega))
  have agr:=ah (Nat.le_trans agp.out hv.size);clear hv hb hst qZ Af Iy CP iG agn agp;generalize w7.setCell ⟨w.heap.size+3,2,none⟩ (.slice (some ⟨g,0,none⟩) t.kids.length c7)=w8 at*;obtain⟨pg,CQ,pc',hpv,hpc,hpS,lS⟩:=aG.pos (aG.kept HP.out dG.out (fun _ _ h=>h)) (by simp);injection hpv with e1 e2 e3
  subst e1;subst e3;have q0:w8.cell? ⟨pg,CQ,none⟩=some (.int .i64 (i:Int)):=by have:=lS 0 (by simp);simpa using this
  have hqq:aG (fun k=>k<w.heap.size) w8 1 (.slice (if pc=1 then some ⟨pg,CQ,none⟩ else some ⟨pg,CQ+1,none⟩) p.length (pc-1)) p.length (p.map fun i:Nat=>Value.int .i64 (i:Int)):=by
   by_cases hc1:pc=1
   .rw [if_pos hc1];exact⟨by simp,.inr ⟨⟨pg,CQ,none⟩,pc-1,rfl,by simp at hpc;omega,fun _=>⟨rfl,hpS⟩,fun j hj=>by simp at hpc;omega⟩⟩
   .rw [if_neg hc1];exact⟨by simp,.inr ⟨⟨pg,CQ+1,none⟩,pc-1,rfl,by simp at hpc;omega,fun _=>⟨rfl,hpS⟩,fun j hj=>by
     have:=lS (j+1) (by simp;omega);show w8.cell? ⟨pg,CQ+1+j,none⟩=_;rw[show CQ+1+j=CQ+(j+1) by omega,this];simp⟩⟩
  have MZ:=ah hqq;obtain⟨kg,VD,hka,hkS,hat⟩:=(dH.out.ext dG.out).at_ (by have:=HI.out;omega);subst hka;obtain⟨xa,xc,r0,r1,r2,aW⟩:=hat i HI.out;rw[<-Nat.add_assoc] at r1 r2;have yH:=ah aW;obtain⟨y,Ui⟩: ∃y,tg t.kids i=y:=⟨_,rfl⟩
  have HYY:=ah Ui;rw[Ui] at r0 r1 r2 yH HIH;have hii:=HI.out;have u0:(0:Int)<=(i:Int):=by omega
  have u1:(i:Int)< (t.kids.length:Int):=by omega
  have u2:(1:Int)<=(p.length:Int)+1:=by omega
  have hx0: ∀x:XF (fun _=>False) w8,x.val.cell? ⟨w.heap.size,2,none⟩=some (.slice (some ⟨kg,VD,none⟩) t.kids.length cap):=fun x=>x.upd.cell (aj VB.out 2 _ rfl) (fun h=>h);have hx1: ∀x:XF (fun _=>False) w8,x.val.cell? ⟨w.heap.size+3,2,none⟩=some (.slice (some ⟨g,0,none⟩) t.kids.length c7):=fun x=>x.upd.cell (aj lY.out 2 _ rfl) (fun h=>h);have hx2: ∀x:XF (fun _=>False) w8,x.val.cell? ⟨pg,CQ,none⟩=some (.int .i64 (i:Int)):=fun x=>x.upd.cell q0 (fun h=>h);have hx3: ∀x:XF (fun _=>False) w8,x.val.cell? ⟨kg,VD+i*3,none⟩=some (.string y.name):=fun x=>x.upd.cell r0 (fun h=>h);have hx4: ∀x:XF (fun _=>False) w8,x.val.cell? ⟨kg,VD+i*3+1,none⟩=some (.string y.sort):=fun x=>x.upd.cell r1 (fun h=>h);have hx5: ∀x:XF (fun _=>False) w8,x.val.cell? ⟨kg,VD+i*3+2,none⟩=some (.slice xa y.kids.length xc):=fun x=>x.upd.cell r2 (fun h=>h);have hx6: ∀x:XF (fun _=>False) w8,x.val.cell? ⟨w.heap.size+1,0,none⟩=some (.string u.name):=fun x=>x.upd.cell (aj Ae.out 0 _ rfl) (fun h=>h);have hx7: ∀x:XF (fun _=>False) w8,x.val.cell? ⟨w.heap.size+1,1,none⟩=some (.string u.sort):=fun x=>x.upd.cell (aj Ae.out 1 _ rfl) (fun h=>h);have Tt: ∀x:XF (fun _=>False) w8,x.val.cell? ⟨w.heap.size+1,2,none⟩=some (.slice ua u.kids.length uc):=fun x=>x.upd.cell (aj Ae.out 2 _ rfl) (fun h=>h);clear lS hqq hat aW Ui q0 r0 r1 r2 e2 hpc hpS hkS;refine Dt [(0,0),(1,0),(2,0),(3,0),(4,0),(5,0),(6,0),(7,0),(8,0),(9,0),(10,0),(11,0),(12,0),(13,0),(14,0),(15,1),(16,2),(17,2)] 16 (fun W=> ∃x:XF (fun _=>False) w8,W=x.val) (by kernel_rfl) (by kernel_rfl) (fun _ _ d _ _ h=>by cases d<;>exact h) ⟨⟨_,(aC.refl _ w8).drew⟩,rfl⟩ ?_;simp only[eG,List.getElem?_cons_zero,List.getElem?_cons_succ]
  iterate 15(refine O4 (fun K hK=>?_);go_simp;refine hK _ ?_;clear hK K)
  refine mD (fun K hK hS=>?_) ⟨⟨_,(aC.refl _ w8).drew⟩,rfl⟩;go_simp;have QJ:=(uR w8).drew;have FD:=ah (dG.out.trans QJ);dsimp only[tV] at HIH;refine(HIH.out w8.drew FD.out _ _ ⟨xa,xc,rfl,yH.out.ext QJ⟩ ((aG.kept MZ.out QJ (fun _ _ h=>h)).weaken (fun k hk=>aF hk FD.out.size))).mono ?_;rintro e w9 ⟨r,rfl,hT9,jd⟩;refine hK _ _ ⟨⟨_,QJ.trans jd⟩,rfl⟩ ?_;clear hK K hS;obtain⟨z,hz⟩: ∃z,putAt y p u=z:=⟨_,rfl⟩
  rw[hz] at hT9⊢;obtain⟨za,zc,hr⟩:=hT9.shape;subst hr
  try dsimp only[tV]
  have Uk:=QJ.trans jd;have jg:=ah (dG.out.trans Uk);have VE:=bH agq.out Uk (fun _ _ h=>h);obtain⟨g0,cap0,an0,hv0,abY,_⟩:=qE agq.out (by have:=HI.out;omega);injection hv0 with d1 d2 d3
  injection d1 with d1
  injection d1 with d1
  subst d1;have hg8:g<w8.heap.size:=(Array.getElem?_eq_some_iff.1 abY).1;have HG8:=ah hg8;obtain⟨g',cap',cur,hv',hcur,hcb⟩:=qE VE (by have:=HI.out;omega);injection hv' with e1 e2 e3
  injection e1 with e1
  injection e1 with e1
  subst e1;have hcb2:i*3+2<cur.size:=by have:=HI.out;omega
  have m0:w9.cell? ⟨g,i*3,none⟩=some (cur[i*3]'(by omega)):=aj hcur (i*3) _ (Array.getElem?_eq_getElem _);have m1:w9.cell? ⟨g,i*3+1,none⟩=some (cur[i*3+1]'(by omega)):=aj hcur (i*3+1) _ (Array.getElem?_eq_getElem _);have m2:w9.cell? ⟨g,i*3+2,none⟩=some (cur[i*3+2]'(by omega)):=aj hcur (i*3+2) _ (Array.getElem?_eq_getElem _);have fz:=fun i=>aA hcur i;generalize cur[i*3]'(by omega)=v0 at m0;generalize cur[i*3+1]'(by omega)=v1 at m1;generalize cur[i*3+2]'(by omega)=v2 at m2;have alB:=ah (Uk.heap lY.out (fun h=>h));have Ag:=ah (Uk.heap mY.out (fun h=>h));have hTS:=agm (i:=i) (y:=z) (u:= .slice za z.kids.length zc) (S:=S) (T:=fun k=>S k\/(w8.drew.heap.size<=k/\k<w9.heap.size)) alA.out VE (fun j hj=>(HKK.out j hj).ext jg.out) HI.out hT9 (fun k hk e=>by have:=iE.out k hk;have:=jO.out;omega) (fun k hk e=>by
   rcases hk with hk|hk
   .have:=iE.out k hk;have:=jO.out;omega
   .have h1:=QJ.size;omega)
  have Qh:=ah hTS;have HST:=ah (vX w9 (g,i*3) z.name z.sort (.slice za z.kids.length zc));have hs9:w8.heap.size<=w9.heap.size:=Uk.size;have jX:=ah hs9
  try clear d2
  try clear d3
  try clear e2
  try clear e3
  clear VE hcur abY hcb hcb2 hTS hs9 hg8 Uk QJ jd hT9 hx0 hx1 hx2 hx3 hx4 hx5 hx6 hx7 Tt;refine eP (fun K hK=>?_);go_simp;refine hK _ _ ?_;clear hK K;refine eP (fun K hK=>?_);go_simp;refine hK _ _ ?_;clear hK K;simp only[cO];clear m0 m1 m2 fz;have hst:((w9.setCell ⟨g,i*3,none⟩ (.string z.name)).setCell ⟨g,i*3+1,none⟩ (.string z.sort)).setCell ⟨g,i*3+2,none⟩ (.slice za z.kids.length zc)=gK w9 (g,i*3) z.name z.sort (.slice za z.kids.length zc):=rfl;rw[hst];generalize gK w9 (g,i*3) z.name z.sort (.slice za z.kids.length zc)=wA at*;have alC:=ah (HST.out.heap alB.out (by show ¬w.heap.size+3=g;have:=jO.out;omega));have ZT:=ah (HST.out.heap Ag.out (by show ¬w.heap.size+2=g;have:=jO.out;omega));have oh:=ah (jg.out.trans' HST.out (fun j hj e=>by have:=jO.out;have e':j=g:=e;omega));have rO:=ah HST.out.size;have f2:=fun i=>aA ZT.out i;obtain⟨d0,d1,d2⟩:=ak ZT.out;obtain⟨m0,m1,m2⟩:=ak alC.out
  go_wp2_with fail
  all_goals
   try rw[show w.heap.size+1+1=w.heap.size+2 from rfl]
   have hr3:=aN ZT.out (.string t.name) (.string t.sort) (.slice (some ⟨g,0,none⟩) t.kids.length c7);have hu:=aK wA (w.heap.size+2) (.string t.name) (.string t.sort) (.slice (some ⟨g,0,none⟩) t.kids.length c7);obtain⟨e0,e1,e2⟩:=ak hr3;refine bodyPost_ret (v:= .agg #[.string t.name,.string t.sort,.slice (some ⟨g,0,none⟩) t.kids.length c7]) (by simp[results,Tryz.results177,go_sem,e0,e1,e2]) rfl ?_;have hue:=oh.out.trans' hu (fun j hj e=>by omega);have hnm:(putAt t (i::p) u).name=t.name:=by cases t;rfl
   have hso:(putAt t (i::p) u).sort=t.sort:=by cases t;rfl
   have hki:(putAt t (i::p) u).kids=t.kids.set i z:=by rw[<-hz,<-HYY.out];cases t;rfl
   have hkt:=(Qh.out.kept hu (fun k hk e=>by
    have:=jO.out;have:=agr.out;rcases hk with hk|hk|hk|hk
    .omega
    .have:=iE.out k hk;omega
    .have:=iE.out k hk;omega
    .have:w8.heap.size<=k:=hk.1;omega)).weaken (T:=fun k=>S k\/(w.heap.size<=k/\k< (((wA.setCell ⟨w.heap.size+2,0,none⟩ (.string t.name)).setCell ⟨w.heap.size+2,1,none⟩ (.string t.sort)).setCell ⟨w.heap.size+2,2,none⟩ (.slice (some ⟨g,0,none⟩) t.kids.length c7)).heap.size)) (fun k hk=>by
    have h1:=jO.out;have h2:=HG8.out;have h3:=jX.out;have h4:=rO.out;have h5:=hu.size;have h6:=agr.out;rcases hk with hk|hk|hk|hk
    .exact .inr ⟨by omega,by omega⟩
    .exact .inl hk
    .exact .inl hk
    .have h7:w8.heap.size<=k:=hk.1;exact .inr ⟨by omega,by omega⟩)
   refine⟨.slice (some ⟨g,0,none⟩) t.kids.length c7,by rw[hnm,hso],?_,hue⟩;rw[hki];exact hkt
theorem K_: ∀{p:List Int} {t u:Tm},g_ t p=some u->∃q:List Nat,p=q.map (fun j:Nat=>(j:Int))/\qM t q/\u=vV t q
 |[],t,u,h=>by
  have h:some t=some u:=by rw[<-h];rfl
  exact⟨[],rfl,trivial,(Option.some.inj h).symm⟩
 |i::p,t,u,h=>by
  rw[wR] at h;by_cases hc:i<0\/(t.kids.length:Int)<=i
  .rw [if_pos hc] at h;cases h
  .rw [if_neg hc] at h;obtain⟨q,h1,h2,h3⟩:=K_ h;refine⟨i.toNat::q,?_,⟨by omega,h2⟩,h3⟩;rw[List.map_cons,<-h1]
   congr 1
   omega
theorem abZ {n:By} (h:aJ n=true):n≠au:=fun e=>absurd (h.symm.trans (by rw[e];decide+kernel:aJ n=false)) (by decide)
theorem ZU {r:Rl} {u:Tm} {B:List Bd} (hr:ql r=true) (hu: ∀x∈bC u,x.name≠au) (h:jT r.1 u []=some B):(bI B r.2).name≠au:=by
 obtain⟨h1,h2,h3,h4⟩:=wF hr;obtain⟨hI,_,hb,_⟩:=Bj (X:=dJ r.1) (Y:=fun y=> ∀x∈bC y,x.name≠au) (fun t x ht hx y hy=>ht y (by
  rw[mg];exact List.mem_cons_of_mem _ (List.mem_flatMap.2 ⟨x,hx,hy⟩))) r.1 u [] B h (AB h1) (fun f hf=>hf) hu (qP.nil _ _)
 have hs:bI B r.2∈bC (bI B r.2):=by
  have e:=mg (bI B r.2);rw[e];exact List.mem_cons_self
 rcases Qz (σ:=gG B) r.2 _ hs with⟨y,hy,_,_,hn,_⟩|⟨g,hg,hx⟩
 .rw [hn];exact abZ ((nX.1 h2).2.2.1 y hy).1
 .obtain ⟨x,hbx⟩:=hb g (h4 g hg);have e:gG B g.1 g.2=x:=yT hbx;rw[e] at hx;obtain⟨b,hbm,_,hbe⟩:=tH hbx;exact hI.val b hbm _ (by rw[hbe];exact hx)
theorem adq {t:Tm} {p:List Nat} (ht:wf aJ t=true) (hp:qM t p): ∀x∈bC (vV t p),x.name≠au:=fun x hx=>
 abZ ((nX.1 ht).2.2.1 x (Nu p t hp x hx)).1
theorem adr {l:List Rl} {t:Tm} {x:Rx} (hr:dX l=true) (ht:wf aJ t=true):CB l t x=match g_ t x.2 with
  |none=>(cZ,2)
  |some u=>if x.1<0\/(l.length:Int)<=x.1 then(cZ,2) else if(wG (Go.Hw.rg l x.1.toNat) u).2=false then(cZ,12) else if(wG (Go.Hw.rg l x.1.toNat) u).1.name=au then(cZ,4) else if formed aJ (putAt t (x.2.map Int.toNat) (wG (Go.Hw.rg l x.1.toNat) u).1)=false then(cZ,4) else(putAt t (x.2.map Int.toNat) (wG (Go.Hw.rg l x.1.toNat) u).1,0):=by
 unfold CB;cases hs:g_ t x.2 with
 |none=>rfl
 |some u=>
  simp only;by_cases hc:x.1<0\/(l.length:Int)<=x.1
  .rw [if_pos hc,if_pos hc]
  .rw [if_neg hc,if_neg hc];obtain⟨q,hq,hok,hu⟩:=K_ hs;have hrr:=yX hr (i:=x.1.toNat) (by omega);unfold wG;cases hm:jT (Go.Hw.rg l x.1.toNat).1 u [] with
   |none=>rfl
   |some B=>
    have hnm:=ZU hrr (by rw[hu];exact adq ht hok) hm;simp only;by_cases hf:(bI B (Go.Hw.rg l x.1.toNat).2).size<=1000/\1+(bI B (Go.Hw.rg l x.1.toNat).2).depth<=61
    .have hno: ¬(1000< (bI B (Go.Hw.rg l x.1.toNat).2).size\/60< (bI B (Go.Hw.rg l x.1.toNat).2).depth):=by omega
     rw[if_pos hf,if_neg hno];simp only;rw[if_neg hnm];simp
    .have hno:(1000< (bI B (Go.Hw.rg l x.1.toNat).2).size\/60< (bI B (Go.Hw.rg l x.1.toNat).2).depth):=by omega
     rw[if_neg hf,if_pos hno];simp only;rw[if_neg (by decide: ¬(true=false)),if_pos (show cZ.name=au from rfl)]
end
end Go.Proofs.YtlkcjmaiahnodaaGreatDoor
