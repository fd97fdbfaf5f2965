/- The texts N66 NR N67 N80, one behind the other. -/
import Derived.Test.YtlkcjmaiahnodaaGreatDoorYAR
import Derived.Test.YtlkcjmaiahnodaaGreatDoorYAP
import Derived.Test.YtlkcjmaiahnodaaGreatDoorYAE
set_option maxRecDepth 100000
set_option maxHeartbeats 8000000
set_option linter.unusedVariables false
set_option linter.unusedSimpArgs false
namespace Go.Proofs.YtlkcjmaiahnodaaGreatDoor
open Go.RowKit Go.Hw Go Tm
section
open Go.Sort Go.Proofs Go.ChangeMaps
def yY (l:List Rl) (t:Tm):Tm×Rx×Int:=match iw l t with
 |none=>(cZ,(0,[]),12)
 |some x=>if(gJ t x.2.1 x.2.2).2=0 then((gJ t x.2.1 x.2.2).1,kR x.1 x.2.1,0) else(cZ,(0,[]),(gJ t x.2.1 x.2.2).2)
theorem ads (l:List Rl) (t:Tm) (lv v:Value) (S:Nat->Prop) (w:World) (hL:jq (fun k=>k<w.heap.size) w l lv) (hT:bQ S w t v) (hS: ∀k,S k->k<w.heap.size) (hr:dX l=true) (ht:wf aJ t=true) (hll:l.length<=1000000) (hls: ∀r∈l,r.1.size<=100000/\r.2.size<=100000):
  Calls Tryz.prog 54 #[lv,v] w fun e w'=> ∃r pr,e= .returned (.tuple #[tV (yY l t).1 r,.agg #[.int .i64 (yY l t).2.1.1,pr],.int .i64 (yY l t).2.2])/\aI (fun k=>S k\/(w.heap.size<=k/\k<w'.heap.size)) w' (yY l t).1.kids r/\rV (fun k=>w.heap.size<=k/\k<w'.heap.size) w' pr (yY l t).2.1.2/\Ext w w':=by
 obtain⟨Z,hZ⟩: ∃Z,yY l t=Z:=⟨_,rfl⟩
 rw[hZ];have jm:=ah hZ;have hwf:=nX.1 ht;have iE:=ah hS;have vG:=ah (fun W (hW:Ext w W)=>ZX l hll hls hr t v lv (.slice none 0 0) (fun k=>k<w.heap.size) S (fun _=>False) [] W (hT.ext hW) (hL.ext hW) (aG.nil _ _ _) (fun k hk=>aF hk hW.size) (fun k hk=>aF (hS k hk) hW.size) (fun _ h=>h.elim) (by omega) (by simp;omega));have nD:=ah (fun(i:Nat) (p:List Nat) pv W (hW:Ext w W) (hp:rV (fun k=>k<W.heap.size) W pv (p.map fun j:Nat=>(j:Int))) (hpl:p.length<=1000000)=>aiK l t (i:Int) (p.map fun j:Nat=>(j:Int)) lv v pv S W ((hL.ext hW).weaken (fun k hk=>aF hk hW.size)) (hT.ext hW) (fun k hk=>aF (hS k hk) hW.size) hp hr ht hll hls (by rw[List.length_map];exact hpl));have Hg:=ah (fun(i:Nat) (p:List Nat) (u:Tm) (h:iw l t=some (i,p,u))=>(af2 hr ht:CB l t (kR i p)=Qy l t (kR i p)).trans (adk h));have bU:=ah hwf.1;obtain⟨la,lc,rfl⟩:=hL.shape;obtain⟨a,cap,rfl,hTL⟩:=hT;have hE1:=(((uR w).alloc (tO t a cap)).alloc zO).alloc (.cells #[.int .i64 0,.slice none 0 0] 65);have pq:=ah hE1;have HB0:=ah (aB (aB (ay w (tO t a cap)) zO) (.cells #[.int .i64 0,.slice none 0 0] 65));have HB1:=ah (aB (alloc_at (w.alloc (tO t a cap)) zO (n:=w.heap.size+1) (by simp)) (.cells #[.int .i64 0,.slice none 0 0] 65));have HB2:=ah (alloc_at ((w.alloc (tO t a cap)).alloc zO) (.cells #[.int .i64 0,.slice none 0 0] 65) (n:=w.heap.size+2) (by simp));have hz3:w.heap.size+3<=(((w.alloc (tO t a cap)).alloc zO).alloc (.cells #[.int .i64 0,.slice none 0 0] 65)).heap.size:=by simp
 have nJ:=ah hz3;obtain⟨x0,x1,x2⟩:=ak HB0.out;dsimp only[tV] at vG nD⊢;clear hZ hwf hTL hE1 hz3 hL hS hr ht hls
 go_enter Tryz.func54,Tryz.ntmps54
 go_wp2_with fail
 generalize (((w.alloc (tO t a cap)).alloc zO).alloc (.cells #[.int .i64 0,.slice none 0 0] 65))=w1 at*;refine(vG.out _ pq.out).mono ?_;rintro e w3 ⟨pa,pc,rfl,hP,hw3⟩;obtain⟨o,ho⟩: ∃o,iw l t=o:=⟨_,rfl⟩
 have HO:=ah ho;rw[ho] at hP⊢;cases o with
 |none=>
  obtain rfl:Z=(cZ,(0,[]),12):=by rw[<-jm.out];unfold yY;rw[HO.out]
  rw[show((fi none:Nat):Int)=0 from rfl,show(fq none []).length=0 from rfl];have hX:=hw3.alloc (.cells #[.int .i64 0,.slice pa 0 pc] 65);have aY:=ah (pq.out.trans hX);have lH:=ah (hX.heap HB1.out (fun h=>h));have eH:=ah (hX.heap HB2.out (fun h=>h));simp only[Option.isSome_none];clear ho hP hX hw3 vG nD Hg pq HB0 HB1 HB2 x0 x1 x2;obtain⟨d0,d1,d2⟩:=ak lH.out;obtain⟨g0,g1⟩:=bT eH.out;have f1:=fun i=>aA lH.out i;have f2:=fun i=>aA eH.out i;have lN:=aK (w3.alloc (.cells #[.int .i64 0,.slice pa 0 pc] 65)) (w.heap.size+1) (.string ⟨#[]⟩) (.string ⟨#[]⟩) (.slice none 0 0);have hz2: ¬w.heap.size+2=w.heap.size+1:=by omega
  have ng0:=lN.cell g0 hz2;have ng1:=lN.cell g1 hz2;have f3:=fun i=>aA (lN.heap eH.out hz2) i;have o9:=ah lN;clear lN
  go_wp2_with fail
  have hb1:=aN lH.out (.string ⟨#[]⟩) (.string ⟨#[]⟩) (.slice none 0 0);have hbb:=o9.out.heap eH.out hz2;have hb2:(((((w3.alloc (.cells #[.int .i64 0,.slice pa 0 pc] 65)).setCell ⟨w.heap.size+1,0,none⟩ (.string ⟨#[]⟩)).setCell ⟨w.heap.size+1,1,none⟩ (.string ⟨#[]⟩)).setCell ⟨w.heap.size+1,2,none⟩ (.slice none 0 0)).setCell ⟨w.heap.size+2,0,none⟩ (.int .i64 0)|>.setCell ⟨w.heap.size+2,1,none⟩ (.slice none 0 0)).heap[w.heap.size+2]?=some (.cells #[.int .i64 0,.slice none 0 0] 65 (0,0)):=by simpa using setBlock (setBlock hbb 0 (.int .i64 0)) 1 (.slice none 0 0)
  have xq:aC (fun j=>j=w.heap.size+2) ((((w3.alloc (.cells #[.int .i64 0,.slice pa 0 pc] 65)).setCell ⟨w.heap.size+1,0,none⟩ (.string ⟨#[]⟩)).setCell ⟨w.heap.size+1,1,none⟩ (.string ⟨#[]⟩)).setCell ⟨w.heap.size+1,2,none⟩ (.slice none 0 0)) (((((w3.alloc (.cells #[.int .i64 0,.slice pa 0 pc] 65)).setCell ⟨w.heap.size+1,0,none⟩ (.string ⟨#[]⟩)).setCell ⟨w.heap.size+1,1,none⟩ (.string ⟨#[]⟩)).setCell ⟨w.heap.size+1,2,none⟩ (.slice none 0 0)).setCell ⟨w.heap.size+2,0,none⟩ (.int .i64 0)|>.setCell ⟨w.heap.size+2,1,none⟩ (.slice none 0 0)):=((aC.refl (fun j=>j=w.heap.size+2) _).setCell (p:=⟨w.heap.size+2,0,none⟩) (.inl rfl) _).setCell (p:=⟨w.heap.size+2,1,none⟩) (.inl rfl) _;have hb3:=xq.heap hb1 (by omega);have hu:aC (fun j=>j=w.heap.size+1\/j=w.heap.size+2) (w3.alloc (.cells #[.int .i64 0,.slice pa 0 pc] 65)) _:=(o9.out.mono (fun _ _ h=> .inl h)).trans (xq.mono (fun _ _ h=> .inr h));obtain⟨e0,e1,e2⟩:=ak hb3;obtain⟨e3,e4⟩:=bT hb2;refine bodyPost_ret (v:= .tuple #[.agg #[.string ⟨#[]⟩,.string ⟨#[]⟩,.slice none 0 0],.agg #[.int .i64 0,.slice none 0 0],.int .i64 (12)]) (by simp[results,Tryz.results54,go_sem,e0,e1,e2,e3,e4]) rfl ?_;have hue:=aY.out.trans' hu (fun j hj e=>by omega);exact⟨.slice none 0 0,.slice none 0 0,rfl,aI.nil _ _,aG.nil _ _ _,hue⟩
 |some y=>
  obtain⟨i,p,u⟩:=y;have DZ:fq (some (i,p,u)) []=p:=by simp[fq]
  have hfi:fi (some (i,p,u))=i:=rfl;rw[DZ] at hP;rw[DZ,hfi];have hpo:=yh l t i p u HO.out;have hpl:=Aw p t hpo.1;have hX:=hw3.alloc (.cells #[.int .i64 (i:Int),.slice pa p.length pc] 65);have aY:=ah (pq.out.trans hX);have rF:=ah (hX.heap HB0.out (fun h=>h));have lH:=ah (hX.heap HB1.out (fun h=>h));have eH:=ah (hX.heap HB2.out (fun h=>h));have fH:=ah (ay w3 (.cells #[.int .i64 (i:Int),.slice pa p.length pc] 65));have fU:Hid (w.heap.size+3<=w3.heap.size):=ah (Nat.le_trans nJ.out hw3.size);have hPX:=(aG.kept hP ((uR w3).alloc (.cells #[.int .i64 (i:Int),.slice pa p.length pc] 65)) (fun _ _ h=>h)).weaken (fun k hk=>(by
   have h1:=((uR w3).alloc (.cells #[.int .i64 (i:Int),.slice pa p.length pc] 65)).size;have h2:=nJ.out;rcases hk with hk|⟨hk,hk2⟩
   .exact hk.elim
   .have:=hk2.lt;exact⟨by omega,by omega⟩:w.heap.size+3<=k/\k< (w3.alloc (.cells #[.int .i64 (i:Int),.slice pa p.length pc] 65)).heap.size))
  have HPX:=ah (Oe hPX);simp only[Option.isSome_some];have HZ2:Hid (Z=if(gJ t p u).2=0 then((gJ t p u).1,kR i p,0) else(cZ,(0,[]),(gJ t p u).2)):=ah (by rw[<-jm.out];unfold yY;rw[HO.out]);have HAT:=ah (nD.out i p (.slice pa p.length pc) _ aY.out (aG.weaken HPX.out (fun k hk=>hk.2)) (by have:=bU.out;omega));have hrd:=Hg.out i p u HO.out;unfold kR at hrd;rw[hrd] at HAT;obtain⟨G,hG⟩: ∃G,gJ t p u=G:=⟨_,rfl⟩
  rw[hG] at HAT HZ2;obtain⟨nx,en⟩:=G;dsimp only at HAT HZ2;obtain⟨nb,hnb⟩: ∃n,w3.heap.size=n:=⟨_,rfl⟩
  rw[hnb] at fH fU;obtain⟨x0,x1,x2⟩:=ak rF.out;obtain⟨m0,m1⟩:=bT fH.out;clear ho hP hPX hX hw3 vG nD Hg pq HB0 HB1 HB2 DZ hfi hpo hpl hrd hG
  go_wp2_with fail
  try rw[hnb]
  generalize w3.alloc (.cells #[.int .i64 (i:Int),.slice pa p.length pc] 65)=w4 at*;clear hnb;refine HAT.out.mono ?_;rintro e w5 ⟨r,rfl,JJ,hw5⟩;obtain⟨na,nc,hrn⟩:=JJ.shape;subst hrn;have hX:=hw5.alloc (tO nx na nc);have dA:=ah (aY.out.trans hX);have eY:=ah (hX.heap lH.out (fun h=>h));have oV:=ah (hX.heap eH.out (fun h=>h));have Dp:=ah (hX.heap fH.out (fun h=>h));have Yk:=ah (ay w5 (tO nx na nc));have nO:Hid (w.heap.size+3<=w5.heap.size):=ah (by have h:=aY.out.size;have h1:=(Array.getElem?_eq_some_iff.1 fH.out).1;have h2:=fU.out;have h3:=hw5.size;omega);have Um:=ah ((aG.kept HPX.out hX (fun _ _ h=>h)).weaken (fun k hk=>(⟨hk.1,aF hk.2 hX.size⟩:w.heap.size+3<=k/\k< (w5.alloc (tO nx na nc)).heap.size)));have o7:=ah ((JJ.ext ((uR w5).alloc (tO nx na nc))).weaken (fun k hk=>(by
   have h1:=((uR w5).alloc (tO nx na nc)).size;have h4:=(Array.getElem?_eq_some_iff.1 fH.out).1;have h5:=fU.out;rcases hk with hk|hk
   .exact .inl hk
   .exact .inr ⟨by omega,by omega⟩:S k\/(w.heap.size+3<=k/\k< (w5.alloc (tO nx na nc)).heap.size))))
  clear JJ hw5 hX HAT x0 x1 x2 m0 m1 aY rF lH eH fH HPX;dsimp only[tV];obtain⟨Yh,rG⟩: ∃n,w5.heap.size=n:=⟨_,rfl⟩
  rw[rG] at Yk nO;by_cases hen:en=0
  rotate_left
  .have t1:(en==0)=false:=beq_eq_false_iff_ne.2 hen;have t3:(en !=0)=true:=bne_iff_ne.2 hen;have t2:decide (en=0)=false:=dF hen;obtain rfl:Z=(cZ,(0,[]),en):=by rw[HZ2.out,if_neg hen]
   clear rG;obtain⟨d0,d1,d2⟩:=ak eY.out;obtain⟨g0,g1⟩:=bT oV.out;have f1:=fun i=>aA eY.out i;have f2:=fun i=>aA oV.out i;have lN:=aK (w5.alloc (tO nx na nc)) (w.heap.size+1) (.string ⟨#[]⟩) (.string ⟨#[]⟩) (.slice none 0 0);have hz2: ¬w.heap.size+2=w.heap.size+1:=by omega
   have ng0:=lN.cell g0 hz2;have ng1:=lN.cell g1 hz2;have f3:=fun i=>aA (lN.heap oV.out hz2) i;have o9:=ah lN;clear lN
   go_wp2_with fail
   have hb1:=aN eY.out (.string ⟨#[]⟩) (.string ⟨#[]⟩) (.slice none 0 0);have hbb:=o9.out.heap oV.out hz2;have hb2:(((((w5.alloc (tO nx na nc)).setCell ⟨w.heap.size+1,0,none⟩ (.string ⟨#[]⟩)).setCell ⟨w.heap.size+1,1,none⟩ (.string ⟨#[]⟩)).setCell ⟨w.heap.size+1,2,none⟩ (.slice none 0 0)).setCell ⟨w.heap.size+2,0,none⟩ (.int .i64 0)|>.setCell ⟨w.heap.size+2,1,none⟩ (.slice none 0 0)).heap[w.heap.size+2]?=some (.cells #[.int .i64 0,.slice none 0 0] 65 (0,0)):=by simpa using setBlock (setBlock hbb 0 (.int .i64 0)) 1 (.slice none 0 0)
   have xq:aC (fun j=>j=w.heap.size+2) ((((w5.alloc (tO nx na nc)).setCell ⟨w.heap.size+1,0,none⟩ (.string ⟨#[]⟩)).setCell ⟨w.heap.size+1,1,none⟩ (.string ⟨#[]⟩)).setCell ⟨w.heap.size+1,2,none⟩ (.slice none 0 0)) (((((w5.alloc (tO nx na nc)).setCell ⟨w.heap.size+1,0,none⟩ (.string ⟨#[]⟩)).setCell ⟨w.heap.size+1,1,none⟩ (.string ⟨#[]⟩)).setCell ⟨w.heap.size+1,2,none⟩ (.slice none 0 0)).setCell ⟨w.heap.size+2,0,none⟩ (.int .i64 0)|>.setCell ⟨w.heap.size+2,1,none⟩ (.slice none 0 0)):=((aC.refl (fun j=>j=w.heap.size+2) _).setCell (p:=⟨w.heap.size+2,0,none⟩) (.inl rfl) _).setCell (p:=⟨w.heap.size+2,1,none⟩) (.inl rfl) _;have hb3:=xq.heap hb1 (by omega);have hu:aC (fun j=>j=w.heap.size+1\/j=w.heap.size+2) (w5.alloc (tO nx na nc)) _:=(o9.out.mono (fun _ _ h=> .inl h)).trans (xq.mono (fun _ _ h=> .inr h));obtain⟨e0,e1,e2⟩:=ak hb3;obtain⟨e3,e4⟩:=bT hb2;refine bodyPost_ret (v:= .tuple #[.agg #[.string ⟨#[]⟩,.string ⟨#[]⟩,.slice none 0 0],.agg #[.int .i64 0,.slice none 0 0],.int .i64 (en)]) (by simp[results,Tryz.results54,go_sem,e0,e1,e2,e3,e4]) rfl ?_;have hue:=dA.out.trans' hu (fun j hj e=>by omega);exact⟨.slice none 0 0,.slice none 0 0,rfl,aI.nil _ _,aG.nil _ _ _,hue⟩
  subst hen;obtain rfl:Z=(nx,kR i p,0):=by rw[HZ2.out,if_pos rfl]
  obtain⟨m0,m1⟩:=bT Dp.out;obtain⟨k0,k1,k2⟩:=ak Yk.out;have agA: ¬nb=w.heap.size+1:=by have:=fU.out;omega
  have FQ: ¬Yh=w.heap.size+1:=by have:=nO.out;omega
  go_upto_region 7 with fail
  try rw[rG]
  generalize w5.alloc (tO nx na nc)=w6 at*;clear rG;obtain⟨d0,d1,d2⟩:=ak eY.out;obtain⟨g0,g1⟩:=bT oV.out;have f1:=fun i=>aA eY.out i;have f2:=fun i=>aA oV.out i;have lN:=aK w6 (w.heap.size+1) (.string nx.name) (.string nx.sort) (.slice na nx.kids.length nc);have hz2: ¬w.heap.size+2=w.heap.size+1:=by omega
  have ng0:=lN.cell g0 hz2;have ng1:=lN.cell g1 hz2;have f3:=fun i=>aA (lN.heap oV.out hz2) i;have Nk0:=lN.cell k0 FQ;have Nk1:=lN.cell k1 FQ;have Nk2:=lN.cell k2 FQ;have Nm0:=lN.cell m0 agA;have Nm1:=lN.cell m1 agA;have o9:=ah lN;clear lN
  go_wp2_with fail
  go_region
  all_goals (go_wp2_with fail)
  have hb1:=aN eY.out (.string nx.name) (.string nx.sort) (.slice na nx.kids.length nc);have hbb:=o9.out.heap oV.out hz2;have hb2:((((w6.setCell ⟨w.heap.size+1,0,none⟩ (.string nx.name)).setCell ⟨w.heap.size+1,1,none⟩ (.string nx.sort)).setCell ⟨w.heap.size+1,2,none⟩ (.slice na nx.kids.length nc)).setCell ⟨w.heap.size+2,0,none⟩ (.int .i64 (i:Int))|>.setCell ⟨w.heap.size+2,1,none⟩ (.slice pa p.length pc)).heap[w.heap.size+2]?=some (.cells #[.int .i64 (i:Int),.slice pa p.length pc] 65 (0,0)):=by simpa using setBlock (setBlock hbb 0 (.int .i64 (i:Int))) 1 (.slice pa p.length pc)
  have xq:aC (fun j=>j=w.heap.size+2) (((w6.setCell ⟨w.heap.size+1,0,none⟩ (.string nx.name)).setCell ⟨w.heap.size+1,1,none⟩ (.string nx.sort)).setCell ⟨w.heap.size+1,2,none⟩ (.slice na nx.kids.length nc)) ((((w6.setCell ⟨w.heap.size+1,0,none⟩ (.string nx.name)).setCell ⟨w.heap.size+1,1,none⟩ (.string nx.sort)).setCell ⟨w.heap.size+1,2,none⟩ (.slice na nx.kids.length nc)).setCell ⟨w.heap.size+2,0,none⟩ (.int .i64 (i:Int))|>.setCell ⟨w.heap.size+2,1,none⟩ (.slice pa p.length pc)):=((aC.refl (fun j=>j=w.heap.size+2) _).setCell (p:=⟨w.heap.size+2,0,none⟩) (.inl rfl) _).setCell (p:=⟨w.heap.size+2,1,none⟩) (.inl rfl) _;have hb3:=xq.heap hb1 (by omega);have hu:aC (fun j=>j=w.heap.size+1\/j=w.heap.size+2) w6 _:=(o9.out.mono (fun _ _ h=> .inl h)).trans (xq.mono (fun _ _ h=> .inr h));obtain⟨e0,e1,e2⟩:=ak hb3;obtain⟨e3,e4⟩:=bT hb2;refine bodyPost_ret (v:= .tuple #[.agg #[.string nx.name,.string nx.sort,.slice na nx.kids.length nc],.agg #[.int .i64 (i:Int),.slice pa p.length pc],.int .i64 (0)]) (by simp[results,Tryz.results54,go_sem,e0,e1,e2,e3,e4]) rfl ?_;have hue:=dA.out.trans' hu (fun j hj e=>by omega);replace hu:=hu.drew;replace hue:=hue.drew;have hs3:=fU.out;refine⟨.slice na nx.kids.length nc,.slice pa p.length pc,by simp[kR],?_,?_,hue⟩
  .exact (o7.out.kept hu (fun j hj e=>by rcases hj with hj|hj;have:=iE.out j hj;omega;omega)).weaken (fun j hj=>hj.imp id (fun h=>⟨by omega,aF h.2 hu.size⟩))
  .exact (aG.kept Um.out hu (fun j hj e=>by omega)).weaken (fun j hj=>⟨by omega,aF hj.2 hu.size⟩)
theorem VH {l:List Rl} {x:Tm} (h:iw l x=none) (n:Nat) (tr:List Rx):iZ l n x tr=(x,tr,0):=by
 cases n with
 |zero=>unfold iZ;rw[h]
 |succ n=>unfold iZ;rw[h]
theorem aib {t:Tm} (h:wf aJ t=true):pR [t]=false:=by
 obtain⟨h1,h2,h3,_⟩:=nX.1 h;unfold pR zJ;show decide (lT t 80 1100<0)=false;rw[XT t 80 1100 (by omega) (by omega) (fun x hx=>by
  obtain⟨g1,g2,g3⟩:=h3 x hx;have k1:=(aaZ g1).2;refine⟨by omega,?_,by omega⟩;rcases g3 with g3|g3
  .rw [g3];decide
  .have:=(aaZ g3.1).2;omega)]
 exact dF (by omega)
theorem adE:pR [cZ]=false:=by decide+kernel
theorem Yl (l:List Rl) (t:Tm) (F:Nat) (lv v:Value) (w:World) (hL:jq (fun k=>k<w.heap.size) w l lv) (hT:bQ (fun k=>k<w.heap.size) w t v) (hr:dX l=true) (ht:wf aJ t=true) (hll:l.length<=1000000) (hls: ∀r∈l,r.1.size<=100000/\r.2.size<=100000) (hF2:F<=2000):
  Calls Tryz.prog 42 #[lv,v,.int .i64 (F:Int)] w fun e w'=> ∃r tv,e= .returned (.tuple #[tV (iZ l F t []).1 r,tv,.int .i64 (iZ l F t []).2.2])/\aI (fun k=>k<w'.heap.size) w' (iZ l F t []).1.kids r/\nK (fun k=>k<w'.heap.size) (fun k=>k<w'.heap.size) w' tv (iZ l F t []).2.1/\Ext w w':=by
 obtain⟨Z,hZ⟩: ∃Z,iZ l F t []=Z:=⟨_,rfl⟩
 rw[hZ];have Uf:=ah hZ;have sV:=ah ht;have HST:=ah (fun(c:Tm) (cv:Value) (S:Nat->Prop) (W:World) (hW:Ext w W) (hc:bQ S W c cv) (hS: ∀k,S k->k<W.heap.size) (hcw:wf aJ c=true)=>ads l c lv cv S W ((hL.ext hW).weaken (fun k hk=>aF hk hW.size)) hc hS hr hcw hll hls);obtain⟨la,lc,rfl⟩:=hL.shape;obtain⟨a,cap,rfl,hTL⟩:=hT;have hZ1:=((uR w).alloc (tO t a cap)).alloc zO;have dP:=ah hZ1;have HB0:=ah (aB (ay w (tO t a cap)) zO);have HB1:=ah (alloc_at (w.alloc (tO t a cap)) zO (n:=w.heap.size+1) (by simp));have hz2:w.heap.size+2<=((w.alloc (tO t a cap)).alloc zO).heap.size:=by simp
 have EZ:=ah hz2;have HT0:Hid (aI (fun j=>j≠w.heap.size/\j≠w.heap.size+1/\j< ((w.alloc (tO t a cap)).alloc zO).heap.size/\(Value.slice none 0 0).ownBlock≠some j) ((w.alloc (tO t a cap)).alloc zO) t.kids (.slice a t.kids.length cap)):=ah ((hTL.ext hZ1).weaken (fun j hj=>⟨by omega,by omega,by omega,fun e=>by cases e⟩));dsimp only[tV] at HST⊢;clear hZ hTL hZ1 hz2 hL hr ht hls
 go_enter Tryz.func42,Tryz.ntmps42
 go_wp2_with fail
 generalize ((w.alloc (tO t a cap)).alloc zO)=w1 at*
 go_loopg [9] F (fun gk ov wr=> ∃(L:List Xe) (cur:Tm) (oa ca:Option Addr) (oc cc:Nat),ov= .slice oa L.length oc/\gk=F-L.length/\L.length<=F/\Hid (zL 65 (w.heap.size+2) wr (.slice oa L.length oc) L)/\Hid (wr.heap[w.heap.size]?=some (tO cur ca cc))/\Hid (wr.heap[w.heap.size+1]?=some zO)/\Hid (aI (fun j=>j≠w.heap.size/\j≠w.heap.size+1/\j<wr.heap.size/\(Value.slice oa L.length oc).ownBlock≠some j) wr cur.kids (.slice ca cur.kids.length cc))/\Hid (Ext w wr)/\Hid (w.heap.size+2<=wr.heap.size)/\Hid (wf aJ cur=true)/\Hid (iZ l (F-L.length) cur (L.map (·.1))=Z))
 case atStart=>exact⟨[],t,none,a,0,cap,rfl,rfl,Nat.zero_le _,ah (zL.start _ _ _),HB0,HB1,HT0,dP,EZ,sV,Uf⟩
 case round=>
  clear HB0 HB1 HT0 dP EZ sV Uf;obtain⟨L,cur,oa,ca,oc,cc,rfl,rfl,hLF,HG,HB0,HB1,Ju,HE,HS,HW,Hl⟩:=hrel;have gB:=ah (HST.out cur (tV cur (.slice ca cur.kids.length cc)) _ wr HE.out ⟨ca,cc,rfl,Ju.out⟩ (fun k hk=>hk.2.2.1) HW.out);dsimp only[tV] at gB;obtain⟨x0,x1,x2⟩:=ak HB0.out
  go_wp2_with fail
  refine gB.out.mono ?_;rintro e w4 ⟨r,pr,rfl,JJ,Ym,hw4⟩;obtain⟨Y,hY⟩: ∃Y,yY l cur=Y:=⟨_,rfl⟩
  rw[hY] at JJ Ym⊢;obtain⟨nx,⟨xi,xp⟩,en⟩:=Y;dsimp only at JJ Ym⊢;obtain⟨na,nc,hrn⟩:=JJ.shape;subst hrn;obtain⟨pa,pc,hrp⟩:=Ym.shape;subst hrp;have mG:=((uR w4).alloc (tO nx na nc)).alloc (.cells #[.int .i64 xi,.slice pa xp.length pc] 65);have qQ:=hw4.trans mG;have eX:=ah qQ;have dA:=ah (HE.out.trans qQ);have qm:=ah (qQ.heap HB0.out (fun h=>h));have eY:=ah (qQ.heap HB1.out (fun h=>h));have Dp:=ah (aB (ay w4 (tO nx na nc)) (.cells #[.int .i64 xi,.slice pa xp.length pc] 65));have h_:=ah (alloc_at (w4.alloc (tO nx na nc)) (.cells #[.int .i64 xi,.slice pa xp.length pc] 65) (n:=w4.heap.size+1) (by simp));have o7:=ah (JJ.ext mG);have Um:Hid (rV (fun j=>wr.heap.size<=j/\j< ((w4.alloc (tO nx na nc)).alloc (.cells #[.int .i64 xi,.slice pa xp.length pc] 65)).heap.size) ((w4.alloc (tO nx na nc)).alloc (.cells #[.int .i64 xi,.slice pa xp.length pc] 65)) (.slice pa xp.length pc) xp):=ah ((aG.kept Ym mG (fun _ _ h=>h)).weaken (fun j hj=>⟨hj.1,aF hj.2 mG.size⟩));have HG5:=ah (HG.out.kept qQ (fun _ _ _ h=>h));have alE:=ah (Ju.out.ext qQ);have Az:Hid (wr.heap.size<=w4.heap.size):=ah hw4.size;have nO:Hid (w.heap.size+2<=((w4.alloc (tO nx na nc)).alloc (.cells #[.int .i64 xi,.slice pa xp.length pc] 65)).heap.size):=ah (Nat.le_trans HS.out qQ.size);have h45:w4.heap.size< ((w4.alloc (tO nx na nc)).alloc (.cells #[.int .i64 xi,.slice pa xp.length pc] 65)).heap.size:=by simp;omega
  have H45:=ah h45;clear JJ Ym mG qQ hw4 gB x0 x1 x2 h45;obtain⟨o,ho⟩: ∃o,iw l cur=o:=⟨_,rfl⟩
  obtain⟨nb,hnb⟩: ∃n,w4.heap.size=n:=⟨_,rfl⟩
  rw[hnb] at Dp h_ Az;cases o with
  |none=>
   have hy2:=hY;unfold yY at hy2;rw[ho] at hy2;injection hy2 with e1 e2
   injection e2 with e2 e3
   have hzz:Z=(cur,L.map (·.1),0):=by
    rw[<-Hl.out];exact VH ho _ _
   subst e3;subst hzz;clear hY ho e1 e2 Dp h_ o7 Um;obtain⟨x0,x1,x2⟩:=ak qm.out;have f2:=fun i=>aA eY.out i;obtain⟨d0,d1,d2⟩:=ak eY.out
   go_wp2_with fail
   have hr3:=aN eY.out (.string cur.name) (.string cur.sort) (.slice ca cur.kids.length cc);have hu:=aK ((w4.alloc (tO nx na nc)).alloc (.cells #[.int .i64 xi,.slice pa xp.length pc] 65)) (w.heap.size+1) (.string cur.name) (.string cur.sort) (.slice ca cur.kids.length cc);obtain⟨e0,e1,e2⟩:=ak hr3;refine bodyPost_ret (v:= .tuple #[.agg #[.string cur.name,.string cur.sort,.slice ca cur.kids.length cc],.slice oa L.length oc,.int .i64 (0)]) (by simp[results,Tryz.results42,go_sem,e0,e1,e2]) rfl ?_;have hue:=dA.out.trans' hu (fun j hj e=>by omega);have hs5:=nO.out;have hrx:=(HG5.out.kept hu (fun j hj _ e=>by omega)).rx;exact⟨.slice ca cur.kids.length cc,.slice oa L.length oc,rfl,(alE.out.kept hu (fun j hj e=>by have:=hj.2.1;omega)).weaken (fun j hj=>aF hj.2.2.1 (Nat.le_trans eX.out.size hu.size)),hrx.weaken (fun j hj=>hj.2) (fun j hj=>hj.2),hue⟩
  |some y=>
   obtain⟨i,p,u⟩:=y;have hG4:(gJ cur p u).2=0\/(gJ cur p u).2=4:=by
    unfold gJ;split
    .exact .inl rfl
    .exact .inr rfl
   have hgz:= @Fp cur u p;have hy2:=hY;unfold yY at hy2;rw[ho] at hy2;simp only at hy2;obtain⟨G,Yn⟩: ∃G,gJ cur p u=G:=⟨_,rfl⟩
   rw[Yn] at hG4 hy2 hgz;have hne:en≠12:=by
    rcases hG4 with h|h
    .rw [if_pos h] at hy2;injection hy2 with _ hy2
     injection hy2 with _ hy2
     omega
    .rw [if_neg (by omega)] at hy2;injection hy2 with _ hy2
     injection hy2 with _ hy2
     omega
   have q1:(en==12)=false:=beq_eq_false_iff_ne.2 hne;have q2:decide (en=12)=false:=dF hne;by_cases hlim:L.length=F
   .obtain rfl:Z=(cZ,[],6):=by
     rw[<-Hl.out,hlim,Nat.sub_self];unfold iZ;rw[ho]
    have t1:((L.length:Int)==(F:Int))=true:=by rw[hlim];exact beq_self_eq_true _
    have t2:decide ((L.length:Int)=(F:Int))=true:=dT (by omega);clear hY ho hy2 hG4 hgz Yn hne Dp h_ o7 Um Hl;subst hlim;have f2:=fun i=>aA eY.out i;obtain⟨d0,d1,d2⟩:=ak eY.out
    go_wp2_with fail
    have hr3:=aN eY.out (.string ⟨#[]⟩) (.string ⟨#[]⟩) (.slice none 0 0);have hu:=aK ((w4.alloc (tO nx na nc)).alloc (.cells #[.int .i64 xi,.slice pa xp.length pc] 65)) (w.heap.size+1) (.string ⟨#[]⟩) (.string ⟨#[]⟩) (.slice none 0 0);obtain⟨e0,e1,e2⟩:=ak hr3;refine bodyPost_ret (v:= .tuple #[.agg #[.string ⟨#[]⟩,.string ⟨#[]⟩,.slice none 0 0],.slice none 0 0,.int .i64 (6)]) (by simp[results,Tryz.results42,go_sem,e0,e1,e2]) rfl ?_;have hue:=dA.out.trans' hu (fun j hj e=>by omega);exact⟨.slice none 0 0,.slice none 0 0,rfl,aI.nil _ _,nK.nil _ _ _,hue⟩
   have t1:((L.length:Int)==(F:Int))=false:=beq_eq_false_iff_ne.2 (by omega);have t2:decide ((L.length:Int)=(F:Int))=false:=dF (by omega);have hrun:Z=if G.2=0 then iZ l (F- (L.length+1)) G.1 (L.map (·.1)++[kR i p]) else(cZ,[],G.2):=by
    rw[<-Hl.out,show F-L.length=(F- (L.length+1))+1 by omega]
    conv=>lhs;unfold iZ
    rw[ho];simp only;rw[Yn]
   by_cases hg0:G.2=0
   rotate_left
   .rw [if_neg hg0] at hy2 hrun;injection hy2 with e1 e2
    injection e2 with e2 e3
    subst e3;subst hrun;have t3:(G.2==0)=false:=beq_eq_false_iff_ne.2 hg0;have t4:(G.2 !=0)=true:=bne_iff_ne.2 hg0;have t5:decide (G.2=0)=false:=dF hg0;clear hY ho hG4 hgz Yn hne Dp h_ o7 Um Hl e1 e2;have f2:=fun i=>aA eY.out i;obtain⟨d0,d1,d2⟩:=ak eY.out
    go_wp2_with fail
    have hr3:=aN eY.out (.string ⟨#[]⟩) (.string ⟨#[]⟩) (.slice none 0 0);have hu:=aK ((w4.alloc (tO nx na nc)).alloc (.cells #[.int .i64 xi,.slice pa xp.length pc] 65)) (w.heap.size+1) (.string ⟨#[]⟩) (.string ⟨#[]⟩) (.slice none 0 0);obtain⟨e0,e1,e2⟩:=ak hr3;refine bodyPost_ret (v:= .tuple #[.agg #[.string ⟨#[]⟩,.string ⟨#[]⟩,.slice none 0 0],.slice none 0 0,.int .i64 (G.2)]) (by simp[results,Tryz.results42,go_sem,e0,e1,e2]) rfl ?_;have hue:=dA.out.trans' hu (fun j hj e=>by omega);exact⟨.slice none 0 0,.slice none 0 0,rfl,aI.nil _ _,nK.nil _ _ _,hue⟩
   rw[if_pos hg0] at hy2 hrun;injection hy2 with e1 e2
   injection e2 with e2 e3
   subst e3;subst e1;have hgz:=hgz hg0;have HWN:Hid (wf aJ G.1=true):=ah (by rw[hgz.1,<-hgz.1];first|exact hgz.2|(rw[hgz.1];exact hgz.2));have QB:=ah hrun;have HXE:=ah e2;obtain⟨nx,gn⟩:=G;dsimp only at*;clear hY ho hG4 hgz Yn hne hrun e2 Hl hg0
   go_upto_region 9 with fail
   try rw[hnb]
   generalize ((w4.alloc (tO nx na nc)).alloc (.cells #[.int .i64 xi,.slice pa xp.length pc] 65))=w5 at*;clear hnb;have Nq:=(uR w5).alloc (.cells #[.int .i64 xi,.slice pa xp.length pc] 65);have HOW:Hid ((w5.alloc (.cells #[.int .i64 xi,.slice pa xp.length pc] 65)).ownsRow (w.heap.size+2) 65 2 (.slice oa L.length oc) L.length (L.flatMap nM)):=ah (bH HG5.out.own Nq (fun _ _ h=>h));have yU:Hid (aG (fun _=>True) (w5.alloc (.cells #[.int .i64 xi,.slice pa xp.length pc] 65)) 2 (.slice (some ⟨w5.heap.size,0,none⟩) 1 1) 1 [Value.int .i64 xi,.slice pa xp.length pc]):=ah (aG.weaken (aG.fM (World.ownsRow_lit (base:=w5.heap.size) (e:=65) (size:=2) w5 #[.int .i64 xi,.slice pa xp.length pc] 1 (Nat.le_refl _) (by unfold maxLen;omega) (by simp))) (fun _ _=>trivial));have kF:Hid (∀u∈[Value.int .i64 xi,.slice pa xp.length pc],u.oneCell'=true):=ah (fun u hu=>by simp at hu;rcases hu with h|h<;>(subst h;rfl));have hown: ∀j,(Value.slice oa L.length oc).ownBlock=some j->w.heap.size+2<=j/\j<wr.heap.size:=fun j e=>HG.out.own.lt j e;have HOWN:=ah hown;have iW:Hid (L.length+1<=maxLen/\(L.length+1)*32<=140737488355328/\w.heap.size+2<=(w5.alloc (.cells #[.int .i64 xi,.slice pa xp.length pc] 65)).heap.size):=ah ⟨by unfold maxLen;omega,by omega,Nat.le_trans nO.out Nq.size⟩;obtain⟨iT,hi,hz0,hz1,hz2⟩:=info_parts X6;obtain⟨m0,m1⟩:=bT h_.out;clear hown Nq
   go_wp2_with(at_builtin;refine ji _ rfl (.tmp 33) (.tmp 35) 54 rfl (w.heap.size+2) 65 iT (.agg #[.int .i64 0,.slice none 0 0]) 2 32 Tryz.underlying54 hi hz0 hz1 hz2 rfl (by decide) _ _ _ rfl HOW.out (fun _=>True) (.slice (some ⟨w5.heap.size,0,none⟩) 1 1) 1 [Value.int .i64 xi,.slice pa xp.length pc] rfl yU.out kF.out ?c3 ?c4 iW.out.2.2 ?_)
   case c3=>exact iW.out.1
   case c4=>exact iW.out.2.1
   intro v7 w7 bK;obtain⟨a7,c7,hv7⟩:=bF bK.own;subst hv7;have QM:aC (fun j=>(Value.slice oa L.length oc).ownBlock=some j) w5 w7:=(((uR w5).alloc (.cells #[.int .i64 xi,.slice pa xp.length pc] 65)).mono (fun _ _ h=>h.elim)).trans bK.upd;have HN7:=ah (QM.heap Dp.out (fun e=>by have:=(HOWN.out _ e).2;have:=Az.out;omega));have Af:=ah (QM.heap qm.out (fun e=>by have:=HOWN.out _ e;omega));have Iy:=ah (QM.heap eY.out (fun e=>by have:=HOWN.out _ e;omega));have VI:=ah QM;have jO:=ah bK;clear bK QM m0 m1 hi hz0 hz1 hz2;obtain⟨k0,k1,k2⟩:=ak HN7.out;obtain⟨x0,x1,x2⟩:=ak Af.out;have f7:=fun i=>aA Af.out i
   go_wp2_with fail
   have hxe:nM (((xi,xp),pa,pc):Xe)=[Value.int .i64 xi,.slice pa xp.length pc]:=by simp[nM,zM]
   have bK:Grew (w.heap.size+2) 65 2 (.slice oa L.length oc) (L.length+1) (L.flatMap nM++nM (((xi,xp),pa,pc):Xe)) (w5.alloc (.cells #[.int .i64 xi,.slice pa xp.length pc] 65)) w7 (.slice a7 (L.length+1) c7):=by rw[hxe];exact jO.out
   have X8:=HG.out.grow HS.out eX.out (x:=((xi,xp),pa,pc)) (by
    have e:zM (((xi,xp),pa,pc):Xe)= .slice pa xp.length pc:=by simp[zM]
    rw[e];exact Um.out) (fun j hj=>hj) ((uR w5).alloc (.cells #[.int .i64 xi,.slice pa xp.length pc] 65)) (fun _ h=>h.elim) bK
   have hst:=aN Af.out (.string nx.name) (.string nx.sort) (.slice na nx.kids.length nc);have HQ8:=ah hst;have dB:=ah (aK w7 w.heap.size (.string nx.name) (.string nx.sort) (.slice na nx.kids.length nc));have hwh:=bK.uw;have X9:=ah (X8.kept dB.out (fun j hj _ e=>by omega));have dG:=ah ((dA.out.trans' VI.out (fun j hj e=>by have:=HOWN.out _ e;omega)).trans' dB.out (fun j hj e=>by omega));have Ae:=ah (dB.out.heap Iy.out (by omega));have X_:=ah (((o7.out.kept VI.out (fun j hj e=>by
    rcases hj with hj|hj
    .exact hj.2.2.2 e
    .have:=HOWN.out _ e;omega)).kept dB.out (fun j hj e=>by
    rcases hj with hj|hj
    .exact hj.1 e
    .have:=HS.out;omega)).weaken (fun j hj=>(by
    have h1:=HS.out;have h2:=H45.out;have h4:=Nat.le_trans VI.out.size dB.out.size;have h5:=eX.out.size;have hlt:j<w5.heap.size:=by
     rcases hj with hj|hj
     .have:=hj.2.2.1;omega
     .omega
    refine⟨?_,?_,aF hlt h4,fun e=>?_⟩
    .rcases hj with hj|hj
     .exact hj.1
     .omega
    .rcases hj with hj|hj
     .exact hj.2.1
     .omega
    .rcases hwh with h|h
     .rw [h] at e;rcases hj with hj|hj
      .exact hj.2.2.2 e
      .have:=HOWN.out _ e;omega
     .rw [h] at e;injection e with e;have h9:w5.heap.size< (w5.alloc (.cells #[.int .i64 xi,.slice pa xp.length pc] 65)).heap.size:=by simp
      omega:j≠w.heap.size/\j≠w.heap.size+1/\j<_/\(Value.slice a7 (L.length+1) c7).ownBlock≠some j)))
   have ig:=ah (Nat.le_trans nO.out (Nat.le_trans VI.out.size dB.out.size));have hlen:(L++[(((xi,xp),pa,pc):Xe)]).length=L.length+1:=by simp
   have ZN:Hid (iZ l (F- (L++[(((xi,xp),pa,pc):Xe)]).length) nx ((L++[(((xi,xp),pa,pc):Xe)]).map (·.1))=Z):=ah (by rw[hlen,List.map_append,QB.out];simp only[List.map_cons,List.map_nil];rw[<-HXE.out]);rw[<-hlen] at X9 X_⊢;clear X8 hwh bK hxe hst k0 k1 k2 x0 x1 x2 f7
   go_roundg (F- (L++[(((xi,xp),pa,pc):Xe)]).length)
   case measure=>rw[hlen];omega
   case rel=>exact⟨_,nx,a7,na,c7,nc,by rw[hlen],rfl,by rw[hlen];omega,X9,HQ8,Ae,X_,dG,ig,HWN,ZN⟩
theorem Uz {l:List Rl}: ∀(n:Nat) (t:Tm) (tr:List Rx),wf aJ t=true->(∀x∈tr,x.2.length<=1000)->tr.length+n<=5000->((iZ l n t tr).2.2=0/\wf aJ (iZ l n t tr).1=true\/(iZ l n t tr).2.2≠0/\(iZ l n t tr).1=cZ)/\(∀x∈(iZ l n t tr).2.1,x.2.length<=1000)/\(iZ l n t tr).2.1.length<=5000
 |0,t,tr,ht,hp,hl=>by
  unfold iZ;cases hf:iw l t with
  |none=>exact⟨.inl ⟨rfl,ht⟩,hp,hl⟩
  |some y=>exact⟨.inr ⟨by simp,rfl⟩,by simp,by simp⟩
 |n+1,t,tr,ht,hp,hl=>by
  unfold iZ;cases hf:iw l t with
  |none=>exact⟨.inl ⟨rfl,ht⟩,hp,by simp only;omega⟩
  |some y=>
   obtain⟨i,p,u⟩:=y;simp only;have hok:=(yh l t i p u hf).1;have hpl:=Aw p t hok;have hsz:=qG ht;by_cases hz:(gJ t p u).2=0
   .rw [if_pos hz];have hp0:=Fp hz;refine Uz n _ _ (by rw[hp0.1];exact hp0.2) (fun x hx=>?_) (by simp;omega);rcases List.mem_append.1 hx with hx|hx
    .exact hp x hx
    .rw [List.mem_singleton] at hx;subst hx;simp[kR];omega
   .rw [if_neg hz];exact⟨.inr ⟨hz,rfl⟩,by simp,by simp⟩
theorem RY {l:List Rl} (h:Fz l=false):l.length<=110/\(∀r∈l,r.1.size<=1100/\r.2.size<=1100)/\(dX l=true->∀r∈l,r.2.size<=60):=by
 unfold Fz at h;simp only[Bool.or_eq_false_iff,decide_eq_false_iff_not] at h;have hg: ∀r∈l,vP r=false:=fun r hr=>by
  cases hgr:vP r with
  |false=>rfl
  |true=>
   have:l.any vP=true:=List.any_eq_true.2 ⟨r,hr,hgr⟩;rw[h.2] at this;cases this
 refine⟨by omega,fun r hr=>?_,fun hrt r hr=>?_⟩
 .have:=hg r hr;unfold vP at this;simp only[Bool.or_eq_false_iff] at this;exact⟨tK this.1.1.1,tK this.1.1.2⟩
 .have:=hg r hr;unfold vP at this;simp only[Bool.or_eq_false_iff] at this;obtain⟨i,hi,e⟩:=List.getElem_of_mem hr;have e2:Go.Hw.rg l i=r:=by unfold Go.Hw.rg;rw[List.getD_eq_getElem?_getD,List.getElem?_eq_getElem hi];exact e
  have hrr:=wF (yX hrt hi);rw[e2] at hrr;have hf:=zo hrr.2.1;have h2:=this.2;rw[hf,Bool.true_and,decide_eq_false_iff_not] at h2;omega
theorem RZ {t:Tm} (h:Nh t=false):t.size<=1100:=by
 unfold Nh at h;simp only[Bool.or_eq_false_iff] at h;exact tK h.1
theorem aaL (l:List Rl) (t:Tm) (fuel:Int) (lv v:Value) (w:World) (hL:jq (fun k=>k<w.heap.size) w l lv) (hlm:l.length<=maxLen) (hT:bQ (fun k=>k<w.heap.size) w t v) (htab:dN w) (hfu: -9223372036854775808<=fuel/\fuel<=9223372036854775807):
  Calls Tryz.prog 9 #[lv,v,.int .i64 fuel] w fun e w'=>e= .returned (.bool true)/\Ext w w':=by
 have Fq:=ah hL;have t_:=ah hT;have HTAB:=ah htab;have HFU:=ah hfu;have HAW:=ah (fun W (hW:Ext w W)=>aaD W (aS htab hW));have Xp:=ah (fun W (hW:Ext w W)=>ado l lv W ((hL.ext hW).weaken (fun k hk=>aF hk hW.size)) hlm);have HHV:=ah (fun W (hW:Ext w W)=>ada t v W ((hT.ext hW).weaken (fun k hk=>aF hk hW.size)));obtain⟨la,lc,rfl⟩:=hL.shape;obtain⟨a,cap,rfl,hTL⟩:=hT;have hE:=(uR w).alloc (tO t a cap);have HE:=ah hE;have HB:=ah (ay w (tO t a cap));dsimp only[tV] at HHV⊢;have dH:=ah hTL;clear hL hTL htab hE hlm hfu
 go_enter Tryz.func9,Tryz.ntmps9
 go_wp2_with fail
 generalize w.alloc (tO t a cap)=w1 at*;refine(HAW.out _ HE.out).mono ?_;rintro e w2 ⟨rfl,hw⟩;have HE2:=ah (HE.out.trans hw);have HB2:=ah (hw.heap HB.out (fun h=>h));clear hw HE HB HAW
 go_wp2_with fail
 refine(Xp.out _ HE2.out).mono ?_;rintro e w3 ⟨rfl,hw⟩;have aY:=ah (HE2.out.trans hw);have HB3:=ah (hw.heap HB2.out (fun h=>h));clear hw HE2 HB2 Xp;obtain⟨b1,hb1⟩: ∃b,Fz l=b:=⟨_,rfl⟩
 rw[hb1];cases b1 with
 |true=>
  have F6:=aY;clear hb1
  go_wp2_with fail
  go_ret;exact⟨rfl,F6.out⟩
 |false=>
  have hgs:=RY hb1;have J9:=ah hgs;clear hb1 hgs;obtain⟨x0,x1,x2⟩:=ak HB3.out
  go_wp2_with fail
  refine(HHV.out _ aY.out).mono ?_;rintro e w4 ⟨rfl,hw⟩;have bW:=ah (aY.out.trans hw);have HB4:=ah (hw.heap HB3.out (fun h=>h));clear hw aY HB3 HHV x0 x1 x2;obtain⟨b2,hb2⟩: ∃b,Nh t=b:=⟨_,rfl⟩
  rw[hb2];cases b2 with
  |true=>
   have F6:=bW;clear hb2
   go_wp2_with fail
   go_ret;exact⟨rfl,F6.out⟩
  |false=>
   have Qh:=ah (RZ hb2);clear hb2;by_cases hf1:(60:Int)<fuel/\fuel<=2000
   .have t1:decide ((60:Int)<fuel)=true:=dT hf1.1;have t2:decide (fuel<=(2000:Int))=true:=dT hf1.2;have F6:=bW;clear hf1
    go_wp2_with fail
    go_ret;exact⟨rfl,F6.out⟩
   .have qN:=ah hf1;have htt:decide ((60:Int)<fuel)=false\/(decide ((60:Int)<fuel)=true/\decide (fuel<=(2000:Int))=false):=by
     by_cases h:(60:Int)<fuel
     .exact .inr ⟨dT h,dF (fun h2=>hf1 ⟨h,h2⟩)⟩
     .exact .inl (dF h)
    have zx:=ah (fun W (hW:Ext w W)=>QD l t fuel (.slice la l.length lc) (.agg #[.string t.name,.string t.sort,.slice a t.kids.length cap]) W ((Fq.out.ext hW).weaken (fun k hk=>aF hk hW.size)) ((t_.out.ext hW).weaken (fun k hk=>aF hk hW.size)) (aS HTAB.out hW) (by have:=J9.out.1;omega) (fun r hr=>by have:=J9.out.2.1 r hr;omega) J9.out.2.2 (by have:=Qh.out;omega) HFU.out);have Na:=ah (fun W (hW:Ext w W)=>adl l t fuel (.slice la l.length lc) (.agg #[.string t.name,.string t.sort,.slice a t.kids.length cap]) W ((Fq.out.ext hW).weaken (fun k hk=>aF hk hW.size)) ((t_.out.ext hW).weaken (fun k hk=>aF hk hW.size)) (aS HTAB.out hW) (by have:=J9.out.1;omega) (fun r hr=>by have:=J9.out.2.1 r hr;omega) J9.out.2.2 (by have:=Qh.out;omega) HFU.out);obtain⟨Z,hZ⟩: ∃Z,ny l t fuel=Z:=⟨_,rfl⟩
    have HZ:=ah hZ;rw[hZ] at zx Na;obtain⟨x,tr,en⟩:=Z;dsimp only[tV] at zx Na;clear hf1 hZ;obtain⟨x0,x1,x2⟩:=ak HB4.out;rcases htt with t1|⟨t1,t2⟩
    all_goals
     go_wp2_with fail
     refine(zx.out _ bW.out).mono ?_;rintro e w5 ⟨r,rfl,hTx,hw5⟩;clear t1
     try clear t2
     obtain⟨xa,xc,hr⟩:=hTx.shape;subst hr;have hX:=hw5.alloc (tO x xa xc);have dA:=ah (bW.out.trans hX);have fC:=ah (hX.heap HB4.out (fun h=>h));have h_:=ah (ay w5 (tO x xa xc));have ah6:=ah ((hTx.ext ((uR w5).alloc (tO x xa xc))).weaken (fun k hk=>(aF hk.2 ((uR w5).alloc (tO x xa xc)).size:k< (w5.alloc (tO x xa xc)).heap.size)));obtain⟨xb,hxb⟩: ∃n,w5.heap.size=n:=⟨_,rfl⟩
     rw[hxb] at h_;clear hX hw5 hTx zx bW HB4 x0 x1 x2;obtain⟨x0,x1,x2⟩:=ak fC.out
     go_wp2_with fail
     try rw[hxb]
     clear hxb;generalize w5.alloc (tO x xa xc)=w6 at*;refine(Na.out _ dA.out).mono ?_;rintro e w7 ⟨tv,rfl,vI,hw7⟩;obtain⟨ta,tc,htv⟩:=vI.shape;subst htv;have iG:=ah (dA.out.trans hw7);have eU:=ah (hw7.heap fC.out (fun h=>h));have Bg:=ah (hw7.heap h_.out (fun h=>h));have ah7:=ah ((ah6.out.ext hw7).weaken (fun k hk=>(aF hk hw7.size:k<w7.heap.size)));have HRX:=ah vI;clear vI hw7 Na dA fC h_ ah6 x0 x1 x2;have hX:=(uR w7).alloc (tO t a cap);have dG:=ah (iG.out.trans hX);have kJ:=ah (hX.heap eU.out (fun h=>h));have Tv:=ah (hX.heap Bg.out (fun h=>h));have ah8:=ah ((ah7.out.ext hX).weaken (fun k hk=>(aF hk hX.size:k< (w7.alloc (tO t a cap)).heap.size)));have ah9:=ah (HRX.out.ext hX);have Jc:=ah (adg l fuel [t] (.slice la l.length lc) (.slice (some ⟨w7.heap.size,0,none⟩) 1 1) _ (fun k=>k< (w7.alloc (tO t a cap)).heap.size) (w7.alloc (tO t a cap)) (Fq.out.ext dG.out) (mF (ay w7 (tO t a cap)) (by simp) ((dH.out.ext dG.out).weaken (fun k hk=>aF hk dG.out.size))) (by have:=J9.out.1;omega) HFU.out (by simp));obtain⟨x0,x1,x2⟩:=ak eU.out;clear hX iG
     go_wp2_with fail
     generalize w7.alloc (tO t a cap)=w8 at*;clear eU Bg ah7 x0 x1 x2;refine Jc.out.mono ?_;rintro e w9 ⟨rfl,jd⟩;have jg:=ah (dG.out.trans jd);have lK:=ah (jd.heap kJ.out (fun h=>h));have QC:=ah (jd.heap Tv.out (fun h=>h));have ah_:=ah ((ah8.out.ext jd).weaken (fun k hk=>(aF hk jd.size:k<w9.heap.size)));have ah':=ah (ah9.out.ext jd);clear jd Jc dG kJ Tv ah8 ah9 HRX;obtain⟨f,hf⟩: ∃f,qB l fuel [t]=f:=⟨_,rfl⟩
     rw[hf];by_cases hf0:f=0
     rotate_left
     .have hzz:=HZ.out;unfold ny at hzz;rw[if_neg (by rw[hf];exact hf0),hf] at hzz;injection hzz with e1 e2
      injection e2 with e2 e3
      subst e1 e2 e3;have t1:(f==0)=false:=beq_eq_false_iff_ne.2 hf0;have t3:(f !=0)=true:=bne_iff_ne.2 hf0;have t2:decide (f=0)=false:=dF hf0;have t4:(f==f)=true:=beq_self_eq_true _;have t5:decide (f=f)=true:=dT rfl;have HZE:=ah (fun W=>afZ cZ xa xc W);dsimp only[tV] at HZE;clear hf hf0;obtain⟨x0,x1,x2⟩:=ak QC.out
      go_wp2_with fail
      refine(HZE.out _).mono ?_;rintro e wz ⟨rfl,hwz⟩;have hb:(decide (cZ.name=au)&&decide (cZ.sort=au)&&decide (cZ.kids.length=0))=true:=by decide
      rw[hb];have F6:=ah (jg.out.trans hwz);clear hb hwz HZE x0 x1 x2
      go_wp2_with fail
      go_ret;exact⟨rfl,F6.out⟩
     .subst hf0;obtain⟨hr0,hw0,ZM,Vu⟩:=JF hf;obtain⟨F,hF⟩: ∃F:Nat,fuel=(F:Int):=⟨fuel.toNat,by omega⟩
      subst hF;have al6:F<=60:=by
       have h:=qN.out;refine Nat.le_of_not_lt (fun h2=>h ⟨by omega,Vu⟩)
      have hzz:=HZ.out;unfold ny at hzz;rw[if_pos hf,Int.toNat_natCast] at hzz;have hrs:=Uz (l:=l) F t [] hw0 (by simp) (by simp;omega);rw[hzz] at hrs;dsimp only at hrs;have hbx:pR [x]=false/\x.size<=1000:=by
       rcases hrs.1 with h|h
       .exact ⟨aib h.2,qG h.2⟩
       .rw [h.2];exact⟨adE,by decide⟩
      have iV:=ah (Yl l t F (.slice la l.length lc) (.agg #[.string t.name,.string t.sort,.slice a t.kids.length cap]) w9 ((Fq.out.ext jg.out).weaken (fun k hk=>aF hk jg.out.size)) ((t_.out.ext jg.out).weaken (fun k hk=>aF hk jg.out.size)) hr0 hw0 (by have:=J9.out.1;omega) (fun r hr=>by have:=J9.out.2.1 r hr;omega) (by omega));rw[hzz] at iV;dsimp only[tV] at iV;have jS:=ah hbx;have xO:=ah (And.intro hrs.2.1 hrs.2.2);clear hf hr0 hw0 ZM Vu al6 hzz hrs hbx;obtain⟨x0,x1,x2⟩:=ak lK.out
      go_wp2_with fail
      refine iV.out.mono ?_;rintro e wa ⟨r,tv2,rfl,hTy,hRy,AU⟩;obtain⟨ya,yc,hr⟩:=hTy.shape;subst hr;obtain⟨ra,rc,hr⟩:=hRy.shape;subst hr;have hX:=AU.alloc (tO x ya yc);have HEa:=ah (jg.out.trans hX);have HXa:=ah (hX.heap QC.out (fun h=>h));have HYa:=ah (ay wa (tO x ya yc));have aif:=ah ((ah_.out.ext hX).weaken (fun k hk=>(aF hk hX.size:k< (wa.alloc (tO x ya yc)).heap.size)));have aii:=ah ((hTy.ext ((uR wa).alloc (tO x ya yc))).weaken (fun k hk=>(aF hk ((uR wa).alloc (tO x ya yc)).size:k< (wa.alloc (tO x ya yc)).heap.size)));have aij:=ah (ah'.out.ext hX);have aik:=ah (hRy.ext ((uR wa).alloc (tO x ya yc)));obtain⟨yb,hyb⟩: ∃n,wa.heap.size=n:=⟨_,rfl⟩
      rw[hyb] at HYa;clear hX AU hTy hRy iV jg lK QC ah_ ah' x0 x1 x2;dsimp only
      go_upto_region 11 with fail
      try rw[hyb]
      clear hyb;generalize wa.alloc (tO x ya yc)=wb at*;have hX:=(uR wb).alloc (tO x xa xc);have HEc:=ah (HEa.out.trans hX);have HXc:=ah (hX.heap HXa.out (fun h=>h));have HYc:=ah (hX.heap HYa.out (fun h=>h));have aaM:=ah ((aif.out.ext hX).weaken (fun k hk=>(aF hk hX.size:k< (wb.alloc (tO x xa xc)).heap.size)));have ail:=ah ((aii.out.ext hX).weaken (fun k hk=>(aF hk hX.size:k< (wb.alloc (tO x xa xc)).heap.size)));have ain:=ah (aij.out.ext hX);have aio:=ah (aik.out.ext hX);have Fa:=ah (Oc [x] (.slice (some ⟨wb.heap.size,0,none⟩) 1 1) (fun k=>k< (wb.alloc (tO x xa xc)).heap.size) (wb.alloc (tO x xa xc)) (mF (ay wb (tO x xa xc)) (by simp) aaM.out) (fun k hk=>hk) (by simp));rw[jS.out.1] at Fa;obtain⟨x0,x1,x2⟩:=ak HXa.out;clear hX
      go_wp2_with fail
      generalize wb.alloc (tO x xa xc)=wc at*;clear HXa HYa aif aii aij aik HEa x0 x1 x2;refine Fa.out.mono ?_;rintro e wd ⟨rfl,hwd⟩;have sQ:=ah (yG x x (.agg #[.string x.name,.string x.sort,.slice xa x.kids.length xc]) (.agg #[.string x.name,.string x.sort,.slice ya x.kids.length yc]) _ _ wd ⟨xa,xc,rfl,aaM.out.ext hwd⟩ ⟨ya,yc,rfl,ail.out.ext hwd⟩ (by have:=jS.out.2;omega));have HEd:=ah (HEc.out.trans hwd);have HXd:=ah (hwd.heap HXc.out (fun h=>h));have HYd:=ah (hwd.heap HYc.out (fun h=>h));have al7:=ah (ain.out.ext hwd);have al8:=ah (aio.out.ext hwd);clear hwd Fa HEc HXc HYc aaM ail ain aio;obtain⟨x0,x1,x2⟩:=ak HXd.out;obtain⟨y0,y1,y2⟩:=ak HYd.out
      go_wp2_with fail
      refine sQ.out.mono ?_;rintro e we ⟨he,hwe⟩;obtain rfl:e= .returned (.bool true):=by simpa using he
      have HEe:=ah (HEd.out.trans hwe);have aip:=ah (QE tr tr (.slice ta tr.length tc) (.slice ra tr.length rc) _ _ _ _ we (al7.out.ext hwe) (al8.out.ext hwe) (by have:=xO.out.2;omega) (fun y hy=>by have:=xO.out.1 y hy;omega));have t4:(en==en)=true:=beq_self_eq_true _;have t5:decide (en=en)=true:=dT rfl;have t6:((tr.length:Int)==(tr.length:Int))=true:=beq_self_eq_true _;have t7:decide ((tr.length:Int)=(tr.length:Int))=true:=dT rfl;clear hwe sQ he x0 x1 x2 y0 y1 y2
      go_wp2_with fail
      refine aip.out.mono ?_;rintro e wf' ⟨he,hwf⟩;obtain rfl:e= .returned (.bool true):=by simpa using he
      have F6:=ah (HEe.out.trans hwf);clear hwf he aip
      go_wp2_with fail
      go_ret;exact⟨rfl,F6.out⟩
end
end Go.Proofs.YtlkcjmaiahnodaaGreatDoor
