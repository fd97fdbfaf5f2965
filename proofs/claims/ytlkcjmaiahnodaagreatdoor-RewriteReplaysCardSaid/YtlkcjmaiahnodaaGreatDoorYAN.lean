/- The texts N38 N39 N40 I95 N74 N75 N41 N42, one behind the other. -/
import Derived.Test.YtlkcjmaiahnodaaGreatDoorYAM
import Derived.Test.YtlkcjmaiahnodaaGreatDoorYAK
import Derived.Test.YtlkcjmaiahnodaaGreatDoorYAH
import Derived.Deep.DeepCutAuto
import Derived.Test.YtlkcjmaiahnodaaGreatDoorYAL
set_option maxRecDepth 100000
set_option maxHeartbeats 8000000
set_option linter.unusedVariables false
set_option linter.unusedSimpArgs false
namespace Go.Proofs.YtlkcjmaiahnodaaGreatDoor
open Go.RowKit Go.Hw Go Tm
section
open Go.Sort Go.Proofs Go.ChangeMaps
theorem XT (Bs:List Bd) (vB:Value) (bs:Nat) (RB S0:Nat->Prop) (w0:World) (gW:Hid (w0.heap[bs]?=some (.cells #[vB] 27 (0,0)))) (HBn:Hid (gQ RB S0 w0 vB Bs)) (DJ:Hid (∀k,S0 k->k<w0.heap.size)) (HAS:Hid (AscK (Prod.fst:Bd->By) Bs)) (kP:Hid (Bs.length<=1000000)): ∀(t:Tm) (v:Value) (S:Nat->Prop) (w:World),Ext w0 w->bG S w t v->(∀k,S k->k<w.heap.size)->t.size<=100000->tZ t->(∀f∈cu t,(fE Bs f.1 f.2).size<=100000)->
  Calls Tryz.prog 80 #[v,.func (.func 151) #[] #[.pointer (some ⟨bs,0,none⟩)]] w fun e w'=> ∃r B,e= .returned (tV (gu (fE Bs) t) r)/\aG 24 w' B (gu (fE Bs) t).kids r/\(∀j,B j->w.heap.size<=j/\j<w'.heap.size)/\Ext w w':=by
 refine Tm.ind (fun n s L ih=>?_);intro v S w hw0 hT hS hsz DI hok;have xx:=ae DI;clear DI;obtain⟨Z,jA⟩: ∃Z,gu (fE Bs) (.mk n s L)=Z:=⟨_,rfl⟩
 rw[jA];have gY:=ae jA;clear jA;obtain⟨a,cap,rfl,hT⟩:=hT;dsimp only[tV,Tm.name,Tm.sort,Tm.kids] at hT⊢;have cZ:=ae hT;have HIH:=ae ih;have gm:=ae hS;have HW0:=ae hw0;have jO:=ae hok;have fB:sizes L+1<=100000:=by rw[size_eq] at hsz;simp only[Tm.kids] at hsz;omega
 have kK:=ae fB;have jW:L.length<=100000:=by have h1:=aX L;omega
 have pq:=ae (fun W=>lJ n s a L.length cap W);have hZ:=((uR w).alloc (.cells #[.string n,.string s,.slice a L.length cap] 24)).alloc zO;have HB2:=ae (ak (aj w (.cells #[.string n,.string s,.slice a L.length cap] 24)) zO);have HB3:=ae (alloc_at (w.alloc (.cells #[.string n,.string s,.slice a L.length cap] 24)) zO (n:=w.heap.size+1) (by simp));have hz2:w.heap.size+2<=((w.alloc (.cells #[.string n,.string s,.slice a L.length cap] 24)).alloc zO).heap.size:=by simp
 obtain⟨x0,x1,x2⟩:=af HB2.out;have HZ:=ae hZ;have HZ2:=ae hz2;clear ih hT hS hsz fB hZ hz2 hw0 hok;by_cases hs0:s=ah
 rotate_left
 .rw [dF hs0] at pq;have HZQ:Hid (fE Bs n s=Z):=ae (by rw[<-gY.out];exact(nU _ hs0 L).symm);have DD:Hid (Z.size<=100000):=ae (by rw[<-HZQ.out];exact jO.out (n,s) (lN hs0 L));obtain⟨zn,zs,zl⟩:=Z;have GL:Hid (L=[]):=ae (xx.out (.mk n s L) (iZ _) hs0);clear hs0
  go_enter Tryz.func80,Tryz.ntmps80
  go_wp2_with fail
  refine(pq.out _).mono ?_;rintro e w3 ⟨rfl,hw3⟩;have aT:=ae (HZ.out.trans hw3);have eP:Hid (w.heap.size+2<=w3.heap.size):=ae (Nat.le_trans HZ2.out hw3.size);have fG:=ae (hw3.heap HB2.out (fun h=>h));have uD:=ae (hw3.heap HB3.out (fun h=>h));clear hw3 pq x0 x1 x2;obtain⟨x0,x1,x2⟩:=af fG.out
  go_wp2_with fail
  have hvc:=(NY Bs vB bs n s L a cap RB S0 S w3 GL.out (cZ.out.ext aT.out) ((HW0.out.trans aT.out).heap gW.out (fun h=>h)) (HBn.out.ext (HW0.out.trans aT.out)) (fun k hk=>ax (DJ.out k hk) (HW0.out.trans aT.out).size) (fun k hk=>ax (gm.out k hk) aT.out.size) HAS.out kP.out)
  rw[HZQ.out] at hvc;have Vz:=ae hvc;clear hvc;refine Vz.out.mono ?_;rintro e w6 ⟨ra,rc,rfl,ZL,hw6⟩;have oH:=ae (Dp (.mk zn zs zl) (tV (.mk zn zs zl) (.slice ra zl.length rc)) (fun k=>k<w6.heap.size) w6 ⟨ra,rc,rfl,ZL.weaken (fun k hk=>ax hk hw6.size)⟩ (fun k h=>h) DD.out);clear ZL;dsimp only[tV,Tm.name,Tm.sort,Tm.kids] at oH⊢;have dS:=ae (aT.out.trans hw6);have qP:=ae (hw6.heap uD.out (fun h=>h));have uS:Hid (w.heap.size+2<=w6.heap.size):=ae (Nat.le_trans eP.out hw6.size);clear hw6 x0 x1 x2
  go_wp2_with fail
  refine oH.out.mono ?_;rintro e w7 ⟨r7,B7,rfl,xw,hb7,hw7⟩;obtain⟨ya,yc,iO⟩:=aG.shape xw;subst iO;have Fq:=ae xw;have dZ:=ae hb7;have ig:=ae (dS.out.trans hw7);have pO:=ae (hw7.heap qP.out (fun h=>h));obtain⟨d0,d1,d2⟩:=af pO.out;have f2:=fun i=>ai pO.out i;dsimp only[tV]
  try dsimp only[Tm.name,Tm.sort,Tm.kids,List.length_nil]
  clear xw hb7 hw7 oH
  go_wp2_with fail
  have hr3:=aF pO.out (.string zn) (.string zs) (.slice ya zl.length yc);have hu:=aC w7 (w.heap.size+1) (.string zn) (.string zs) (.slice ya zl.length yc);obtain⟨e0,e1,e2⟩:=af hr3;have hs6:=uS.out;refine bodyPost_ret (v:= .agg #[.string zn,.string zs,.slice ya zl.length yc]) (by simp[results,Tryz.results80,go_sem,e0,e1,e2]) rfl ⟨.slice ya zl.length yc,B7,rfl,Fq.out.kept hu (fun j hj e=>by have h1:=(dZ.out j hj).1;omega),fun j hj=>⟨by have h1:=(dZ.out j hj).1;omega,ax (dZ.out j hj).2 hu.size⟩,ig.out.trans' hu (fun j hj e=>by omega)⟩
 rw[dT hs0] at pq;obtain rfl:Z= .mk n ah (L.map (gu (fE Bs))):=by rw[<-gY.out,hs0];exact rD _ n L
 have NG:Hid (∀x∈L,∀f∈cu x,(fE Bs f.1 f.2).size<=100000):=ae (fun x hx f hf=>jO.out f (by
  rw[hs0,sU];exact List.mem_flatMap.2 ⟨x,hx,hf⟩))
 clear hs0
 go_enter Tryz.func80,Tryz.ntmps80
 go_wp2_with fail
 refine(pq.out _).mono ?_;rintro e w3 ⟨rfl,hw3⟩;have aT:=ae (HZ.out.trans hw3);have fG:=ae (hw3.heap HB2.out (fun h=>h));have uD:=ae (hw3.heap HB3.out (fun h=>h));have eP:Hid (w.heap.size+2<=w3.heap.size):=ae (Nat.le_trans HZ2.out hw3.size);clear hw3 pq x0 x1 x2;have vW:=ae ((uR w3).alloc (.cells #[.string n,.string ⟨#[]⟩,.slice none 0 0] 24));have dQ:=ae (ak fG.out (.cells #[.string n,.string ⟨#[]⟩,.slice none 0 0] 24));have pR:=ae (ak uD.out (.cells #[.string n,.string ⟨#[]⟩,.slice none 0 0] 24));have uF:=ae (aj w3 (.cells #[.string n,.string ⟨#[]⟩,.slice none 0 0] 24));have eY:Hid (w3.heap.size+1<=(w3.alloc (.cells #[.string n,.string ⟨#[]⟩,.slice none 0 0] 24)).heap.size):=ae (by simp);obtain⟨x0,x1,x2⟩:=af fG.out;obtain⟨u0,u1,u2⟩:=af dQ.out
 go_wp2_with fail
 generalize w3.alloc (.cells #[.string n,.string ⟨#[]⟩,.slice none 0 0] 24)=w4 at*;obtain⟨n3,hn3⟩: ∃n3,w3.heap.size=n3:=⟨_,rfl⟩
 rw[hn3] at uF eY eP⊢;have bD:=ae (aT.out.trans vW.out);have jP:Hid (mP 24 (n3+1) w4 (L.map (gu (fE Bs))) (.slice none 0 0) [] (fun _ _=>False) 0):=ae ⟨rfl,⟨rfl,.inl ⟨rfl,rfl⟩⟩,fun i hi=>absurd hi (Nat.not_lt_zero _),fun i j hi=>absurd hi (Nat.not_lt_zero _),fun i i' j hi=>absurd hi (Nat.not_lt_zero _)⟩;clear hn3 x0 x1 x2 u0 u1 u2 vW aT fG uD dQ HZ HB2 HB3
 go_loopg [20] L.length (fun gk iv wr=> ∃(k:Nat) (lv:Value) (us:List Value) (Bk:Nat->Nat->Prop),iv= .int .i64 (k:Int)/\gk=L.length-k/\k<=L.length/\Hid (mP 24 (n3+1) wr (L.map (gu (fE Bs))) lv us Bk k)/\Hid (wr.heap[w.heap.size+1]?=some zO)/\Hid (wr.heap[n3]?=some (.cells #[.string n,.string ⟨#[]⟩,lv] 24 (0,0)))/\Hid (Ext w wr)/\Hid (n3+1<=wr.heap.size))
 case atStart=>exact⟨0,_,_,_,rfl,rfl,Nat.zero_le _,jP,pR,uF,bD,eY⟩
 case round=>
  clear jP pR uF bD eY;obtain⟨k,lv,us,Bk,rfl,rfl,hk,HJ,HB2,HB3,HE,bT⟩:=hrel;obtain⟨la,lc,hlv⟩:=aY HJ.out.own;subst hlv;by_cases hlt:k<L.length
  .obtain ⟨g,off,hga,_,hat⟩:=(cZ.out.ext HE.out).at_ (by omega);subst hga;obtain⟨xa,xc,q0,q1,q2,aQ⟩:=hat k hlt;rw[<-Nat.add_assoc] at q1 q2;obtain⟨z0,z1,z2,z2'⟩:=bJ hlt;have aW:=ae (fun W (hW:Ext wr W)=>HIH.out (tg L k) (bM L k hlt) _ S W (HW0.out.trans (HE.out.trans hW)) ⟨xa,xc,rfl,aQ.ext hW⟩ (fun j hj=>ax (gm.out j hj) (Nat.le_trans HE.out.size hW.size)) (by have h1:=kK.out;have h2:=eU (bM L k hlt);omega) (xx.out.kid (bM L k hlt)) (NG.out _ (bM L k hlt)));dsimp only[tV] at aW;obtain⟨x,hx⟩: ∃x,tg L k=x:=⟨_,rfl⟩
   have hzx:tg (L.map (gu (fE Bs))) k=gu (fE Bs) x:=by
    rw[<-hx];unfold tg;rw[List.getD_eq_getElem?_getD,List.getD_eq_getElem?_getD,List.getElem?_map,List.getElem?_eq_getElem hlt];rfl
   obtain⟨z,hz⟩: ∃z,gu (fE Bs) x=z:=⟨_,rfl⟩
   rw[hx,hz] at aW;rw[hx] at q0 q1 q2;rw[hz] at hzx;have NH:=ae hzx;have hQ:=(uR wr).alloc (tO x xa xc);have lF:=aj wr (tO x xa xc);obtain⟨b0,b1,b2⟩:=af lF;have kL:=ak HB3.out (tO x xa xc);have c2:=ag kL 2 (.slice la k lc) rfl;have xW:=ae kL;have HQ:=ae hQ;have wW:=ae (ak HB2.out (tO x xa xc));have CB:=ae (HJ.out.own.alloc (tO x xa xc));have g_:Hid (¬(Value.slice la k lc).ownBlock=some n3):=ae (fun e=>by have h1:=(HJ.out.own.lt n3 e).1;omega);have HK:Hid (k<=100000):=ae (by omega);obtain⟨iT,hi,hz0,hz1,hz2⟩:=info_parts rQ;clear hat aQ hx hQ lF kL hz hzx
   go_wp2_with fail
   generalize wr.alloc (tO x xa xc)=wq at*;have CE:Hid (Ext wq wq):=ae (au.refl _ _);have rq:Hid (n3+1<=wq.heap.size):=ae (Nat.le_trans bT.out HQ.out.size);clear q0 q1 q2
   go_region_law (first
    |(refine dJ _ (.tmp 25) (.tmp 29) 22 rfl (n3+1) 24 iT (.agg #[.string ⟨#[]⟩,.string ⟨#[]⟩,.slice none 0 0]) 3 56 Tryz.underlying22 hi hz0 hz1 hz2 rfl (by decide) _ _ _ rfl wX.out _ 1 1 [Value.string z.name,.string z.sort,.slice ya z.kids.length yc] rfl rfl ni.out kM.out iM.out.1 iM.out.2.1 iM.out.2.2 ?_;intro v7 w7 bF;obtain⟨a7,c7,hv7⟩:=aY bF.own;subst hv7;have d_:=bF.upd.heap (ak dW.out (tO z ya yc)) g_.out;have f7:=fun i=>ai d_ i;have c2:=ag d_ 2 (.slice la k lc) rfl;have dZ:=ae d_;have jw:=ae bF;clear bF d_)
    |(go_simp;refine(aW.out wq.drew (HQ.out.trans CE.out.drew)).mono ?_;rintro e w5 ⟨r,Bx,rfl,j_,hb5,hw5⟩;obtain⟨ya,yc,iO⟩:=aG.shape j_;subst iO;have bV:Hid (Ext wq w5):=ae (((uR wq).drewN' 1).trans hw5);have p_:=ae j_;have qH:Hid (∀j,Bx j->wq.heap.size<=j/\j<w5.heap.size):=ae hb5;have dW:=ae (bV.out.heap xW.out (fun h=>h));have wX:Hid ((w5.alloc (tO z ya yc)).ownsRow (n3+1) 24 3 (.slice la k lc) k (bY ((L.map (gu (fE Bs))).take k) us)):=ae ((bI CB.out bV.out (fun _ _ h=>h)).alloc _);have ni:Hid (∀(j:Nat) (u:Value),[Value.string z.name,.string z.sort,.slice ya z.kids.length yc][j]?=some u->(w5.alloc (tO z ya yc)).cell? ((⟨w5.heap.size,0,none⟩:Addr).add j)=some u):=ae (yC w5 _ _ _ 24);have kM:Hid (∀u∈[Value.string z.name,.string z.sort,.slice ya z.kids.length yc],u.oneCell'=true):=ae (fun u hu=>by simp at hu;rcases hu with h|h|h<;>(subst h;rfl));have iM:Hid (k+1<=maxLen/\(k+1)*56<=140737488355328/\n3+1<=(w5.alloc (tO z ya yc)).heap.size):=ae ⟨by unfold maxLen;have:=HK.out;omega,by have:=HK.out;omega,by have h1:=bV.out.size;have h2:=rq.out;simp;omega⟩;have c5:=bV.out.cell c2 (fun h=>h);have c6:=((uR w5).alloc (tO z ya yc)).cell c5 (fun h=>h);clear j_ hb5 hw5))
   all_goals
    go_wp2_with fail
    have fO:=ae ((au.refl (fun j=>j=n3) w7).setCell (p:=⟨n3,2,none⟩) (.inl rfl) (.slice a7 (k+1) c7));have bQ:Hid (au (fun j=>(Value.slice la k lc).ownBlock=some j\/j=n3) wq (w7.setCell ⟨n3,2,none⟩ (.slice a7 (k+1) c7))):=ae (((((bV.out.alloc (tO z ya yc)).mono (fun _ _ x=>x.elim)).trans (jw.out.upd.mono (fun _ _ e=> .inl e)))).trans (fO.out.mono (fun _ _ e=> .inr e)));have rW:=ae (HJ.out.grow (by rw[List.length_map];exact hlt) NH.out (by omega) bT.out HQ.out bV.out p_.out qH.out ((uR w5).alloc (tO z ya yc)) jw.out fO.out);have hs3:=eP.out;have bU:Hid (Ext w (w7.setCell ⟨n3,2,none⟩ (.slice a7 (k+1) c7))):=ae ((HE.out.trans HQ.out).trans' bQ.out (fun j hj e=>by
     rcases e with e|e
     .have h1:=(HJ.out.own.lt j e).1;omega
     .omega))
    have lL:=ae (bQ.out.heap wW.out (fun e=>by
     rcases e with e|e
     .have h1:=(HJ.out.own.lt _ e).1;omega
     .omega))
    have iP:=setBlock dZ.out 2 (.slice a7 (k+1) c7);have kX:Hid ((w7.setCell ⟨n3,2,none⟩ (.slice a7 (k+1) c7)).heap[n3]?=some (.cells #[.string n,.string ⟨#[]⟩,.slice a7 (k+1) c7] 24 (0,0))):=ae (by simpa using iP);have jy:Hid (n3+1<=(w7.setCell ⟨n3,2,none⟩ (.slice a7 (k+1) c7)).heap.size):=ae (Nat.le_trans rq.out bQ.out.size);clear iP c2 f7
    go_roundg (L.length- (k+1))
    case measure=>omega
    case rel=>exact⟨k+1,_,_,_,by go_num,rfl,by omega,rW,lL,kX,bU,jy⟩
  .obtain rfl:k=L.length:=by omega
   have z2:decide ((L.length:Int)< (L.length:Int))=false:=dF (by omega);have hfin:=HJ.out;have hll:(L.map (gu (fE Bs))).length=L.length:=List.length_map ..;rw[<-hll] at hfin;have hfin:=hfin.fin;have kY:=ae hfin;rw[hll] at kY;obtain⟨c0,c1,c2⟩:=af HB3.out;have f2:=fun i=>ai HB2.out i;obtain⟨d0,d1,d2⟩:=af HB2.out;clear hfin hll
   go_wp2_with fail
   have hr3:=aF HB2.out (.string n) (.string ⟨#[]⟩) (.slice la L.length lc);have hu:=aC wr (w.heap.size+1) (.string n) (.string ⟨#[]⟩) (.slice la L.length lc);obtain⟨e0,e1,e2⟩:=af hr3;have hs3:=eP.out;refine bodyPost_ret (v:= .agg #[.string n,.string ⟨#[]⟩,.slice la L.length lc]) (by simp[results,Tryz.results80,go_sem,e0,e1,e2]) rfl ⟨.slice la L.length lc,fun j=>n3+1<=j/\j<wr.heap.size,by simp[List.length_map,ah],kY.out.kept hu (fun j hj e=>by have h1:=hj.1;omega),fun j hj=>⟨by have h1:=hj.1;omega,ax hj.2 hu.size⟩,HE.out.trans' hu (fun j hj e=>by omega)⟩
theorem adX {t:Tm} {f:Vd} (h:wf aB t=true) (hf:f∈cu t) (hs:f.2≠ah):wf aB (vr f.1 f.2)=true:=by
 obtain⟨x,hx,h1,h2⟩:=Ah hf;obtain⟨_,_,hn,_⟩:=mF.1 h;obtain⟨n1,n2,n3⟩:=hn x hx;rw[h1] at n1;rw[h2] at n3;have n4:=(n3.resolve_left hs).1;refine mF.2 ⟨by show 1<=1000;decide,by show 1<=60;decide,fun y hy=>?_,?_⟩
 .have:y=vr f.1 f.2:=by
   rw[lq] at hy;simpa[vr,Tm.kids] using hy
  rw[this];exact⟨n1,by simp[vr,Tm.kids],.inr ⟨n4,rfl⟩⟩
 .rw [N7 hs];intro a ha b hb _;simp at ha hb;rw[ha,hb]
theorem adY {Bs:List Bd} {t:Tm} {f:Vd} (hv:pW aB Bs=true) (h:wf aB t=true) (hf:f∈cu t) (hs:f.2≠ah):wf aB (fE Bs f.1 f.2)=true:=by
 cases hb:bf Bs f.1 with
 |none=>rw[F7 hb];exact adX h hf hs
 |some T=>
  rw[xA hb];obtain⟨b,hb1,_,h3⟩:=rE hb;rw[<-h3];exact((DN hv).2.2 b hb1).2.2.1
theorem XU (Bs:List Bd) (t:Tm) (vB v:Value) (RB SB:Nat->Prop) (w:World) (htab:cO w) (hB:gQ RB SB w vB Bs) (hSB: ∀k,SB k->k<w.heap.size) (hR:bG (fun k=>k<w.heap.size) w t v) (hv:pW aB Bs=true) (hw:wf aB t=true):
  Calls Tryz.prog 88 #[vB,v] w fun e w'=> ∃r B,e= .returned (.tuple #[tV (app1 aB Bs t).1 r,.int .i64 (app1 aB Bs t).2])/\aG 24 w' B (app1 aB Bs t).1.kids r/\(∀j,B j->w.heap.size<=j/\j<w'.heap.size)/\Ext w w':=by
 have HR:=ae hR;have gW:=ae hB;have vZ:=ae hSB;obtain⟨Z,jA⟩: ∃Z,app1 aB Bs t=Z:=⟨_,rfl⟩
 rw[jA];have gY:=ae jA;clear jA;obtain⟨va,vc,rfl⟩:=hB.shape;obtain⟨a,cap,rfl,hT⟩:=hR;have hbl:=(DN hv).1;have hasc:=(DN hv).2.1;have adZ:=nT hw;have vY:=o6 hw;have hvl:=mY hw;have hvm:=(yt hw).2;have xx:=ae (Cc hw);have ad1:Hid (∀f∈cu t,wf aB (fE Bs f.1 f.2)=true):=ae (fun f hf=>adY hv hw hf (Ib hf));have MM:=ae hasc;have kP:=ae hbl;have QQ:=ae adZ;have je:=ae htab;have HV:=ae (fun W (hW:Ext w W)=>qX t _ W (aJ htab hW) ((HR.out.ext hW).weaken (fun k hk=>ax hk hW.size)) (by omega));rw[vY] at HV;have Vy:=ae (fun nm W (hW:Ext w W)=>ZH Bs (.slice va Bs.length vc) nm RB SB W (gW.out.ext hW) hasc (by omega));have hcl:Tc Bs t=(aO t).any fun f=>match sZ Bs f.1 with|some so=>!decide (so=f.2)|none=>false:=rfl
 obtain⟨VL,Dv⟩: ∃L,aO t=L:=⟨_,rfl⟩
 rw[Dv] at HV hvl hcl;have jQ:=ae hcl;have hlv:VL.length<=100000:=by omega
 have HLV:=ae hlv;dsimp only[tV] at HV⊢;have hZ:=(((uR w).alloc (.cells #[.slice va Bs.length vc] 27)).alloc (tO t a cap)).alloc zO;have H1:=ae (ak (ak (aj w (.cells #[.slice va Bs.length vc] 27)) (tO t a cap)) zO);have H2:=ae (ak (alloc_at (w.alloc (.cells #[.slice va Bs.length vc] 27)) (tO t a cap) (n:=w.heap.size+1) (by simp)) zO);have H3:=ae (alloc_at ((w.alloc (.cells #[.slice va Bs.length vc] 27)).alloc (tO t a cap)) zO (n:=w.heap.size+2) (by simp));have hz3:w.heap.size+3<=(((w.alloc (.cells #[.slice va Bs.length vc] 27)).alloc (tO t a cap)).alloc zO).heap.size:=by simp
 have HZ3:=ae hz3;obtain⟨x0,x1,x2⟩:=af H2.out;have HZ:=ae hZ;clear hT htab hB hSB hv hw hbl hasc adZ vY hvl hvm hcl Dv hlv hZ hz3
 go_enter Tryz.func88,Tryz.ntmps88
 go_wp2_with fail
 try rw[show w.heap.size+1+1=w.heap.size+2 from rfl]
 generalize (((w.alloc (.cells #[.slice va Bs.length vc] 27)).alloc (tO t a cap)).alloc zO)=wa at*;refine(HV.out _ HZ.out).mono ?_;rintro e w4 ⟨r1,rfl,hr1,hw4⟩;have bD:=ae (HZ.out.trans hw4);have N8:=ae (hw4.heap H1.out (fun h=>h));have zA:=ae (hw4.heap H2.out (fun h=>h));have ui:=ae (hw4.heap H3.out (fun h=>h));have eY:Hid (w.heap.size+3<=w4.heap.size):=ae (Nat.le_trans HZ3.out hw4.size);have JP:=ae hr1;obtain⟨p1,c1,hp1⟩:=b_.shape hr1;subst hp1;clear hw4 x0 x1 x2 H1 H2 H3 HZ HZ3 HV hr1;have hlv:=HLV.out
 go_wp2_with fail
 go_loopg [23] VL.length (fun gk iv wr=> ∃k:Nat,iv= .int .i64 (k:Int)/\gk=VL.length-k/\k<=VL.length/\Hid (Ext w4 wr)/\Hid (∀f∈VL.take k,(match sZ Bs f.1 with|some so=>!decide (so=f.2)|none=>false)=false))
 case atStart=>exact⟨0,rfl,rfl,Nat.zero_le _,ae (au.refl _ _),ae (fun v hv=>by simp at hv)⟩
 case round=>
  obtain⟨k,rfl,rfl,hk,HE,Gv⟩:=hrel;by_cases hlt:k<VL.length
  .obtain ⟨g,off,hga,hat⟩:=b_.at_ (b_.ext JP.out HE.out) (by omega);subst hga;obtain⟨q0,q1⟩:=hat k hlt;have htk:=Ez VL k hlt;have hvm:=wP hlt;obtain⟨v,hv⟩: ∃v,vg VL k=v:=⟨_,rfl⟩
   rw[hv] at q0 q1 htk hvm;obtain⟨nm,so⟩:=v;simp only at q0 q1;obtain⟨z0,z1,z2,z2'⟩:=bJ hlt;have nS:=HE.out.alloc (.cells #[.string nm,.string so] 116);have jk:=ae nS;have dW:=ae (aj wr (.cells #[.string nm,.string so] 116));have e0:=ag dW.out 0 (.string nm) rfl;have s0:=ag (nS.heap N8.out (fun h=>h)) 0 (.slice va Bs.length vc) rfl;have QC:=ae (Vy.out nm _ (bD.out.trans nS));have hno: ∀sb,sZ Bs nm=some sb->sb≠so->Z=(.mk ah ah [],11):=fun sb h1 h2=>by
    rw[<-gY.out];unfold app1;have:Tc Bs t=true:=by
     rw[jQ.out,List.any_eq_true];refine⟨(nm,so),hvm,?_⟩;simp only[h1];simp[h2]
    rw[if_pos this]
   have hyes:(match sZ Bs nm with|some sb=>!decide (sb=so)|none=>false)=false->∀f∈VL.take (k+1),(match sZ Bs f.1 with|some so=>!decide (so=f.2)|none=>false)=false:=fun h f hf=>by
    rw[htk,List.mem_append,List.mem_singleton] at hf;rcases hf with hf|hf
    .exact Gv.out f hf
    .rw [hf];exact h
   have oI:=ae hno;have yJ:=ae hyes;obtain⟨F,hF⟩: ∃F,(bf Bs nm).isSome=F:=⟨_,rfl⟩
   rw[hF] at QC;have HF:=ae hF;clear hat htk hvm hv nS hno hyes hF
   go_wp2_with fail
   generalize wr.alloc (.cells #[.string nm,.string so] 116)=w5 at*;refine QC.out.mono ?_;rintro e w6 ⟨rfl,hw6⟩;have dS:=ae (jk.out.trans hw6);have gX:=ae (hw6.heap dW.out (fun h=>h));have s0:=ag (dS.out.heap N8.out (fun h=>h)) 0 (.slice va Bs.length vc) rfl;have e1:=ag gX.out 1 (.string so) rfl;clear hw6 QC q0 q1 e0;cases F with
   |false=>
    have jh:=ae (yJ.out (by
     have:sZ Bs nm=none:=VB.2 (by
      have:=HF.out;cases hb:bf Bs nm with
      |none=>rfl
      |some T=>rw[hb] at this;cases this)
     rw[this]))
    go_wp2_with fail
    go_quiet (fail)
    go_wp2_with fail
    go_roundg (VL.length- (k+1))
    case measure=>omega
    case rel=>exact⟨k+1,by go_num,rfl,by omega,ae (dS.out.drewN' _),jh⟩
   |true=>
    obtain⟨hlm,_,hbs⟩:=J7 (n:=nm) MM.out HF.out;obtain⟨gb,ob,hgb,_,N9⟩:=(gW.out.ext (bD.out.trans dS.out)).at_ (by omega);subst hgb;obtain⟨xa,xc,_,p1,_,_,_,_⟩:=N9 _ hlm;obtain⟨m,hm⟩: ∃m,lQ Bs nm=m:=⟨_,rfl⟩
    rw[hm] at p1 hlm hbs⊢;have y0:(0:Int)<=(m:Int):=by omega
    have y1:(m:Int)< (Bs.length:Int):=by omega
    obtain⟨sb,hsb⟩: ∃x,(Go.Hw.bg Bs m).2.1=x:=⟨_,rfl⟩
    rw[hsb] at p1 hbs;have s1:=kQ sb so;have ad2:=ae hbs;clear N9 hm hsb hbs;by_cases he:sb=so
    .rw [dT he] at s1;have jh:=ae (yJ.out (by rw[ad2.out];simp[he]));clear he
     go_wp2_with fail
     go_quiet (fail)
     go_wp2_with fail
     go_roundg (VL.length- (k+1))
     case measure=>omega
     case rel=>exact⟨k+1,by go_num,rfl,by omega,ae (dS.out.drewN' _),jh⟩
    .rw [dF he] at s1;obtain rfl:Z=(.mk ah ah [],11):=oI.out sb ad2.out he;clear he;have ig:=ae (bD.out.trans dS.out);have Bq:=ae (dS.out.heap ui.out (fun h=>h))
     go_wp2_with fail
     go_quiet (fail)
     have bU:=ae (ig.out.drewN' nq);have H38:=ae (((uR w6).drewN' nq).heap Bq.out (fun h=>h));generalize w6.drewN nq=w8 at*;obtain⟨d0,d1,d2⟩:=af H38.out;have f2:=fun i=>ai H38.out i
     go_wp2_with fail
     have hr3:=aF H38.out (.string ⟨#[]⟩) (.string ⟨#[]⟩) (.slice none 0 0);have hu:=aC w8 (w.heap.size+2) (.string ⟨#[]⟩) (.string ⟨#[]⟩) (.slice none 0 0);obtain⟨e0,e1,e2⟩:=af hr3;refine bodyPost_ret (v:= .tuple #[.agg #[.string ⟨#[]⟩,.string ⟨#[]⟩,.slice none 0 0],.int .i64 11]) (by simp[results,Tryz.results88,go_sem,e0,e1,e2]) rfl ?_;have hue:=bU.out.trans' hu (fun j hj e=>by omega)
     first|exact⟨.slice none 0 0,fun _=>False,rfl,aG.nil _ _ _,fun j hj=>hj.elim,hue⟩|exact⟨.slice none 0 0,rfl,fun _=>False,aG.nil _ _ _,fun j hj=>hj.elim,hue⟩
  .obtain rfl:k=VL.length:=by omega
   have z2:decide ((VL.length:Int)< (VL.length:Int))=false:=dF (by omega);have HCF:Hid (Tc Bs t=false):=ae (by
    rw[jQ.out,List.any_eq_false];intro f hf;have:=Gv.out f (by rw[List.take_length];exact hf);rw[this];simp)
   have di:=ae (bD.out.trans HE.out);have ZM:=ae (HE.out.heap N8.out (fun h=>h));have Nu:=ae (HE.out.heap zA.out (fun h=>h));have Hq:=ae (HE.out.heap ui.out (fun h=>h));have oP:Hid (w.heap.size+3<=wr.heap.size):=ae (Nat.le_trans eY.out HE.out.size);have zH:=(uR wr).alloc (.cells #[.func (.func 151) #[] #[.pointer (some ⟨w.heap.size,0,none⟩)]] 90);have sQ:=ae zH;have gX:=ae (aj wr (.cells #[.func (.func 151) #[] #[.pointer (some ⟨w.heap.size,0,none⟩)]] 90));have dS:=ae (di.out.trans zH);have H16:=ae (zH.heap ZM.out (fun h=>h));have Qx:=ae (zH.heap Nu.out (fun h=>h));have Bq:=ae (zH.heap Hq.out (fun h=>h));have ZN:=ae (adR Bs (.slice va Bs.length vc) w.heap.size wr.heap.size RB SB (wr.alloc (.cells #[.func (.func 151) #[] #[.pointer (some ⟨w.heap.size,0,none⟩)]] 90)) H16 gX (ae (gW.out.ext dS.out)) (ae (fun k hk=>ax (vZ.out k hk) dS.out.size)) MM (ae (by have:=kP.out;omega)) (ae (aJ je.out dS.out)) t _ (fun k=>k<w.heap.size) (wr.alloc (.cells #[.func (.func 151) #[] #[.pointer (some ⟨w.heap.size,0,none⟩)]] 90)) (au.refl _ _) (HR.out.ext dS.out) (fun k hk=>ax hk dS.out.size) (by have:=QQ.out;omega) xx.out ad1.out);dsimp only[tV] at ZN;have v0:=ag gX.out 0 (.func (.func 151) #[] #[.pointer (some ⟨w.heap.size,0,none⟩)]) rfl;obtain⟨x0,x1,x2⟩:=af Qx.out;clear zH zA ui N8 HE JP Gv
   go_wp2_with fail
   obtain⟨vb,hvb⟩: ∃n,wr.heap.size=n:=⟨_,rfl⟩
   rw[hvb] at ZN gX v0 oP
   try rw[hvb]
   clear hvb;generalize wr.alloc (.cells #[.func (.func 151) #[] #[.pointer (some ⟨w.heap.size,0,none⟩)]] 90)=w6 at*;refine ZN.out.mono ?_;rintro e w7 ⟨rfl,hw7⟩;have ig:=ae (dS.out.trans hw7);have H17:=ae (hw7.heap H16.out (fun h=>h));have H27:=ae (hw7.heap Qx.out (fun h=>h));have Hr:=ae (hw7.heap Bq.out (fun h=>h));have dZ:=ae (hw7.heap gX.out (fun h=>h));obtain⟨z,hz⟩: ∃z,bu Bs t=z:=⟨_,rfl⟩
   rw[hz];have N_:=ae hz;obtain⟨A1,hA1⟩: ∃n,min z.size 1001=n:=⟨_,rfl⟩
   obtain⟨A2,hA2⟩: ∃n,min z.depth 61=n:=⟨_,rfl⟩
   rw[hA1,hA2];have HA:=ae (And.intro hA1 hA2);clear hw7 ZN hz hA1 hA2 x0 x1 x2 v0 H16 Qx Bq gX dS sQ;by_cases hbig:1000<z.size\/60<z.depth
   .obtain rfl:Z=(.mk ah ah [],4):=by
     rw[<-gY.out];unfold app1;rw[if_neg (by rw[HCF.out];simp),if_pos (by rw[N_.out];exact hbig)]
    by_cases hb1:1000<A1
    .have y1:decide ((1000:Int)< (A1:Int))=true:=dT (by omega);have y1':(1000:Int)< (A1:Int):=by omega
     clear hbig hb1;obtain⟨d0,d1,d2⟩:=af Hr.out;have f2:=fun i=>ai Hr.out i
     go_wp2_with fail
     have hr3:=aF Hr.out (.string ⟨#[]⟩) (.string ⟨#[]⟩) (.slice none 0 0);have hu:=aC w7 (w.heap.size+2) (.string ⟨#[]⟩) (.string ⟨#[]⟩) (.slice none 0 0);obtain⟨e0,e1,e2⟩:=af hr3;refine bodyPost_ret (v:= .tuple #[.agg #[.string ⟨#[]⟩,.string ⟨#[]⟩,.slice none 0 0],.int .i64 4]) (by simp[results,Tryz.results88,go_sem,e0,e1,e2]) rfl ?_;have hue:=ig.out.trans' hu (fun j hj e=>by omega)
     first|exact⟨.slice none 0 0,fun _=>False,rfl,aG.nil _ _ _,fun j hj=>hj.elim,hue⟩|exact⟨.slice none 0 0,rfl,fun _=>False,aG.nil _ _ _,fun j hj=>hj.elim,hue⟩
    .have y1:decide ((1000:Int)< (A1:Int))=false:=dF (by omega);have y1': ¬(1000:Int)< (A1:Int):=by omega
     have y2':(60:Int)< (A2:Int):=by have:=HA.out;omega
     have y2:decide ((60:Int)< (A2:Int))=true:=dT y2';clear hbig hb1;obtain⟨d0,d1,d2⟩:=af Hr.out;have f2:=fun i=>ai Hr.out i
     go_wp2_with fail
     have hr3:=aF Hr.out (.string ⟨#[]⟩) (.string ⟨#[]⟩) (.slice none 0 0);have hu:=aC w7 (w.heap.size+2) (.string ⟨#[]⟩) (.string ⟨#[]⟩) (.slice none 0 0);obtain⟨e0,e1,e2⟩:=af hr3;refine bodyPost_ret (v:= .tuple #[.agg #[.string ⟨#[]⟩,.string ⟨#[]⟩,.slice none 0 0],.int .i64 4]) (by simp[results,Tryz.results88,go_sem,e0,e1,e2]) rfl ?_;have hue:=ig.out.trans' hu (fun j hj e=>by omega)
     first|exact⟨.slice none 0 0,fun _=>False,rfl,aG.nil _ _ _,fun j hj=>hj.elim,hue⟩|exact⟨.slice none 0 0,rfl,fun _=>False,aG.nil _ _ _,fun j hj=>hj.elim,hue⟩
   have y1': ¬(1000:Int)< (A1:Int):=by have:=HA.out;omega
   have y2': ¬(60:Int)< (A2:Int):=by have:=HA.out;omega
   have y1:decide ((1000:Int)< (A1:Int))=false:=dF y1';have y2:decide ((60:Int)< (A2:Int))=false:=dF y2';have DR:=ae hbig;have BF:=ae (XT Bs (.slice va Bs.length vc) w.heap.size RB SB w7 H17 (ae (gW.out.ext ig.out)) (ae (fun k hk=>ax (vZ.out k hk) ig.out.size)) MM (ae (by have:=kP.out;omega)) t _ (fun k=>k<w.heap.size) w7 (au.refl _ _) (HR.out.ext ig.out) (fun k hk=>ax hk ig.out.size) (by have:=QQ.out;omega) xx.out (fun f hf=>by have:=nT (ad1.out f hf);omega));have hzz:gu (fE Bs) t=z:=N_.out;rw[hzz] at BF;dsimp only[tV] at BF;have v0:=ag dZ.out 0 (.func (.func 151) #[] #[.pointer (some ⟨w.heap.size,0,none⟩)]) rfl;obtain⟨x0,x1,x2⟩:=af H27.out;clear hbig hzz
   go_wp2_with fail
   refine BF.out.mono ?_;rintro e w8 ⟨r8,B8,rfl,zI,hb8,hw8⟩;obtain⟨ya,yc,iO⟩:=aG.shape zI;subst iO;have VC:=(uR w8).alloc (tO z ya yc);have xu:=ae (zI.kept VC (fun _ _ h=>h));have lK:=ae (aj w8 (tO z ya yc));have fD:=ae (ig.out.trans (hw8.trans VC));have H39:=ae ((hw8.trans VC).heap Hr.out (fun h=>h));have Td:Hid (∀j,B8 j->w.heap.size+3<=j/\j< (w8.alloc (tO z ya yc)).heap.size):=ae (fun j hj=>⟨by have h1:=(hb8 j hj).1;have h2:=oP.out;have h3:vb<w7.heap.size:=(Array.getElem?_eq_some_iff.1 dZ.out).1;omega,ax (hb8 j hj).2 VC.size⟩);have rX:=ae (wQ z (tV z (.slice ya z.kids.length yc)) (w8.alloc (tO z ya yc)) (aJ je.out fD.out) ⟨ya,yc,rfl,(xu.out.read).weaken (fun k hk=>(Td.out k hk).2)⟩ (by have:=DR.out;omega));dsimp only[tV] at rX⊢;clear zI hb8 hw8 VC BF x0 x1 x2 v0 H17 H27 Hr dZ;obtain⟨x0,x1,x2⟩:=af lK.out
   go_wp2_with fail
   generalize w8.alloc (tO z ya yc)=w9 at*;refine rX.out.mono ?_;rintro e w10 ⟨rfl,Jd⟩;have ad6:=ae (fD.out.trans Jd);have Je:=ae (Jd.heap H39.out (fun h=>h));have ajG:=ae (Jd.heap lK.out (fun h=>h));have ajH:=ae (xu.out.kept Jd (fun _ _ h=>h));have Tf:Hid (∀j,B8 j->w.heap.size+3<=j/\j<w10.heap.size):=ae (fun j hj=>⟨(Td.out j hj).1,ax (Td.out j hj).2 Jd.size⟩);clear Jd rX x0 x1 x2 lK H39 xu Td fD;cases hwz:wf aB z with
   |false=>
    obtain rfl:Z=(.mk ah ah [],11):=by
     rw[<-gY.out];unfold app1;rw[if_neg (by rw[HCF.out];simp),if_neg (by rw[N_.out];exact DR.out),if_pos (by rw[N_.out];exact hwz)]
    clear hwz;obtain⟨d0,d1,d2⟩:=af Je.out;have f2:=fun i=>ai Je.out i
    go_wp2_with fail
    have hr3:=aF Je.out (.string ⟨#[]⟩) (.string ⟨#[]⟩) (.slice none 0 0);have hu:=aC w10 (w.heap.size+2) (.string ⟨#[]⟩) (.string ⟨#[]⟩) (.slice none 0 0);obtain⟨e0,e1,e2⟩:=af hr3;refine bodyPost_ret (v:= .tuple #[.agg #[.string ⟨#[]⟩,.string ⟨#[]⟩,.slice none 0 0],.int .i64 11]) (by simp[results,Tryz.results88,go_sem,e0,e1,e2]) rfl ?_;have hue:=ad6.out.trans' hu (fun j hj e=>by omega)
    first|exact⟨.slice none 0 0,fun _=>False,rfl,aG.nil _ _ _,fun j hj=>hj.elim,hue⟩|exact⟨.slice none 0 0,rfl,fun _=>False,aG.nil _ _ _,fun j hj=>hj.elim,hue⟩
   |true=>
    obtain rfl:Z=(z,0):=by
     rw[<-gY.out];unfold app1;rw[if_neg (by rw[HCF.out];simp),if_neg (by rw[N_.out];exact DR.out),if_neg (by rw[N_.out,hwz];simp),N_.out]
    clear hwz;obtain⟨x0,x1,x2⟩:=af ajG.out;obtain⟨d0,d1,d2⟩:=af Je.out;have f2:=fun i=>ai Je.out i
    go_wp2_with fail
    have hr3:=aF Je.out (.string z.name) (.string z.sort) (.slice ya z.kids.length yc);have hu:=aC w10 (w.heap.size+2) (.string z.name) (.string z.sort) (.slice ya z.kids.length yc);obtain⟨e0,e1,e2⟩:=af hr3;refine bodyPost_ret (v:= .tuple #[.agg #[.string z.name,.string z.sort,.slice ya z.kids.length yc],.int .i64 0]) (by simp[results,Tryz.results88,go_sem,e0,e1,e2]) rfl ?_;have hue:=ad6.out.trans' hu (fun j hj e=>by omega);have own:=ajH.out.kept hu (fun j hj e=>by have h3:=(Tf.out j hj).1;omega);have VD: ∀j,B8 j->w.heap.size<=j/\j<_:=fun j hj=>⟨by have h3:=(Tf.out j hj).1;omega,ax (Tf.out j hj).2 hu.size⟩
    first|exact⟨.slice ya z.kids.length yc,B8,rfl,own,VD,hue⟩|exact⟨.slice ya z.kids.length yc,rfl,B8,own,VD,hue⟩
theorem XY (Bs:List Bd) (t:Tm) (vB v:Value) (w:World) (htab:cO w) (hB:gQ (fun k=>k<w.heap.size) (fun k=>k<w.heap.size) w vB Bs) (hR:bG (fun k=>k<w.heap.size) w t v) (hl:Bs.length<=1000000) (hs: ∀b∈Bs,(b.2.2.size:Int)<=1000000000000) (ht:(t.size:Int)<=1000000000000):
  Calls Tryz.prog 29 #[vB,v] w fun e w'=> ∃r B,e= .returned (.tuple #[tV (DT aB Bs t).1 r,.int .i64 (DT aB Bs t).2])/\aG 24 w' B (DT aB Bs t).1.kids r/\(∀j,B j->w.heap.size<=j/\j<w'.heap.size)/\Ext w w':=by
 obtain⟨Z,jA⟩: ∃Z,DT aB Bs t=Z:=⟨_,rfl⟩
 rw[jA];have gY:=ae jA;clear jA;have HR:=ae hR;have HV:=ae (fun W (hW:Ext w W)=>aa_ Bs vB W (aJ htab hW) ((hB.ext hW).weaken (fun k hk=>ax hk hW.size) (fun k hk=>ax hk hW.size)) hl hs);have HF:=ae (fun W (hW:Ext w W)=>wQ t v W (aJ htab hW) ((hR.ext hW).weaken (fun k hk=>ax hk hW.size)) ht);have HA:=ae (fun(h1:pW aB Bs=true) (h2:wf aB t=true) W (hW:Ext w W)=>XU Bs t vB v _ (fun k=>k<w.heap.size) W (aJ htab hW) (hB.ext hW) (fun k hk=>ax hk hW.size) ((hR.ext hW).weaken (fun k hk=>ax hk hW.size)) h1 h2);obtain⟨va,vc,rfl⟩:=hB.shape;obtain⟨a,cap,rfl,hT⟩:=hR;dsimp only[tV] at HF HA⊢;have hZ:=((uR w).alloc (tO t a cap)).alloc zO;have H2:=ae (ak (aj w (tO t a cap)) zO);have H3:=ae (alloc_at (w.alloc (tO t a cap)) zO (n:=w.heap.size+1) (by simp));have hz2:w.heap.size+2<=((w.alloc (tO t a cap)).alloc zO).heap.size:=by simp
 have HZ2:=ae hz2;obtain⟨x0,x1,x2⟩:=af H2.out;have HZ:=ae hZ;have Oa:Hid (Z=if(pW aB Bs&&wf aB t)=true then app1 aB Bs t else(.mk ah ah [],1)):=ae (by rw[<-gY.out];rfl);obtain⟨Q,hQ⟩: ∃Q,app1 aB Bs t=Q:=⟨_,rfl⟩
 obtain⟨b1,hb1⟩: ∃b,pW aB Bs=b:=⟨_,rfl⟩
 obtain⟨b2,hb2⟩: ∃b,wf aB t=b:=⟨_,rfl⟩
 rw[hb1] at HV HA Oa;rw[hb2] at HF HA Oa;rw[hQ] at HA Oa;clear hT htab hB hl hs ht hZ hz2 gY hQ hb1 hb2 HR
 go_enter Tryz.func29,Tryz.ntmps29
 go_wp2_with fail
 generalize ((w.alloc (tO t a cap)).alloc zO)=wa at*;refine(HV.out _ HZ.out).mono ?_;rintro e w3 ⟨rfl,hw3⟩;have aT:=ae (HZ.out.trans hw3);have zy:=ae (hw3.heap H2.out (fun h=>h));have uh:=ae (hw3.heap H3.out (fun h=>h));have eP:Hid (w.heap.size+2<=w3.heap.size):=ae (Nat.le_trans HZ2.out hw3.size);clear hw3 x0 x1 x2 H2 H3 HZ HV HZ2;cases b1
 .obtain rfl:Z=(.mk ah ah [],1):=by have:=Oa.out;simpa using this
  obtain⟨d0,d1,d2⟩:=af uh.out;have f2:=fun i=>ai uh.out i
  go_wp2_with fail
  have hr3:=aF uh.out (.string ⟨#[]⟩) (.string ⟨#[]⟩) (.slice none 0 0);have hu:=aC w3 (w.heap.size+1) (.string ⟨#[]⟩) (.string ⟨#[]⟩) (.slice none 0 0);obtain⟨e0,e1,e2⟩:=af hr3;refine bodyPost_ret (v:= .tuple #[.agg #[.string ⟨#[]⟩,.string ⟨#[]⟩,.slice none 0 0],.int .i64 1]) (by simp[results,Tryz.results29,go_sem,e0,e1,e2]) rfl ?_;have hue:=aT.out.trans' hu (fun j hj e=>by omega)
  first|exact⟨.slice none 0 0,fun _=>False,rfl,aG.nil _ _ _,fun j hj=>hj.elim,hue⟩|exact⟨.slice none 0 0,rfl,fun _=>False,aG.nil _ _ _,fun j hj=>hj.elim,hue⟩
 obtain⟨x0,x1,x2⟩:=af zy.out
 go_wp2_with fail
 refine(HF.out _ aT.out).mono ?_;rintro e w4 ⟨rfl,hw4⟩;have bD:=ae (aT.out.trans hw4);have zA:=ae (hw4.heap zy.out (fun h=>h));have ui:=ae (hw4.heap uh.out (fun h=>h));have eY:Hid (w.heap.size+2<=w4.heap.size):=ae (Nat.le_trans eP.out hw4.size);clear hw4 x0 x1 x2 zy uh aT HF eP;cases b2
 .obtain rfl:Z=(.mk ah ah [],1):=by have:=Oa.out;simpa using this
  obtain⟨d0,d1,d2⟩:=af ui.out;have f2:=fun i=>ai ui.out i
  go_wp2_with fail
  have hr3:=aF ui.out (.string ⟨#[]⟩) (.string ⟨#[]⟩) (.slice none 0 0);have hu:=aC w4 (w.heap.size+1) (.string ⟨#[]⟩) (.string ⟨#[]⟩) (.slice none 0 0);obtain⟨e0,e1,e2⟩:=af hr3;refine bodyPost_ret (v:= .tuple #[.agg #[.string ⟨#[]⟩,.string ⟨#[]⟩,.slice none 0 0],.int .i64 1]) (by simp[results,Tryz.results29,go_sem,e0,e1,e2]) rfl ?_;have hue:=bD.out.trans' hu (fun j hj e=>by omega)
  first|exact⟨.slice none 0 0,fun _=>False,rfl,aG.nil _ _ _,fun j hj=>hj.elim,hue⟩|exact⟨.slice none 0 0,rfl,fun _=>False,aG.nil _ _ _,fun j hj=>hj.elim,hue⟩
 obtain rfl:Z=Q:=by have:=Oa.out;simpa using this
 obtain⟨x0,x1,x2⟩:=af zA.out;have HA2:=ae (HA.out (by simp) (by simp) w4 bD.out);obtain⟨z,en⟩:=Z;dsimp only at HA2⊢;clear HA Oa
 go_wp2_with fail
 refine HA2.out.mono ?_;rintro e w6 ⟨r6,B6,rfl,rY,hb6,hw6⟩;obtain⟨ya,yc,iO⟩:=aG.shape rY;subst iO;have uU:=ae rY;have dS:=ae (bD.out.trans hw6);have Bq:=ae (hw6.heap ui.out (fun h=>h));have XZ:Hid (∀j,B6 j->w.heap.size+2<=j/\j<w6.heap.size):=ae (fun j hj=>⟨Nat.le_trans eY.out (hb6 j hj).1,(hb6 j hj).2⟩);dsimp only[tV];clear rY hb6 hw6 HA2 x0 x1 x2;obtain⟨d0,d1,d2⟩:=af Bq.out;have f2:=fun i=>ai Bq.out i
 go_wp2_with fail
 have hr3:=aF Bq.out (.string z.name) (.string z.sort) (.slice ya z.kids.length yc);have hu:=aC w6 (w.heap.size+1) (.string z.name) (.string z.sort) (.slice ya z.kids.length yc);obtain⟨e0,e1,e2⟩:=af hr3;refine bodyPost_ret (v:= .tuple #[.agg #[.string z.name,.string z.sort,.slice ya z.kids.length yc],.int .i64 en]) (by simp[results,Tryz.results29,go_sem,e0,e1,e2]) rfl ?_;have hue:=dS.out.trans' hu (fun j hj e=>by omega);have own:=uU.out.kept hu (fun j hj e=>by have h3:=(XZ.out j hj).1;omega);have VD: ∀j,B6 j->w.heap.size<=j/\j<_:=fun j hj=>⟨by have h3:=(XZ.out j hj).1;omega,ax (XZ.out j hj).2 hu.size⟩
 first|exact⟨.slice ya z.kids.length yc,B6,rfl,own,VD,hue⟩|exact⟨.slice ya z.kids.length yc,rfl,B6,own,VD,hue⟩
end
theorem wK (t:Tm) (v:Value) (w:World) (htab:cO w) (hR:bG (fun k=>k<w.heap.size) w t v) (hsz:(t.size:Int)<=1000000000000):Calls Tryz.prog 116 #[v] w fun e w'=>e= .returned (.bool (wf aB t))/\Ext w w':=by
 have HR:=ae hR;obtain⟨a,cap,rfl,hT⟩:=hR;have hb:=aj w (tO t a cap);have HZ:=ae ((uR w).alloc (tO t a cap));have HS:=ae (fun W (hW:Ext w W)=>LW t _ W (aJ htab hW) ((HR.out.ext hW).weaken (fun k hk=>ax hk hW.size)) hsz);dsimp only[tV] at HS⊢;obtain⟨c0,c1,c2⟩:=af hb;have hpos:=size_pos t;have hz:decide (0<vT t)=wf aB t:=by
  unfold vT;by_cases h:wf aB t=true
  .rw [if_pos h,h,dT (by omega)]
  .rw [if_neg h,Bool.eq_false_iff.2 h];rfl
 have HV:=ae hz;obtain⟨X,hX⟩: ∃X,vT t=X:=⟨_,rfl⟩
 rw[hX] at HS HV;clear hz hX hT hb
 go_enter Tryz.func116,Tryz.ntmps116
 go_wp2_with fail
 refine(HS.out _ HZ.out).mono ?_;rintro e w4 ⟨rfl,hw4⟩;have H4:=ae (HZ.out.ext hw4);clear hw4 c0 c1 c2;by_cases h0:0<X
 .have t0:(0:Int)< (X:Int):=by omega
  have t1:decide ((0:Int)< (X:Int))=true:=dT t0;have oK:Hid (wf aB t=true):=ae (by rw[<-HV.out];exact dT h0)
  go_wp2_with fail
  go_ret;rw[oK.out];exact⟨rfl,H4.out⟩
 .have t0: ¬(0:Int)< (X:Int):=by omega
  have t1:decide ((0:Int)< (X:Int))=false:=dF t0;have oK:Hid (wf aB t=false):=ae (by rw[<-HV.out];exact dF h0)
  go_wp2_with fail
  go_ret;rw[oK.out];exact⟨rfl,H4.out⟩
def jd (t:Tm) (p:List Nat) (u:Tm):Tm×Int:=if wf aB (putAt t p u)=true then(putAt t p u,0) else(a_,4)
theorem Lh (t u:Tm) (p:List Nat) (tv uv pv:Value) (S R T:Nat->Prop) (w:World) (hT:bG S w t tv) (hU:bG R w u uv) (hS: ∀k,S k->k<w.heap.size) (hRR: ∀k,R k->k<w.heap.size) (hP:aA T w 1 pv p.length (p.map fun i:Nat=>Value.int .i64 (i:Int))) (hok:pF t p) (htab:cO w) (hsz:t.size<=100000) (al1:u.size<=100000) (hl:p.length<=1000000):
  Calls Tryz.prog 120 #[tv,pv,uv] w fun e w'=> ∃r,e= .returned (.tuple #[tV (jd t p u).1 r,.int .i64 (jd t p u).2])/\ay (fun k=>(w.heap.size<=k/\k<w'.heap.size)\/R k) w' (jd t p u).1.kids r/\Ext w w':=by
 obtain⟨pa,pc,rfl⟩:=aA.shape hP;have HP:=ae hP;obtain⟨a,cap,rfl,hT⟩:=hT;obtain⟨ua,uc,rfl,hU⟩:=hU;have HU:=ae hU;have HRR:=ae hRR;have jO:=ae hok;have dB:=ae ((((uR w).alloc (tO t a cap)).alloc (tO u ua uc)).alloc zO);have HB3:=ae (ak (ak (aj w (tO t a cap)) (tO u ua uc)) zO);have dW:=ae (ak (alloc_at (w.alloc (tO t a cap)) (tO u ua uc) (n:=w.heap.size+1) (by simp)) zO);have gX:=ae (alloc_at ((w.alloc (tO t a cap)).alloc (tO u ua uc)) zO (n:=w.heap.size+2) (by simp));have hz0:(((w.alloc (tO t a cap)).alloc (tO u ua uc)).alloc zO).heap.size=w.heap.size+3:=by simp
 have HZ0:=ae hz0;have MM:=ae (fun W (hW:Ext w W)=>aJ htab hW);have Qe:=ae (fun W (hW:Ext w W)=>xY t (.agg #[.string t.name,.string t.sort,.slice a t.kids.length cap]) S W ⟨a,cap,rfl,hT.ext hW⟩ (fun k hk=>ax (hS k hk) hW.size) hsz);have HF:Hid (jd t p u=if wf aB (putAt t p u)=true then(putAt t p u,0) else(a_,4)):=ae rfl;obtain⟨F,hF⟩: ∃F,jd t p u=F:=⟨_,rfl⟩
 rw[hF] at HF⊢;dsimp only[tV] at Qe⊢;clear hP hT hU hS hRR htab hF hz0 hok;obtain⟨k0,k1,k2⟩:=af HB3.out
 go_enter Tryz.func120,Tryz.ntmps120
 go_wp2_with fail
 refine(Qe.out _ dB.out).mono ?_;rintro e w6 ⟨r1,B1,rfl,CO,hb6,hw6⟩;obtain⟨ra,rc,hr1⟩:=aG.shape CO;subst hr1;have UM:=(uR w6).alloc (tO t ra rc);have H7:=ae ((dB.out.trans hw6).trans UM);have ai8:=ae (UM.heap (hw6.heap dW.out (fun h=>h)) (fun h=>h));have acx:=ae (UM.heap (hw6.heap gX.out (fun h=>h)) (fun h=>h));have I5:=ae (aj w6 (tO t ra rc));have GR:=ae (CO.kept UM (fun _ _ h=>h));have JM:Hid (w.heap.size+3<=w6.heap.size):=ae (by rw[<-HZ0.out];exact hw6.size);have Zl:Hid (∀j,B1 j->w.heap.size+3<=j/\j<w6.heap.size):=ae (fun j hj=>by have h1:=hb6 j hj;rw[HZ0.out] at h1;exact h1);have HZ7:Hid ((w6.alloc (tO t ra rc)).heap.size=w6.heap.size+1):=ae (by simp);have Qg:Hid (JH B1 (w6.alloc (tO t ra rc)) (w6.heap.size,0) t):=ae ⟨ra,rc,ag I5.out 0 _ rfl,ag I5.out 1 _ rfl,ag I5.out 2 _ rfl,GR.out.read⟩;clear CO hb6 hw6 UM Qe k0 k1 k2 HB3 dW gX dB HZ0
 go_wp2_with fail
 generalize w6.alloc (tO t ra rc)=w8 at*;have GU:=ae (aA.kept HP.out H7.out (fun _ _ h=>h));obtain⟨n8,hn8⟩: ∃n,w6.heap.size=n:=⟨_,rfl⟩
 rw[hn8] at Qg I5⊢;have HN8:=ae hn8;clear hn8
 go_loopg [9,16] p.length (fun gk qv iv wr=> ∃(k:Nat) (c:Nat×Nat) (x:Tm),qv= .pointer (some ⟨c.1,c.2,none⟩)/\iv= .int .i64 (k:Int)/\gk=p.length-k/\k<=p.length/\Hid (pF x (p.drop k))/\Hid (pJ w8 (p.take k) (n8,0) c)/\Hid (JH B1 w8 c x)/\w8=wr)
 case atStart=>exact⟨0,(n8,0),t,rfl,rfl,rfl,Nat.zero_le _,jO,ae rfl,Qg,rfl⟩
 case round=>
  clear Qg;obtain⟨k,⟨cb,co⟩,x,rfl,rfl,rfl,hk,HS,HD,HX,rfl⟩:=hrel;by_cases hlt:k<p.length
  .obtain ⟨g,off,hga,_,hat⟩:=aA.CG (d:=(0:Nat)) GU.out (by omega);subst hga;have q0:=hat k hlt;obtain⟨z0,z1,z2,z2'⟩:=bJ hlt;have hd:p.drop k=p.getD k 0::p.drop (k+1):=by
    rw[List.drop_eq_getElem_cons hlt,List.getD_eq_getElem?_getD,List.getElem?_eq_getElem hlt];rfl
   have htk:p.take (k+1)=p.take k++[p.getD k 0]:=by
    rw[List.take_add_one,List.getD_eq_getElem?_getD,List.getElem?_eq_getElem hlt];rfl
   have hs:=HS.out;rw[hd] at hs;obtain⟨j,hj0⟩: ∃j,p.getD k 0=j:=⟨_,rfl⟩
   rw[hj0] at q0 hs htk;have qf:=ae htk;obtain⟨hj,hs2⟩:=hs;have HS2:=ae hs2;obtain⟨xa,xc,x0,x1,x2,hx⟩:=HX.out;dsimp only at x0 x1 x2 q0;obtain⟨g2,nX,zU,_,wY⟩:=hx.at_ (by omega);subst zU;obtain⟨ya,yc,r0,r1,r2,hy⟩:=wY j hj;have HD2:Hid (pJ w8 (p.take (k+1)) (n8,0) (g2,nX+j*3)):=ae (by
    rw[qf.out];refine pJ.snoc HD.out ⟨g2,nX,x.kids.length,xc,x2,?_⟩;rfl)
   have Bc:Hid (JH B1 w8 (g2,nX+j*3) (tg x.kids j)):=ae ⟨ya,yc,r0,by rw[Nat.add_assoc];exact r1,by rw[Nat.add_assoc];exact r2,hy⟩;have u0:(0:Int)<=(j:Int):=by omega
   have u1:(j:Int)< (x.kids.length:Int):=by omega
   clear x0 x1 hx hat wY r0 r1 r2 hy qf HD HX hd htk hj0 hs2 HS
   go_wp2_with fail
   go_roundg (p.length- (k+1))
   case measure=>omega
   case rel=>exact⟨k+1,(g2,nX+j*3),tg x.kids j,rfl,by go_num,rfl,by omega,HS2,HD2,Bc,rfl⟩
  .obtain rfl:k=p.length:=by omega
   have z2:decide ((p.length:Int)< (p.length:Int))=false:=dF (by omega);have hdd:=HD.out;rw[List.take_length] at hdd;obtain⟨o,ho⟩: ∃o,putAt t p u=o:=⟨_,rfl⟩
   have EY:=ae ho;have hos:=GI u p t jO.out;rw[ho] at hos HF;have HOS:=ae (show o.size<=200000 by omega);have hput:=aaU (y:=u) (u:= .slice ua u.kids.length uc) (S:=R) (w:=w8) I5.out GR.out (fun h=>by have:=(Zl.out _ h).2;have:=HN8.out;omega) (HU.out.ext H7.out) (fun k hk=>⟨fun h=>by have h1:=(Zl.out k h).1;have h2:=HRR.out k hk;omega,fun e=>by have h2:=HRR.out k hk;have h3:=HN8.out;have h4:=JM.out;omega⟩) jO.out hdd;rw[EY.out] at hput;obtain⟨UN,⟨cur,xe,hcb⟩,u',hbox,hkids⟩:=hput;obtain⟨oa,oc,hou⟩:=hkids.shape;subst hou;have JO:Hid (w.heap.size+3<=cb):=ae (by
    rcases UN with h|h
    .have h1:=JM.out;have h2:=HN8.out;dsimp only at h;omega
    .exact (Zl.out _ h).1)
   have jo:Hid ((((w8.setCell ⟨cb,co,none⟩ (.string u.name)).setCell ⟨cb,co+1,none⟩ (.string u.sort)).setCell ⟨cb,co+2,none⟩ (.slice ua u.kids.length uc)).heap[n8]?=some (tO o oa oc)):=ae hbox;have HKD:Hid (ay (fun k=>B1 k\/R k) (((w8.setCell ⟨cb,co,none⟩ (.string u.name)).setCell ⟨cb,co+1,none⟩ (.string u.sort)).setCell ⟨cb,co+2,none⟩ (.slice ua u.kids.length uc)) o.kids (.slice oa o.kids.length oc)):=ae hkids;have MN:Hid (au (fun k=>k=cb) w8 (((w8.setCell ⟨cb,co,none⟩ (.string u.name)).setCell ⟨cb,co+1,none⟩ (.string u.sort)).setCell ⟨cb,co+2,none⟩ (.slice ua u.kids.length uc))):=ae (uB w8 (cb,co) u.name u.sort (.slice ua u.kids.length uc));have m0:w8.cell? ⟨cb,co,none⟩=some (cur[co]'(by simp only at hcb;omega)):=ag xe co _ (Array.getElem?_eq_getElem _);have m1:w8.cell? ⟨cb,co+1,none⟩=some (cur[co+1]'(by simp only at hcb;omega)):=ag xe (co+1) _ (Array.getElem?_eq_getElem _);have m2:w8.cell? ⟨cb,co+2,none⟩=some (cur[co+2]'(by simp only at hcb;omega)):=ag xe (co+2) _ (Array.getElem?_eq_getElem _);have fz:=fun i=>ai xe i;generalize cur[co]'(by simp only at hcb;omega)=v0 at m0;generalize cur[co+1]'(by simp only at hcb;omega)=v1 at m1;generalize cur[co+2]'(by simp only at hcb;omega)=v2 at m2;obtain⟨l0,l1,l2⟩:=af ai8.out;clear hbox hkids UN xe hcb GR I5 hdd ho hos HS HX HD
   go_upto_region 9 with fail
   generalize iy:(((w8.setCell ⟨cb,co,none⟩ (.string u.name)).setCell ⟨cb,co+1,none⟩ (.string u.sort)).setCell ⟨cb,co+2,none⟩ (.slice ua u.kids.length uc))=w9 at*;clear iy m0 m1 m2 fz l0 l1 l2;have H9:Hid (Ext w w9):=ae (H7.out.trans' MN.out (fun j hj e=>by have:=JO.out;omega));have acA:=ae (MN.out.heap acx.out (fun e=>by have:=JO.out;omega));have HKF:Hid (ay (fun k=>(k≠w.heap.size+2/\w.heap.size<=k/\k<w9.heap.size)\/R k) w9 o.kids (.slice oa o.kids.length oc)):=ae (HKD.out.weaken (fun k hk=>by
    have h1:=MN.out.size;have h2:=HZ7.out;rcases hk with hk|hk
    .exact .inl (by have:=Zl.out k hk;omega)
    .exact .inr hk))
   have tY:=ae (wK o _ w9 (MM.out _ H9.out) ⟨oa,oc,rfl,HKF.out.weaken (fun k hk=>hk.elim (fun h=>h.2.2) (fun h=>ax (HRR.out k h) H9.out.size))⟩ (by have:=HOS.out;omega));dsimp only[tV] at tY;obtain⟨FO,hFO⟩: ∃b,wf aB o=b:=⟨_,rfl⟩
   rw[hFO] at tY;have JP:Hid (F=if FO=true then(o,0) else(a_,4)):=ae (by rw[HF.out,hFO]);clear hFO HF HKD H7 acx MN GU;obtain⟨k0,k1,k2⟩:=af jo.out
   go_wp2_with fail
   refine tY.out.mono ?_;rintro e wa ⟨rfl,vV⟩;have Ha:=ae (H9.out.trans vV);have I7:=ae (vV.heap acA.out (fun h=>h));have ai9:=ae (vV.heap jo.out (fun h=>h));have ai_:=ae (HKF.out.ext vV);have qh:=ae vV.size;clear vV k0 k1 k2 tY acA jo H9;cases FO
   .have HV:Hid (F=(a_,4)):=ae (by rw[JP.out,if_neg (by simp)]);have f2:=fun i=>ai I7.out i;obtain⟨d0,d1,d2⟩:=af I7.out
    go_wp2_with fail
    have hr:=aF I7.out (.string ⟨#[]⟩) (.string ⟨#[]⟩) (.slice none 0 0);have hu:=aC wa (w.heap.size+2) (.string ⟨#[]⟩) (.string ⟨#[]⟩) (.slice none 0 0);obtain⟨e0,e1,e2⟩:=af hr;refine bodyPost_ret (v:= .tuple #[.agg #[.string ⟨#[]⟩,.string ⟨#[]⟩,.slice none 0 0],.int .i64 4]) (by simp[results,Tryz.results120,go_sem,e0,e1,e2]) rfl ⟨.slice none 0 0,by rw[HV.out];rfl,by rw[HV.out];exact ay.nil _ _,Ha.out.trans' hu (fun j hj e=>by omega)⟩
   .have HV:Hid (F=(o,0)):=ae (by rw[JP.out,if_pos rfl]);obtain⟨k0,k1,k2⟩:=af ai9.out;have f2:=fun i=>ai I7.out i;obtain⟨d0,d1,d2⟩:=af I7.out
    go_wp2_with fail
    have hr:=aF I7.out (.string o.name) (.string o.sort) (.slice oa o.kids.length oc);have hu:=aC wa (w.heap.size+2) (.string o.name) (.string o.sort) (.slice oa o.kids.length oc);obtain⟨e0,e1,e2⟩:=af hr;refine bodyPost_ret (v:= .tuple #[.agg #[.string o.name,.string o.sort,.slice oa o.kids.length oc],.int .i64 0]) (by simp[results,Tryz.results120,go_sem,e0,e1,e2]) rfl ⟨.slice oa o.kids.length oc,by rw[HV.out],?_,Ha.out.trans' hu (fun j hj e=>by omega)⟩;rw[HV.out];exact(ai_.out.kept hu (fun k hk e=>hk.elim (fun h=>h.1 e) (fun h=>by have:=HRR.out k h;omega))).weaken (fun k hk=>hk.elim (fun h=> .inl ⟨h.2.1,ax h.2.2 (Nat.le_trans qh.out hu.size)⟩) .inr)
section
open Go.Sort Go.Proofs Go.ChangeMaps
theorem aby (x y p q u:Tm) (xa ya pa qa:Option Addr) (xc yc pc qc:Nat) (xp:List Int) (pv:Value) (B2:Nat->Prop) (w:World) (htab:cO w) (hx:ay (fun k=>k<w.heap.size) w x.kids (.slice xa x.kids.length xc)) (hy:ay (fun k=>k<w.heap.size) w y.kids (.slice ya y.kids.length yc)) (hp:aG 24 w B2 p.kids (.slice pa p.kids.length pc)) (hB2: ∀k,B2 k->k<w.heap.size) (hq:ay (fun k=>k<w.heap.size) w q.kids (.slice qa q.kids.length qc)) (hpv:pG (fun k=>k<w.heap.size) w pv xp) (hpl:xp.length<=1000) (hsx:x.size<=1000) (hsy:y.size<=1000) (JG:q.size<=1000) (hat:oz x xp=(u,0)) (Bs:List Bd) (pk rt pt lf:Tm) (path:List Nat) (iK:xp=path.map fun j:Nat=>(j:Int)) (hpk:DT aB Bs x=(pk,0)) (hrt:DT aB Bs y=(rt,0)) (hpt:DT aB Bs q=(pt,0)) (hlf:jd pk path pt=(lf,0)) (hok:pF pk path) (hBl:Bs.length<=1000) (hBs: ∀b∈Bs,b.2.2.size<=1000) (hks:pk.size<=1000) (hts:pt.size<=1000) (hU: ∀W,Ext w W->∀(B1 B2:Nat->Prop) (va vb:Value),aG 24 W B1 u.kids va->aG 24 W B2 p.kids vb->(∀k,B1 k->¬B2 k)->(∀k,B1 k->k<W.heap.size)->(∀k,B2 k->k<W.heap.size)->cO W->Calls Tryz.prog 17 #[tV u va,tV p vb] W fun e w'=> ∃ra rc,e= .returned (.tuple #[.slice ra Bs.length rc,.int .i64 0])/\gQ (fun k=>W.heap.size<=k/\k<w'.heap.size) (fun k=>W.heap.size<=k/\k<w'.heap.size) w' (.slice ra Bs.length rc) Bs/\Ext W w'):
  Calls Tryz.prog 164 #[.agg #[.string x.name,.string x.sort,.slice xa x.kids.length xc,.string y.name,.string y.sort,.slice ya y.kids.length yc],.agg #[.string p.name,.string p.sort,.slice pa p.kids.length pc,.string q.name,.string q.sort,.slice qa q.kids.length qc],pv] w fun e w'=> ∃ka kc za zc ra rc,e= .returned (.tuple #[.agg #[.string pk.name,.string pk.sort,.slice ka pk.kids.length kc,.string lf.name,.string lf.sort,.slice za lf.kids.length zc,.string rt.name,.string rt.sort,.slice ra rt.kids.length rc,.int .i64 0,.int .i64 0,pv],.int .i64 0])/\ay (fun k=>k<w'.heap.size) w' pk.kids (.slice ka pk.kids.length kc)/\ay (fun k=>k<w'.heap.size) w' lf.kids (.slice za lf.kids.length zc)/\ay (fun k=>k<w'.heap.size) w' rt.kids (.slice ra rt.kids.length rc)/\Ext w w':=by
 have HAT:=ae (fun W (hW:Ext w W)=>aal x xp (tV x (.slice xa x.kids.length xc)) pv (fun k=>k<w.heap.size) (fun k=>k<w.heap.size) W ⟨xa,xc,rfl,hx.ext hW⟩ (fun k hk=>ax hk hW.size) (aA.kept hpv hW (fun _ _ h=>h)) (aJ htab hW) (by omega) (by omega));rw[hat] at HAT;have HPV:=ae hpv;have je:=ae htab;have HP2:=ae hp;have HB2:=ae hB2;have Oi:=ae (And.intro hx (And.intro hy hq));have bT:=ae (And.intro hsx (And.intro hsy JG));have oD:=ae hpl;have uX:=ae (fun(z zz:Tm) (hz:DT aB Bs z=(zz,0)) (hzs:z.size<=1000) (vB zv:Value) W (hW:Ext w W) (hB:gQ (fun k=>k<W.heap.size) (fun k=>k<W.heap.size) W vB Bs) (hT:bG (fun k=>k<W.heap.size) W z zv)=>show _ from by
  have h9:=XY Bs z vB zv W (aJ htab hW) hB hT (by omega) (fun b hb=>by have:=hBs b hb;omega) (by omega);rw[hz] at h9;exact h9)
 have hpp:path.length<=1000000:=by
  have:xp.length=path.length:=by rw[iK,List.length_map]
  omega
 have VS:=ae (fun(kv tv qv:Value) (R:Nat->Prop) W (hW:Ext w W) (hK:bG (fun k=>k<W.heap.size) W pk kv) (hT:bG R W pt tv) (hR: ∀k,R k->k<W.heap.size) (hP:aA (fun k=>k<W.heap.size) W 1 qv path.length (path.map fun i:Nat=>Value.int .i64 (i:Int)))=>show _ from by
  have h9:=Lh pk pt path kv tv qv (fun k=>k<W.heap.size) R (fun k=>k<W.heap.size) W hK hT (fun k hk=>hk) hR hP hok (aJ htab hW) (by omega) (by omega) hpp;rw[hlf] at h9;exact h9)
 have ae9:=ae (fun vB zv W hW hB hT=>uX.out x pk hpk hsx vB zv W hW hB hT);have ae_:=ae (uX.out y rt hrt hsy);have ae':=ae (uX.out q pt hpt JG);have hlenp:xp.length=path.length:=by rw[iK,List.length_map]
 have aam:xp.map (Value.int .i64)=path.map (fun i:Nat=>Value.int .i64 (i:Int)):=by rw[iK,List.map_map];rfl
 have oO:Hid (aA (fun k=>k<w.heap.size) w 1 pv path.length (path.map fun i:Nat=>Value.int .i64 (i:Int))):=ae (by rw[<-hlenp,<-aam];exact hpv);clear uX iK hpk hrt hpt hlf hok hBl hBs hks hts hlenp aam;obtain⟨va,vc,rfl⟩:=hpv.shape;have hE:=(((uR w).alloc (.cells #[.string x.name,.string x.sort,.slice xa x.kids.length xc,.string y.name,.string y.sort,.slice ya y.kids.length yc] 146)).alloc (.cells #[.string p.name,.string p.sort,.slice pa p.kids.length pc,.string q.name,.string q.sort,.slice qa q.kids.length qc] 146)).alloc (.cells #[.string ⟨#[]⟩,.string ⟨#[]⟩,.slice none 0 0,.string ⟨#[]⟩,.string ⟨#[]⟩,.slice none 0 0,.string ⟨#[]⟩,.string ⟨#[]⟩,.slice none 0 0,.int .i64 0,.int .i64 0,.slice none 0 0] 152);have HE:=ae hE;have HB0:=ae (ak (ak (aj w (.cells #[.string x.name,.string x.sort,.slice xa x.kids.length xc,.string y.name,.string y.sort,.slice ya y.kids.length yc] 146)) (.cells #[.string p.name,.string p.sort,.slice pa p.kids.length pc,.string q.name,.string q.sort,.slice qa q.kids.length qc] 146)) (.cells #[.string ⟨#[]⟩,.string ⟨#[]⟩,.slice none 0 0,.string ⟨#[]⟩,.string ⟨#[]⟩,.slice none 0 0,.string ⟨#[]⟩,.string ⟨#[]⟩,.slice none 0 0,.int .i64 0,.int .i64 0,.slice none 0 0] 152));have HB1:=ae (ak (alloc_at (w.alloc (.cells #[.string x.name,.string x.sort,.slice xa x.kids.length xc,.string y.name,.string y.sort,.slice ya y.kids.length yc] 146)) (.cells #[.string p.name,.string p.sort,.slice pa p.kids.length pc,.string q.name,.string q.sort,.slice qa q.kids.length qc] 146) (n:=w.heap.size+1) (by simp)) (.cells #[.string ⟨#[]⟩,.string ⟨#[]⟩,.slice none 0 0,.string ⟨#[]⟩,.string ⟨#[]⟩,.slice none 0 0,.string ⟨#[]⟩,.string ⟨#[]⟩,.slice none 0 0,.int .i64 0,.int .i64 0,.slice none 0 0] 152));have J8:=ae (alloc_at ((w.alloc (.cells #[.string x.name,.string x.sort,.slice xa x.kids.length xc,.string y.name,.string y.sort,.slice ya y.kids.length yc] 146)).alloc (.cells #[.string p.name,.string p.sort,.slice pa p.kids.length pc,.string q.name,.string q.sort,.slice qa q.kids.length qc] 146)) (.cells #[.string ⟨#[]⟩,.string ⟨#[]⟩,.slice none 0 0,.string ⟨#[]⟩,.string ⟨#[]⟩,.slice none 0 0,.string ⟨#[]⟩,.string ⟨#[]⟩,.slice none 0 0,.int .i64 0,.int .i64 0,.slice none 0 0] 152) (n:=w.heap.size+2) (by simp));have hz:w.heap.size+3<=(((w.alloc (.cells #[.string x.name,.string x.sort,.slice xa x.kids.length xc,.string y.name,.string y.sort,.slice ya y.kids.length yc] 146)).alloc (.cells #[.string p.name,.string p.sort,.slice pa p.kids.length pc,.string q.name,.string q.sort,.slice qa q.kids.length qc] 146)).alloc (.cells #[.string ⟨#[]⟩,.string ⟨#[]⟩,.slice none 0 0,.string ⟨#[]⟩,.string ⟨#[]⟩,.slice none 0 0,.string ⟨#[]⟩,.string ⟨#[]⟩,.slice none 0 0,.int .i64 0,.int .i64 0,.slice none 0 0] 152)).heap.size:=by simp
 have HS:=ae hz;obtain⟨x0,x1,x2,x3,x4,x5⟩:=dR HB0.out;dsimp only[tV] at HAT hU⊢;have HU:=ae hU;clear hE hz hx hy hp hB2 hq htab hsx hsy JG hat hpl hpv hU
 go_enter Tryz.func164,Tryz.ntmps164
 go_wp2_with fail
 generalize (((w.alloc (.cells #[.string x.name,.string x.sort,.slice xa x.kids.length xc,.string y.name,.string y.sort,.slice ya y.kids.length yc] 146)).alloc (.cells #[.string p.name,.string p.sort,.slice pa p.kids.length pc,.string q.name,.string q.sort,.slice qa q.kids.length qc] 146)).alloc (.cells #[.string ⟨#[]⟩,.string ⟨#[]⟩,.slice none 0 0,.string ⟨#[]⟩,.string ⟨#[]⟩,.slice none 0 0,.string ⟨#[]⟩,.string ⟨#[]⟩,.slice none 0 0,.int .i64 0,.int .i64 0,.slice none 0 0] 152))=w1 at*;refine(HAT.out _ HE.out).mono ?_;rintro e w3 ⟨r,B1,rfl,xM,hB1,hw3⟩;obtain⟨ua,uc,hr⟩:=aG.shape xM;subst hr;have hX:=hw3.alloc (tO u ua uc);have aT:=ae (HE.out.trans hX);have n_:=ae (hX.heap HB0.out (fun h=>h));have iQ:=ae (hX.heap HB1.out (fun h=>h));have OI:=ae (hX.heap J8.out (fun h=>h));have fM:=ae (aj w3 (tO u ua uc));have Wi:=ae (xM.kept ((uR w3).alloc (tO u ua uc)) (fun _ _ h=>h));have GM:Hid (∀j,B1 j->w.heap.size+3<=j/\j< (w3.alloc (tO u ua uc)).heap.size):=ae (fun j hj=>⟨Nat.le_trans HS.out (hB1 j hj).1,ax (hB1 j hj).2 ((uR w3).alloc (tO u ua uc)).size⟩);have eP:Hid (w.heap.size+3<=w3.heap.size):=ae (Nat.le_trans HS.out hw3.size);clear xM hB1 hw3 hX HAT HE HB0 HB1 J8 HS x0 x1 x2 x3 x4 x5;dsimp only;obtain⟨nb,hnb⟩: ∃n,w3.heap.size=n:=⟨_,rfl⟩
 rw[hnb] at fM eP;obtain⟨x0,x1,x2,x3,x4,x5⟩:=dR iQ.out;obtain⟨m0,m1,m2⟩:=af fM.out
 go_wp2_with fail
 try rw[hnb]
 generalize w3.alloc (tO u ua uc)=w4 at*;clear hnb;have Wj:=HU.out w4 aT.out B1 B2 _ _ Wi.out (HP2.out.kept aT.out (fun _ _ h=>h)) (fun k h1 h2=>by have:=(GM.out k h1).1;have:=HB2.out k h2;omega) (fun k h1=>(GM.out k h1).2) (fun k h2=>ax (HB2.out k h2) aT.out.size) (aJ je.out aT.out);refine Wj.mono ?_;rintro e w5 ⟨sa,sc,rfl,hBn,hw5⟩;have jk:=ae hw5;have di:=ae (aT.out.trans hw5);have vH:=ae (hw5.heap n_.out (fun h=>h));have kR:=ae (hw5.heap iQ.out (fun h=>h));have Jr:=ae (hw5.heap OI.out (fun h=>h));have mX:=ae hBn;have oP:Hid (w.heap.size+3<=w4.heap.size/\w4.heap.size<=w5.heap.size):=ae ⟨by have:=(Array.getElem?_eq_some_iff.1 fM.out).1;have:=eP.out;omega,hw5.size⟩;clear hw5 hBn Wj aT n_ iQ OI fM Wi GM eP x0 x1 x2 x3 x4 x5 m0 m1 m2 HU HP2 HB2;have zH:=(uR w5).alloc (.cells #[.string ⟨#[]⟩,.string ⟨#[]⟩,.slice none 0 0,.string ⟨#[]⟩,.string ⟨#[]⟩,.slice none 0 0,.string ⟨#[]⟩,.string ⟨#[]⟩,.slice none 0 0,.int .i64 0,.int .i64 0,.slice va xp.length vc] 152);have dS:=ae (di.out.trans zH);have Yu:=ae (zH.heap vH.out (fun h=>h));have afa:=ae (zH.heap kR.out (fun h=>h));have afb:=ae (zH.heap Jr.out (fun h=>h));have ML:=ae (aj w5 (.cells #[.string ⟨#[]⟩,.string ⟨#[]⟩,.slice none 0 0,.string ⟨#[]⟩,.string ⟨#[]⟩,.slice none 0 0,.string ⟨#[]⟩,.string ⟨#[]⟩,.slice none 0 0,.int .i64 0,.int .i64 0,.slice va xp.length vc] 152));have TN:Hid (gQ (fun k=>w4.heap.size<=k/\k<w5.heap.size) (fun k=>w4.heap.size<=k/\k<w5.heap.size) (w5.alloc (.cells #[.string ⟨#[]⟩,.string ⟨#[]⟩,.slice none 0 0,.string ⟨#[]⟩,.string ⟨#[]⟩,.slice none 0 0,.string ⟨#[]⟩,.string ⟨#[]⟩,.slice none 0 0,.int .i64 0,.int .i64 0,.slice va xp.length vc] 152)) (.slice sa Bs.length sc) Bs):=ae (mX.out.ext zH);have h56:w5.heap.size< (w5.alloc (.cells #[.string ⟨#[]⟩,.string ⟨#[]⟩,.slice none 0 0,.string ⟨#[]⟩,.string ⟨#[]⟩,.slice none 0 0,.string ⟨#[]⟩,.string ⟨#[]⟩,.slice none 0 0,.int .i64 0,.int .i64 0,.slice va xp.length vc] 152)).heap.size:=by simp
 have Wl:=ae h56;obtain⟨bn,hbn⟩: ∃n,w5.heap.size=n:=⟨_,rfl⟩
 rw[hbn] at ML oP Wl TN;clear zH di vH kR Jr mX jk h56;obtain⟨x0,x1,x2,x3,x4,x5⟩:=dR Yu.out
 go_wp2_with fail
 try rw[hbn]
 generalize w5.alloc (.cells #[.string ⟨#[]⟩,.string ⟨#[]⟩,.slice none 0 0,.string ⟨#[]⟩,.string ⟨#[]⟩,.slice none 0 0,.string ⟨#[]⟩,.string ⟨#[]⟩,.slice none 0 0,.int .i64 0,.int .i64 0,.slice va xp.length vc] 152)=w6 at*;clear hbn;refine(ae9.out _ _ w6 dS.out (TN.out.weaken (fun k hk=>Nat.lt_trans hk.2 Wl.out) (fun k hk=>Nat.lt_trans hk.2 Wl.out)) ⟨xa,xc,rfl,(Oi.out.1.ext dS.out).weaken (fun k hk=>ax hk dS.out.size)⟩).mono ?_;rintro e w7 ⟨r,B7,rfl,hTk,d_,hw7⟩;obtain⟨ka,kc,hr⟩:=aG.shape hTk;subst hr;have ig:=ae (dS.out.trans hw7);have Jk:=ae (hw7.heap Yu.out (fun h=>h));have Oy:=ae (hw7.heap afa.out (fun h=>h));have afd:=ae (hw7.heap afb.out (fun h=>h));have Lt:=ae (hw7.heap ML.out (fun h=>h));have afe:=ae (TN.out.ext hw7);have qf:=ae hTk.read;have dZ:=ae d_;have Fg:Hid (bn<w6.heap.size/\w6.heap.size<=w7.heap.size):=ae ⟨Wl.out,hw7.size⟩;clear hTk d_ hw7 ae9 dS Yu afa afb ML TN x0 x1 x2 x3 x4 x5;dsimp only[tV];obtain⟨c0,c1,c2,c3,c4,c5,c6,c7,c8,c9,c10,c11⟩:=iW Lt.out;obtain⟨x0,x1,x2,x3,x4,x5⟩:=dR Jk.out;have f2:=fun i=>ai Lt.out i
 go_upto_region 11 with fail
 have hc8:=V_ Lt.out (.string pk.name) (.string pk.sort) (.slice ka pk.kids.length kc);have kV:=Yq w7 bn (.string pk.name) (.string pk.sort) (.slice ka pk.kids.length kc);clear c0 c1 c2 c3 c4 c5 c6 c7 c8 c9 c10 c11 f2 x0 x1 x2 x3 x4 x5;generalize ((((((w7).setCell ⟨bn,0,none⟩ (.string pk.name))).setCell ⟨bn,1,none⟩ (.string pk.sort))).setCell ⟨bn,2,none⟩ (.slice ka pk.kids.length kc))=w8 at*;have hs5:=oP.out;have HC8:=ae hc8;have bU:=ae (ig.out.trans' kV (fun j hj e=>by have:=hs5.1;omega));have TB:=ae (kV.heap Jk.out (by omega));have vN:=ae (kV.heap Oy.out (by omega));have aff:=ae (kV.heap afd.out (by omega));have Yv:=ae (afe.out.kept kV (fun k hk e=>by omega) (fun k hk e=>by omega));have TP:Hid (ay (fun j=>bn<j/\j<w8.heap.size) w8 pk.kids (.slice ka pk.kids.length kc)):=ae ((qf.out.kept kV (fun j hj e=>by have:=(dZ.out j hj).1;have:=Fg.out;omega)).weaken (fun j hj=>⟨by have:=(dZ.out j hj).1;have:=Fg.out;omega,ax (dZ.out j hj).2 kV.size⟩));have fO:Hid (bn<w8.heap.size):=ae (by have:=Fg.out;have:=kV.size;omega);clear hc8 kV ig Jk Oy afd Lt afe qf dZ Fg Wl;obtain⟨x0,x1,x2,x3,x4,x5⟩:=dR TB.out
 go_wp2_with fail
 refine(ae_.out _ _ w8 bU.out (Yv.out.weaken (fun k hk=>Nat.lt_trans hk.2 fO.out) (fun k hk=>Nat.lt_trans hk.2 fO.out)) ⟨ya,yc,rfl,(Oi.out.2.1.ext bU.out).weaken (fun k hk=>ax hk bU.out.size)⟩).mono ?_;rintro e w9 ⟨r,B9,rfl,hTr,Ea,iy⟩;obtain⟨ra,rc,hr⟩:=aG.shape hTr;subst hr;have fD:=ae (bU.out.trans iy);have lg:=ae (iy.heap vN.out (fun h=>h));have afg:=ae (iy.heap aff.out (fun h=>h));have HC9:=ae (iy.heap HC8.out (fun h=>h));have afh:=ae (Yv.out.ext iy);have afi:=ae (TP.out.ext iy);have tX:=ae hTr.read;have lK:=ae Ea;have jy:Hid (bn<w8.heap.size/\w8.heap.size<=w9.heap.size):=ae ⟨fO.out,iy.size⟩;clear hTr Ea iy ae_ bU TB vN aff HC8 Yv TP fO x0 x1 x2 x3 x4 x5;dsimp only[tV];obtain⟨c0,c1,c2,c3,c4,c5,c6,c7,c8,c9,c10,c11⟩:=iW HC9.out;obtain⟨x0,x1,x2,x3,x4,x5⟩:=dR lg.out;have f2:=fun i=>ai HC9.out i
 go_upto_region 14 with fail
 have hc8:=Wh HC9.out (.string rt.name) (.string rt.sort) (.slice ra rt.kids.length rc);have kV:=Yt w9 bn (.string rt.name) (.string rt.sort) (.slice ra rt.kids.length rc);clear c0 c1 c2 c3 c4 c5 c6 c7 c8 c9 c10 c11 f2 x0 x1 x2 x3 x4 x5;generalize ((((((w9).setCell ⟨bn,6,none⟩ (.string rt.name))).setCell ⟨bn,7,none⟩ (.string rt.sort))).setCell ⟨bn,8,none⟩ (.slice ra rt.kids.length rc))=wA at*;have HCA:=ae hc8;have mW:=ae (fD.out.trans' kV (fun j hj e=>by have:=hs5.1;omega));have yD:=ae (kV.heap lg.out (by omega));have afj:=ae (kV.heap afg.out (by omega));have afk:=ae (afh.out.kept kV (fun k hk e=>by omega) (fun k hk e=>by omega));have afl:Hid (ay (fun j=>bn<j/\j<wA.heap.size) wA pk.kids (.slice ka pk.kids.length kc)):=ae ((afi.out.kept kV (fun j hj e=>by omega)).weaken (fun j hj=>⟨hj.1,by have:=jy.out;have:=kV.size;omega⟩));have afm:Hid (ay (fun j=>bn<j/\j<wA.heap.size) wA rt.kids (.slice ra rt.kids.length rc)):=ae ((tX.out.kept kV (fun j hj e=>by have:=(lK.out j hj).1;have:=jy.out;omega)).weaken (fun j hj=>⟨by have:=(lK.out j hj).1;have:=jy.out;omega,ax (lK.out j hj).2 kV.size⟩));have qh:Hid (bn<wA.heap.size):=ae (by have:=jy.out;have:=kV.size;omega);clear hc8 kV fD lg afg HC9 afh afi tX lK jy;obtain⟨x0,x1,x2,x3,x4,x5⟩:=dR yD.out
 go_wp2_with fail
 refine(ae'.out _ _ wA mW.out (afk.out.weaken (fun k hk=>Nat.lt_trans hk.2 qh.out) (fun k hk=>Nat.lt_trans hk.2 qh.out)) ⟨qa,qc,rfl,(Oi.out.2.2.ext mW.out).weaken (fun k hk=>ax hk mW.out.size)⟩).mono ?_;rintro e wB ⟨r,B11,rfl,hTt,hBt,hwB⟩;obtain⟨ta,tc,hr⟩:=aG.shape hTt;subst hr;have hX:=hwB.alloc (tO pt ta tc);have BD:=ae (mW.out.trans hX);have afo:=ae (hX.heap afj.out (fun h=>h));have Wn:=ae (hX.heap HCA.out (fun h=>h));have CS:=ae (aj wB (tO pt ta tc));have Yw:=ae (afl.out.ext hX);have afp:=ae (afm.out.ext hX);have HTT:=ae ((hTt.read.ext ((uR wB).alloc (tO pt ta tc))).weaken (fun j hj=>(⟨by have:=(hBt j hj).1;have:=qh.out;omega,ax (hBt j hj).2 ((uR wB).alloc (tO pt ta tc)).size⟩:bn<j/\j< (wB.alloc (tO pt ta tc)).heap.size)));have vZ:Hid (bn<wB.heap.size/\wA.heap.size<=(wB.alloc (tO pt ta tc)).heap.size):=ae ⟨by have:=qh.out;have:=hwB.size;omega,hX.size⟩;clear hTt hBt hwB hX ae' mW yD afj HCA afk afl afm qh x0 x1 x2 x3 x4 x5;dsimp only[tV];obtain⟨tn,htn⟩: ∃n,wB.heap.size=n:=⟨_,rfl⟩
 rw[htn] at CS vZ;obtain⟨c0,c1,c2,c3,c4,c5,c6,c7,c8,c9,c10,c11⟩:=iW Wn.out;obtain⟨m0,m1,m2⟩:=af CS.out
 go_wp2_with fail
 try rw[htn]
 generalize wB.alloc (tO pt ta tc)=wC at*;clear htn;refine(VS.out _ _ _ (fun j=>bn<j/\j<wC.heap.size) wC BD.out ⟨ka,kc,rfl,Yw.out.weaken (fun j hj=>by have:=vZ.out;omega)⟩ ⟨ta,tc,rfl,HTT.out⟩ (fun k hk=>hk.2) ((aA.kept oO.out BD.out (fun _ _ h=>h)).weaken (fun k hk=>ax hk BD.out.size))).mono ?_;rintro e wD ⟨r,rfl,hTl,hwD⟩;obtain⟨za,zc,hr⟩:=ay.shape hTl;subst hr;have D9:=ae (BD.out.trans hwD);have afq:=ae (hwD.heap afo.out (fun h=>h));have HCD:=ae (hwD.heap Wn.out (fun h=>h));have afr:=ae ((Yw.out.ext hwD).weaken (fun j hj=>(⟨hj.1,by have:=vZ.out;have:=hwD.size;omega⟩:bn<j/\j<wD.heap.size)));have afs:=ae ((afp.out.ext hwD).weaken (fun j hj=>(⟨hj.1,by have:=vZ.out;have:=hwD.size;omega⟩:bn<j/\j<wD.heap.size)));have cZ:Hid (ay (fun j=>bn<j/\j<wD.heap.size) wD lf.kids (.slice za lf.kids.length zc)):=ae (hTl.weaken (fun j hj=>by
  have h1:=hwD.size;have h2:=(Array.getElem?_eq_some_iff.1 Wn.out).1;rcases hj with hj|hj<;>exact⟨by omega,by omega⟩))
 have HSD:Hid (bn<wC.heap.size/\wC.heap.size<=wD.heap.size):=ae ⟨by have:=(Array.getElem?_eq_some_iff.1 Wn.out).1;omega,hwD.size⟩;clear hTl hwD VS BD afo Wn CS Yw afp HTT vZ c0 c1 c2 c3 c4 c5 c6 c7 c8 c9 c10 c11 m0 m1 m2;dsimp only[tV];obtain⟨c0,c1,c2,c3,c4,c5,c6,c7,c8,c9,c10,c11⟩:=iW HCD.out;have f2:=fun i=>ai HCD.out i
 go_upto_region 18 with fail
 have hc8:=We HCD.out (.string lf.name) (.string lf.sort) (.slice za lf.kids.length zc);have kV:=Yr wD bn (.string lf.name) (.string lf.sort) (.slice za lf.kids.length zc);clear c0 c1 c2 c3 c4 c5 c6 c7 c8 c9 c10 c11 f2;generalize ((((((wD).setCell ⟨bn,3,none⟩ (.string lf.name))).setCell ⟨bn,4,none⟩ (.string lf.sort))).setCell ⟨bn,5,none⟩ (.slice za lf.kids.length zc))=wE at*;have HCE:=ae hc8;have vC:=ae (D9.out.trans' kV (fun j hj e=>by have:=hs5.1;omega));have Yy:=ae (kV.heap afq.out (by omega));have ajZ:Hid (ay (fun j=>bn<j/\j<wE.heap.size) wE pk.kids (.slice ka pk.kids.length kc)):=ae ((afr.out.kept kV (fun j hj e=>by omega)).weaken (fun j hj=>⟨hj.1,ax hj.2 kV.size⟩));have aj0:Hid (ay (fun j=>bn<j/\j<wE.heap.size) wE rt.kids (.slice ra rt.kids.length rc)):=ae ((afs.out.kept kV (fun j hj e=>by omega)).weaken (fun j hj=>⟨hj.1,ax hj.2 kV.size⟩));have aj1:Hid (ay (fun j=>bn<j/\j<wE.heap.size) wE lf.kids (.slice za lf.kids.length zc)):=ae ((cZ.out.kept kV (fun j hj e=>by omega)).weaken (fun j hj=>⟨hj.1,ax hj.2 kV.size⟩));clear hc8 kV D9 afq HCD afr afs cZ HSD;obtain⟨c0,c1,c2,c3,c4,c5,c6,c7,c8,c9,c10,c11⟩:=iW HCE.out;have f2:=fun i=>ai Yy.out i;obtain⟨d0,d1,d2,d3,d4,d5,d6,d7,d8,d9,d10,d11⟩:=iW Yy.out
 go_wp2_with fail
 have hr:=Kz Yy.out (.string pk.name) (.string pk.sort) (.slice ka pk.kids.length kc) (.string lf.name) (.string lf.sort) (.slice za lf.kids.length zc) (.string rt.name) (.string rt.sort) (.slice ra rt.kids.length rc) (.int .i64 0) (.int .i64 0) (.slice va xp.length vc);have hu:=OH wE (w.heap.size+2) (.string pk.name) (.string pk.sort) (.slice ka pk.kids.length kc) (.string lf.name) (.string lf.sort) (.slice za lf.kids.length zc) (.string rt.name) (.string rt.sort) (.slice ra rt.kids.length rc) (.int .i64 0) (.int .i64 0) (.slice va xp.length vc);obtain⟨e0,e1,e2,e3,e4,e5,e6,e7,e8,e9,e10,e11⟩:=iW hr;refine bodyPost_ret (v:= .tuple #[.agg #[.string pk.name,.string pk.sort,.slice ka pk.kids.length kc,.string lf.name,.string lf.sort,.slice za lf.kids.length zc,.string rt.name,.string rt.sort,.slice ra rt.kids.length rc,.int .i64 0,.int .i64 0,.slice va xp.length vc],.int .i64 0]) (by simp[results,Tryz.results164,go_sem,e0,e1,e2,e3,e4,e5,e6,e7,e8,e9,e10,e11]) rfl ?_;have hue:=vC.out.trans' hu (fun j hj e=>by omega);have hq5:=hs5.1;exact⟨ka,kc,za,zc,ra,rc,rfl,(ajZ.out.kept hu (fun j hj e=>by omega)).weaken (fun j hj=>ax hj.2 hu.size),(aj1.out.kept hu (fun j hj e=>by omega)).weaken (fun j hj=>ax hj.2 hu.size),(aj0.out.kept hu (fun j hj e=>by omega)).weaken (fun j hj=>ax hj.2 hu.size),hue⟩
theorem aG.typed {w:World} {B:Nat->Prop} {L:List Tm} {v:Value} (h:aG 24 w B L v):aG 24 w (fun k=>B k/\jB w k) L v:=by
 induction h with
 |mk B L us v Bk hl hown hb hkb hrow hdis hk ih=>
  refine .mk _ L us v (fun i k=>Bk i k/\jB w k) hl hown (fun k hk2=>⟨hb k hk2,?_⟩) (fun i k hi hk2=>⟨hkb i k hi hk2.1,hk2.2⟩) (fun i k hi hk2=>hrow i k hi hk2.1) (fun i j k hi hj hne h1 h2=>hdis i j k hi hj hne h1.1 h2.1) ih;rcases hown.2 with⟨e,_⟩|⟨g,cap,cur,e,_,h3,_⟩
  .rw [e] at hk2;cases hk2
  .rw [e] at hk2;injection hk2 with hk2
   rw[<-hk2];exact⟨_,_,h3⟩
theorem jB.lt {W:World} {k:Nat} (h:jB W k):k<W.heap.size:=by
 obtain⟨cs,fz,h⟩:=h;exact(Array.getElem?_eq_some_iff.1 h).1
theorem jB.upd {W W':World} {k:Nat} {F:Nat->Prop} (h:jB W k) (hE:au F W W') (hF: ¬F k):jB W' k:=by
 obtain⟨cs,fz,h⟩:=h;exact⟨cs,fz,hE.heap h hF⟩
abbrev Re:=Rl×Value×Value
abbrev tH (x:Re):List Value:=[.string x.1.1.name,.string x.1.1.sort,x.2.1,.string x.1.2.name,.string x.1.2.sort,x.2.2]
abbrev eg (L:List Re) (i:Nat):Re:=L.getD i ((default,default),qF,qF)
theorem Wp {L:List Re} {i:Nat} (h:i<L.length):eg L i=L[i]:=by unfold eg;rw[List.getD_eq_getElem?_getD,List.getElem?_eq_getElem h];rfl
theorem OJ: ∀(L:List Re) (i j:Nat),i<L.length->j<6->(L.flatMap tH)[i*6+j]?=(tH (eg L i))[j]?
 |x::L,0,j,_,hj=>by
  rw[List.flatMap_cons,List.getElem?_append_left (by simpa using hj),Nat.zero_mul,Nat.zero_add];rfl
 |x::L,i+1,j,hi,hj=>by
  rw[List.flatMap_cons,List.getElem?_append_right (by show 6<=_;omega)];have e:(i+1)*6+j- (tH x).length=i*6+j:=by show(i+1)*6+j-6=_;omega
  rw[e,OJ L i j (by simpa using hi) hj];rfl
def iY (n0:Nat) (W:World) (t:Tm) (u:Value):Prop:= ∃B:Nat->Prop,aG 24 W B t.kids u/\∀j,B j->n0<=j/\jB W j
theorem iY.upd {n0:Nat} {W W':World} {t:Tm} {u:Value} {F:Nat->Prop} (h:iY n0 W t u) (hu:au F W W') (hF: ∀k,F k->¬jB W k):iY n0 W' t u:=by
 obtain⟨B,h1,h2⟩:=h;exact⟨B,h1.kept hu (fun k hk e=>hF k e (h2 k hk).2),fun j hj=>⟨(h2 j hj).1,(h2 j hj).2.upd hu (fun e=>hF j e (h2 j hj).2)⟩⟩
theorem iY.ext {n0:Nat} {W W':World} {t:Tm} {u:Value} (h:iY n0 W t u) (hu:Ext W W'):iY n0 W' t u:=h.upd hu (fun _ h=>h.elim)
theorem iY.of {n0:Nat} {W:World} {t:Tm} {u:Value} {B:Nat->Prop} (h:aG 24 W B t.kids u) (hB: ∀j,B j->n0<=j):iY n0 W t u:=⟨_,aG.typed h,fun j hj=>⟨hB j hj.1,hj.2⟩⟩
theorem iY.shape {n0:Nat} {W:World} {t:Tm} {u:Value} (h:iY n0 W t u): ∃a c,u= .slice a t.kids.length c:=by
 obtain⟨B,h,_⟩:=h;exact aG.shape h
structure wG (n0:Nat) (W:World) (v:Value) (L:List Re):Prop where
 own:W.ownsRow n0 146 6 v L.length (L.flatMap tH)
 tl: ∀x∈L,iY n0 W x.1.1 x.2.1/\iY n0 W x.1.2 x.2.2
theorem wG.nil (n0:Nat) (W:World):wG n0 W qF []:=⟨⟨rfl,.inl ⟨rfl,rfl⟩⟩,fun x hx=>by cases hx⟩
theorem wG.upd {n0:Nat} {W W':World} {v:Value} {L:List Re} {F:Nat->Prop} (h:wG n0 W v L) (hu:au F W W') (hF: ∀k,v.ownBlock=some k->¬F k) (hT: ∀k,F k->¬jB W k):wG n0 W' v L:=
 ⟨bI h.own hu hF,fun x hx=>⟨(h.tl x hx).1.upd hu hT,(h.tl x hx).2.upd hu hT⟩⟩
theorem wG.ext {n0:Nat} {W W':World} {v:Value} {L:List Re} (h:wG n0 W v L) (hu:Ext W W'):wG n0 W' v L:=h.upd hu (fun _ _ h=>h) (fun _ h=>h.elim)
theorem Ir {W:World} {b n:Nat} {v:Value} {xs:List Value} (h:W.ownsRow b 146 6 v n xs) {k:Nat} (hk:v.ownBlock=some k): ¬jB W k:=fun⟨cs,fz,h4⟩=>by
 rcases h.2 with⟨e,_⟩|⟨g,cap,cur,e,_,h3,_⟩
 .rw [e] at hk;cases hk
 .rw [e] at hk;injection hk with hk
  rw[<-hk,h3] at h4;injection h4 with h4
  injection h4 with _ h4
  cases h4
theorem wG.at_ {n0:Nat} {W:World} {a:Option Addr} {n c:Nat} {L:List Re} (h:wG n0 W (.slice a n c) L) (hl:0<L.length): ∃g off,a=some ⟨g,off,none⟩/\∀i,i<L.length->∃xa xc ya yc,(eg L i).2.1= .slice xa (eg L i).1.1.kids.length xc/\(eg L i).2.2= .slice ya (eg L i).1.2.kids.length yc/\iY n0 W (eg L i).1.1 (.slice xa (eg L i).1.1.kids.length xc)/\iY n0 W (eg L i).1.2 (.slice ya (eg L i).1.2.kids.length yc)/\
  W.cell? ⟨g,off+i*6,none⟩=some (.string (eg L i).1.1.name)/\W.cell? ⟨g,off+i*6+1,none⟩=some (.string (eg L i).1.1.sort)/\W.cell? ⟨g,off+i*6+2,none⟩=some (.slice xa (eg L i).1.1.kids.length xc)/\W.cell? ⟨g,off+i*6+3,none⟩=some (.string (eg L i).1.2.name)/\W.cell? ⟨g,off+i*6+4,none⟩=some (.string (eg L i).1.2.sort)/\W.cell? ⟨g,off+i*6+5,none⟩=some (.slice ya (eg L i).1.2.kids.length yc):=by
 obtain⟨g,off,cap,e,_,_,hj⟩:=aA.pos (aA.fC h.own) hl;injection e with e e2 e3
 refine⟨g,off,e,fun i hi=>?_⟩;have hm:eg L i∈L:=by rw[Wp hi];exact List.getElem_mem hi
 obtain⟨h1,h2⟩:=h.tl _ hm;obtain⟨xa,xc,ex⟩:=h1.shape;obtain⟨ya,yc,ey⟩:=h2.shape;have hc: ∀j,j<6->W.cell? ⟨g,off+i*6+j,none⟩=(tH (eg L i))[j]?:=fun j hj6=>by
  rw[Nat.add_assoc,hj _ (by omega),OJ L i j hi hj6]
 have h0:=hc 0 (by decide);rw[Nat.add_zero] at h0;rw[ex] at h1;rw[ey] at h2;exact⟨xa,xc,ya,yc,ex,ey,h1,h2,h0,hc 1 (by decide),(hc 2 (by decide)).trans (congrArg some ex),hc 3 (by decide),hc 4 (by decide),(hc 5 (by decide)).trans (congrArg some ey)⟩
abbrev Cp:=Tm×Tm×Tm×Nat×Nat×List Nat
def OvP (res:Option (Tm×Tm×Tm)) (pv:Value) (w':World) (e:Ending):Prop:=match res with
 |none=>e= .returned (.tuple #[.agg #[.string ⟨#[]⟩,.string ⟨#[]⟩,.slice none 0 0,.string ⟨#[]⟩,.string ⟨#[]⟩,.slice none 0 0,.string ⟨#[]⟩,.string ⟨#[]⟩,.slice none 0 0,.int .i64 0,.int .i64 0,.slice none 0 0],.int .i64 12])
 |some r=> ∃ka kc za zc ra rc,e= .returned (.tuple #[.agg #[.string r.1.name,.string r.1.sort,.slice ka r.1.kids.length kc,.string r.2.1.name,.string r.2.1.sort,.slice za r.2.1.kids.length zc,.string r.2.2.name,.string r.2.2.sort,.slice ra r.2.2.kids.length rc,.int .i64 0,.int .i64 0,pv],.int .i64 0])/\ay (fun k=>k<w'.heap.size) w' r.1.kids (.slice ka r.1.kids.length kc)/\ay (fun k=>k<w'.heap.size) w' r.2.1.kids (.slice za r.2.1.kids.length zc)/\ay (fun k=>k<w'.heap.size) w' r.2.2.kids (.slice ra r.2.2.kids.length rc)
def Iu (o r:Rl) (p:List Nat) (res:Option (Tm×Tm×Tm)):Prop:= ∀(xa ya pa qa:Option Addr) (xc yc pc qc:Nat) (pv:Value) (B2:Nat->Prop) (W:World),cO W->ay (fun k=>k<W.heap.size) W o.1.kids (.slice xa o.1.kids.length xc)->ay (fun k=>k<W.heap.size) W o.2.kids (.slice ya o.2.kids.length yc)->aG 24 W B2 r.1.kids (.slice pa r.1.kids.length pc)->(∀k,B2 k->k<W.heap.size)->ay (fun k=>k<W.heap.size) W r.2.kids (.slice qa r.2.kids.length qc)->pG (fun k=>k<W.heap.size) W pv (p.map fun j:Nat=>(j:Int))->
  Calls Tryz.prog 164 #[.agg #[.string o.1.name,.string o.1.sort,.slice xa o.1.kids.length xc,.string o.2.name,.string o.2.sort,.slice ya o.2.kids.length yc],.agg #[.string r.1.name,.string r.1.sort,.slice pa r.1.kids.length pc,.string r.2.name,.string r.2.sort,.slice qa r.2.kids.length qc],pv] W fun e w'=>OvP res pv w' e/\Ext W w'
def Wq (ov:Nat->List Nat->Nat->Option (Tm×Tm×Tm)) (i:Nat) (p:List Nat) (k:Nat) (acc:Option Cp):Option (Option Cp):=if p.length=0/\k<=i then some acc else match ov i p k with
 |none=>some acc
 |some r=>match acc with
  |none=>some (some (r.1,r.2.1,r.2.2,i,k,p))
  |some _=>none
def Iw (ov:Nat->List Nat->Nat->Option (Tm×Tm×Tm)) (i:Nat) (p:List Nat):Nat->Nat->Option Cp->Option (Option Cp)
 |0,_,acc=>some acc
 |m+1,k,acc=>(Wq ov i p k acc).bind (Iw ov i p m (k+1))
def Iy (ov:Nat->List Nat->Nat->Option (Tm×Tm×Tm)) (i n:Nat):List (List Nat)->Option Cp->Option (Option Cp)
 |[],acc=>some acc
 |p::ps,acc=>(Iw ov i p n 0 acc).bind (Iy ov i n ps)
def Iz (ov:Nat->List Nat->Nat->Option (Tm×Tm×Tm)) (fs:List Rl) (n:Nat):Nat->Nat->Option Cp->Option (Option Cp)
 |0,_,acc=>some acc
 |m+1,i,acc=>(Iy ov i n (iE (rg fs i).1 []) acc).bind (Iz ov fs n m (i+1))
def Ei (W:World) (v:Value) (acc:Option Cp):Prop:=match acc with
 |none=>v= .slice none 0 0
 |some c=> ∃g cap ka kc za zc ra rc qa qc,v= .slice (some ⟨g,0,none⟩) 1 cap/\(∀j u,[.string c.1.name,.string c.1.sort,.slice ka c.1.kids.length kc,.string c.2.1.name,.string c.2.1.sort,.slice za c.2.1.kids.length zc,.string c.2.2.1.name,.string c.2.2.1.sort,.slice ra c.2.2.1.kids.length rc,.int .i64 (c.2.2.2.1:Int),.int .i64 (c.2.2.2.2.1:Int),.slice qa c.2.2.2.2.2.length qc][j]?=some u->W.cell? ⟨g,j,none⟩=some u)/\ay (fun k=>k<W.heap.size) W c.1.kids (.slice ka c.1.kids.length kc)/\ay (fun k=>k<W.heap.size) W c.2.1.kids (.slice za c.2.1.kids.length zc)/\ay (fun k=>k<W.heap.size) W c.2.2.1.kids (.slice ra c.2.2.1.kids.length rc)/\aA (fun k=>k<W.heap.size) W 1 (.slice qa c.2.2.2.2.2.length qc) c.2.2.2.2.2.length (c.2.2.2.2.2.map (fun i:Nat=>Value.int .i64 (i:Int)))
theorem Ei.ext {W W':World} {v:Value} {acc:Option Cp} (h:Ei W v acc) (hE:Ext W W'):Ei W' v acc:=by
 cases acc with
 |none=>exact h
 |some c=>
  obtain⟨g,cap,ka,kc,za,zc,ra,rc,qa,qc,h1,h2,h3,h4,h5,h6⟩:=h;exact⟨g,cap,ka,kc,za,zc,ra,rc,qa,qc,h1,fun j u hj=>hE.cell (h2 j u hj) (fun h=>h),(h3.ext hE).weaken (fun k hk=>ax hk hE.size),(h4.ext hE).weaken (fun k hk=>ax hk hE.size),(h5.ext hE).weaken (fun k hk=>ax hk hE.size),(aA.kept h6 hE (fun _ _ h=>h)).weaken (fun k hk=>ax hk hE.size)⟩
theorem ad7 {B:List Bd} {n:By} (h:bf B n=none):sV B n= -1:=by
 unfold bf at h;have h1:B.findIdx? (fun b=>decide (b.1=n))=none:=by
  rw[List.findIdx?_eq_none_iff];intro b hb;cases hf:B.find? (fun b=>decide (b.1=n)) with
  |some c=>rw[hf] at h;cases h
  |none=>exact by simpa using List.find?_eq_none.1 hf b hb
 unfold sV;rw[h1]
theorem ad8 {B:List Bd} {n:By} (h:(bf B n).isSome=true): ∃i:Nat,i<B.length/\sV B n=(i:Int)/\bf B n=some (Go.Hw.bg B i).2.2/\sZ B n=some (Go.Hw.bg B i).2.1:=by
 cases hf:B.findIdx? (fun b=>decide (b.1=n)) with
 |none=>
  rw[List.findIdx?_eq_none_iff] at hf;obtain⟨T,hT⟩:=Option.isSome_iff_exists.1 h;obtain⟨b,hb,h1,_⟩:=rE hT;have:=hf b hb;simp[h1] at this
 |some i=>
  have h2:=List.findIdx?_eq_some_iff_getElem.1 hf;obtain⟨hi,h3,h4⟩:=h2;have h5:B.find? (fun b=>decide (b.1=n))=some B[i]:=by
   rw[List.find?_eq_some_iff_getElem];exact⟨h3,i,hi,rfl,fun j hj=>by have:=h4 j hj;simpa using this⟩
  refine⟨i,hi,by unfold sV;rw[hf],?_,?_⟩
  .unfold bf;rw[h5,sW hi];rfl
  .unfold sZ;rw[h5,sW hi];rfl
theorem Ob (t:Tm) (u:Value) (T:Nat->Prop) (w:World) (hT:bG T w t u) (hw:wf aB t=true):Calls Tryz.prog 136 #[u] w fun e w'=> ∃r,e= .returned r/\b_ (fun k=>False\/w.heap.size<=k) w' r (aO t)/\Ext w w':=by
 have hv:(dm [] (vl (aV t))).2=true:=by
  rw[LH];unfold wf at hw;rw[Bool.and_eq_true] at hw;exact hw.2
 have jg:=ae (fun W (hW:Ext w W)=>Uo t [] (.slice none 0 0) u (fun _=>False) T W (hT.ext hW) (aA.nil _ _ 2) (BZ (xQ hw)) (by have:=nT hw;show 0+t.size<=100000;omega));have HVV:=ae hv;obtain⟨a,cap,rfl,_⟩:=hT;have HZ:=ae ((uR w).alloc (tO t a cap));have HB:=ae (aj w (tO t a cap));dsimp only[tV] at jg⊢;obtain⟨t0,t1,t2⟩:=af HB.out;rw[hv] at jg;have HVT:Hid ((dm [] (vl (aV t))).1=aO t):=ae rfl;rw[HVT.out] at jg;generalize aO t=L at*;clear hv hw
 go_enter Tryz.func136,Tryz.ntmps136
 go_wp2_with fail
 refine(jg.out _ HZ.out).mono ?_;rintro e w4 ⟨r,rfl,hr,hw4⟩;have H4:=ae (HZ.out.trans hw4);have HR:Hid (b_ (fun k=>False\/w.heap.size<=k) w4 r L):=ae ((hr (by simp)).weaken (fun k hk=>hk.elim .inl (fun h=> .inr (Nat.le_trans HZ.out.size h))));obtain⟨ra,rc,A_⟩:=HR.out.shape;subst A_;clear hr hw4 t0 t1 t2
 go_wp2_with fail
 go_ret;exact⟨_,rfl,HR.out,H4.out⟩
def kZ (z:Tm) (d left:Nat) (q:Tm) (r:Int) (v:Value) (w w':World):Prop:=
 ((z.size<=left/\d+z.depth<=61)->q=z/\r=(left:Int)- (z.size:Int)/\∃B,aG 24 w' B q.kids v/\∀j,B j->w.heap.size<=j/\j<w'.heap.size)/\(¬(z.size<=left/\d+z.depth<=61)->r<0)
theorem kZ.no {z:Tm} {d left:Nat} {q:Tm} {r:Int} {v:Value} {w w':World} (h: ¬(z.size<=left/\d+z.depth<=61)) (hr:r<0):kZ z d left q r v w w':=⟨fun h2=>absurd h2 h,fun _=>hr⟩
theorem kZ.yes {z:Tm} {d left:Nat} {q:Tm} {r:Int} {v:Value} {w w':World} (h1:q=z) (h2:r=(left:Int)- (z.size:Int)) (hn:z.size<=left->d+z.depth<=61) (h3: ∃B,aG 24 w' B q.kids v/\∀j,B j->w.heap.size<=j/\j<w'.heap.size):kZ z d left q r v w w':=⟨fun _=>⟨h1,h2,h3⟩,fun h=>by
 by_cases h4:z.size<=left
 .exact absurd ⟨h4,hn h4⟩ h
 .omega⟩
theorem J_ (t:Tm):1<=t.size:=by rw[size_eq];omega
theorem Ai (t:Tm):1<=t.depth:=by rw[jH];omega
theorem zJ (L:List Tm) (k:Nat):depths (L.take k)<=depths L:=by
 have h:=BG (L.take k) (L.drop k);rw[List.take_append_drop] at h;omega
theorem abb (Bs:List Bd) (vB:Value) (RB SB:Nat->Prop) (w0:World) (gW:Hid (gQ RB SB w0 vB Bs)) (vZ:Hid (∀k,SB k->k<w0.heap.size)) (kP:Hid (Bs.length<=1000000)) (rq:Hid (∀b∈Bs,b.2.2.size<=100000)):
  ∀(t:Tm) (v:Value) (S:Nat->Prop) (w:World) (d left:Nat),Ext w0 w->bG S w t v->(∀k,S k->k<w.heap.size)->t.size<=100000->tZ t->d<=61->left<=1000->
  Calls Tryz.prog 90 #[vB,v,.int .i64 (d:Int),.int .i64 (left:Int)] w fun e w'=> ∃(q:Tm) (ra:Option Addr) (rc:Nat) (r:Int),e= .returned (.tuple #[.agg #[.string q.name,.string q.sort,.slice ra q.kids.length rc],.int .i64 r])/\kZ (bu Bs t) d left q r (.slice ra q.kids.length rc) w w'/\Ext w w':=by
 refine Tm.ind (fun n s L ih=>?_);intro v S w d left hw0 hT hS hsz DI hd hleft;obtain⟨va,vc,hvB⟩:=gW.out.shape;subst hvB;obtain⟨Z,jA⟩: ∃Z,bu Bs (.mk n s L)=Z:=⟨_,rfl⟩
 rw[jA];have gY:=ae jA;clear jA;obtain⟨a,cap,rfl,hT⟩:=hT;dsimp only[tV,Tm.name,Tm.sort,Tm.kids] at hT;show Calls _ _ #[_,.agg #[.string n,.string s,.slice a L.length cap],_,_] w _;have cZ:=ae hT;have HIH:=ae ih;have gm:=ae hS;have xx:=ae DI;have HW0:=ae hw0;have fB:sizes L+1<=100000:=by rw[size_eq] at hsz;simp only[Tm.kids] at hsz;omega
 have kK:=ae fB;have jW:L.length<=100000:=by have h1:=aX L;omega
 have hZ:=((uR w).alloc (.cells #[.string n,.string s,.slice a L.length cap] 24)).alloc zO;have HB2:=ae (ak (aj w (.cells #[.string n,.string s,.slice a L.length cap] 24)) zO);have HB3:=ae (alloc_at (w.alloc (.cells #[.string n,.string s,.slice a L.length cap] 24)) zO (n:=w.heap.size+1) (by simp));have hs1:((w.alloc (.cells #[.string n,.string s,.slice a L.length cap] 24)).alloc zO).heap.size=w.heap.size+2:=by simp
 have lZ:=ae hs1;have HZ:=ae hZ;have Dx:=ae (F6 Bs _ n RB SB ((w.alloc (.cells #[.string n,.string s,.slice a L.length cap] 24)).alloc zO) (gW.out.ext (hw0.trans hZ)) kP.out);have t1:=kF s;have hbl:=kP.out;clear ih hT hS hsz fB hZ hs1 hw0 DI
 go_enter Tryz.func90,Tryz.ntmps90
 go_upto_region 1 with fail
 generalize ((w.alloc (.cells #[.string n,.string s,.slice a L.length cap] 24)).alloc zO)=w1 at*;obtain⟨x0,x1,x2⟩:=af HB2.out;have ad9:(s=ah\/L=[])->(s≠ah->bf Bs n=none)->Z= .mk n s (L.map (bu Bs)):=fun h1 h2=>by
  rw[<-gY.out];show gu (fE Bs) (.mk n s L)=_;by_cases hs:s=ah
  .rw [hs,rD];rfl
  .rw [nU _ hs L,F7 (h2 hs),h1.resolve_left hs];rfl
 have VE:=ae ad9;clear ad9;by_cases hs0:s=ah
 rotate_left
 .rw [dF hs0] at t1;cases hF:(bf Bs n).isSome with
  |true=>
   obtain⟨m,hlm,hfx,hbg,_⟩:=ad8 (n:=n) hF;have ZO:Z=(Go.Hw.bg Bs m).2.2:=by rw[<-gY.out];show gu (fE Bs) (.mk n s L)=_;rw[nU _ hs0 L,xA hbg]
   rw[hfx] at Dx;obtain⟨gb,ob,hgb,_,N9⟩:=(gW.out.ext (HW0.out.trans HZ.out)).at_ (by omega);subst hgb;obtain⟨xa,xc,_,_,p2,p3,p4,aQ⟩:=N9 _ hlm;have y0:(0:Int)<=(m:Int):=by omega
   have y1:(m:Int)< (Bs.length:Int):=by omega
   have y2:decide ((0:Int)<=(m:Int))=true:=dT y0;have hq1:=rq.out _ (Gt hlm);obtain⟨x,hx⟩: ∃x,(Go.Hw.bg Bs m).2.2=x:=⟨_,rfl⟩
   rw[hx] at p2 p3 p4 aQ hq1 ZO;clear hx gY VE;have ZO:=ZO.symm;subst ZO;have HK:=ae aQ;have hq2:=Nat.le_trans (BH x) hq1;have hq3:=Ai x;have CV:=ae (fun W (hW:Ext w1 W)=>ED x (tV x (.slice xa x.kids.length xc)) SB W ⟨xa,xc,rfl,HK.out.ext hW⟩ (by omega));have rF:=ae (fun W (hW:Ext w1 W)=>XQ x (tV x (.slice xa x.kids.length xc)) SB W ⟨xa,xc,rfl,HK.out.ext hW⟩ (by omega));have oH:=ae (fun W (hW:Ext w1 W)=>Jc x (tV x (.slice xa x.kids.length xc)) SB W ⟨xa,xc,rfl,HK.out.ext hW⟩ (fun k hk=>ax (vZ.out k hk) ((HW0.out.trans HZ.out).trans hW).size) hq1);dsimp only[tV] at CV rF oH;obtain⟨XS,QO⟩: ∃X,x.size=X:=⟨_,rfl⟩
   obtain⟨XD,QP⟩: ∃X,x.depth=X:=⟨_,rfl⟩
   have CP:=ae (And.intro QO QP);rw[QO] at CV hq1;rw[QP] at rF hq2 hq3;clear N9 aQ hbg hfx hF hs0 QO QP
   go_wp2_with fail
   refine Dx.out.mono ?_;rintro e w4 ⟨rfl,hw4⟩;have hw4:=hw4.symm;subst hw4;clear Dx
   go_wp2_with fail
   refine(CV.out _ (au.refl _ _)).mono ?_;rintro e w5 ⟨rfl,hw5⟩;have r2:=hw5.cell p2 (fun h=>h);have r3:=hw5.cell p3 (fun h=>h);have r4:=hw5.cell p4 (fun h=>h);have bV:=ae hw5;have Aj:=ae (hw5.heap HB3.out (fun h=>h));clear hw5 CV p2 p3 p4 x0 x1 x2;by_cases hdd:61<d+XD
   .have t5:decide ((60:Int)< (d:Int)+(XD:Int)-1)=true:=dT (by omega);have Oc:(60:Int)< (d:Int)+(XD:Int)-1:=by omega
    go_wp2_with fail
    refine(rF.out _ bV.out).mono ?_;rintro e w6 ⟨rfl,hw6⟩;have dS:=ae (HZ.out.trans (bV.out.trans hw6));have qP:=ae (hw6.heap Aj.out (fun h=>h));have hno: ¬(x.size<=left/\d+x.depth<=61):=fun h=>by have:=CP.out;omega
    clear hw6 rF oH r2 r3 r4;have f2:=fun i=>ai qP.out i;obtain⟨d0,d1,d2⟩:=af qP.out
    go_wp2_with fail
    have hr3:=aF qP.out (.string ⟨#[]⟩) (.string ⟨#[]⟩) (.slice none 0 0);have hu:=aC w6 (w.heap.size+1) (.string ⟨#[]⟩) (.string ⟨#[]⟩) (.slice none 0 0);obtain⟨e0,e1,e2⟩:=af hr3;have hue:=dS.out.trans' hu (fun j hj e=>by omega);refine bodyPost_ret (v:= .tuple #[.agg #[.string ⟨#[]⟩,.string ⟨#[]⟩,.slice none 0 0],.int .i64 (-1)]) (by simp[results,Tryz.results90,go_sem,e0,e1,e2]) rfl ?_;have hpp: ∀w',kZ x d left (.mk ah ah []) (-1) (.slice none 0 0) w w':=fun w'=>kZ.no (hno) (by omega)
    first|exact⟨.mk ah ah [],none,0,_,rfl,hpp _,hue⟩|exact⟨.mk ah ah [],none,0,rfl,hpp _,hue⟩
   have t5:decide ((60:Int)< (d:Int)+(XD:Int)-1)=false:=dF (by omega);have Oc: ¬(60:Int)< (d:Int)+(XD:Int)-1:=by omega
   go_wp2_with fail
   refine(rF.out _ bV.out).mono ?_;rintro e w6 ⟨rfl,hw6⟩;have mD:=ae (bV.out.trans hw6);have qP:=ae (hw6.heap Aj.out (fun h=>h));have p2:=hw6.cell r2 (fun h=>h);have p3:=hw6.cell r3 (fun h=>h);have p4:=hw6.cell r4 (fun h=>h);clear hw6 rF r2 r3 r4
   go_wp2_with fail
   refine(oH.out _ mD.out).mono ?_;rintro e w7 ⟨r7,B7,rfl,xw,hb7,hw7⟩;obtain⟨ya,yc,iO⟩:=aG.shape xw;subst iO;have Fq:=ae xw;have dZ:=ae hb7;have ig:=ae (HZ.out.trans (mD.out.trans hw7));have pO:=ae (hw7.heap qP.out (fun h=>h));have Fg:Hid (w.heap.size+2<=w6.heap.size):=ae (by rw[<-lZ.out];exact mD.out.size);obtain⟨d0,d1,d2⟩:=af pO.out;have f2:=fun i=>ai pO.out i;dsimp only[tV];clear xw hb7 hw7 oH p2 p3 p4
   go_wp2_with fail
   have hr3:=aF pO.out (.string x.name) (.string x.sort) (.slice ya x.kids.length yc);have hu:=aC w7 (w.heap.size+1) (.string x.name) (.string x.sort) (.slice ya x.kids.length yc);obtain⟨e0,e1,e2⟩:=af hr3;have hue:=ig.out.trans' hu (fun j hj e=>by omega);refine bodyPost_ret (v:= .tuple #[.agg #[.string x.name,.string x.sort,.slice ya x.kids.length yc],.int .i64 ((left:Int)- (XS:Int))]) (by simp[results,Tryz.results90,go_sem,e0,e1,e2]) rfl ?_;have hpp:=kZ.yes (z:=x) (d:=d) (left:=left) (q:=x) (r:=(left:Int)- (XS:Int)) (v:= .slice ya x.kids.length yc) (w:=w) (w':=_) rfl (by rw[CP.out.1]) (fun _=>by have:=CP.out;omega) ⟨B7,Fq.out.kept hu (fun j hj e=>by have h1:=(dZ.out j hj).1;have:=Fg.out;omega),fun j hj=>⟨by have h1:=(dZ.out j hj).1;have:=Fg.out;omega,ax (dZ.out j hj).2 hu.size⟩⟩
   first|exact⟨x,ya,yc,_,rfl,hpp,hue⟩|exact⟨x,ya,yc,rfl,hpp,hue⟩
  |false=>
   have hn:bf Bs n=none:=by
    cases hb:bf Bs n with
    |none=>rfl
    |some T=>rw[hb] at hF;cases hF
   have Ak:Hid (Z= .mk n s (L.map (bu Bs))):=ae (VE.out (.inr (xx.out (.mk n s L) (iZ _) hs0)) (fun _=>hn));have DU:Hid (Z.kids=L.map (bu Bs)):=ae (by rw[Ak.out];rfl);have HZD:Hid (Z.size=sizes (L.map (bu Bs))+1/\Z.depth=depths (L.map (bu Bs))+1):=ae ⟨by rw[Ak.out,size_eq];rfl,by rw[Ak.out,jH];rfl⟩;rw[ad7 hn] at Dx;clear hn hF hs0 VE
   go_wp2_with fail
   refine Dx.out.mono ?_;rintro e w4 ⟨rfl,hw4⟩;have hw4:=hw4.symm;subst hw4;clear Dx;by_cases hl0:left=0
   .have t5:decide ((left:Int)-1<0)=true:=dT (by omega);have Oc:(left:Int)-1<0:=by omega
    have hno: ¬(Z.size<=left/\d+Z.depth<=61):=fun h=>by have h2:=J_ Z;omega
    clear hl0;have f2:=fun i=>ai HB3.out i;obtain⟨d0,d1,d2⟩:=af HB3.out
    go_wp2_with fail
    have hr3:=aF HB3.out (.string ⟨#[]⟩) (.string ⟨#[]⟩) (.slice none 0 0);have hu:=aC w1 (w.heap.size+1) (.string ⟨#[]⟩) (.string ⟨#[]⟩) (.slice none 0 0);obtain⟨e0,e1,e2⟩:=af hr3;have hue:=HZ.out.trans' hu (fun j hj e=>by omega);refine bodyPost_ret (v:= .tuple #[.agg #[.string ⟨#[]⟩,.string ⟨#[]⟩,.slice none 0 0],.int .i64 (-1)]) (by simp[results,Tryz.results90,go_sem,e0,e1,e2]) rfl ?_;have hpp: ∀w',kZ Z d left (.mk ah ah []) (-1) (.slice none 0 0) w w':=fun w'=>kZ.no (hno) (by omega)
    first|exact⟨.mk ah ah [],none,0,_,rfl,hpp _,hue⟩|exact⟨.mk ah ah [],none,0,rfl,hpp _,hue⟩
   have t5:decide ((left:Int)-1<0)=false:=dF (by omega);have Oc: ¬(left:Int)-1<0:=by omega
   by_cases hd0:60<d
   .have t6:decide ((60:Int)< (d:Int))=true:=dT (by omega);have t6':(60:Int)< (d:Int):=by omega
    have hno: ¬(Z.size<=left/\d+Z.depth<=61):=fun h=>by have h2:=Ai Z;omega
    clear hl0 hd0;have f2:=fun i=>ai HB3.out i;obtain⟨d0,d1,d2⟩:=af HB3.out
    go_wp2_with fail
    have hr3:=aF HB3.out (.string ⟨#[]⟩) (.string ⟨#[]⟩) (.slice none 0 0);have hu:=aC w1 (w.heap.size+1) (.string ⟨#[]⟩) (.string ⟨#[]⟩) (.slice none 0 0);obtain⟨e0,e1,e2⟩:=af hr3;have hue:=HZ.out.trans' hu (fun j hj e=>by omega);refine bodyPost_ret (v:= .tuple #[.agg #[.string ⟨#[]⟩,.string ⟨#[]⟩,.slice none 0 0],.int .i64 (-1)]) (by simp[results,Tryz.results90,go_sem,e0,e1,e2]) rfl ?_;have hpp: ∀w',kZ Z d left (.mk ah ah []) (-1) (.slice none 0 0) w w':=fun w'=>kZ.no (hno) (by omega)
    first|exact⟨.mk ah ah [],none,0,_,rfl,hpp _,hue⟩|exact⟨.mk ah ah [],none,0,rfl,hpp _,hue⟩
   have t6:decide ((60:Int)< (d:Int))=false:=dF (by omega);have t6': ¬(60:Int)< (d:Int):=by omega
   obtain⟨lf,rfl⟩: ∃lf,left=lf+1:=⟨left-1,by omega⟩
   have t7:((lf+1:Nat):Int)-1=(lf:Int):=by omega
   have HD:=ae (show d<=60 by omega);clear hl0 hd0;have VG:=(uR w1).alloc (.cells #[.string n,.string s,.slice none 0 0] 24);have dQ:=ae (ak HB2.out (.cells #[.string n,.string s,.slice none 0 0] 24));have pR:=ae (ak HB3.out (.cells #[.string n,.string s,.slice none 0 0] 24));have uF:=ae (show(w1.alloc (.cells #[.string n,.string s,.slice none 0 0] 24)).heap[w.heap.size+2]?=some (.cells #[.string n,.string s,.slice none 0 0] 24 (0,0)) from alloc_at w1 (.cells #[.string n,.string s,.slice none 0 0] 24) lZ.out.symm);have bD:=ae (HZ.out.trans VG);have eY:Hid (w.heap.size+3<=(w1.alloc (.cells #[.string n,.string s,.slice none 0 0] 24)).heap.size):=ae (by have:=lZ.out;simp;omega)
   go_wp2_with fail
   try rw[lZ.out]
   generalize w1.alloc (.cells #[.string n,.string s,.slice none 0 0] 24)=w4 at*;clear VG x0 x1 x2 HB2 HB3;have jP:Hid (mP 24 (w.heap.size+3) w4 (L.map (bu Bs)) (.slice none 0 0) [] (fun _ _=>False) 0):=ae ⟨rfl,⟨rfl,.inl ⟨rfl,rfl⟩⟩,fun i hi=>absurd hi (Nat.not_lt_zero _),fun i j hi=>absurd hi (Nat.not_lt_zero _),fun i i' j hi=>absurd hi (Nat.not_lt_zero _)⟩
   go_loopg [3,13] L.length (fun gk l3 iv wr=> ∃(k lk:Nat) (lv:Value) (us:List Value) (Bk:Nat->Nat->Prop),l3= .int .i64 (lk:Int)/\iv= .int .i64 (k:Int)/\gk=L.length-k/\k<=L.length/\lk<=1000/\Hid (lk+sizes ((L.map (bu Bs)).take k)=lf)/\Hid (mP 24 (w.heap.size+3) wr (L.map (bu Bs)) lv us Bk k)/\Hid (wr.heap[w.heap.size]?=some (.cells #[.string n,.string s,.slice a L.length cap] 24 (0,0)))/\Hid (wr.heap[w.heap.size+1]?=some zO)/\Hid (wr.heap[w.heap.size+2]?=some (.cells #[.string n,.string s,lv] 24 (0,0)))/\Hid (Ext w wr)/\Hid (w.heap.size+3<=wr.heap.size)/\Hid (d+depths ((L.map (bu Bs)).take k)<=60))
   case atStart=>exact⟨0,lf,_,_,_,rfl,rfl,rfl,Nat.zero_le _,by omega,ae (by simp[sizes]),jP,dQ,pR,uF,bD,eY,ae (by simp[depths];exact HD.out)⟩
   case round=>
    clear jP dQ pR uF bD eY t7 t5 Oc;obtain⟨k,lk,lv,us,Bk,rfl,rfl,rfl,hk,hlk,Oe,HJ,HB2,jf,HB3,HE,bT,HDK⟩:=hrel;obtain⟨la,lc,hlv⟩:=aY HJ.out.own;subst hlv;obtain⟨b0,b1,b2⟩:=af HB2.out;by_cases hlt:k<L.length
    .obtain ⟨g,off,hga,_,hat⟩:=(cZ.out.ext HE.out).at_ (by omega);subst hga;obtain⟨xa,xc,q0,q1,q2,aQ⟩:=hat k hlt;rw[<-Nat.add_assoc] at q1 q2;obtain⟨z0,z1,z2,z2'⟩:=bJ hlt;have aW:=ae (HIH.out (tg L k) (bM L k hlt) _ S wr (d+1) lk (HW0.out.trans HE.out) ⟨xa,xc,rfl,aQ⟩ (fun j hj=>ax (gm.out j hj) HE.out.size) (by have h1:=kK.out;have h2:=eU (bM L k hlt);omega) (xx.out.kid (bM L k hlt)) (by have:=HD.out;omega) hlk);have hd1:((d+1:Nat):Int)=(d:Int)+1:=by omega
     rw[hd1] at aW;dsimp only[tV] at aW;have hlm:k< (L.map (bu Bs)).length:=by rw[List.length_map];exact hlt
     have hsx:=jq (L.map (bu Bs)) k hlm;have v_:=uP (L.map (bu Bs)) k hlm;have hsl:=fA (L.map (bu Bs)) (k+1);have hdl:=zJ (L.map (bu Bs)) (k+1);have hzx:tg (L.map (bu Bs)) k=bu Bs (tg L k):=by
      unfold tg;rw[List.getD_eq_getElem?_getD,List.getD_eq_getElem?_getD,List.getElem?_map,List.getElem?_eq_getElem hlt];rfl
     rw[hzx] at hsx v_;obtain⟨x,hx⟩: ∃x,tg L k=x:=⟨_,rfl⟩
     rw[hx] at q0 q1 q2 aW hzx hsx v_;have NH:=ae hzx;have jb:=ae (And.intro hsx (And.intro v_ (And.intro hsl hdl)));clear hat aQ hx hzx hsx v_ hsl hdl hlm hd1
     go_wp2_with fail
     refine aW.out.mono ?_;rintro e w5 ⟨q,ya,yc,r,rfl,hq,hw5⟩;have kz:=ae hq;have bV:=ae hw5;have sQ:=ae (hw5.alloc (tO q ya yc));have zV:=ae (ak (hw5.heap HB2.out (fun h=>h)) (tO q ya yc));have F8:=ae (ak (hw5.heap jf.out (fun h=>h)) (tO q ya yc));have qP:=ae (ak (hw5.heap HB3.out (fun h=>h)) (tO q ya yc));have X0:=ae (aj w5 (tO q ya yc));have uS:=ae (Nat.le_trans bT.out sQ.out.size);clear hq hw5 aW b0 b1 b2 q0 q1 q2;by_cases hr:r<0
     .have t8:decide (r<0)=true:=dT hr;have dS:=ae (HE.out.trans sQ.out);have hno: ¬(Z.size<=lf+1/\d+Z.depth<=61):=fun h=>by
       have h1:=kz.out.2;have h2:=jb.out;have h3:=Oe.out;have h4:=HZD.out;have h5: ¬((bu Bs x).size<=lk/\d+1+(bu Bs x).depth<=61)->False:=fun _=>by
        refine absurd (And.intro ?_ ?_) ‹¬((bu Bs x).size<=lk/\d+1+(bu Bs x).depth<=61)›
        .omega
        .omega
       by_cases h6:((bu Bs x).size<=lk/\d+1+(bu Bs x).depth<=61)
       .have:=(kz.out.1 h6).2.1;omega
       .exact h5 h6
      have hr':r<0:=hr;have f2:=fun i=>ai F8.out i;obtain⟨d0,d1,d2⟩:=af F8.out
      go_wp2_with fail
      have hr3:=aF F8.out (.string ⟨#[]⟩) (.string ⟨#[]⟩) (.slice none 0 0);have hu:=aC (w5.alloc (tO q ya yc)) (w.heap.size+1) (.string ⟨#[]⟩) (.string ⟨#[]⟩) (.slice none 0 0);obtain⟨e0,e1,e2⟩:=af hr3;have hue:=dS.out.trans' hu (fun j hj e=>by omega);refine bodyPost_ret (v:= .tuple #[.agg #[.string ⟨#[]⟩,.string ⟨#[]⟩,.slice none 0 0],.int .i64 (r)]) (by simp[results,Tryz.results90,go_sem,e0,e1,e2]) rfl ?_;have hpp: ∀w',kZ Z d (lf+1) (.mk ah ah []) (r) (.slice none 0 0) w w':=fun w'=>kZ.no (hno) (by omega)
      first|exact⟨.mk ah ah [],none,0,_,rfl,hpp _,hue⟩|exact⟨.mk ah ah [],none,0,rfl,hpp _,hue⟩
     .have t8:decide (r<0)=false:=dF hr;have hfit:(bu Bs x).size<=lk/\d+1+(bu Bs x).depth<=61:=by
       by_cases h6:((bu Bs x).size<=lk/\d+1+(bu Bs x).depth<=61)
       .exact h6
       .exact absurd (kz.out.2 h6) hr
      obtain⟨hqz,hrz,Bx,hTx,hBx⟩:=kz.out.1 hfit;obtain⟨l2,rfl⟩: ∃l2:Nat,r=(l2:Int):=⟨lk- (bu Bs x).size,by omega⟩
      have HL2:Hid (l2+sizes ((L.map (bu Bs)).take (k+1))=lf):=ae (by have h2:=jb.out.1;have h3:=Oe.out;omega);have HD2:Hid (d+depths ((L.map (bu Bs)).take (k+1))<=60):=ae (by have h2:=jb.out.2.1;have h3:=HDK.out;omega);have hl2:l2<=1000:=by omega
      have HTX:=ae hTx;have jo:=ae hBx;have HQZ:=ae hqz;obtain⟨k0,k1,k2⟩:=af X0.out;have c2:=ag qP.out 2 (.slice la k lc) rfl;have Aa:=ae (((bI HJ.out.own bV.out (fun _ _ h=>h)).alloc (tO q ya yc)).alloc (tO q ya yc));have hs6:w.heap.size+3<=((w5.alloc (tO q ya yc)).alloc (tO q ya yc)).heap.size:=by have h1:=bV.out.size;have h2:=bT.out;simp;omega
      obtain⟨iT,hi,hz0,hz1,hz2⟩:=info_parts rQ;clear hTx hBx hqz hrz hfit hr;generalize hw6:w5.alloc (tO q ya yc)=w6 at*
      go_wp2_with(at_builtin;refine nz _ rfl (.tmp 90) (.tmp 92) 22 rfl (w.heap.size+3) 24 iT (.agg #[.string ⟨#[]⟩,.string ⟨#[]⟩,.slice none 0 0]) 3 56 Tryz.underlying22 hi hz0 hz1 hz2 rfl (by decide) _ _ _ rfl Aa.out _ 1 1 [Value.string q.name,.string q.sort,.slice ya q.kids.length yc] rfl rfl ?c1 ?c2 ?c3 ?c4 hs6 ?_)
      case c1=>exact yC w6 _ _ _ 24
      case c2=>intro u hu;simp at hu;rcases hu with h|h|h<;>(subst h;rfl)
      case c3=>unfold maxLen;omega
      case c4=>omega
      intro v7 w7 bF;obtain⟨a7,c7,hv7⟩:=aY bF.own;subst hv7;have g_: ¬(Value.slice la k lc).ownBlock=some (w.heap.size+2):=fun e=>by have h1:=(HJ.out.own.lt _ e).1;omega
      have d_:=bF.upd.heap (ak qP.out (tO q ya yc)) g_;have f7:=fun i=>ai d_ i;have c2':=ag d_ 2 (.slice la k lc) rfl;have fO:=ae ((au.refl (fun j=>j=w.heap.size+2) w7).setCell (p:=⟨w.heap.size+2,2,none⟩) (.inl rfl) (.slice a7 (k+1) c7));have Fp:Hid (Ext wr w6):=sQ;have bQ:Hid (au (fun j=>(Value.slice la k lc).ownBlock=some j\/j=w.heap.size+2) wr (w7.setCell ⟨w.heap.size+2,2,none⟩ (.slice a7 (k+1) c7))):=ae (((((Fp.out.alloc (tO q ya yc)).mono (fun _ _ x=>x.elim)).trans (bF.upd.mono (fun _ _ e=> .inl e)))).trans (fO.out.mono (fun _ _ e=> .inr e)));have Og:w5.heap.size<=w6.heap.size:=by rw[<-hw6];simp
      have uU:aG 24 w6 Bx q.kids (.slice ya q.kids.length yc):=by rw[<-hw6];exact HTX.out.kept ((uR w5).alloc (tO q ya yc)) (fun _ _ h=>h)
      have rW:=ae (HJ.out.grow (x:=q) (by rw[List.length_map];exact hlt) (by rw[NH.out,HQZ.out]) (Nat.lt_succ_self (w.heap.size+2)) bT.out (au.refl _ _) Fp.out uU (fun j hj=>⟨(jo.out j hj).1,ax (jo.out j hj).2 Og⟩) ((uR w6).alloc (tO q ya yc)) bF fO.out);have bU:Hid (Ext w (w7.setCell ⟨w.heap.size+2,2,none⟩ (.slice a7 (k+1) c7))):=ae (HE.out.trans' bQ.out (fun j hj e=>by
       rcases e with e|e
       .have h1:=(HJ.out.own.lt j e).1;omega
       .omega))
      have hne: ∀j,j<w.heap.size+2->¬((Value.slice la k lc).ownBlock=some j\/j=w.heap.size+2):=fun j hj e=>by
       rcases e with e|e
       .have h1:=(HJ.out.own.lt _ e).1;omega
       .omega
      have lL:=ae (bQ.out.heap HB2.out (hne _ (by omega)));have NK:=ae (bQ.out.heap jf.out (hne _ (by omega)));have iP:=setBlock d_ 2 (.slice a7 (k+1) c7);have kX:Hid ((w7.setCell ⟨w.heap.size+2,2,none⟩ (.slice a7 (k+1) c7)).heap[w.heap.size+2]?=some (.cells #[.string n,.string s,.slice a7 (k+1) c7] 24 (0,0))):=ae (by simpa using iP);have jy:Hid (w.heap.size+3<=(w7.setCell ⟨w.heap.size+2,2,none⟩ (.slice a7 (k+1) c7)).heap.size):=ae (Nat.le_trans bT.out bQ.out.size);clear iP hne bF uU Og d_ hi hz0 hz1 hz2
      go_wp2_with fail
      go_roundg (L.length- (k+1))
      case measure=>omega
      case rel=>exact⟨k+1,l2,_,_,_,rfl,by go_num,rfl,by omega,hl2,HL2,rW,lL,NK,kX,bU,jy,HD2⟩
    .obtain rfl:k=L.length:=by omega
     have z2:decide ((L.length:Int)< (L.length:Int))=false:=dF (by omega);have hfin:=HJ.out;have hll:(L.map (bu Bs)).length=L.length:=List.length_map ..;have F9:=Oe.out;have F_:=HDK.out;rw[<-hll] at hfin;have hfin:=hfin.fin;have kY:=ae hfin;rw[hll] at kY;rw[<-hll,List.take_length] at F9 F_;have wo:=ae (And.intro F9 F_);obtain⟨c0,c1,c2⟩:=af HB3.out;have f2:=fun i=>ai jf.out i;obtain⟨d0,d1,d2⟩:=af jf.out;clear hfin hll F9 F_
     go_wp2_with fail
     have hr3:=aF jf.out (.string n) (.string s) (.slice la L.length lc);have hu:=aC wr (w.heap.size+1) (.string n) (.string s) (.slice la L.length lc);obtain⟨e0,e1,e2⟩:=af hr3;have hue:=HE.out.trans' hu (fun j hj e=>by omega);refine bodyPost_ret (v:= .tuple #[.agg #[.string n,.string s,.slice la L.length lc],.int .i64 ((lk:Int))]) (by simp[results,Tryz.results90,go_sem,e0,e1,e2]) rfl ?_;have hpp:=kZ.yes (z:=Z) (d:=d) (left:=lf+1) (q:=Z) (r:=(lk:Int)) (v:= .slice la L.length lc) (w:=w) (w':=_) rfl (by have h1:=wo.out.1;have h2:=HZD.out;omega) (fun _=>by have h1:=wo.out.2;have h2:=HZD.out;omega) ⟨fun j=>w.heap.size+3<=j/\j<wr.heap.size,by rw[DU.out];simpa using kY.out.kept hu (fun j hj e=>by have h1:=hj.1;omega),fun j hj=>⟨by have h1:=hj.1;omega,ax hj.2 hu.size⟩⟩;rw[Ak.out] at hpp⊢;have hkk:(L.map (bu Bs)).length=L.length:=List.length_map ..;refine⟨.mk n s (L.map (bu Bs)),la,lc,?_⟩;dsimp only[Tm.name,Tm.sort,Tm.kids] at hpp⊢;rw[hkk]
     first|exact⟨_,rfl,hpp,hue⟩|exact⟨rfl,hpp,hue⟩
 rw[dT hs0] at t1;have Ak:Hid (Z= .mk n s (L.map (bu Bs))):=ae (VE.out (.inl hs0) (fun h=>absurd hs0 h));have DU:Hid (Z.kids=L.map (bu Bs)):=ae (by rw[Ak.out];rfl);have HZD:Hid (Z.size=sizes (L.map (bu Bs))+1/\Z.depth=depths (L.map (bu Bs))+1):=ae ⟨by rw[Ak.out,size_eq];rfl,by rw[Ak.out,jH];rfl⟩;clear Dx hs0 VE;by_cases hl0:left=0
 .have t5:decide ((left:Int)-1<0)=true:=dT (by omega);have Oc:(left:Int)-1<0:=by omega
  have hno: ¬(Z.size<=left/\d+Z.depth<=61):=fun h=>by have h2:=J_ Z;omega
  clear hl0;have f2:=fun i=>ai HB3.out i;obtain⟨d0,d1,d2⟩:=af HB3.out
  go_wp2_with fail
  have hr3:=aF HB3.out (.string ⟨#[]⟩) (.string ⟨#[]⟩) (.slice none 0 0);have hu:=aC w1 (w.heap.size+1) (.string ⟨#[]⟩) (.string ⟨#[]⟩) (.slice none 0 0);obtain⟨e0,e1,e2⟩:=af hr3;have hue:=HZ.out.trans' hu (fun j hj e=>by omega);refine bodyPost_ret (v:= .tuple #[.agg #[.string ⟨#[]⟩,.string ⟨#[]⟩,.slice none 0 0],.int .i64 (-1)]) (by simp[results,Tryz.results90,go_sem,e0,e1,e2]) rfl ?_;have hpp: ∀w',kZ Z d left (.mk ah ah []) (-1) (.slice none 0 0) w w':=fun w'=>kZ.no (hno) (by omega)
  first|exact⟨.mk ah ah [],none,0,_,rfl,hpp _,hue⟩|exact⟨.mk ah ah [],none,0,rfl,hpp _,hue⟩
 have t5:decide ((left:Int)-1<0)=false:=dF (by omega);have Oc: ¬(left:Int)-1<0:=by omega
 by_cases hd0:60<d
 .have t6:decide ((60:Int)< (d:Int))=true:=dT (by omega);have t6':(60:Int)< (d:Int):=by omega
  have hno: ¬(Z.size<=left/\d+Z.depth<=61):=fun h=>by have h2:=Ai Z;omega
  clear hl0 hd0;have f2:=fun i=>ai HB3.out i;obtain⟨d0,d1,d2⟩:=af HB3.out
  go_wp2_with fail
  have hr3:=aF HB3.out (.string ⟨#[]⟩) (.string ⟨#[]⟩) (.slice none 0 0);have hu:=aC w1 (w.heap.size+1) (.string ⟨#[]⟩) (.string ⟨#[]⟩) (.slice none 0 0);obtain⟨e0,e1,e2⟩:=af hr3;have hue:=HZ.out.trans' hu (fun j hj e=>by omega);refine bodyPost_ret (v:= .tuple #[.agg #[.string ⟨#[]⟩,.string ⟨#[]⟩,.slice none 0 0],.int .i64 (-1)]) (by simp[results,Tryz.results90,go_sem,e0,e1,e2]) rfl ?_;have hpp: ∀w',kZ Z d left (.mk ah ah []) (-1) (.slice none 0 0) w w':=fun w'=>kZ.no (hno) (by omega)
  first|exact⟨.mk ah ah [],none,0,_,rfl,hpp _,hue⟩|exact⟨.mk ah ah [],none,0,rfl,hpp _,hue⟩
 have t6:decide ((60:Int)< (d:Int))=false:=dF (by omega);have t6': ¬(60:Int)< (d:Int):=by omega
 obtain⟨lf,rfl⟩: ∃lf,left=lf+1:=⟨left-1,by omega⟩
 have t7:((lf+1:Nat):Int)-1=(lf:Int):=by omega
 have HD:=ae (show d<=60 by omega);clear hl0 hd0;have VG:=(uR w1).alloc (.cells #[.string n,.string s,.slice none 0 0] 24);have dQ:=ae (ak HB2.out (.cells #[.string n,.string s,.slice none 0 0] 24));have pR:=ae (ak HB3.out (.cells #[.string n,.string s,.slice none 0 0] 24));have uF:=ae (show(w1.alloc (.cells #[.string n,.string s,.slice none 0 0] 24)).heap[w.heap.size+2]?=some (.cells #[.string n,.string s,.slice none 0 0] 24 (0,0)) from alloc_at w1 (.cells #[.string n,.string s,.slice none 0 0] 24) lZ.out.symm);have bD:=ae (HZ.out.trans VG);have eY:Hid (w.heap.size+3<=(w1.alloc (.cells #[.string n,.string s,.slice none 0 0] 24)).heap.size):=ae (by have:=lZ.out;simp;omega)
 go_wp2_with fail
 try rw[lZ.out]
 generalize w1.alloc (.cells #[.string n,.string s,.slice none 0 0] 24)=w4 at*;clear VG x0 x1 x2 HB2 HB3;have jP:Hid (mP 24 (w.heap.size+3) w4 (L.map (bu Bs)) (.slice none 0 0) [] (fun _ _=>False) 0):=ae ⟨rfl,⟨rfl,.inl ⟨rfl,rfl⟩⟩,fun i hi=>absurd hi (Nat.not_lt_zero _),fun i j hi=>absurd hi (Nat.not_lt_zero _),fun i i' j hi=>absurd hi (Nat.not_lt_zero _)⟩
 go_loopg [3,13] L.length (fun gk l3 iv wr=> ∃(k lk:Nat) (lv:Value) (us:List Value) (Bk:Nat->Nat->Prop),l3= .int .i64 (lk:Int)/\iv= .int .i64 (k:Int)/\gk=L.length-k/\k<=L.length/\lk<=1000/\Hid (lk+sizes ((L.map (bu Bs)).take k)=lf)/\Hid (mP 24 (w.heap.size+3) wr (L.map (bu Bs)) lv us Bk k)/\Hid (wr.heap[w.heap.size]?=some (.cells #[.string n,.string s,.slice a L.length cap] 24 (0,0)))/\Hid (wr.heap[w.heap.size+1]?=some zO)/\Hid (wr.heap[w.heap.size+2]?=some (.cells #[.string n,.string s,lv] 24 (0,0)))/\Hid (Ext w wr)/\Hid (w.heap.size+3<=wr.heap.size)/\Hid (d+depths ((L.map (bu Bs)).take k)<=60))
 case atStart=>exact⟨0,lf,_,_,_,rfl,rfl,rfl,Nat.zero_le _,by omega,ae (by simp[sizes]),jP,dQ,pR,uF,bD,eY,ae (by simp[depths];exact HD.out)⟩
 case round=>
  clear jP dQ pR uF bD eY t7 t5 Oc;obtain⟨k,lk,lv,us,Bk,rfl,rfl,rfl,hk,hlk,Oe,HJ,HB2,jf,HB3,HE,bT,HDK⟩:=hrel;obtain⟨la,lc,hlv⟩:=aY HJ.out.own;subst hlv;obtain⟨b0,b1,b2⟩:=af HB2.out;by_cases hlt:k<L.length
  .obtain ⟨g,off,hga,_,hat⟩:=(cZ.out.ext HE.out).at_ (by omega);subst hga;obtain⟨xa,xc,q0,q1,q2,aQ⟩:=hat k hlt;rw[<-Nat.add_assoc] at q1 q2;obtain⟨z0,z1,z2,z2'⟩:=bJ hlt;have aW:=ae (HIH.out (tg L k) (bM L k hlt) _ S wr (d+1) lk (HW0.out.trans HE.out) ⟨xa,xc,rfl,aQ⟩ (fun j hj=>ax (gm.out j hj) HE.out.size) (by have h1:=kK.out;have h2:=eU (bM L k hlt);omega) (xx.out.kid (bM L k hlt)) (by have:=HD.out;omega) hlk);have hd1:((d+1:Nat):Int)=(d:Int)+1:=by omega
   rw[hd1] at aW;dsimp only[tV] at aW;have hlm:k< (L.map (bu Bs)).length:=by rw[List.length_map];exact hlt
   have hsx:=jq (L.map (bu Bs)) k hlm;have v_:=uP (L.map (bu Bs)) k hlm;have hsl:=fA (L.map (bu Bs)) (k+1);have hdl:=zJ (L.map (bu Bs)) (k+1);have hzx:tg (L.map (bu Bs)) k=bu Bs (tg L k):=by
    unfold tg;rw[List.getD_eq_getElem?_getD,List.getD_eq_getElem?_getD,List.getElem?_map,List.getElem?_eq_getElem hlt];rfl
   rw[hzx] at hsx v_;obtain⟨x,hx⟩: ∃x,tg L k=x:=⟨_,rfl⟩
   rw[hx] at q0 q1 q2 aW hzx hsx v_;have NH:=ae hzx;have jb:=ae (And.intro hsx (And.intro v_ (And.intro hsl hdl)));clear hat aQ hx hzx hsx v_ hsl hdl hlm hd1
   go_wp2_with fail
   refine aW.out.mono ?_;rintro e w5 ⟨q,ya,yc,r,rfl,hq,hw5⟩;have kz:=ae hq;have bV:=ae hw5;have sQ:=ae (hw5.alloc (tO q ya yc));have zV:=ae (ak (hw5.heap HB2.out (fun h=>h)) (tO q ya yc));have F8:=ae (ak (hw5.heap jf.out (fun h=>h)) (tO q ya yc));have qP:=ae (ak (hw5.heap HB3.out (fun h=>h)) (tO q ya yc));have X0:=ae (aj w5 (tO q ya yc));have uS:=ae (Nat.le_trans bT.out sQ.out.size);clear hq hw5 aW b0 b1 b2 q0 q1 q2;by_cases hr:r<0
   .have t8:decide (r<0)=true:=dT hr;have dS:=ae (HE.out.trans sQ.out);have hno: ¬(Z.size<=lf+1/\d+Z.depth<=61):=fun h=>by
     have h1:=kz.out.2;have h2:=jb.out;have h3:=Oe.out;have h4:=HZD.out;have h5: ¬((bu Bs x).size<=lk/\d+1+(bu Bs x).depth<=61)->False:=fun _=>by
      refine absurd (And.intro ?_ ?_) ‹¬((bu Bs x).size<=lk/\d+1+(bu Bs x).depth<=61)›
      .omega
      .omega
     by_cases h6:((bu Bs x).size<=lk/\d+1+(bu Bs x).depth<=61)
     .have:=(kz.out.1 h6).2.1;omega
     .exact h5 h6
    have hr':r<0:=hr;have f2:=fun i=>ai F8.out i;obtain⟨d0,d1,d2⟩:=af F8.out
    go_wp2_with fail
    have hr3:=aF F8.out (.string ⟨#[]⟩) (.string ⟨#[]⟩) (.slice none 0 0);have hu:=aC (w5.alloc (tO q ya yc)) (w.heap.size+1) (.string ⟨#[]⟩) (.string ⟨#[]⟩) (.slice none 0 0);obtain⟨e0,e1,e2⟩:=af hr3;have hue:=dS.out.trans' hu (fun j hj e=>by omega);refine bodyPost_ret (v:= .tuple #[.agg #[.string ⟨#[]⟩,.string ⟨#[]⟩,.slice none 0 0],.int .i64 (r)]) (by simp[results,Tryz.results90,go_sem,e0,e1,e2]) rfl ?_;have hpp: ∀w',kZ Z d (lf+1) (.mk ah ah []) (r) (.slice none 0 0) w w':=fun w'=>kZ.no (hno) (by omega)
    first|exact⟨.mk ah ah [],none,0,_,rfl,hpp _,hue⟩|exact⟨.mk ah ah [],none,0,rfl,hpp _,hue⟩
   .have t8:decide (r<0)=false:=dF hr;have hfit:(bu Bs x).size<=lk/\d+1+(bu Bs x).depth<=61:=by
     by_cases h6:((bu Bs x).size<=lk/\d+1+(bu Bs x).depth<=61)
     .exact h6
     .exact absurd (kz.out.2 h6) hr
    obtain⟨hqz,hrz,Bx,hTx,hBx⟩:=kz.out.1 hfit;obtain⟨l2,rfl⟩: ∃l2:Nat,r=(l2:Int):=⟨lk- (bu Bs x).size,by omega⟩
    have HL2:Hid (l2+sizes ((L.map (bu Bs)).take (k+1))=lf):=ae (by have h2:=jb.out.1;have h3:=Oe.out;omega);have HD2:Hid (d+depths ((L.map (bu Bs)).take (k+1))<=60):=ae (by have h2:=jb.out.2.1;have h3:=HDK.out;omega);have hl2:l2<=1000:=by omega
    have HTX:=ae hTx;have jo:=ae hBx;have HQZ:=ae hqz;obtain⟨k0,k1,k2⟩:=af X0.out;have c2:=ag qP.out 2 (.slice la k lc) rfl;have Aa:=ae (((bI HJ.out.own bV.out (fun _ _ h=>h)).alloc (tO q ya yc)).alloc (tO q ya yc));have hs6:w.heap.size+3<=((w5.alloc (tO q ya yc)).alloc (tO q ya yc)).heap.size:=by have h1:=bV.out.size;have h2:=bT.out;simp;omega
    obtain⟨iT,hi,hz0,hz1,hz2⟩:=info_parts rQ;clear hTx hBx hqz hrz hfit hr;generalize hw6:w5.alloc (tO q ya yc)=w6 at*
    go_wp2_with(at_builtin;refine nz _ rfl (.tmp 90) (.tmp 92) 22 rfl (w.heap.size+3) 24 iT (.agg #[.string ⟨#[]⟩,.string ⟨#[]⟩,.slice none 0 0]) 3 56 Tryz.underlying22 hi hz0 hz1 hz2 rfl (by decide) _ _ _ rfl Aa.out _ 1 1 [Value.string q.name,.string q.sort,.slice ya q.kids.length yc] rfl rfl ?c1 ?c2 ?c3 ?c4 hs6 ?_)
    case c1=>exact yC w6 _ _ _ 24
    case c2=>intro u hu;simp at hu;rcases hu with h|h|h<;>(subst h;rfl)
    case c3=>unfold maxLen;omega
    case c4=>omega
    intro v7 w7 bF;obtain⟨a7,c7,hv7⟩:=aY bF.own;subst hv7;have g_: ¬(Value.slice la k lc).ownBlock=some (w.heap.size+2):=fun e=>by have h1:=(HJ.out.own.lt _ e).1;omega
    have d_:=bF.upd.heap (ak qP.out (tO q ya yc)) g_;have f7:=fun i=>ai d_ i;have c2':=ag d_ 2 (.slice la k lc) rfl;have fO:=ae ((au.refl (fun j=>j=w.heap.size+2) w7).setCell (p:=⟨w.heap.size+2,2,none⟩) (.inl rfl) (.slice a7 (k+1) c7));have Fp:Hid (Ext wr w6):=sQ;have bQ:Hid (au (fun j=>(Value.slice la k lc).ownBlock=some j\/j=w.heap.size+2) wr (w7.setCell ⟨w.heap.size+2,2,none⟩ (.slice a7 (k+1) c7))):=ae (((((Fp.out.alloc (tO q ya yc)).mono (fun _ _ x=>x.elim)).trans (bF.upd.mono (fun _ _ e=> .inl e)))).trans (fO.out.mono (fun _ _ e=> .inr e)));have Og:w5.heap.size<=w6.heap.size:=by rw[<-hw6];simp
    have uU:aG 24 w6 Bx q.kids (.slice ya q.kids.length yc):=by rw[<-hw6];exact HTX.out.kept ((uR w5).alloc (tO q ya yc)) (fun _ _ h=>h)
    have rW:=ae (HJ.out.grow (x:=q) (by rw[List.length_map];exact hlt) (by rw[NH.out,HQZ.out]) (Nat.lt_succ_self (w.heap.size+2)) bT.out (au.refl _ _) Fp.out uU (fun j hj=>⟨(jo.out j hj).1,ax (jo.out j hj).2 Og⟩) ((uR w6).alloc (tO q ya yc)) bF fO.out);have bU:Hid (Ext w (w7.setCell ⟨w.heap.size+2,2,none⟩ (.slice a7 (k+1) c7))):=ae (HE.out.trans' bQ.out (fun j hj e=>by
     rcases e with e|e
     .have h1:=(HJ.out.own.lt j e).1;omega
     .omega))
    have hne: ∀j,j<w.heap.size+2->¬((Value.slice la k lc).ownBlock=some j\/j=w.heap.size+2):=fun j hj e=>by
     rcases e with e|e
     .have h1:=(HJ.out.own.lt _ e).1;omega
     .omega
    have lL:=ae (bQ.out.heap HB2.out (hne _ (by omega)));have NK:=ae (bQ.out.heap jf.out (hne _ (by omega)));have iP:=setBlock d_ 2 (.slice a7 (k+1) c7);have kX:Hid ((w7.setCell ⟨w.heap.size+2,2,none⟩ (.slice a7 (k+1) c7)).heap[w.heap.size+2]?=some (.cells #[.string n,.string s,.slice a7 (k+1) c7] 24 (0,0))):=ae (by simpa using iP);have jy:Hid (w.heap.size+3<=(w7.setCell ⟨w.heap.size+2,2,none⟩ (.slice a7 (k+1) c7)).heap.size):=ae (Nat.le_trans bT.out bQ.out.size);clear iP hne bF uU Og d_ hi hz0 hz1 hz2
    go_wp2_with fail
    go_roundg (L.length- (k+1))
    case measure=>omega
    case rel=>exact⟨k+1,l2,_,_,_,rfl,by go_num,rfl,by omega,hl2,HL2,rW,lL,NK,kX,bU,jy,HD2⟩
  .obtain rfl:k=L.length:=by omega
   have z2:decide ((L.length:Int)< (L.length:Int))=false:=dF (by omega);have hfin:=HJ.out;have hll:(L.map (bu Bs)).length=L.length:=List.length_map ..;have F9:=Oe.out;have F_:=HDK.out;rw[<-hll] at hfin;have hfin:=hfin.fin;have kY:=ae hfin;rw[hll] at kY;rw[<-hll,List.take_length] at F9 F_;have wo:=ae (And.intro F9 F_);obtain⟨c0,c1,c2⟩:=af HB3.out;have f2:=fun i=>ai jf.out i;obtain⟨d0,d1,d2⟩:=af jf.out;clear hfin hll F9 F_
   go_wp2_with fail
   have hr3:=aF jf.out (.string n) (.string s) (.slice la L.length lc);have hu:=aC wr (w.heap.size+1) (.string n) (.string s) (.slice la L.length lc);obtain⟨e0,e1,e2⟩:=af hr3;have hue:=HE.out.trans' hu (fun j hj e=>by omega);refine bodyPost_ret (v:= .tuple #[.agg #[.string n,.string s,.slice la L.length lc],.int .i64 ((lk:Int))]) (by simp[results,Tryz.results90,go_sem,e0,e1,e2]) rfl ?_;have hpp:=kZ.yes (z:=Z) (d:=d) (left:=lf+1) (q:=Z) (r:=(lk:Int)) (v:= .slice la L.length lc) (w:=w) (w':=_) rfl (by have h1:=wo.out.1;have h2:=HZD.out;omega) (fun _=>by have h1:=wo.out.2;have h2:=HZD.out;omega) ⟨fun j=>w.heap.size+3<=j/\j<wr.heap.size,by rw[DU.out];simpa using kY.out.kept hu (fun j hj e=>by have h1:=hj.1;omega),fun j hj=>⟨by have h1:=hj.1;omega,ax hj.2 hu.size⟩⟩;rw[Ak.out] at hpp⊢;have hkk:(L.map (bu Bs)).length=L.length:=List.length_map ..;refine⟨.mk n s (L.map (bu Bs)),la,lc,?_⟩;dsimp only[Tm.name,Tm.sort,Tm.kids] at hpp⊢;rw[hkk]
   first|exact⟨_,rfl,hpp,hue⟩|exact⟨rfl,hpp,hue⟩
end
end Go.Proofs.YtlkcjmaiahnodaaGreatDoor
