/- The texts N38 N39 N40 I95 N74 N75 N41 N42, one behind the other. -/
import Derived.Test.YtlkcjmaiahnodaaGreatDoorYAM
import Derived.Test.YtlkcjmaiahnodaaGreatDoorYAK
import Derived.Test.YtlkcjmaiahnodaaGreatDoorYAH
import Derived.Deep.DeepCutAuto
import Derived.Test.YtlkcjmaiahnodaaGreatDoorYAL
set_option maxRecDepth 100000
set_option maxHeartbeats 8000000
set_option linter.unusedVariables false
set_option linter.unusedSimpArgs false
namespace Go.Proofs.YtlkcjmaiahnodaaGreatDoor
open Go.RowKit Go.Hw Go Tm
section
open Go.Sort Go.Proofs Go.ChangeMaps
theorem ZB (Bs:List Bd) (vB:Value) (bs:Nat) (RB S0:Nat->Prop) (w0:World) (jD:Hid (w0.heap[bs]?=some (.cells #[vB] 27 (0,0)))) (HBn:Hid (iM RB S0 w0 vB Bs)) (EZ:Hid (∀k,S0 k->k<w0.heap.size)) (HAS:Hid (AscK (Prod.fst:Bd->By) Bs)) (lI:Hid (Bs.length<=1000000)): ∀(t:Tm) (v:Value) (S:Nat->Prop) (w:World),Ext w0 w->bQ S w t v->(∀k,S k->k<w.heap.size)->t.size<=100000->vH t->(∀f∈dJ t,(gG Bs f.1 f.2).size<=100000)->
  Calls Tryz.prog 80 #[v,.func (.func 151) #[] #[.pointer (some ⟨bs,0,none⟩)]] w fun e w'=> ∃r B,e= .returned (tV (iH (gG Bs) t) r)/\aP 24 w' B (iH (gG Bs) t).kids r/\(∀j,B j->w.heap.size<=j/\j<w'.heap.size)/\Ext w w':=by
 refine Tm.ind (fun n s L ih=>?_);intro v S w hw0 hT hS hsz hnp hok;have yR:=ah hnp;clear hnp;obtain⟨Z,jY⟩: ∃Z,iH (gG Bs) (.mk n s L)=Z:=⟨_,rfl⟩
 rw[jY];have jm:=ah jY;clear jY;obtain⟨a,cap,rfl,hT⟩:=hT;dsimp only[tV,Tm.name,Tm.sort,Tm.kids] at hT⊢;have dH:=ah hT;have HIH:=ah ih;have iE:=ah hS;have HW0:=ah hw0;have lM:=ah hok;have fJ:sizes L+1<=100000:=by rw[size_eq] at hsz;simp only[Tm.kids] at hsz;omega
 have HSL:=ah fJ;have j_:L.length<=100000:=by have h1:=bG L;omega
 have qJ:=ah (fun W=>mW n s a L.length cap W);have hZ:=((uR w).alloc (.cells #[.string n,.string s,.slice a L.length cap] 24)).alloc zO;have HB2:=ah (aB (ay w (.cells #[.string n,.string s,.slice a L.length cap] 24)) zO);have HB3:=ah (alloc_at (w.alloc (.cells #[.string n,.string s,.slice a L.length cap] 24)) zO (n:=w.heap.size+1) (by simp));have hz2:w.heap.size+2<=((w.alloc (.cells #[.string n,.string s,.slice a L.length cap] 24)).alloc zO).heap.size:=by simp
 obtain⟨x0,x1,x2⟩:=ak HB2.out;have HZ:=ah hZ;have HZ2:=ah hz2;clear ih hT hS hsz fJ hZ hz2 hw0 hok;by_cases hs0:s=au
 rotate_left
 .rw [dF hs0] at qJ;have HZQ:Hid (gG Bs n s=Z):=ah (by rw[<-jm.out];exact(pz _ hs0 L).symm);have EX:Hid (Z.size<=100000):=ah (by rw[<-HZQ.out];exact lM.out (n,s) (m_ hs0 L));obtain⟨zn,zs,zl⟩:=Z;have I8:Hid (L=[]):=ah (yR.out (.mk n s L) (jJ _) hs0);clear hs0
  go_enter Tryz.func80,Tryz.ntmps80
  go_wp2_with fail
  refine(qJ.out _).mono ?_;rintro e w3 ⟨rfl,hw3⟩;have aY:=ah (HZ.out.trans hw3);have fU:Hid (w.heap.size+2<=w3.heap.size):=ah (Nat.le_trans HZ2.out hw3.size);have eH:=ah (hw3.heap HB2.out (fun h=>h));have wo:=ah (hw3.heap HB3.out (fun h=>h));clear hw3 qJ x0 x1 x2;obtain⟨x0,x1,x2⟩:=ak eH.out
  go_wp2_with fail
  have hvc:=(Qd Bs vB bs n s L a cap RB S0 S w3 I8.out (dH.out.ext aY.out) ((HW0.out.trans aY.out).heap jD.out (fun h=>h)) (HBn.out.ext (HW0.out.trans aY.out)) (fun k hk=>aF (EZ.out k hk) (HW0.out.trans aY.out).size) (fun k hk=>aF (iE.out k hk) aY.out.size) HAS.out lI.out)
  rw[HZQ.out] at hvc;have XK:=ah hvc;clear hvc;refine XK.out.mono ?_;rintro e w6 ⟨ra,rc,rfl,hr6,hw6⟩;have tu:=ah (EJ (.mk zn zs zl) (tV (.mk zn zs zl) (.slice ra zl.length rc)) (fun k=>k<w6.heap.size) w6 ⟨ra,rc,rfl,hr6.weaken (fun k hk=>aF hk hw6.size)⟩ (fun k h=>h) EX.out);clear hr6;dsimp only[tV,Tm.name,Tm.sort,Tm.kids] at tu⊢;have fV:=ah (aY.out.trans hw6);have sJ:=ah (hw6.heap wo.out (fun h=>h));have wQ:Hid (w.heap.size+2<=w6.heap.size):=ah (Nat.le_trans fU.out hw6.size);clear hw6 x0 x1 x2
  go_wp2_with fail
  refine tu.out.mono ?_;rintro e w7 ⟨r7,B7,rfl,yQ,hb7,hw7⟩;obtain⟨ya,yc,jP⟩:=aP.shape yQ;subst jP;have He:=ah yQ;have eU:=ah hb7;have iG:=ah (fV.out.trans hw7);have qZ:=ah (hw7.heap sJ.out (fun h=>h));obtain⟨d0,d1,d2⟩:=ak qZ.out;have f2:=fun i=>aA qZ.out i;dsimp only[tV]
  try dsimp only[Tm.name,Tm.sort,Tm.kids,List.length_nil]
  clear yQ hb7 hw7 tu
  go_wp2_with fail
  have hr3:=aN qZ.out (.string zn) (.string zs) (.slice ya zl.length yc);have hu:=aK w7 (w.heap.size+1) (.string zn) (.string zs) (.slice ya zl.length yc);obtain⟨e0,e1,e2⟩:=ak hr3;have hs6:=wQ.out;refine bodyPost_ret (v:= .agg #[.string zn,.string zs,.slice ya zl.length yc]) (by simp[results,Tryz.results80,go_sem,e0,e1,e2]) rfl ⟨.slice ya zl.length yc,B7,rfl,He.out.kept hu (fun j hj e=>by have h1:=(eU.out j hj).1;omega),fun j hj=>⟨by have h1:=(eU.out j hj).1;omega,aF (eU.out j hj).2 hu.size⟩,iG.out.trans' hu (fun j hj e=>by omega)⟩
 rw[dT hs0] at qJ;obtain rfl:Z= .mk n au (L.map (iH (gG Bs))):=by rw[<-jm.out,hs0];exact tC _ n L
 have PU:Hid (∀x∈L,∀f∈dJ x,(gG Bs f.1 f.2).size<=100000):=ah (fun x hx f hf=>lM.out f (by
  rw[hs0,uX];exact List.mem_flatMap.2 ⟨x,hx,hf⟩))
 clear hs0
 go_enter Tryz.func80,Tryz.ntmps80
 go_wp2_with fail
 refine(qJ.out _).mono ?_;rintro e w3 ⟨rfl,hw3⟩;have aY:=ah (HZ.out.trans hw3);have eH:=ah (hw3.heap HB2.out (fun h=>h));have wo:=ah (hw3.heap HB3.out (fun h=>h));have fU:Hid (w.heap.size+2<=w3.heap.size):=ah (Nat.le_trans HZ2.out hw3.size);clear hw3 qJ x0 x1 x2;have xP:=ah ((uR w3).alloc (.cells #[.string n,.string ⟨#[]⟩,.slice none 0 0] 24));have gV:=ah (aB eH.out (.cells #[.string n,.string ⟨#[]⟩,.slice none 0 0] 24));have ru:=ah (aB wo.out (.cells #[.string n,.string ⟨#[]⟩,.slice none 0 0] 24));have wu:=ah (ay w3 (.cells #[.string n,.string ⟨#[]⟩,.slice none 0 0] 24));have gW:Hid (w3.heap.size+1<=(w3.alloc (.cells #[.string n,.string ⟨#[]⟩,.slice none 0 0] 24)).heap.size):=ah (by simp);obtain⟨x0,x1,x2⟩:=ak eH.out;obtain⟨u0,u1,u2⟩:=ak gV.out
 go_wp2_with fail
 generalize w3.alloc (.cells #[.string n,.string ⟨#[]⟩,.slice none 0 0] 24)=w4 at*;obtain⟨n3,hn3⟩: ∃n3,w3.heap.size=n3:=⟨_,rfl⟩
 rw[hn3] at wu gW fU⊢;have bW:=ah (aY.out.trans xP.out);have kL:Hid (n_ 24 (n3+1) w4 (L.map (iH (gG Bs))) (.slice none 0 0) [] (fun _ _=>False) 0):=ah ⟨rfl,⟨rfl,.inl ⟨rfl,rfl⟩⟩,fun i hi=>absurd hi (Nat.not_lt_zero _),fun i j hi=>absurd hi (Nat.not_lt_zero _),fun i i' j hi=>absurd hi (Nat.not_lt_zero _)⟩;clear hn3 x0 x1 x2 u0 u1 u2 xP aY eH wo gV HZ HB2 HB3
 go_loopg [20] L.length (fun gk iv wr=> ∃(k:Nat) (lv:Value) (us:List Value) (Bk:Nat->Nat->Prop),iv= .int .i64 (k:Int)/\gk=L.length-k/\k<=L.length/\Hid (n_ 24 (n3+1) wr (L.map (iH (gG Bs))) lv us Bk k)/\Hid (wr.heap[w.heap.size+1]?=some zO)/\Hid (wr.heap[n3]?=some (.cells #[.string n,.string ⟨#[]⟩,lv] 24 (0,0)))/\Hid (Ext w wr)/\Hid (n3+1<=wr.heap.size))
 case atStart=>exact⟨0,_,_,_,rfl,rfl,Nat.zero_le _,kL,ru,wu,bW,gW⟩
 case round=>
  clear kL ru wu bW gW;obtain⟨k,lv,us,Bk,rfl,rfl,hk,HJ,HB2,HB3,HE,bU⟩:=hrel;obtain⟨la,lc,hlv⟩:=bF HJ.out.own;subst hlv;by_cases hlt:k<L.length
  .obtain ⟨g,off,hga,_,hat⟩:=(dH.out.ext HE.out).at_ (by omega);subst hga;obtain⟨xa,xc,q0,q1,q2,aW⟩:=hat k hlt;rw[<-Nat.add_assoc] at q1 q2;obtain⟨z0,z1,z2,z2'⟩:=bZ hlt;have bf:=ah (fun W (hW:Ext wr W)=>HIH.out (tg L k) (bY L k hlt) _ S W (HW0.out.trans (HE.out.trans hW)) ⟨xa,xc,rfl,aW.ext hW⟩ (fun j hj=>aF (iE.out j hj) (Nat.le_trans HE.out.size hW.size)) (by have h1:=HSL.out;have h2:=gq (bY L k hlt);omega) (yR.out.kid (bY L k hlt)) (PU.out _ (bY L k hlt)));dsimp only[tV] at bf;obtain⟨x,hx⟩: ∃x,tg L k=x:=⟨_,rfl⟩
   have hzx:tg (L.map (iH (gG Bs))) k=iH (gG Bs) x:=by
    rw[<-hx];unfold tg;rw[List.getD_eq_getElem?_getD,List.getD_eq_getElem?_getD,List.getElem?_map,List.getElem?_eq_getElem hlt];rfl
   obtain⟨z,hz⟩: ∃z,iH (gG Bs) x=z:=⟨_,rfl⟩
   rw[hx,hz] at bf;rw[hx] at q0 q1 q2;rw[hz] at hzx;have PV:=ah hzx;have hQ:=(uR wr).alloc (tO x xa xc);have mO:=ay wr (tO x xa xc);obtain⟨b0,b1,b2⟩:=ak mO;have lF:=aB HB3.out (tO x xa xc);have c2:=aj lF 2 (.slice la k lc) rfl;have zA:=ah lF;have HQ:=ah hQ;have yD:=ah (aB HB2.out (tO x xa xc));have Ed:=ah (HJ.out.own.alloc (tO x xa xc));have iV:Hid (¬(Value.slice la k lc).ownBlock=some n3):=ah (fun e=>by have h1:=(HJ.out.own.lt n3 e).1;omega);have HK:Hid (k<=100000):=ah (by omega);obtain⟨iT,hi,hz0,hz1,hz2⟩:=info_parts um;clear hat aW hx hQ mO lF hz hzx
   go_wp2_with fail
   generalize wr.alloc (tO x xa xc)=wq at*;have Ee:Hid (Ext wq wq):=ah (aC.refl _ _);have sW:Hid (n3+1<=wq.heap.size):=ah (Nat.le_trans bU.out HQ.out.size);clear q0 q1 q2
   go_region_law (first
    |(refine dY _ (.tmp 25) (.tmp 29) 22 rfl (n3+1) 24 iT (.agg #[.string ⟨#[]⟩,.string ⟨#[]⟩,.slice none 0 0]) 3 56 Tryz.underlying22 hi hz0 hz1 hz2 rfl (by decide) _ _ _ rfl yE.out _ 1 1 [Value.string z.name,.string z.sort,.slice ya z.kids.length yc] rfl rfl oD.out kF.out iW.out.1 iW.out.2.1 iW.out.2.2 ?_;intro v7 w7 bK;obtain⟨a7,c7,hv7⟩:=bF bK.own;subst hv7;have fK:=bK.upd.heap (aB fC.out (tO z ya yc)) iV.out;have f7:=fun i=>aA fK i;have c2:=aj fK 2 (.slice la k lc) rfl;have eU:=ah fK;have jO:=ah bK;clear bK fK)
    |(go_simp;refine(bf.out wq.drew (HQ.out.trans Ee.out.drew)).mono ?_;rintro e w5 ⟨r,Bx,rfl,kV,hb5,hw5⟩;obtain⟨ya,yc,jP⟩:=aP.shape kV;subst jP;have dh:Hid (Ext wq w5):=ah (((uR wq).drewN' 1).trans hw5);have o7:=ah kV;have sG:Hid (∀j,Bx j->wq.heap.size<=j/\j<w5.heap.size):=ah hb5;have fC:=ah (dh.out.heap zA.out (fun h=>h));have yE:Hid ((w5.alloc (tO z ya yc)).ownsRow (n3+1) 24 3 (.slice la k lc) k (dI ((L.map (iH (gG Bs))).take k) us)):=ah ((bH Ed.out dh.out (fun _ _ h=>h)).alloc _);have oD:Hid (∀(j:Nat) (u:Value),[Value.string z.name,.string z.sort,.slice ya z.kids.length yc][j]?=some u->(w5.alloc (tO z ya yc)).cell? ((⟨w5.heap.size,0,none⟩:Addr).add j)=some u):=ah (zU w5 _ _ _ 24);have kF:Hid (∀u∈[Value.string z.name,.string z.sort,.slice ya z.kids.length yc],u.oneCell'=true):=ah (fun u hu=>by simp at hu;rcases hu with h|h|h<;>(subst h;rfl));have iW:Hid (k+1<=maxLen/\(k+1)*56<=140737488355328/\n3+1<=(w5.alloc (tO z ya yc)).heap.size):=ah ⟨by unfold maxLen;have:=HK.out;omega,by have:=HK.out;omega,by have h1:=dh.out.size;have h2:=sW.out;simp;omega⟩;have c5:=dh.out.cell c2 (fun h=>h);have c6:=((uR w5).alloc (tO z ya yc)).cell c5 (fun h=>h);clear kV hb5 hw5))
   all_goals
    go_wp2_with fail
    have ig:=ah ((aC.refl (fun j=>j=n3) w7).setCell (p:=⟨n3,2,none⟩) (.inl rfl) (.slice a7 (k+1) c7));have dB:Hid (aC (fun j=>(Value.slice la k lc).ownBlock=some j\/j=n3) wq (w7.setCell ⟨n3,2,none⟩ (.slice a7 (k+1) c7))):=ah (((((dh.out.alloc (tO z ya yc)).mono (fun _ _ x=>x.elim)).trans (jO.out.upd.mono (fun _ _ e=> .inl e)))).trans (ig.out.mono (fun _ _ e=> .inr e)));have uF:=ah (HJ.out.grow (by rw[List.length_map];exact hlt) PV.out (by omega) bU.out HQ.out dh.out o7.out sG.out ((uR w5).alloc (tO z ya yc)) jO.out ig.out);have hs3:=fU.out;have dG:Hid (Ext w (w7.setCell ⟨n3,2,none⟩ (.slice a7 (k+1) c7))):=ah ((HE.out.trans HQ.out).trans' dB.out (fun j hj e=>by
     rcases e with e|e
     .have h1:=(HJ.out.own.lt j e).1;omega
     .omega))
    have mY:=ah (dB.out.heap yD.out (fun e=>by
     rcases e with e|e
     .have h1:=(HJ.out.own.lt _ e).1;omega
     .omega))
    have jC:=setBlock eU.out 2 (.slice a7 (k+1) c7);have lY:Hid ((w7.setCell ⟨n3,2,none⟩ (.slice a7 (k+1) c7)).heap[n3]?=some (.cells #[.string n,.string ⟨#[]⟩,.slice a7 (k+1) c7] 24 (0,0))):=ah (by simpa using jC);have jX:Hid (n3+1<=(w7.setCell ⟨n3,2,none⟩ (.slice a7 (k+1) c7)).heap.size):=ah (Nat.le_trans sW.out dB.out.size);clear jC c2 f7
    go_roundg (L.length- (k+1))
    case measure=>omega
    case rel=>exact⟨k+1,_,_,_,by go_num,rfl,by omega,uF,mY,lY,dG,jX⟩
  .obtain rfl:k=L.length:=by omega
   have z2:decide ((L.length:Int)< (L.length:Int))=false:=dF (by omega);have hfin:=HJ.out;have hll:(L.map (iH (gG Bs))).length=L.length:=List.length_map ..;rw[<-hll] at hfin;have hfin:=hfin.fin;have lZ:=ah hfin;rw[hll] at lZ;obtain⟨c0,c1,c2⟩:=ak HB3.out;have f2:=fun i=>aA HB2.out i;obtain⟨d0,d1,d2⟩:=ak HB2.out;clear hfin hll
   go_wp2_with fail
   have hr3:=aN HB2.out (.string n) (.string ⟨#[]⟩) (.slice la L.length lc);have hu:=aK wr (w.heap.size+1) (.string n) (.string ⟨#[]⟩) (.slice la L.length lc);obtain⟨e0,e1,e2⟩:=ak hr3;have hs3:=fU.out;refine bodyPost_ret (v:= .agg #[.string n,.string ⟨#[]⟩,.slice la L.length lc]) (by simp[results,Tryz.results80,go_sem,e0,e1,e2]) rfl ⟨.slice la L.length lc,fun j=>n3+1<=j/\j<wr.heap.size,by simp[List.length_map,au],lZ.out.kept hu (fun j hj e=>by have h1:=hj.1;omega),fun j hj=>⟨by have h1:=hj.1;omega,aF hj.2 hu.size⟩,HE.out.trans' hu (fun j hj e=>by omega)⟩
theorem afE {t:Tm} {f:Vd} (h:wf aJ t=true) (hf:f∈dJ t) (hs:f.2≠au):wf aJ (vr f.1 f.2)=true:=by
 obtain⟨x,hx,h1,h2⟩:=Cc hf;obtain⟨_,_,hn,_⟩:=nX.1 h;obtain⟨n1,n2,n3⟩:=hn x hx;rw[h1] at n1;rw[h2] at n3;have n4:=(n3.resolve_left hs).1;refine nX.2 ⟨by show 1<=1000;decide,by show 1<=60;decide,fun y hy=>?_,?_⟩
 .have:y=vr f.1 f.2:=by
   rw[mg] at hy;simpa[vr,Tm.kids] using hy
  rw[this];exact⟨n1,by simp[vr,Tm.kids],.inr ⟨n4,rfl⟩⟩
 .rw [Qg hs];intro a ha b hb _;simp at ha hb;rw[ha,hb]
theorem afF {Bs:List Bd} {t:Tm} {f:Vd} (hv:rD aJ Bs=true) (h:wf aJ t=true) (hf:f∈dJ t) (hs:f.2≠au):wf aJ (gG Bs f.1 f.2)=true:=by
 cases hb:bJ Bs f.1 with
 |none=>rw[Ip hb];exact afE h hf hs
 |some T=>
  rw[yT hb];obtain⟨b,hb1,_,h3⟩:=tH hb;rw[<-h3];exact((E_ hv).2.2 b hb1).2.2.1
theorem ZC (Bs:List Bd) (t:Tm) (vB v:Value) (RB SB:Nat->Prop) (w:World) (htab:dN w) (hB:iM RB SB w vB Bs) (hSB: ∀k,SB k->k<w.heap.size) (hR:bQ (fun k=>k<w.heap.size) w t v) (hv:rD aJ Bs=true) (hw:wf aJ t=true):
  Calls Tryz.prog 88 #[vB,v] w fun e w'=> ∃r B,e= .returned (.tuple #[tV (app1 aJ Bs t).1 r,.int .i64 (app1 aJ Bs t).2])/\aP 24 w' B (app1 aJ Bs t).1.kids r/\(∀j,B j->w.heap.size<=j/\j<w'.heap.size)/\Ext w w':=by
 have HR:=ah hR;have jD:=ah hB;have xQ:=ah hSB;obtain⟨Z,jY⟩: ∃Z,app1 aJ Bs t=Z:=⟨_,rfl⟩
 rw[jY];have jm:=ah jY;clear jY;obtain⟨va,vc,rfl⟩:=hB.shape;obtain⟨a,cap,rfl,hT⟩:=hR;have hbl:=(E_ hv).1;have hasc:=(E_ hv).2.1;have afG:=qG hw;have hvf:=qA hw;have hvl:=ou hw;have hvm:=(zH hw).2;have yR:=ah (AB hw);have afH:Hid (∀f∈dJ t,wf aJ (gG Bs f.1 f.2)=true):=ah (fun f hf=>afF hv hw hf (JC hf));have OT:=ah hasc;have lI:=ah hbl;have Qh:=ah afG;have HTAB:=ah htab;have HV:=ah (fun W (hW:Ext w W)=>sO t _ W (aS htab hW) ((HR.out.ext hW).weaken (fun k hk=>aF hk hW.size)) (by omega));rw[hvf] at HV;have XJ:=ah (fun nm W (hW:Ext w W)=>abv Bs (.slice va Bs.length vc) nm RB SB W (jD.out.ext hW) hasc (by omega));have hcl:Vp Bs t=(aV t).any fun f=>match u_ Bs f.1 with|some so=>!decide (so=f.2)|none=>false:=rfl
 obtain⟨VL,EN⟩: ∃L,aV t=L:=⟨_,rfl⟩
 rw[EN] at HV hvl hcl;have kM:=ah hcl;have hlv:VL.length<=100000:=by omega
 have HLV:=ah hlv;dsimp only[tV] at HV⊢;have hZ:=(((uR w).alloc (.cells #[.slice va Bs.length vc] 27)).alloc (tO t a cap)).alloc zO;have H1:=ah (aB (aB (ay w (.cells #[.slice va Bs.length vc] 27)) (tO t a cap)) zO);have H2:=ah (aB (alloc_at (w.alloc (.cells #[.slice va Bs.length vc] 27)) (tO t a cap) (n:=w.heap.size+1) (by simp)) zO);have H3:=ah (alloc_at ((w.alloc (.cells #[.slice va Bs.length vc] 27)).alloc (tO t a cap)) zO (n:=w.heap.size+2) (by simp));have hz3:w.heap.size+3<=(((w.alloc (.cells #[.slice va Bs.length vc] 27)).alloc (tO t a cap)).alloc zO).heap.size:=by simp
 have HZ3:=ah hz3;obtain⟨x0,x1,x2⟩:=ak H2.out;have HZ:=ah hZ;clear hT htab hB hSB hv hw hbl hasc afG hvf hvl hvm hcl EN hlv hZ hz3
 go_enter Tryz.func88,Tryz.ntmps88
 go_wp2_with fail
 try rw[show w.heap.size+1+1=w.heap.size+2 from rfl]
 generalize (((w.alloc (.cells #[.slice va Bs.length vc] 27)).alloc (tO t a cap)).alloc zO)=wa at*;refine(HV.out _ HZ.out).mono ?_;rintro e w4 ⟨r1,rfl,hr1,hw4⟩;have bW:=ah (HZ.out.trans hw4);have Qi:=ah (hw4.heap H1.out (fun h=>h));have Bc:=ah (hw4.heap H2.out (fun h=>h));have vN:=ah (hw4.heap H3.out (fun h=>h));have gW:Hid (w.heap.size+3<=w4.heap.size):=ah (Nat.le_trans HZ3.out hw4.size);have Md:=ah hr1;obtain⟨p1,c1,hp1⟩:=dL.shape hr1;subst hp1;clear hw4 x0 x1 x2 H1 H2 H3 HZ HZ3 HV hr1;have hlv:=HLV.out
 go_wp2_with fail
 go_loopg [23] VL.length (fun gk iv wr=> ∃k:Nat,iv= .int .i64 (k:Int)/\gk=VL.length-k/\k<=VL.length/\Hid (Ext w4 wr)/\Hid (∀f∈VL.take k,(match u_ Bs f.1 with|some so=>!decide (so=f.2)|none=>false)=false))
 case atStart=>exact⟨0,rfl,rfl,Nat.zero_le _,ah (aC.refl _ _),ah (fun v hv=>by simp at hv)⟩
 case round=>
  obtain⟨k,rfl,rfl,hk,HE,zx⟩:=hrel;by_cases hlt:k<VL.length
  .obtain ⟨g,off,hga,hat⟩:=dL.at_ (dL.ext Md.out HE.out) (by omega);subst hga;obtain⟨q0,q1⟩:=hat k hlt;have htk:=Gm VL k hlt;have hvm:=yu hlt;obtain⟨v,hv⟩: ∃v,vg VL k=v:=⟨_,rfl⟩
   rw[hv] at q0 q1 htk hvm;obtain⟨nm,so⟩:=v;simp only at q0 q1;obtain⟨z0,z1,z2,z2'⟩:=bZ hlt;have o_:=HE.out.alloc (.cells #[.string nm,.string so] 116);have h_:=ah o_;have fC:=ah (ay wr (.cells #[.string nm,.string so] 116));have e0:=aj fC.out 0 (.string nm) rfl;have s0:=aj (o_.heap Qi.out (fun h=>h)) 0 (.slice va Bs.length vc) rfl;have TB:=ah (XJ.out nm _ (bW.out.trans o_));have hno: ∀sb,u_ Bs nm=some sb->sb≠so->Z=(.mk au au [],11):=fun sb h1 h2=>by
    rw[<-jm.out];unfold app1;have:Vp Bs t=true:=by
     rw[kM.out,List.any_eq_true];refine⟨(nm,so),hvm,?_⟩;simp only[h1];simp[h2]
    rw[if_pos this]
   have hyes:(match u_ Bs nm with|some sb=>!decide (sb=so)|none=>false)=false->∀f∈VL.take (k+1),(match u_ Bs f.1 with|some so=>!decide (so=f.2)|none=>false)=false:=fun h f hf=>by
    rw[htk,List.mem_append,List.mem_singleton] at hf;rcases hf with hf|hf
    .exact zx.out f hf
    .rw [hf];exact h
   have qh:=ah hno;have Aa:=ah hyes;obtain⟨F,hF⟩: ∃F,(bJ Bs nm).isSome=F:=⟨_,rfl⟩
   rw[hF] at TB;have HF:=ah hF;clear hat htk hvm hv o_ hno hyes hF
   go_wp2_with fail
   generalize wr.alloc (.cells #[.string nm,.string so] 116)=w5 at*;refine TB.out.mono ?_;rintro e w6 ⟨rfl,hw6⟩;have fV:=ah (h_.out.trans hw6);have jE:=ah (hw6.heap fC.out (fun h=>h));have s0:=aj (fV.out.heap Qi.out (fun h=>h)) 0 (.slice va Bs.length vc) rfl;have e1:=aj jE.out 1 (.string so) rfl;clear hw6 TB q0 q1 e0;cases F with
   |false=>
    have jV:=ah (Aa.out (by
     have:u_ Bs nm=none:=XL.2 (by
      have:=HF.out;cases hb:bJ Bs nm with
      |none=>rfl
      |some T=>rw[hb] at this;cases this)
     rw[this]))
    go_wp2_with fail
    go_quiet (fail)
    go_wp2_with fail
    go_roundg (VL.length- (k+1))
    case measure=>omega
    case rel=>exact⟨k+1,by go_num,rfl,by omega,ah (fV.out.drewN' _),jV⟩
   |true=>
    obtain⟨hlm,_,hbs⟩:=MW (n:=nm) OT.out HF.out;obtain⟨gb,ob,hgb,_,Qj⟩:=(jD.out.ext (bW.out.trans fV.out)).at_ (by omega);subst hgb;obtain⟨xa,xc,_,p1,_,_,_,_⟩:=Qj _ hlm;obtain⟨m,hm⟩: ∃m,ng Bs nm=m:=⟨_,rfl⟩
    rw[hm] at p1 hlm hbs⊢;have y0:(0:Int)<=(m:Int):=by omega
    have y1:(m:Int)< (Bs.length:Int):=by omega
    obtain⟨sb,hsb⟩: ∃x,(Go.Hw.bg Bs m).2.1=x:=⟨_,rfl⟩
    rw[hsb] at p1 hbs;have s1:=lJ sb so;have afI:=ah hbs;clear Qj hm hsb hbs;by_cases he:sb=so
    .rw [dT he] at s1;have jV:=ah (Aa.out (by rw[afI.out];simp[he]));clear he
     go_wp2_with fail
     go_quiet (fail)
     go_wp2_with fail
     go_roundg (VL.length- (k+1))
     case measure=>omega
     case rel=>exact⟨k+1,by go_num,rfl,by omega,ah (fV.out.drewN' _),jV⟩
    .rw [dF he] at s1;obtain rfl:Z=(.mk au au [],11):=qh.out sb afI.out he;clear he;have iG:=ah (bW.out.trans fV.out);have Dw:=ah (fV.out.heap vN.out (fun h=>h))
     go_wp2_with fail
     go_quiet (fail)
     have dG:=ah (iG.out.drewN' nq);have H38:=ah (((uR w6).drewN' nq).heap Dw.out (fun h=>h));generalize w6.drewN nq=w8 at*;obtain⟨d0,d1,d2⟩:=ak H38.out;have f2:=fun i=>aA H38.out i
     go_wp2_with fail
     have hr3:=aN H38.out (.string ⟨#[]⟩) (.string ⟨#[]⟩) (.slice none 0 0);have hu:=aK w8 (w.heap.size+2) (.string ⟨#[]⟩) (.string ⟨#[]⟩) (.slice none 0 0);obtain⟨e0,e1,e2⟩:=ak hr3;refine bodyPost_ret (v:= .tuple #[.agg #[.string ⟨#[]⟩,.string ⟨#[]⟩,.slice none 0 0],.int .i64 11]) (by simp[results,Tryz.results88,go_sem,e0,e1,e2]) rfl ?_;have hue:=dG.out.trans' hu (fun j hj e=>by omega)
     first|exact⟨.slice none 0 0,fun _=>False,rfl,aP.nil _ _ _,fun j hj=>hj.elim,hue⟩|exact⟨.slice none 0 0,rfl,fun _=>False,aP.nil _ _ _,fun j hj=>hj.elim,hue⟩
  .obtain rfl:k=VL.length:=by omega
   have z2:decide ((VL.length:Int)< (VL.length:Int))=false:=dF (by omega);have HCF:Hid (Vp Bs t=false):=ah (by
    rw[kM.out,List.any_eq_false];intro f hf;have:=zx.out f (by rw[List.take_length];exact hf);rw[this];simp)
   have dA:=ah (bW.out.trans HE.out);have H15:=ah (HE.out.heap Qi.out (fun h=>h));have Px:=ah (HE.out.heap Bc.out (fun h=>h));have Jq:=ah (HE.out.heap vN.out (fun h=>h));have nO:Hid (w.heap.size+3<=wr.heap.size):=ah (Nat.le_trans gW.out HE.out.size);have Bo:=(uR wr).alloc (.cells #[.func (.func 151) #[] #[.pointer (some ⟨w.heap.size,0,none⟩)]] 90);have yP:=ah Bo;have jE:=ah (ay wr (.cells #[.func (.func 151) #[] #[.pointer (some ⟨w.heap.size,0,none⟩)]] 90));have fV:=ah (dA.out.trans Bo);have H16:=ah (Bo.heap H15.out (fun h=>h));have Tq:=ah (Bo.heap Px.out (fun h=>h));have Dw:=ah (Bo.heap Jq.out (fun h=>h));have HME:=ah (afz Bs (.slice va Bs.length vc) w.heap.size wr.heap.size RB SB (wr.alloc (.cells #[.func (.func 151) #[] #[.pointer (some ⟨w.heap.size,0,none⟩)]] 90)) H16 jE (ah (jD.out.ext fV.out)) (ah (fun k hk=>aF (xQ.out k hk) fV.out.size)) OT (ah (by have:=lI.out;omega)) (ah (aS HTAB.out fV.out)) t _ (fun k=>k<w.heap.size) (wr.alloc (.cells #[.func (.func 151) #[] #[.pointer (some ⟨w.heap.size,0,none⟩)]] 90)) (aC.refl _ _) (HR.out.ext fV.out) (fun k hk=>aF hk fV.out.size) (by have:=Qh.out;omega) yR.out afH.out);dsimp only[tV] at HME;have v0:=aj jE.out 0 (.func (.func 151) #[] #[.pointer (some ⟨w.heap.size,0,none⟩)]) rfl;obtain⟨x0,x1,x2⟩:=ak Tq.out;clear Bo Bc vN Qi HE Md zx
   go_wp2_with fail
   obtain⟨vb,hvb⟩: ∃n,wr.heap.size=n:=⟨_,rfl⟩
   rw[hvb] at HME jE v0 nO
   try rw[hvb]
   clear hvb;generalize wr.alloc (.cells #[.func (.func 151) #[] #[.pointer (some ⟨w.heap.size,0,none⟩)]] 90)=w6 at*;refine HME.out.mono ?_;rintro e w7 ⟨rfl,hw7⟩;have iG:=ah (fV.out.trans hw7);have H17:=ah (hw7.heap H16.out (fun h=>h));have H27:=ah (hw7.heap Tq.out (fun h=>h));have Jr:=ah (hw7.heap Dw.out (fun h=>h));have eU:=ah (hw7.heap jE.out (fun h=>h));obtain⟨z,hz⟩: ∃z,bI Bs t=z:=⟨_,rfl⟩
   rw[hz];have Qk:=ah hz;obtain⟨A1,hA1⟩: ∃n,min z.size 1001=n:=⟨_,rfl⟩
   obtain⟨A2,hA2⟩: ∃n,min z.depth 61=n:=⟨_,rfl⟩
   rw[hA1,hA2];have HA:=ah (And.intro hA1 hA2);clear hw7 HME hz hA1 hA2 x0 x1 x2 v0 H16 Tq Dw jE fV yP;by_cases hbig:1000<z.size\/60<z.depth
   .obtain rfl:Z=(.mk au au [],4):=by
     rw[<-jm.out];unfold app1;rw[if_neg (by rw[HCF.out];simp),if_pos (by rw[Qk.out];exact hbig)]
    by_cases hb1:1000<A1
    .have y1:decide ((1000:Int)< (A1:Int))=true:=dT (by omega);have y1':(1000:Int)< (A1:Int):=by omega
     clear hbig hb1;obtain⟨d0,d1,d2⟩:=ak Jr.out;have f2:=fun i=>aA Jr.out i
     go_wp2_with fail
     have hr3:=aN Jr.out (.string ⟨#[]⟩) (.string ⟨#[]⟩) (.slice none 0 0);have hu:=aK w7 (w.heap.size+2) (.string ⟨#[]⟩) (.string ⟨#[]⟩) (.slice none 0 0);obtain⟨e0,e1,e2⟩:=ak hr3;refine bodyPost_ret (v:= .tuple #[.agg #[.string ⟨#[]⟩,.string ⟨#[]⟩,.slice none 0 0],.int .i64 4]) (by simp[results,Tryz.results88,go_sem,e0,e1,e2]) rfl ?_;have hue:=iG.out.trans' hu (fun j hj e=>by omega)
     first|exact⟨.slice none 0 0,fun _=>False,rfl,aP.nil _ _ _,fun j hj=>hj.elim,hue⟩|exact⟨.slice none 0 0,rfl,fun _=>False,aP.nil _ _ _,fun j hj=>hj.elim,hue⟩
    .have y1:decide ((1000:Int)< (A1:Int))=false:=dF (by omega);have y1': ¬(1000:Int)< (A1:Int):=by omega
     have y2':(60:Int)< (A2:Int):=by have:=HA.out;omega
     have y2:decide ((60:Int)< (A2:Int))=true:=dT y2';clear hbig hb1;obtain⟨d0,d1,d2⟩:=ak Jr.out;have f2:=fun i=>aA Jr.out i
     go_wp2_with fail
     have hr3:=aN Jr.out (.string ⟨#[]⟩) (.string ⟨#[]⟩) (.slice none 0 0);have hu:=aK w7 (w.heap.size+2) (.string ⟨#[]⟩) (.string ⟨#[]⟩) (.slice none 0 0);obtain⟨e0,e1,e2⟩:=ak hr3;refine bodyPost_ret (v:= .tuple #[.agg #[.string ⟨#[]⟩,.string ⟨#[]⟩,.slice none 0 0],.int .i64 4]) (by simp[results,Tryz.results88,go_sem,e0,e1,e2]) rfl ?_;have hue:=iG.out.trans' hu (fun j hj e=>by omega)
     first|exact⟨.slice none 0 0,fun _=>False,rfl,aP.nil _ _ _,fun j hj=>hj.elim,hue⟩|exact⟨.slice none 0 0,rfl,fun _=>False,aP.nil _ _ _,fun j hj=>hj.elim,hue⟩
   have y1': ¬(1000:Int)< (A1:Int):=by have:=HA.out;omega
   have y2': ¬(60:Int)< (A2:Int):=by have:=HA.out;omega
   have y1:decide ((1000:Int)< (A1:Int))=false:=dF y1';have y2:decide ((60:Int)< (A2:Int))=false:=dF y2';have Fa:=ah hbig;have Jy:=ah (ZB Bs (.slice va Bs.length vc) w.heap.size RB SB w7 H17 (ah (jD.out.ext iG.out)) (ah (fun k hk=>aF (xQ.out k hk) iG.out.size)) OT (ah (by have:=lI.out;omega)) t _ (fun k=>k<w.heap.size) w7 (aC.refl _ _) (HR.out.ext iG.out) (fun k hk=>aF hk iG.out.size) (by have:=Qh.out;omega) yR.out (fun f hf=>by have:=qG (afH.out f hf);omega));have hzz:iH (gG Bs) t=z:=Qk.out;rw[hzz] at Jy;dsimp only[tV] at Jy;have v0:=aj eU.out 0 (.func (.func 151) #[] #[.pointer (some ⟨w.heap.size,0,none⟩)]) rfl;obtain⟨x0,x1,x2⟩:=ak H27.out;clear hbig hzz
   go_wp2_with fail
   refine Jy.out.mono ?_;rintro e w8 ⟨r8,B8,rfl,Bq,hb8,hw8⟩;obtain⟨ya,yc,jP⟩:=aP.shape Bq;subst jP;have XM:=(uR w8).alloc (tO z ya yc);have Bf:=ah (Bq.kept XM (fun _ _ h=>h));have lK:=ah (ay w8 (tO z ya yc));have jg:=ah (iG.out.trans (hw8.trans XM));have H39:=ah ((hw8.trans XM).heap Jr.out (fun h=>h));have Vq:Hid (∀j,B8 j->w.heap.size+3<=j/\j< (w8.alloc (tO z ya yc)).heap.size):=ah (fun j hj=>⟨by have h1:=(hb8 j hj).1;have h2:=nO.out;have h3:vb<w7.heap.size:=(Array.getElem?_eq_some_iff.1 eU.out).1;omega,aF (hb8 j hj).2 XM.size⟩);have uG:=ah (yw z (tV z (.slice ya z.kids.length yc)) (w8.alloc (tO z ya yc)) (aS HTAB.out jg.out) ⟨ya,yc,rfl,(Bf.out.read).weaken (fun k hk=>(Vq.out k hk).2)⟩ (by have:=Fa.out;omega));dsimp only[tV] at uG⊢;clear Bq hb8 hw8 XM Jy x0 x1 x2 v0 H17 H27 Jr eU;obtain⟨x0,x1,x2⟩:=ak lK.out
   go_wp2_with fail
   generalize w8.alloc (tO z ya yc)=w9 at*;refine uG.out.mono ?_;rintro e w10 ⟨rfl,KR⟩;have afM:=ah (jg.out.trans KR);have KT:=ah (KR.heap H39.out (fun h=>h));have alo:=ah (KR.heap lK.out (fun h=>h));have alp:=ah (Bf.out.kept KR (fun _ _ h=>h));have Vr:Hid (∀j,B8 j->w.heap.size+3<=j/\j<w10.heap.size):=ah (fun j hj=>⟨(Vq.out j hj).1,aF (Vq.out j hj).2 KR.size⟩);clear KR uG x0 x1 x2 lK H39 Bf Vq jg;cases hwz:wf aJ z with
   |false=>
    obtain rfl:Z=(.mk au au [],11):=by
     rw[<-jm.out];unfold app1;rw[if_neg (by rw[HCF.out];simp),if_neg (by rw[Qk.out];exact Fa.out),if_pos (by rw[Qk.out];exact hwz)]
    clear hwz;obtain⟨d0,d1,d2⟩:=ak KT.out;have f2:=fun i=>aA KT.out i
    go_wp2_with fail
    have hr3:=aN KT.out (.string ⟨#[]⟩) (.string ⟨#[]⟩) (.slice none 0 0);have hu:=aK w10 (w.heap.size+2) (.string ⟨#[]⟩) (.string ⟨#[]⟩) (.slice none 0 0);obtain⟨e0,e1,e2⟩:=ak hr3;refine bodyPost_ret (v:= .tuple #[.agg #[.string ⟨#[]⟩,.string ⟨#[]⟩,.slice none 0 0],.int .i64 11]) (by simp[results,Tryz.results88,go_sem,e0,e1,e2]) rfl ?_;have hue:=afM.out.trans' hu (fun j hj e=>by omega)
    first|exact⟨.slice none 0 0,fun _=>False,rfl,aP.nil _ _ _,fun j hj=>hj.elim,hue⟩|exact⟨.slice none 0 0,rfl,fun _=>False,aP.nil _ _ _,fun j hj=>hj.elim,hue⟩
   |true=>
    obtain rfl:Z=(z,0):=by
     rw[<-jm.out];unfold app1;rw[if_neg (by rw[HCF.out];simp),if_neg (by rw[Qk.out];exact Fa.out),if_neg (by rw[Qk.out,hwz];simp),Qk.out]
    clear hwz;obtain⟨x0,x1,x2⟩:=ak alo.out;obtain⟨d0,d1,d2⟩:=ak KT.out;have f2:=fun i=>aA KT.out i
    go_wp2_with fail
    have hr3:=aN KT.out (.string z.name) (.string z.sort) (.slice ya z.kids.length yc);have hu:=aK w10 (w.heap.size+2) (.string z.name) (.string z.sort) (.slice ya z.kids.length yc);obtain⟨e0,e1,e2⟩:=ak hr3;refine bodyPost_ret (v:= .tuple #[.agg #[.string z.name,.string z.sort,.slice ya z.kids.length yc],.int .i64 0]) (by simp[results,Tryz.results88,go_sem,e0,e1,e2]) rfl ?_;have hue:=afM.out.trans' hu (fun j hj e=>by omega);have own:=alp.out.kept hu (fun j hj e=>by have h3:=(Vr.out j hj).1;omega);have rng: ∀j,B8 j->w.heap.size<=j/\j<_:=fun j hj=>⟨by have h3:=(Vr.out j hj).1;omega,aF (Vr.out j hj).2 hu.size⟩
    first|exact⟨.slice ya z.kids.length yc,B8,rfl,own,rng,hue⟩|exact⟨.slice ya z.kids.length yc,rfl,B8,own,rng,hue⟩
theorem ZG (Bs:List Bd) (t:Tm) (vB v:Value) (w:World) (htab:dN w) (hB:iM (fun k=>k<w.heap.size) (fun k=>k<w.heap.size) w vB Bs) (hR:bQ (fun k=>k<w.heap.size) w t v) (hl:Bs.length<=1000000) (hs: ∀b∈Bs,(b.2.2.size:Int)<=1000000000000) (ht:(t.size:Int)<=1000000000000):
  Calls Tryz.prog 29 #[vB,v] w fun e w'=> ∃r B,e= .returned (.tuple #[tV (Fe aJ Bs t).1 r,.int .i64 (Fe aJ Bs t).2])/\aP 24 w' B (Fe aJ Bs t).1.kids r/\(∀j,B j->w.heap.size<=j/\j<w'.heap.size)/\Ext w w':=by
 obtain⟨Z,jY⟩: ∃Z,Fe aJ Bs t=Z:=⟨_,rfl⟩
 rw[jY];have jm:=ah jY;clear jY;have HR:=ah hR;have HV:=ah (fun W (hW:Ext w W)=>ac6 Bs vB W (aS htab hW) ((hB.ext hW).weaken (fun k hk=>aF hk hW.size) (fun k hk=>aF hk hW.size)) hl hs);have HF:=ah (fun W (hW:Ext w W)=>yw t v W (aS htab hW) ((hR.ext hW).weaken (fun k hk=>aF hk hW.size)) ht);have HA:=ah (fun(h1:rD aJ Bs=true) (h2:wf aJ t=true) W (hW:Ext w W)=>ZC Bs t vB v _ (fun k=>k<w.heap.size) W (aS htab hW) (hB.ext hW) (fun k hk=>aF hk hW.size) ((hR.ext hW).weaken (fun k hk=>aF hk hW.size)) h1 h2);obtain⟨va,vc,rfl⟩:=hB.shape;obtain⟨a,cap,rfl,hT⟩:=hR;dsimp only[tV] at HF HA⊢;have hZ:=((uR w).alloc (tO t a cap)).alloc zO;have H2:=ah (aB (ay w (tO t a cap)) zO);have H3:=ah (alloc_at (w.alloc (tO t a cap)) zO (n:=w.heap.size+1) (by simp));have hz2:w.heap.size+2<=((w.alloc (tO t a cap)).alloc zO).heap.size:=by simp
 have HZ2:=ah hz2;obtain⟨x0,x1,x2⟩:=ak H2.out;have HZ:=ah hZ;have Ql:Hid (Z=if(rD aJ Bs&&wf aJ t)=true then app1 aJ Bs t else(.mk au au [],1)):=ah (by rw[<-jm.out];rfl);obtain⟨Q,hQ⟩: ∃Q,app1 aJ Bs t=Q:=⟨_,rfl⟩
 obtain⟨b1,hb1⟩: ∃b,rD aJ Bs=b:=⟨_,rfl⟩
 obtain⟨b2,hb2⟩: ∃b,wf aJ t=b:=⟨_,rfl⟩
 rw[hb1] at HV HA Ql;rw[hb2] at HF HA Ql;rw[hQ] at HA Ql;clear hT htab hB hl hs ht hZ hz2 jm hQ hb1 hb2 HR
 go_enter Tryz.func29,Tryz.ntmps29
 go_wp2_with fail
 generalize ((w.alloc (tO t a cap)).alloc zO)=wa at*;refine(HV.out _ HZ.out).mono ?_;rintro e w3 ⟨rfl,hw3⟩;have aY:=ah (HZ.out.trans hw3);have A_:=ah (hw3.heap H2.out (fun h=>h));have vM:=ah (hw3.heap H3.out (fun h=>h));have fU:Hid (w.heap.size+2<=w3.heap.size):=ah (Nat.le_trans HZ2.out hw3.size);clear hw3 x0 x1 x2 H2 H3 HZ HV HZ2;cases b1
 .obtain rfl:Z=(.mk au au [],1):=by have:=Ql.out;simpa using this
  obtain⟨d0,d1,d2⟩:=ak vM.out;have f2:=fun i=>aA vM.out i
  go_wp2_with fail
  have hr3:=aN vM.out (.string ⟨#[]⟩) (.string ⟨#[]⟩) (.slice none 0 0);have hu:=aK w3 (w.heap.size+1) (.string ⟨#[]⟩) (.string ⟨#[]⟩) (.slice none 0 0);obtain⟨e0,e1,e2⟩:=ak hr3;refine bodyPost_ret (v:= .tuple #[.agg #[.string ⟨#[]⟩,.string ⟨#[]⟩,.slice none 0 0],.int .i64 1]) (by simp[results,Tryz.results29,go_sem,e0,e1,e2]) rfl ?_;have hue:=aY.out.trans' hu (fun j hj e=>by omega)
  first|exact⟨.slice none 0 0,fun _=>False,rfl,aP.nil _ _ _,fun j hj=>hj.elim,hue⟩|exact⟨.slice none 0 0,rfl,fun _=>False,aP.nil _ _ _,fun j hj=>hj.elim,hue⟩
 obtain⟨x0,x1,x2⟩:=ak A_.out
 go_wp2_with fail
 refine(HF.out _ aY.out).mono ?_;rintro e w4 ⟨rfl,hw4⟩;have bW:=ah (aY.out.trans hw4);have Bc:=ah (hw4.heap A_.out (fun h=>h));have vN:=ah (hw4.heap vM.out (fun h=>h));have gW:Hid (w.heap.size+2<=w4.heap.size):=ah (Nat.le_trans fU.out hw4.size);clear hw4 x0 x1 x2 A_ vM aY HF fU;cases b2
 .obtain rfl:Z=(.mk au au [],1):=by have:=Ql.out;simpa using this
  obtain⟨d0,d1,d2⟩:=ak vN.out;have f2:=fun i=>aA vN.out i
  go_wp2_with fail
  have hr3:=aN vN.out (.string ⟨#[]⟩) (.string ⟨#[]⟩) (.slice none 0 0);have hu:=aK w4 (w.heap.size+1) (.string ⟨#[]⟩) (.string ⟨#[]⟩) (.slice none 0 0);obtain⟨e0,e1,e2⟩:=ak hr3;refine bodyPost_ret (v:= .tuple #[.agg #[.string ⟨#[]⟩,.string ⟨#[]⟩,.slice none 0 0],.int .i64 1]) (by simp[results,Tryz.results29,go_sem,e0,e1,e2]) rfl ?_;have hue:=bW.out.trans' hu (fun j hj e=>by omega)
  first|exact⟨.slice none 0 0,fun _=>False,rfl,aP.nil _ _ _,fun j hj=>hj.elim,hue⟩|exact⟨.slice none 0 0,rfl,fun _=>False,aP.nil _ _ _,fun j hj=>hj.elim,hue⟩
 obtain rfl:Z=Q:=by have:=Ql.out;simpa using this
 obtain⟨x0,x1,x2⟩:=ak Bc.out;have HA2:=ah (HA.out (by simp) (by simp) w4 bW.out);obtain⟨z,en⟩:=Z;dsimp only at HA2⊢;clear HA Ql
 go_wp2_with fail
 refine HA2.out.mono ?_;rintro e w6 ⟨r6,B6,rfl,uH,hb6,hw6⟩;obtain⟨ya,yc,jP⟩:=aP.shape uH;subst jP;have wS:=ah uH;have fV:=ah (bW.out.trans hw6);have Dw:=ah (hw6.heap vN.out (fun h=>h));have ZH:Hid (∀j,B6 j->w.heap.size+2<=j/\j<w6.heap.size):=ah (fun j hj=>⟨Nat.le_trans gW.out (hb6 j hj).1,(hb6 j hj).2⟩);dsimp only[tV];clear uH hb6 hw6 HA2 x0 x1 x2;obtain⟨d0,d1,d2⟩:=ak Dw.out;have f2:=fun i=>aA Dw.out i
 go_wp2_with fail
 have hr3:=aN Dw.out (.string z.name) (.string z.sort) (.slice ya z.kids.length yc);have hu:=aK w6 (w.heap.size+1) (.string z.name) (.string z.sort) (.slice ya z.kids.length yc);obtain⟨e0,e1,e2⟩:=ak hr3;refine bodyPost_ret (v:= .tuple #[.agg #[.string z.name,.string z.sort,.slice ya z.kids.length yc],.int .i64 en]) (by simp[results,Tryz.results29,go_sem,e0,e1,e2]) rfl ?_;have hue:=fV.out.trans' hu (fun j hj e=>by omega);have own:=wS.out.kept hu (fun j hj e=>by have h3:=(ZH.out j hj).1;omega);have rng: ∀j,B6 j->w.heap.size<=j/\j<_:=fun j hj=>⟨by have h3:=(ZH.out j hj).1;omega,aF (ZH.out j hj).2 hu.size⟩
 first|exact⟨.slice ya z.kids.length yc,B6,rfl,own,rng,hue⟩|exact⟨.slice ya z.kids.length yc,rfl,B6,own,rng,hue⟩
end
theorem Au (t:Tm) (v:Value) (w:World) (htab:dN w) (hR:bQ (fun k=>k<w.heap.size) w t v) (hsz:(t.size:Int)<=1000000000000):Calls Tryz.prog 116 #[v] w fun e w'=>e= .returned (.bool (wf aJ t))/\Ext w w':=by
 have HR:=ah hR;obtain⟨a,cap,rfl,hT⟩:=hR;have hb:=ay w (tO t a cap);have HZ:=ah ((uR w).alloc (tO t a cap));have HS:=ah (fun W (hW:Ext w W)=>Oz t _ W (aS htab hW) ((HR.out.ext hW).weaken (fun k hk=>aF hk hW.size)) hsz);dsimp only[tV] at HS⊢;obtain⟨c0,c1,c2⟩:=ak hb;have hpos:=size_pos t;have hz:decide (0<xJ t)=wf aJ t:=by
  unfold xJ;by_cases h:wf aJ t=true
  .rw [if_pos h,h,dT (by omega)]
  .rw [if_neg h,Bool.eq_false_iff.2 h];rfl
 have HV:=ah hz;obtain⟨X,hX⟩: ∃X,xJ t=X:=⟨_,rfl⟩
 rw[hX] at HS HV;clear hz hX hT hb
 go_enter Tryz.func116,Tryz.ntmps116
 go_wp2_with fail
 refine(HS.out _ HZ.out).mono ?_;rintro e w4 ⟨rfl,hw4⟩;have H4:=ah (HZ.out.ext hw4);clear hw4 c0 c1 c2;by_cases h0:0<X
 .have t0:(0:Int)< (X:Int):=by omega
  have t1:decide ((0:Int)< (X:Int))=true:=dT t0;have nZ:Hid (wf aJ t=true):=ah (by rw[<-HV.out];exact dT h0)
  go_wp2_with fail
  go_ret;rw[nZ.out];exact⟨rfl,H4.out⟩
 .have t0: ¬(0:Int)< (X:Int):=by omega
  have t1:decide ((0:Int)< (X:Int))=false:=dF t0;have nZ:Hid (wf aJ t=false):=ah (by rw[<-HV.out];exact dF h0)
  go_wp2_with fail
  go_ret;rw[nZ.out];exact⟨rfl,H4.out⟩
def gJ (t:Tm) (p:List Nat) (u:Tm):Tm×Int:=if wf aJ (putAt t p u)=true then(putAt t p u,0) else(cZ,4)
theorem UK (t u:Tm) (p:List Nat) (tv uv pv:Value) (S R T:Nat->Prop) (w:World) (hT:bQ S w t tv) (hU:bQ R w u uv) (hS: ∀k,S k->k<w.heap.size) (hRR: ∀k,R k->k<w.heap.size) (hP:aG T w 1 pv p.length (p.map fun i:Nat=>Value.int .i64 (i:Int))) (hok:qM t p) (htab:dN w) (hsz:t.size<=100000) (anO:u.size<=100000) (hl:p.length<=1000000):
  Calls Tryz.prog 120 #[tv,pv,uv] w fun e w'=> ∃r,e= .returned (.tuple #[tV (gJ t p u).1 r,.int .i64 (gJ t p u).2])/\aI (fun k=>(w.heap.size<=k/\k<w'.heap.size)\/R k) w' (gJ t p u).1.kids r/\Ext w w':=by
 obtain⟨pa,pc,rfl⟩:=aG.shape hP;have HP:=ah hP;obtain⟨a,cap,rfl,hT⟩:=hT;obtain⟨ua,uc,rfl,hU⟩:=hU;have HU:=ah hU;have HRR:=ah hRR;have lM:=ah hok;have dP:=ah ((((uR w).alloc (tO t a cap)).alloc (tO u ua uc)).alloc zO);have HB3:=ah (aB (aB (ay w (tO t a cap)) (tO u ua uc)) zO);have fC:=ah (aB (alloc_at (w.alloc (tO t a cap)) (tO u ua uc) (n:=w.heap.size+1) (by simp)) zO);have jE:=ah (alloc_at ((w.alloc (tO t a cap)).alloc (tO u ua uc)) zO (n:=w.heap.size+2) (by simp));have hz0:(((w.alloc (tO t a cap)).alloc (tO u ua uc)).alloc zO).heap.size=w.heap.size+3:=by simp
 have HZ0:=ah hz0;have OT:=ah (fun W (hW:Ext w W)=>aS htab hW);have SN:=ah (fun W (hW:Ext w W)=>Ei t (.agg #[.string t.name,.string t.sort,.slice a t.kids.length cap]) S W ⟨a,cap,rfl,hT.ext hW⟩ (fun k hk=>aF (hS k hk) hW.size) hsz);have HF:Hid (gJ t p u=if wf aJ (putAt t p u)=true then(putAt t p u,0) else(cZ,4)):=ah rfl;obtain⟨F,hF⟩: ∃F,gJ t p u=F:=⟨_,rfl⟩
 rw[hF] at HF⊢;dsimp only[tV] at SN⊢;clear hP hT hU hS hRR htab hF hz0 hok;obtain⟨k0,k1,k2⟩:=ak HB3.out
 go_enter Tryz.func120,Tryz.ntmps120
 go_wp2_with fail
 refine(SN.out _ dP.out).mono ?_;rintro e w6 ⟨r1,B1,rfl,OU,hb6,hw6⟩;obtain⟨ra,rc,hr1⟩:=aP.shape OU;subst hr1;have WW:=(uR w6).alloc (tO t ra rc);have H7:=ah ((dP.out.trans hw6).trans WW);have akR:=ah (WW.heap (hw6.heap fC.out (fun h=>h)) (fun h=>h));have aei:=ah (WW.heap (hw6.heap jE.out (fun h=>h)) (fun h=>h));have KD:=ah (ay w6 (tO t ra rc));have Ja:=ah (OU.kept WW (fun _ _ h=>h));have L_:Hid (w.heap.size+3<=w6.heap.size):=ah (by rw[<-HZ0.out];exact hw6.size);have HBF:Hid (∀j,B1 j->w.heap.size+3<=j/\j<w6.heap.size):=ah (fun j hj=>by have h1:=hb6 j hj;rw[HZ0.out] at h1;exact h1);have HZ7:Hid ((w6.alloc (tO t ra rc)).heap.size=w6.heap.size+1):=ah (by simp);have SQ:Hid (LU B1 (w6.alloc (tO t ra rc)) (w6.heap.size,0) t):=ah ⟨ra,rc,aj KD.out 0 _ rfl,aj KD.out 1 _ rfl,aj KD.out 2 _ rfl,Ja.out.read⟩;clear OU hb6 hw6 WW SN k0 k1 k2 HB3 fC jE dP HZ0
 go_wp2_with fail
 generalize w6.alloc (tO t ra rc)=w8 at*;have Jb:=ah (aG.kept HP.out H7.out (fun _ _ h=>h));obtain⟨n8,hn8⟩: ∃n,w6.heap.size=n:=⟨_,rfl⟩
 rw[hn8] at SQ KD⊢;have HN8:=ah hn8;clear hn8
 go_loopg [9,16] p.length (fun gk qv iv wr=> ∃(k:Nat) (c:Nat×Nat) (x:Tm),qv= .pointer (some ⟨c.1,c.2,none⟩)/\iv= .int .i64 (k:Int)/\gk=p.length-k/\k<=p.length/\Hid (qM x (p.drop k))/\Hid (qW w8 (p.take k) (n8,0) c)/\Hid (LU B1 w8 c x)/\w8=wr)
 case atStart=>exact⟨0,(n8,0),t,rfl,rfl,rfl,Nat.zero_le _,lM,ah rfl,SQ,rfl⟩
 case round=>
  clear SQ;obtain⟨k,⟨cb,co⟩,x,rfl,rfl,rfl,hk,HS,HD,HX,rfl⟩:=hrel;by_cases hlt:k<p.length
  .obtain ⟨g,off,hga,_,hat⟩:=aG.Ef (d:=(0:Nat)) Jb.out (by omega);subst hga;have q0:=hat k hlt;obtain⟨z0,z1,z2,z2'⟩:=bZ hlt;have hd:p.drop k=p.getD k 0::p.drop (k+1):=by
    rw[List.drop_eq_getElem_cons hlt,List.getD_eq_getElem?_getD,List.getElem?_eq_getElem hlt];rfl
   have htk:p.take (k+1)=p.take k++[p.getD k 0]:=by
    rw[List.take_add_one,List.getD_eq_getElem?_getD,List.getElem?_eq_getElem hlt];rfl
   have hs:=HS.out;rw[hd] at hs;obtain⟨j,hj0⟩: ∃j,p.getD k 0=j:=⟨_,rfl⟩
   rw[hj0] at q0 hs htk;have rJ:=ah htk;obtain⟨hj,hs2⟩:=hs;have HS2:=ah hs2;obtain⟨xa,xc,x0,x1,x2,hx⟩:=HX.out;dsimp only at x0 x1 x2 q0;obtain⟨g2,off2,BH,_,yF⟩:=hx.at_ (by omega);subst BH;obtain⟨ya,yc,r0,r1,r2,hy⟩:=yF j hj;have HD2:Hid (qW w8 (p.take (k+1)) (n8,0) (g2,off2+j*3)):=ah (by
    rw[rJ.out];refine qW.snoc HD.out ⟨g2,off2,x.kids.length,xc,x2,?_⟩;rfl)
   have Di:Hid (LU B1 w8 (g2,off2+j*3) (tg x.kids j)):=ah ⟨ya,yc,r0,by rw[Nat.add_assoc];exact r1,by rw[Nat.add_assoc];exact r2,hy⟩;have u0:(0:Int)<=(j:Int):=by omega
   have u1:(j:Int)< (x.kids.length:Int):=by omega
   clear x0 x1 hx hat yF r0 r1 r2 hy rJ HD HX hd htk hj0 hs2 HS
   go_wp2_with fail
   go_roundg (p.length- (k+1))
   case measure=>omega
   case rel=>exact⟨k+1,(g2,off2+j*3),tg x.kids j,rfl,by go_num,rfl,by omega,HS2,HD2,Di,rfl⟩
  .obtain rfl:k=p.length:=by omega
   have z2:decide ((p.length:Int)< (p.length:Int))=false:=dF (by omega);have hdd:=HD.out;rw[List.take_length] at hdd;obtain⟨o,ho⟩: ∃o,putAt t p u=o:=⟨_,rfl⟩
   have GR:=ah ho;have hos:=I5 u p t lM.out;rw[ho] at hos HF;have HOS:=ah (show o.size<=200000 by omega);have hput:=acP (y:=u) (u:= .slice ua u.kids.length uc) (S:=R) (w:=w8) KD.out Ja.out (fun h=>by have:=(HBF.out _ h).2;have:=HN8.out;omega) (HU.out.ext H7.out) (fun k hk=>⟨fun h=>by have h1:=(HBF.out k h).1;have h2:=HRR.out k hk;omega,fun e=>by have h2:=HRR.out k hk;have h3:=HN8.out;have h4:=L_.out;omega⟩) lM.out hdd;rw[GR.out] at hput;obtain⟨WX,⟨cur,hcur,hcb⟩,u',hbox,hkids⟩:=hput;obtain⟨oa,oc,hou⟩:=hkids.shape;subst hou;have Mc:Hid (w.heap.size+3<=cb):=ah (by
    rcases WX with h|h
    .have h1:=L_.out;have h2:=HN8.out;dsimp only at h;omega
    .exact (HBF.out _ h).1)
   have jS:Hid ((((w8.setCell ⟨cb,co,none⟩ (.string u.name)).setCell ⟨cb,co+1,none⟩ (.string u.sort)).setCell ⟨cb,co+2,none⟩ (.slice ua u.kids.length uc)).heap[n8]?=some (tO o oa oc)):=ah hbox;have HKD:Hid (aI (fun k=>B1 k\/R k) (((w8.setCell ⟨cb,co,none⟩ (.string u.name)).setCell ⟨cb,co+1,none⟩ (.string u.sort)).setCell ⟨cb,co+2,none⟩ (.slice ua u.kids.length uc)) o.kids (.slice oa o.kids.length oc)):=ah hkids;have OV:Hid (aC (fun k=>k=cb) w8 (((w8.setCell ⟨cb,co,none⟩ (.string u.name)).setCell ⟨cb,co+1,none⟩ (.string u.sort)).setCell ⟨cb,co+2,none⟩ (.slice ua u.kids.length uc))):=ah (vX w8 (cb,co) u.name u.sort (.slice ua u.kids.length uc));have m0:w8.cell? ⟨cb,co,none⟩=some (cur[co]'(by simp only at hcb;omega)):=aj hcur co _ (Array.getElem?_eq_getElem _);have m1:w8.cell? ⟨cb,co+1,none⟩=some (cur[co+1]'(by simp only at hcb;omega)):=aj hcur (co+1) _ (Array.getElem?_eq_getElem _);have m2:w8.cell? ⟨cb,co+2,none⟩=some (cur[co+2]'(by simp only at hcb;omega)):=aj hcur (co+2) _ (Array.getElem?_eq_getElem _);have fz:=fun i=>aA hcur i;generalize cur[co]'(by simp only at hcb;omega)=v0 at m0;generalize cur[co+1]'(by simp only at hcb;omega)=v1 at m1;generalize cur[co+2]'(by simp only at hcb;omega)=v2 at m2;obtain⟨l0,l1,l2⟩:=ak akR.out;clear hbox hkids WX hcur hcb Ja KD hdd ho hos HS HX HD
   go_upto_region 9 with fail
   generalize jd:(((w8.setCell ⟨cb,co,none⟩ (.string u.name)).setCell ⟨cb,co+1,none⟩ (.string u.sort)).setCell ⟨cb,co+2,none⟩ (.slice ua u.kids.length uc))=w9 at*;clear jd m0 m1 m2 fz l0 l1 l2;have H9:Hid (Ext w w9):=ah (H7.out.trans' OV.out (fun j hj e=>by have:=Mc.out;omega));have ael:=ah (OV.out.heap aei.out (fun e=>by have:=Mc.out;omega));have HKF:Hid (aI (fun k=>(k≠w.heap.size+2/\w.heap.size<=k/\k<w9.heap.size)\/R k) w9 o.kids (.slice oa o.kids.length oc)):=ah (HKD.out.weaken (fun k hk=>by
    have h1:=OV.out.size;have h2:=HZ7.out;rcases hk with hk|hk
    .exact .inl (by have:=HBF.out k hk;omega)
    .exact .inr hk))
   have zi:=ah (Au o _ w9 (OT.out _ H9.out) ⟨oa,oc,rfl,HKF.out.weaken (fun k hk=>hk.elim (fun h=>h.2.2) (fun h=>aF (HRR.out k h) H9.out.size))⟩ (by have:=HOS.out;omega));dsimp only[tV] at zi;obtain⟨FO,hFO⟩: ∃b,wf aJ o=b:=⟨_,rfl⟩
   rw[hFO] at zi;have Md:Hid (F=if FO=true then(o,0) else(cZ,4)):=ah (by rw[HF.out,hFO]);clear hFO HF HKD H7 aei OV Jb;obtain⟨k0,k1,k2⟩:=ak jS.out
   go_wp2_with fail
   refine zi.out.mono ?_;rintro e wa ⟨rfl,AU⟩;have Ha:=ah (H9.out.trans AU);have KE:=ah (AU.heap ael.out (fun h=>h));have akS:=ah (AU.heap jS.out (fun h=>h));have akT:=ah (HKF.out.ext AU);have rO:=ah AU.size;clear AU k0 k1 k2 zi ael jS H9;cases FO
   .have HV:Hid (F=(cZ,4)):=ah (by rw[Md.out,if_neg (by simp)]);have f2:=fun i=>aA KE.out i;obtain⟨d0,d1,d2⟩:=ak KE.out
    go_wp2_with fail
    have hr:=aN KE.out (.string ⟨#[]⟩) (.string ⟨#[]⟩) (.slice none 0 0);have hu:=aK wa (w.heap.size+2) (.string ⟨#[]⟩) (.string ⟨#[]⟩) (.slice none 0 0);obtain⟨e0,e1,e2⟩:=ak hr;refine bodyPost_ret (v:= .tuple #[.agg #[.string ⟨#[]⟩,.string ⟨#[]⟩,.slice none 0 0],.int .i64 4]) (by simp[results,Tryz.results120,go_sem,e0,e1,e2]) rfl ⟨.slice none 0 0,by rw[HV.out];rfl,by rw[HV.out];exact aI.nil _ _,Ha.out.trans' hu (fun j hj e=>by omega)⟩
   .have HV:Hid (F=(o,0)):=ah (by rw[Md.out,if_pos rfl]);obtain⟨k0,k1,k2⟩:=ak akS.out;have f2:=fun i=>aA KE.out i;obtain⟨d0,d1,d2⟩:=ak KE.out
    go_wp2_with fail
    have hr:=aN KE.out (.string o.name) (.string o.sort) (.slice oa o.kids.length oc);have hu:=aK wa (w.heap.size+2) (.string o.name) (.string o.sort) (.slice oa o.kids.length oc);obtain⟨e0,e1,e2⟩:=ak hr;refine bodyPost_ret (v:= .tuple #[.agg #[.string o.name,.string o.sort,.slice oa o.kids.length oc],.int .i64 0]) (by simp[results,Tryz.results120,go_sem,e0,e1,e2]) rfl ⟨.slice oa o.kids.length oc,by rw[HV.out],?_,Ha.out.trans' hu (fun j hj e=>by omega)⟩;rw[HV.out];exact(akT.out.kept hu (fun k hk e=>hk.elim (fun h=>h.1 e) (fun h=>by have:=HRR.out k h;omega))).weaken (fun k hk=>hk.elim (fun h=> .inl ⟨h.2.1,aF h.2.2 (Nat.le_trans rO.out hu.size)⟩) .inr)
section
open Go.Sort Go.Proofs Go.ChangeMaps
theorem adx (x y p q u:Tm) (xa ya pa qa:Option Addr) (xc yc pc qc:Nat) (xp:List Int) (pv:Value) (B2:Nat->Prop) (w:World) (htab:dN w) (hx:aI (fun k=>k<w.heap.size) w x.kids (.slice xa x.kids.length xc)) (hy:aI (fun k=>k<w.heap.size) w y.kids (.slice ya y.kids.length yc)) (hp:aP 24 w B2 p.kids (.slice pa p.kids.length pc)) (hB2: ∀k,B2 k->k<w.heap.size) (hq:aI (fun k=>k<w.heap.size) w q.kids (.slice qa q.kids.length qc)) (hpv:rV (fun k=>k<w.heap.size) w pv xp) (hpl:xp.length<=1000) (hsx:x.size<=1000) (hsy:y.size<=1000) (LQ:q.size<=1000) (hat:Dj x xp=(u,0)) (Bs:List Bd) (pk rt pt lf:Tm) (path:List Nat) (jw:xp=path.map fun j:Nat=>(j:Int)) (hpk:Fe aJ Bs x=(pk,0)) (hrt:Fe aJ Bs y=(rt,0)) (hpt:Fe aJ Bs q=(pt,0)) (hlf:gJ pk path pt=(lf,0)) (hok:qM pk path) (hBl:Bs.length<=1000) (hBs: ∀b∈Bs,b.2.2.size<=1000) (hks:pk.size<=1000) (hts:pt.size<=1000) (hU: ∀W,Ext w W->∀(B1 B2:Nat->Prop) (va vb:Value),aP 24 W B1 u.kids va->aP 24 W B2 p.kids vb->(∀k,B1 k->¬B2 k)->(∀k,B1 k->k<W.heap.size)->(∀k,B2 k->k<W.heap.size)->dN W->Calls Tryz.prog 17 #[tV u va,tV p vb] W fun e w'=> ∃ra rc,e= .returned (.tuple #[.slice ra Bs.length rc,.int .i64 0])/\iM (fun k=>W.heap.size<=k/\k<w'.heap.size) (fun k=>W.heap.size<=k/\k<w'.heap.size) w' (.slice ra Bs.length rc) Bs/\Ext W w'):
  Calls Tryz.prog 164 #[.agg #[.string x.name,.string x.sort,.slice xa x.kids.length xc,.string y.name,.string y.sort,.slice ya y.kids.length yc],.agg #[.string p.name,.string p.sort,.slice pa p.kids.length pc,.string q.name,.string q.sort,.slice qa q.kids.length qc],pv] w fun e w'=> ∃ka kc za zc ra rc,e= .returned (.tuple #[.agg #[.string pk.name,.string pk.sort,.slice ka pk.kids.length kc,.string lf.name,.string lf.sort,.slice za lf.kids.length zc,.string rt.name,.string rt.sort,.slice ra rt.kids.length rc,.int .i64 0,.int .i64 0,pv],.int .i64 0])/\aI (fun k=>k<w'.heap.size) w' pk.kids (.slice ka pk.kids.length kc)/\aI (fun k=>k<w'.heap.size) w' lf.kids (.slice za lf.kids.length zc)/\aI (fun k=>k<w'.heap.size) w' rt.kids (.slice ra rt.kids.length rc)/\Ext w w':=by
 have HAT:=ah (fun W (hW:Ext w W)=>ab6 x xp (tV x (.slice xa x.kids.length xc)) pv (fun k=>k<w.heap.size) (fun k=>k<w.heap.size) W ⟨xa,xc,rfl,hx.ext hW⟩ (fun k hk=>aF hk hW.size) (aG.kept hpv hW (fun _ _ h=>h)) (aS htab hW) (by omega) (by omega));rw[hat] at HAT;have HPV:=ah hpv;have HTAB:=ah htab;have HP2:=ah hp;have HB2:=ah hB2;have Qs:=ah (And.intro hx (And.intro hy hq));have bU:=ah (And.intro hsx (And.intro hsy LQ));have nS:=ah hpl;have Et:=ah (fun(z zz:Tm) (hz:Fe aJ Bs z=(zz,0)) (hzs:z.size<=1000) (vB zv:Value) W (hW:Ext w W) (hB:iM (fun k=>k<W.heap.size) (fun k=>k<W.heap.size) W vB Bs) (hT:bQ (fun k=>k<W.heap.size) W z zv)=>show _ from by
  have h9:=ZG Bs z vB zv W (aS htab hW) hB hT (by omega) (fun b hb=>by have:=hBs b hb;omega) (by omega);rw[hz] at h9;exact h9)
 have hpp:path.length<=1000000:=by
  have:xp.length=path.length:=by rw[jw,List.length_map]
  omega
 have X7:=ah (fun(kv tv qv:Value) (R:Nat->Prop) W (hW:Ext w W) (hK:bQ (fun k=>k<W.heap.size) W pk kv) (hT:bQ R W pt tv) (hR: ∀k,R k->k<W.heap.size) (hP:aG (fun k=>k<W.heap.size) W 1 qv path.length (path.map fun i:Nat=>Value.int .i64 (i:Int)))=>show _ from by
  have h9:=UK pk pt path kv tv qv (fun k=>k<W.heap.size) R (fun k=>k<W.heap.size) W hK hT (fun k hk=>hk) hR hP hok (aS htab hW) (by omega) (by omega) hpp;rw[hlf] at h9;exact h9)
 have agZ:=ah (fun vB zv W hW hB hT=>Et.out x pk hpk hsx vB zv W hW hB hT);have ag0:=ah (Et.out y rt hrt hsy);have ag1:=ah (Et.out q pt hpt LQ);have hlenp:xp.length=path.length:=by rw[jw,List.length_map]
 have ab8:xp.map (Value.int .i64)=path.map (fun i:Nat=>Value.int .i64 (i:Int)):=by rw[jw,List.map_map];rfl
 have uf:Hid (aG (fun k=>k<w.heap.size) w 1 pv path.length (path.map fun i:Nat=>Value.int .i64 (i:Int))):=ah (by rw[<-hlenp,<-ab8];exact hpv);clear Et jw hpk hrt hpt hlf hok hBl hBs hks hts hlenp ab8;obtain⟨va,vc,rfl⟩:=hpv.shape;have hE:=(((uR w).alloc (.cells #[.string x.name,.string x.sort,.slice xa x.kids.length xc,.string y.name,.string y.sort,.slice ya y.kids.length yc] 146)).alloc (.cells #[.string p.name,.string p.sort,.slice pa p.kids.length pc,.string q.name,.string q.sort,.slice qa q.kids.length qc] 146)).alloc (.cells #[.string ⟨#[]⟩,.string ⟨#[]⟩,.slice none 0 0,.string ⟨#[]⟩,.string ⟨#[]⟩,.slice none 0 0,.string ⟨#[]⟩,.string ⟨#[]⟩,.slice none 0 0,.int .i64 0,.int .i64 0,.slice none 0 0] 152);have HE:=ah hE;have HB0:=ah (aB (aB (ay w (.cells #[.string x.name,.string x.sort,.slice xa x.kids.length xc,.string y.name,.string y.sort,.slice ya y.kids.length yc] 146)) (.cells #[.string p.name,.string p.sort,.slice pa p.kids.length pc,.string q.name,.string q.sort,.slice qa q.kids.length qc] 146)) (.cells #[.string ⟨#[]⟩,.string ⟨#[]⟩,.slice none 0 0,.string ⟨#[]⟩,.string ⟨#[]⟩,.slice none 0 0,.string ⟨#[]⟩,.string ⟨#[]⟩,.slice none 0 0,.int .i64 0,.int .i64 0,.slice none 0 0] 152));have HB1:=ah (aB (alloc_at (w.alloc (.cells #[.string x.name,.string x.sort,.slice xa x.kids.length xc,.string y.name,.string y.sort,.slice ya y.kids.length yc] 146)) (.cells #[.string p.name,.string p.sort,.slice pa p.kids.length pc,.string q.name,.string q.sort,.slice qa q.kids.length qc] 146) (n:=w.heap.size+1) (by simp)) (.cells #[.string ⟨#[]⟩,.string ⟨#[]⟩,.slice none 0 0,.string ⟨#[]⟩,.string ⟨#[]⟩,.slice none 0 0,.string ⟨#[]⟩,.string ⟨#[]⟩,.slice none 0 0,.int .i64 0,.int .i64 0,.slice none 0 0] 152));have MX:=ah (alloc_at ((w.alloc (.cells #[.string x.name,.string x.sort,.slice xa x.kids.length xc,.string y.name,.string y.sort,.slice ya y.kids.length yc] 146)).alloc (.cells #[.string p.name,.string p.sort,.slice pa p.kids.length pc,.string q.name,.string q.sort,.slice qa q.kids.length qc] 146)) (.cells #[.string ⟨#[]⟩,.string ⟨#[]⟩,.slice none 0 0,.string ⟨#[]⟩,.string ⟨#[]⟩,.slice none 0 0,.string ⟨#[]⟩,.string ⟨#[]⟩,.slice none 0 0,.int .i64 0,.int .i64 0,.slice none 0 0] 152) (n:=w.heap.size+2) (by simp));have hz:w.heap.size+3<=(((w.alloc (.cells #[.string x.name,.string x.sort,.slice xa x.kids.length xc,.string y.name,.string y.sort,.slice ya y.kids.length yc] 146)).alloc (.cells #[.string p.name,.string p.sort,.slice pa p.kids.length pc,.string q.name,.string q.sort,.slice qa q.kids.length qc] 146)).alloc (.cells #[.string ⟨#[]⟩,.string ⟨#[]⟩,.slice none 0 0,.string ⟨#[]⟩,.string ⟨#[]⟩,.slice none 0 0,.string ⟨#[]⟩,.string ⟨#[]⟩,.slice none 0 0,.int .i64 0,.int .i64 0,.slice none 0 0] 152)).heap.size:=by simp
 have HS:=ah hz;obtain⟨x0,x1,x2,x3,x4,x5⟩:=fA HB0.out;dsimp only[tV] at HAT hU⊢;have HU:=ah hU;clear hE hz hx hy hp hB2 hq htab hsx hsy LQ hat hpl hpv hU
 go_enter Tryz.func164,Tryz.ntmps164
 go_wp2_with fail
 generalize (((w.alloc (.cells #[.string x.name,.string x.sort,.slice xa x.kids.length xc,.string y.name,.string y.sort,.slice ya y.kids.length yc] 146)).alloc (.cells #[.string p.name,.string p.sort,.slice pa p.kids.length pc,.string q.name,.string q.sort,.slice qa q.kids.length qc] 146)).alloc (.cells #[.string ⟨#[]⟩,.string ⟨#[]⟩,.slice none 0 0,.string ⟨#[]⟩,.string ⟨#[]⟩,.slice none 0 0,.string ⟨#[]⟩,.string ⟨#[]⟩,.slice none 0 0,.int .i64 0,.int .i64 0,.slice none 0 0] 152))=w1 at*;refine(HAT.out _ HE.out).mono ?_;rintro e w3 ⟨r,B1,rfl,QW,hB1,hw3⟩;obtain⟨ua,uc,hr⟩:=aP.shape QW;subst hr;have hX:=hw3.alloc (tO u ua uc);have aY:=ah (HE.out.trans hX);have rF:=ah (hX.heap HB0.out (fun h=>h));have lH:=ah (hX.heap HB1.out (fun h=>h));have QX:=ah (hX.heap MX.out (fun h=>h));have fH:=ah (ay w3 (tO u ua uc));have Yt:=ah (QW.kept ((uR w3).alloc (tO u ua uc)) (fun _ _ h=>h));have I9:Hid (∀j,B1 j->w.heap.size+3<=j/\j< (w3.alloc (tO u ua uc)).heap.size):=ah (fun j hj=>⟨Nat.le_trans HS.out (hB1 j hj).1,aF (hB1 j hj).2 ((uR w3).alloc (tO u ua uc)).size⟩);have fU:Hid (w.heap.size+3<=w3.heap.size):=ah (Nat.le_trans HS.out hw3.size);clear QW hB1 hw3 hX HAT HE HB0 HB1 MX HS x0 x1 x2 x3 x4 x5;dsimp only;obtain⟨nb,hnb⟩: ∃n,w3.heap.size=n:=⟨_,rfl⟩
 rw[hnb] at fH fU;obtain⟨x0,x1,x2,x3,x4,x5⟩:=fA lH.out;obtain⟨m0,m1,m2⟩:=ak fH.out
 go_wp2_with fail
 try rw[hnb]
 generalize w3.alloc (tO u ua uc)=w4 at*;clear hnb;have Yu:=HU.out w4 aY.out B1 B2 _ _ Yt.out (HP2.out.kept aY.out (fun _ _ h=>h)) (fun k h1 h2=>by have:=(I9.out k h1).1;have:=HB2.out k h2;omega) (fun k h1=>(I9.out k h1).2) (fun k h2=>aF (HB2.out k h2) aY.out.size) (aS HTAB.out aY.out);refine Yu.mono ?_;rintro e w5 ⟨sa,sc,rfl,hBn,hw5⟩;have h_:=ah hw5;have dA:=ah (aY.out.trans hw5);have qm:=ah (hw5.heap rF.out (fun h=>h));have eY:=ah (hw5.heap lH.out (fun h=>h));have Ll:=ah (hw5.heap QX.out (fun h=>h));have o8:=ah hBn;have nO:Hid (w.heap.size+3<=w4.heap.size/\w4.heap.size<=w5.heap.size):=ah ⟨by have:=(Array.getElem?_eq_some_iff.1 fH.out).1;have:=fU.out;omega,hw5.size⟩;clear hw5 hBn Yu aY rF lH QX fH Yt I9 fU x0 x1 x2 x3 x4 x5 m0 m1 m2 HU HP2 HB2;have Bo:=(uR w5).alloc (.cells #[.string ⟨#[]⟩,.string ⟨#[]⟩,.slice none 0 0,.string ⟨#[]⟩,.string ⟨#[]⟩,.slice none 0 0,.string ⟨#[]⟩,.string ⟨#[]⟩,.slice none 0 0,.int .i64 0,.int .i64 0,.slice va xp.length vc] 152);have fV:=ah (dA.out.trans Bo);have aal:=ah (Bo.heap qm.out (fun h=>h));have ag2:=ah (Bo.heap eY.out (fun h=>h));have ag3:=ah (Bo.heap Ll.out (fun h=>h));have OQ:=ah (ay w5 (.cells #[.string ⟨#[]⟩,.string ⟨#[]⟩,.slice none 0 0,.string ⟨#[]⟩,.string ⟨#[]⟩,.slice none 0 0,.string ⟨#[]⟩,.string ⟨#[]⟩,.slice none 0 0,.int .i64 0,.int .i64 0,.slice va xp.length vc] 152));have VT:Hid (iM (fun k=>w4.heap.size<=k/\k<w5.heap.size) (fun k=>w4.heap.size<=k/\k<w5.heap.size) (w5.alloc (.cells #[.string ⟨#[]⟩,.string ⟨#[]⟩,.slice none 0 0,.string ⟨#[]⟩,.string ⟨#[]⟩,.slice none 0 0,.string ⟨#[]⟩,.string ⟨#[]⟩,.slice none 0 0,.int .i64 0,.int .i64 0,.slice va xp.length vc] 152)) (.slice sa Bs.length sc) Bs):=ah (o8.out.ext Bo);have h56:w5.heap.size< (w5.alloc (.cells #[.string ⟨#[]⟩,.string ⟨#[]⟩,.slice none 0 0,.string ⟨#[]⟩,.string ⟨#[]⟩,.slice none 0 0,.string ⟨#[]⟩,.string ⟨#[]⟩,.slice none 0 0,.int .i64 0,.int .i64 0,.slice va xp.length vc] 152)).heap.size:=by simp
 have Yv:=ah h56;obtain⟨bn,hbn⟩: ∃n,w5.heap.size=n:=⟨_,rfl⟩
 rw[hbn] at OQ nO Yv VT;clear Bo dA qm eY Ll o8 h_ h56;obtain⟨x0,x1,x2,x3,x4,x5⟩:=fA aal.out
 go_wp2_with fail
 try rw[hbn]
 generalize w5.alloc (.cells #[.string ⟨#[]⟩,.string ⟨#[]⟩,.slice none 0 0,.string ⟨#[]⟩,.string ⟨#[]⟩,.slice none 0 0,.string ⟨#[]⟩,.string ⟨#[]⟩,.slice none 0 0,.int .i64 0,.int .i64 0,.slice va xp.length vc] 152)=w6 at*;clear hbn;refine(agZ.out _ _ w6 fV.out (VT.out.weaken (fun k hk=>Nat.lt_trans hk.2 Yv.out) (fun k hk=>Nat.lt_trans hk.2 Yv.out)) ⟨xa,xc,rfl,(Qs.out.1.ext fV.out).weaken (fun k hk=>aF hk fV.out.size)⟩).mono ?_;rintro e w7 ⟨r,B7,rfl,hTk,fK,hw7⟩;obtain⟨ka,kc,hr⟩:=aP.shape hTk;subst hr;have iG:=ah (fV.out.trans hw7);have Af:=ah (hw7.heap aal.out (fun h=>h));have Iy:=ah (hw7.heap ag2.out (fun h=>h));have ag5:=ah (hw7.heap ag3.out (fun h=>h));have Oj:=ah (hw7.heap OQ.out (fun h=>h));have ag6:=ah (VT.out.ext hw7);have rJ:=ah hTk.read;have eU:=ah fK;have G8:Hid (bn<w6.heap.size/\w6.heap.size<=w7.heap.size):=ah ⟨Yv.out,hw7.size⟩;clear hTk fK hw7 agZ fV aal ag2 ag3 OQ VT x0 x1 x2 x3 x4 x5;dsimp only[tV];obtain⟨c0,c1,c2,c3,c4,c5,c6,c7,c8,c9,c10,c11⟩:=jH Oj.out;obtain⟨x0,x1,x2,x3,x4,x5⟩:=fA Af.out;have f2:=fun i=>aA Oj.out i
 go_upto_region 11 with fail
 have hc8:=Yp Oj.out (.string pk.name) (.string pk.sort) (.slice ka pk.kids.length kc);have lU:=aai w7 bn (.string pk.name) (.string pk.sort) (.slice ka pk.kids.length kc);clear c0 c1 c2 c3 c4 c5 c6 c7 c8 c9 c10 c11 f2 x0 x1 x2 x3 x4 x5;generalize ((((((w7).setCell ⟨bn,0,none⟩ (.string pk.name))).setCell ⟨bn,1,none⟩ (.string pk.sort))).setCell ⟨bn,2,none⟩ (.slice ka pk.kids.length kc))=w8 at*;have hs5:=nO.out;have HC8:=ah hc8;have dG:=ah (iG.out.trans' lU (fun j hj e=>by have:=hs5.1;omega));have VB:=ah (lU.heap Af.out (by omega));have Ae:=ah (lU.heap Iy.out (by omega));have ag7:=ah (lU.heap ag5.out (by omega));have aam:=ah (ag6.out.kept lU (fun k hk e=>by omega) (fun k hk e=>by omega));have VU:Hid (aI (fun j=>bn<j/\j<w8.heap.size) w8 pk.kids (.slice ka pk.kids.length kc)):=ah ((rJ.out.kept lU (fun j hj e=>by have:=(eU.out j hj).1;have:=G8.out;omega)).weaken (fun j hj=>⟨by have:=(eU.out j hj).1;have:=G8.out;omega,aF (eU.out j hj).2 lU.size⟩));have ig:Hid (bn<w8.heap.size):=ah (by have:=G8.out;have:=lU.size;omega);clear hc8 lU iG Af Iy ag5 Oj ag6 rJ eU G8 Yv;obtain⟨x0,x1,x2,x3,x4,x5⟩:=fA VB.out
 go_wp2_with fail
 refine(ag0.out _ _ w8 dG.out (aam.out.weaken (fun k hk=>Nat.lt_trans hk.2 ig.out) (fun k hk=>Nat.lt_trans hk.2 ig.out)) ⟨ya,yc,rfl,(Qs.out.2.1.ext dG.out).weaken (fun k hk=>aF hk dG.out.size)⟩).mono ?_;rintro e w9 ⟨r,B9,rfl,hTr,Nv,jd⟩;obtain⟨ra,rc,hr⟩:=aP.shape hTr;subst hr;have jg:=ah (dG.out.trans jd);have rE:=ah (jd.heap Ae.out (fun h=>h));have ag8:=ah (jd.heap ag7.out (fun h=>h));have HC9:=ah (jd.heap HC8.out (fun h=>h));have ag9:=ah (aam.out.ext jd);have ag_:=ah (VU.out.ext jd);have t_:=ah hTr.read;have lK:=ah Nv;have jX:Hid (bn<w8.heap.size/\w8.heap.size<=w9.heap.size):=ah ⟨ig.out,jd.size⟩;clear hTr Nv jd ag0 dG VB Ae ag7 HC8 aam VU ig x0 x1 x2 x3 x4 x5;dsimp only[tV];obtain⟨c0,c1,c2,c3,c4,c5,c6,c7,c8,c9,c10,c11⟩:=jH HC9.out;obtain⟨x0,x1,x2,x3,x4,x5⟩:=fA rE.out;have f2:=fun i=>aA HC9.out i
 go_upto_region 14 with fail
 have hc8:=Yr HC9.out (.string rt.name) (.string rt.sort) (.slice ra rt.kids.length rc);have lU:=aak w9 bn (.string rt.name) (.string rt.sort) (.slice ra rt.kids.length rc);clear c0 c1 c2 c3 c4 c5 c6 c7 c8 c9 c10 c11 f2 x0 x1 x2 x3 x4 x5;generalize ((((((w9).setCell ⟨bn,6,none⟩ (.string rt.name))).setCell ⟨bn,7,none⟩ (.string rt.sort))).setCell ⟨bn,8,none⟩ (.slice ra rt.kids.length rc))=wA at*;have HCA:=ah hc8;have oh:=ah (jg.out.trans' lU (fun j hj e=>by have:=hs5.1;omega));have zV:=ah (lU.heap rE.out (by omega));have ag':=ah (lU.heap ag8.out (by omega));have aha:=ah (ag9.out.kept lU (fun k hk e=>by omega) (fun k hk e=>by omega));have ahb:Hid (aI (fun j=>bn<j/\j<wA.heap.size) wA pk.kids (.slice ka pk.kids.length kc)):=ah ((ag_.out.kept lU (fun j hj e=>by omega)).weaken (fun j hj=>⟨hj.1,by have:=jX.out;have:=lU.size;omega⟩));have ahc:Hid (aI (fun j=>bn<j/\j<wA.heap.size) wA rt.kids (.slice ra rt.kids.length rc)):=ah ((t_.out.kept lU (fun j hj e=>by have:=(lK.out j hj).1;have:=jX.out;omega)).weaken (fun j hj=>⟨by have:=(lK.out j hj).1;have:=jX.out;omega,aF (lK.out j hj).2 lU.size⟩));have rO:Hid (bn<wA.heap.size):=ah (by have:=jX.out;have:=lU.size;omega);clear hc8 lU jg rE ag8 HC9 ag9 ag_ t_ lK jX;obtain⟨x0,x1,x2,x3,x4,x5⟩:=fA zV.out
 go_wp2_with fail
 refine(ag1.out _ _ wA oh.out (aha.out.weaken (fun k hk=>Nat.lt_trans hk.2 rO.out) (fun k hk=>Nat.lt_trans hk.2 rO.out)) ⟨qa,qc,rfl,(Qs.out.2.2.ext oh.out).weaken (fun k hk=>aF hk oh.out.size)⟩).mono ?_;rintro e wB ⟨r,B11,rfl,hTt,hBt,hwB⟩;obtain⟨ta,tc,hr⟩:=aP.shape hTt;subst hr;have hX:=hwB.alloc (tO pt ta tc);have DC:=ah (oh.out.trans hX);have ahe:=ah (hX.heap ag'.out (fun h=>h));have Yw:=ah (hX.heap HCA.out (fun h=>h));have Dl:=ah (ay wB (tO pt ta tc));have aan:=ah (ahb.out.ext hX);have ahf:=ah (ahc.out.ext hX);have HTT:=ah ((hTt.read.ext ((uR wB).alloc (tO pt ta tc))).weaken (fun j hj=>(⟨by have:=(hBt j hj).1;have:=rO.out;omega,aF (hBt j hj).2 ((uR wB).alloc (tO pt ta tc)).size⟩:bn<j/\j< (wB.alloc (tO pt ta tc)).heap.size)));have xQ:Hid (bn<wB.heap.size/\wA.heap.size<=(wB.alloc (tO pt ta tc)).heap.size):=ah ⟨by have:=rO.out;have:=hwB.size;omega,hX.size⟩;clear hTt hBt hwB hX ag1 oh zV ag' HCA aha ahb ahc rO x0 x1 x2 x3 x4 x5;dsimp only[tV];obtain⟨tn,htn⟩: ∃n,wB.heap.size=n:=⟨_,rfl⟩
 rw[htn] at Dl xQ;obtain⟨c0,c1,c2,c3,c4,c5,c6,c7,c8,c9,c10,c11⟩:=jH Yw.out;obtain⟨m0,m1,m2⟩:=ak Dl.out
 go_wp2_with fail
 try rw[htn]
 generalize wB.alloc (tO pt ta tc)=wC at*;clear htn;refine(X7.out _ _ _ (fun j=>bn<j/\j<wC.heap.size) wC DC.out ⟨ka,kc,rfl,aan.out.weaken (fun j hj=>by have:=xQ.out;omega)⟩ ⟨ta,tc,rfl,HTT.out⟩ (fun k hk=>hk.2) ((aG.kept uf.out DC.out (fun _ _ h=>h)).weaken (fun k hk=>aF hk DC.out.size))).mono ?_;rintro e wD ⟨r,rfl,hTl,hwD⟩;obtain⟨za,zc,hr⟩:=aI.shape hTl;subst hr;have FD:=ah (DC.out.trans hwD);have ahg:=ah (hwD.heap ahe.out (fun h=>h));have HCD:=ah (hwD.heap Yw.out (fun h=>h));have ahh:=ah ((aan.out.ext hwD).weaken (fun j hj=>(⟨hj.1,by have:=xQ.out;have:=hwD.size;omega⟩:bn<j/\j<wD.heap.size)));have ahi:=ah ((ahf.out.ext hwD).weaken (fun j hj=>(⟨hj.1,by have:=xQ.out;have:=hwD.size;omega⟩:bn<j/\j<wD.heap.size)));have dH:Hid (aI (fun j=>bn<j/\j<wD.heap.size) wD lf.kids (.slice za lf.kids.length zc)):=ah (hTl.weaken (fun j hj=>by
  have h1:=hwD.size;have h2:=(Array.getElem?_eq_some_iff.1 Yw.out).1;rcases hj with hj|hj<;>exact⟨by omega,by omega⟩))
 have HSD:Hid (bn<wC.heap.size/\wC.heap.size<=wD.heap.size):=ah ⟨by have:=(Array.getElem?_eq_some_iff.1 Yw.out).1;omega,hwD.size⟩;clear hTl hwD X7 DC ahe Yw Dl aan ahf HTT xQ c0 c1 c2 c3 c4 c5 c6 c7 c8 c9 c10 c11 m0 m1 m2;dsimp only[tV];obtain⟨c0,c1,c2,c3,c4,c5,c6,c7,c8,c9,c10,c11⟩:=jH HCD.out;have f2:=fun i=>aA HCD.out i
 go_upto_region 18 with fail
 have hc8:=Yq HCD.out (.string lf.name) (.string lf.sort) (.slice za lf.kids.length zc);have lU:=aaj wD bn (.string lf.name) (.string lf.sort) (.slice za lf.kids.length zc);clear c0 c1 c2 c3 c4 c5 c6 c7 c8 c9 c10 c11 f2;generalize ((((((wD).setCell ⟨bn,3,none⟩ (.string lf.name))).setCell ⟨bn,4,none⟩ (.string lf.sort))).setCell ⟨bn,5,none⟩ (.slice za lf.kids.length zc))=wE at*;have HCE:=ah hc8;have F6:=ah (FD.out.trans' lU (fun j hj e=>by have:=hs5.1;omega));have aap:=ah (lU.heap ahg.out (by omega));have alI:Hid (aI (fun j=>bn<j/\j<wE.heap.size) wE pk.kids (.slice ka pk.kids.length kc)):=ah ((ahh.out.kept lU (fun j hj e=>by omega)).weaken (fun j hj=>⟨hj.1,aF hj.2 lU.size⟩));have alJ:Hid (aI (fun j=>bn<j/\j<wE.heap.size) wE rt.kids (.slice ra rt.kids.length rc)):=ah ((ahi.out.kept lU (fun j hj e=>by omega)).weaken (fun j hj=>⟨hj.1,aF hj.2 lU.size⟩));have alK:Hid (aI (fun j=>bn<j/\j<wE.heap.size) wE lf.kids (.slice za lf.kids.length zc)):=ah ((dH.out.kept lU (fun j hj e=>by omega)).weaken (fun j hj=>⟨hj.1,aF hj.2 lU.size⟩));clear hc8 lU FD ahg HCD ahh ahi dH HSD;obtain⟨c0,c1,c2,c3,c4,c5,c6,c7,c8,c9,c10,c11⟩:=jH HCE.out;have f2:=fun i=>aA aap.out i;obtain⟨d0,d1,d2,d3,d4,d5,d6,d7,d8,d9,d10,d11⟩:=jH aap.out
 go_wp2_with fail
 have hr:=Ny aap.out (.string pk.name) (.string pk.sort) (.slice ka pk.kids.length kc) (.string lf.name) (.string lf.sort) (.slice za lf.kids.length zc) (.string rt.name) (.string rt.sort) (.slice ra rt.kids.length rc) (.int .i64 0) (.int .i64 0) (.slice va xp.length vc);have hu:=QV wE (w.heap.size+2) (.string pk.name) (.string pk.sort) (.slice ka pk.kids.length kc) (.string lf.name) (.string lf.sort) (.slice za lf.kids.length zc) (.string rt.name) (.string rt.sort) (.slice ra rt.kids.length rc) (.int .i64 0) (.int .i64 0) (.slice va xp.length vc);obtain⟨e0,e1,e2,e3,e4,e5,e6,e7,e8,e9,e10,e11⟩:=jH hr;refine bodyPost_ret (v:= .tuple #[.agg #[.string pk.name,.string pk.sort,.slice ka pk.kids.length kc,.string lf.name,.string lf.sort,.slice za lf.kids.length zc,.string rt.name,.string rt.sort,.slice ra rt.kids.length rc,.int .i64 0,.int .i64 0,.slice va xp.length vc],.int .i64 0]) (by simp[results,Tryz.results164,go_sem,e0,e1,e2,e3,e4,e5,e6,e7,e8,e9,e10,e11]) rfl ?_;have hue:=F6.out.trans' hu (fun j hj e=>by omega);have hq5:=hs5.1;exact⟨ka,kc,za,zc,ra,rc,rfl,(alI.out.kept hu (fun j hj e=>by omega)).weaken (fun j hj=>aF hj.2 hu.size),(alK.out.kept hu (fun j hj e=>by omega)).weaken (fun j hj=>aF hj.2 hu.size),(alJ.out.kept hu (fun j hj e=>by omega)).weaken (fun j hj=>aF hj.2 hu.size),hue⟩
theorem aP.typed {w:World} {B:Nat->Prop} {L:List Tm} {v:Value} (h:aP 24 w B L v):aP 24 w (fun k=>B k/\jZ w k) L v:=by
 induction h with
 |mk B L us v Bk hl hown hb hkb hrow hdis hk ih=>
  refine .mk _ L us v (fun i k=>Bk i k/\jZ w k) hl hown (fun k hk2=>⟨hb k hk2,?_⟩) (fun i k hi hk2=>⟨hkb i k hi hk2.1,hk2.2⟩) (fun i k hi hk2=>hrow i k hi hk2.1) (fun i j k hi hj hne h1 h2=>hdis i j k hi hj hne h1.1 h2.1) ih;rcases hown.2 with⟨e,_⟩|⟨g,cap,cur,e,_,h3,_⟩
  .rw [e] at hk2;cases hk2
  .rw [e] at hk2;injection hk2 with hk2
   rw[<-hk2];exact⟨_,_,h3⟩
theorem jZ.lt {W:World} {k:Nat} (h:jZ W k):k<W.heap.size:=by
 obtain⟨cs,fz,h⟩:=h;exact(Array.getElem?_eq_some_iff.1 h).1
theorem jZ.upd {W W':World} {k:Nat} {F:Nat->Prop} (h:jZ W k) (hE:aC F W W') (hF: ¬F k):jZ W' k:=by
 obtain⟨cs,fz,h⟩:=h;exact⟨cs,fz,hE.heap h hF⟩
abbrev Re:=Rl×Value×Value
abbrev vw (x:Re):List Value:=[.string x.1.1.name,.string x.1.1.sort,x.2.1,.string x.1.2.name,.string x.1.2.sort,x.2.2]
abbrev eg (L:List Re) (i:Nat):Re:=L.getD i ((default,default),tX,tX)
theorem Yx {L:List Re} {i:Nat} (h:i<L.length):eg L i=L[i]:=by unfold eg;rw[List.getD_eq_getElem?_getD,List.getElem?_eq_getElem h];rfl
theorem QY: ∀(L:List Re) (i j:Nat),i<L.length->j<6->(L.flatMap vw)[i*6+j]?=(vw (eg L i))[j]?
 |x::L,0,j,_,hj=>by
  rw[List.flatMap_cons,List.getElem?_append_left (by simpa using hj),Nat.zero_mul,Nat.zero_add];rfl
 |x::L,i+1,j,hi,hj=>by
  rw[List.flatMap_cons,List.getElem?_append_right (by show 6<=_;omega)];have e:(i+1)*6+j- (vw x).length=i*6+j:=by show(i+1)*6+j-6=_;omega
  rw[e,QY L i j (by simpa using hi) hj];rfl
def jI (n0:Nat) (W:World) (t:Tm) (u:Value):Prop:= ∃B:Nat->Prop,aP 24 W B t.kids u/\∀j,B j->n0<=j/\jZ W j
theorem jI.upd {n0:Nat} {W W':World} {t:Tm} {u:Value} {F:Nat->Prop} (h:jI n0 W t u) (hu:aC F W W') (hF: ∀k,F k->¬jZ W k):jI n0 W' t u:=by
 obtain⟨B,h1,h2⟩:=h;exact⟨B,h1.kept hu (fun k hk e=>hF k e (h2 k hk).2),fun j hj=>⟨(h2 j hj).1,(h2 j hj).2.upd hu (fun e=>hF j e (h2 j hj).2)⟩⟩
theorem jI.ext {n0:Nat} {W W':World} {t:Tm} {u:Value} (h:jI n0 W t u) (hu:Ext W W'):jI n0 W' t u:=h.upd hu (fun _ h=>h.elim)
theorem jI.of {n0:Nat} {W:World} {t:Tm} {u:Value} {B:Nat->Prop} (h:aP 24 W B t.kids u) (hB: ∀j,B j->n0<=j):jI n0 W t u:=⟨_,aP.typed h,fun j hj=>⟨hB j hj.1,hj.2⟩⟩
theorem jI.shape {n0:Nat} {W:World} {t:Tm} {u:Value} (h:jI n0 W t u): ∃a c,u= .slice a t.kids.length c:=by
 obtain⟨B,h,_⟩:=h;exact aP.shape h
structure xX (n0:Nat) (W:World) (v:Value) (L:List Re):Prop where
 own:W.ownsRow n0 146 6 v L.length (L.flatMap vw)
 tl: ∀x∈L,jI n0 W x.1.1 x.2.1/\jI n0 W x.1.2 x.2.2
theorem xX.nil (n0:Nat) (W:World):xX n0 W tX []:=⟨⟨rfl,.inl ⟨rfl,rfl⟩⟩,fun x hx=>by cases hx⟩
theorem xX.upd {n0:Nat} {W W':World} {v:Value} {L:List Re} {F:Nat->Prop} (h:xX n0 W v L) (hu:aC F W W') (hF: ∀k,v.ownBlock=some k->¬F k) (hT: ∀k,F k->¬jZ W k):xX n0 W' v L:=
 ⟨bH h.own hu hF,fun x hx=>⟨(h.tl x hx).1.upd hu hT,(h.tl x hx).2.upd hu hT⟩⟩
theorem xX.ext {n0:Nat} {W W':World} {v:Value} {L:List Re} (h:xX n0 W v L) (hu:Ext W W'):xX n0 W' v L:=h.upd hu (fun _ _ h=>h) (fun _ h=>h.elim)
theorem JU {W:World} {b n:Nat} {v:Value} {xs:List Value} (h:W.ownsRow b 146 6 v n xs) {k:Nat} (hk:v.ownBlock=some k): ¬jZ W k:=fun⟨cs,fz,h4⟩=>by
 rcases h.2 with⟨e,_⟩|⟨g,cap,cur,e,_,h3,_⟩
 .rw [e] at hk;cases hk
 .rw [e] at hk;injection hk with hk
  rw[<-hk,h3] at h4;injection h4 with h4
  injection h4 with _ h4
  cases h4
theorem xX.at_ {n0:Nat} {W:World} {a:Option Addr} {n c:Nat} {L:List Re} (h:xX n0 W (.slice a n c) L) (hl:0<L.length): ∃g off,a=some ⟨g,off,none⟩/\∀i,i<L.length->∃xa xc ya yc,(eg L i).2.1= .slice xa (eg L i).1.1.kids.length xc/\(eg L i).2.2= .slice ya (eg L i).1.2.kids.length yc/\jI n0 W (eg L i).1.1 (.slice xa (eg L i).1.1.kids.length xc)/\jI n0 W (eg L i).1.2 (.slice ya (eg L i).1.2.kids.length yc)/\
  W.cell? ⟨g,off+i*6,none⟩=some (.string (eg L i).1.1.name)/\W.cell? ⟨g,off+i*6+1,none⟩=some (.string (eg L i).1.1.sort)/\W.cell? ⟨g,off+i*6+2,none⟩=some (.slice xa (eg L i).1.1.kids.length xc)/\W.cell? ⟨g,off+i*6+3,none⟩=some (.string (eg L i).1.2.name)/\W.cell? ⟨g,off+i*6+4,none⟩=some (.string (eg L i).1.2.sort)/\W.cell? ⟨g,off+i*6+5,none⟩=some (.slice ya (eg L i).1.2.kids.length yc):=by
 obtain⟨g,off,cap,e,_,_,hj⟩:=aG.pos (aG.fM h.own) hl;injection e with e e2 e3
 refine⟨g,off,e,fun i hi=>?_⟩;have hm:eg L i∈L:=by rw[Yx hi];exact List.getElem_mem hi
 obtain⟨h1,h2⟩:=h.tl _ hm;obtain⟨xa,xc,ex⟩:=h1.shape;obtain⟨ya,yc,ey⟩:=h2.shape;have hc: ∀j,j<6->W.cell? ⟨g,off+i*6+j,none⟩=(vw (eg L i))[j]?:=fun j hj6=>by
  rw[Nat.add_assoc,hj _ (by omega),QY L i j hi hj6]
 have h0:=hc 0 (by decide);rw[Nat.add_zero] at h0;rw[ex] at h1;rw[ey] at h2;exact⟨xa,xc,ya,yc,ex,ey,h1,h2,h0,hc 1 (by decide),(hc 2 (by decide)).trans (congrArg some ex),hc 3 (by decide),hc 4 (by decide),(hc 5 (by decide)).trans (congrArg some ey)⟩
abbrev Cp:=Tm×Tm×Tm×Nat×Nat×List Nat
def OvP (res:Option (Tm×Tm×Tm)) (pv:Value) (w':World) (e:Ending):Prop:=match res with
 |none=>e= .returned (.tuple #[.agg #[.string ⟨#[]⟩,.string ⟨#[]⟩,.slice none 0 0,.string ⟨#[]⟩,.string ⟨#[]⟩,.slice none 0 0,.string ⟨#[]⟩,.string ⟨#[]⟩,.slice none 0 0,.int .i64 0,.int .i64 0,.slice none 0 0],.int .i64 12])
 |some r=> ∃ka kc za zc ra rc,e= .returned (.tuple #[.agg #[.string r.1.name,.string r.1.sort,.slice ka r.1.kids.length kc,.string r.2.1.name,.string r.2.1.sort,.slice za r.2.1.kids.length zc,.string r.2.2.name,.string r.2.2.sort,.slice ra r.2.2.kids.length rc,.int .i64 0,.int .i64 0,pv],.int .i64 0])/\aI (fun k=>k<w'.heap.size) w' r.1.kids (.slice ka r.1.kids.length kc)/\aI (fun k=>k<w'.heap.size) w' r.2.1.kids (.slice za r.2.1.kids.length zc)/\aI (fun k=>k<w'.heap.size) w' r.2.2.kids (.slice ra r.2.2.kids.length rc)
def JV (o r:Rl) (p:List Nat) (res:Option (Tm×Tm×Tm)):Prop:= ∀(xa ya pa qa:Option Addr) (xc yc pc qc:Nat) (pv:Value) (B2:Nat->Prop) (W:World),dN W->aI (fun k=>k<W.heap.size) W o.1.kids (.slice xa o.1.kids.length xc)->aI (fun k=>k<W.heap.size) W o.2.kids (.slice ya o.2.kids.length yc)->aP 24 W B2 r.1.kids (.slice pa r.1.kids.length pc)->(∀k,B2 k->k<W.heap.size)->aI (fun k=>k<W.heap.size) W r.2.kids (.slice qa r.2.kids.length qc)->rV (fun k=>k<W.heap.size) W pv (p.map fun j:Nat=>(j:Int))->
  Calls Tryz.prog 164 #[.agg #[.string o.1.name,.string o.1.sort,.slice xa o.1.kids.length xc,.string o.2.name,.string o.2.sort,.slice ya o.2.kids.length yc],.agg #[.string r.1.name,.string r.1.sort,.slice pa r.1.kids.length pc,.string r.2.name,.string r.2.sort,.slice qa r.2.kids.length qc],pv] W fun e w'=>OvP res pv w' e/\Ext W w'
def Yy (ov:Nat->List Nat->Nat->Option (Tm×Tm×Tm)) (i:Nat) (p:List Nat) (k:Nat) (acc:Option Cp):Option (Option Cp):=if p.length=0/\k<=i then some acc else match ov i p k with
 |none=>some acc
 |some r=>match acc with
  |none=>some (some (r.1,r.2.1,r.2.2,i,k,p))
  |some _=>none
def JW (ov:Nat->List Nat->Nat->Option (Tm×Tm×Tm)) (i:Nat) (p:List Nat):Nat->Nat->Option Cp->Option (Option Cp)
 |0,_,acc=>some acc
 |m+1,k,acc=>(Yy ov i p k acc).bind (JW ov i p m (k+1))
def JX (ov:Nat->List Nat->Nat->Option (Tm×Tm×Tm)) (i n:Nat):List (List Nat)->Option Cp->Option (Option Cp)
 |[],acc=>some acc
 |p::ps,acc=>(JW ov i p n 0 acc).bind (JX ov i n ps)
def JY (ov:Nat->List Nat->Nat->Option (Tm×Tm×Tm)) (fs:List Rl) (n:Nat):Nat->Nat->Option Cp->Option (Option Cp)
 |0,_,acc=>some acc
 |m+1,i,acc=>(JX ov i n (jo (rg fs i).1 []) acc).bind (JY ov fs n m (i+1))
def F7 (W:World) (v:Value) (acc:Option Cp):Prop:=match acc with
 |none=>v= .slice none 0 0
 |some c=> ∃g cap ka kc za zc ra rc qa qc,v= .slice (some ⟨g,0,none⟩) 1 cap/\(∀j u,[.string c.1.name,.string c.1.sort,.slice ka c.1.kids.length kc,.string c.2.1.name,.string c.2.1.sort,.slice za c.2.1.kids.length zc,.string c.2.2.1.name,.string c.2.2.1.sort,.slice ra c.2.2.1.kids.length rc,.int .i64 (c.2.2.2.1:Int),.int .i64 (c.2.2.2.2.1:Int),.slice qa c.2.2.2.2.2.length qc][j]?=some u->W.cell? ⟨g,j,none⟩=some u)/\aI (fun k=>k<W.heap.size) W c.1.kids (.slice ka c.1.kids.length kc)/\aI (fun k=>k<W.heap.size) W c.2.1.kids (.slice za c.2.1.kids.length zc)/\aI (fun k=>k<W.heap.size) W c.2.2.1.kids (.slice ra c.2.2.1.kids.length rc)/\aG (fun k=>k<W.heap.size) W 1 (.slice qa c.2.2.2.2.2.length qc) c.2.2.2.2.2.length (c.2.2.2.2.2.map (fun i:Nat=>Value.int .i64 (i:Int)))
theorem F7.ext {W W':World} {v:Value} {acc:Option Cp} (h:F7 W v acc) (hE:Ext W W'):F7 W' v acc:=by
 cases acc with
 |none=>exact h
 |some c=>
  obtain⟨g,cap,ka,kc,za,zc,ra,rc,qa,qc,h1,h2,h3,h4,h5,h6⟩:=h;exact⟨g,cap,ka,kc,za,zc,ra,rc,qa,qc,h1,fun j u hj=>hE.cell (h2 j u hj) (fun h=>h),(h3.ext hE).weaken (fun k hk=>aF hk hE.size),(h4.ext hE).weaken (fun k hk=>aF hk hE.size),(h5.ext hE).weaken (fun k hk=>aF hk hE.size),(aG.kept h6 hE (fun _ _ h=>h)).weaken (fun k hk=>aF hk hE.size)⟩
theorem afN {B:List Bd} {n:By} (h:bJ B n=none):uY B n= -1:=by
 unfold bJ at h;have h1:B.findIdx? (fun b=>decide (b.1=n))=none:=by
  rw[List.findIdx?_eq_none_iff];intro b hb;cases hf:B.find? (fun b=>decide (b.1=n)) with
  |some c=>rw[hf] at h;cases h
  |none=>exact by simpa using List.find?_eq_none.1 hf b hb
 unfold uY;rw[h1]
theorem afO {B:List Bd} {n:By} (h:(bJ B n).isSome=true): ∃i:Nat,i<B.length/\uY B n=(i:Int)/\bJ B n=some (Go.Hw.bg B i).2.2/\u_ B n=some (Go.Hw.bg B i).2.1:=by
 cases hf:B.findIdx? (fun b=>decide (b.1=n)) with
 |none=>
  rw[List.findIdx?_eq_none_iff] at hf;obtain⟨T,hT⟩:=Option.isSome_iff_exists.1 h;obtain⟨b,hb,h1,_⟩:=tH hT;have:=hf b hb;simp[h1] at this
 |some i=>
  have h2:=List.findIdx?_eq_some_iff_getElem.1 hf;obtain⟨hi,h3,h4⟩:=h2;have h5:B.find? (fun b=>decide (b.1=n))=some B[i]:=by
   rw[List.find?_eq_some_iff_getElem];exact⟨h3,i,hi,rfl,fun j hj=>by have:=h4 j hj;simpa using this⟩
  refine⟨i,hi,by unfold uY;rw[hf],?_,?_⟩
  .unfold bJ;rw[h5,uZ hi];rfl
  .unfold u_;rw[h5,uZ hi];rfl
theorem Qm (t:Tm) (u:Value) (T:Nat->Prop) (w:World) (hT:bQ T w t u) (hw:wf aJ t=true):Calls Tryz.prog 136 #[u] w fun e w'=> ∃r,e= .returned r/\dL (fun k=>False\/w.heap.size<=k) w' r (aV t)/\Ext w w':=by
 have hv:(dO [] (vl (bC t))).2=true:=by
  rw[Oo];unfold wf at hw;rw[Bool.and_eq_true] at hw;exact hw.2
 have iO:=ah (fun W (hW:Ext w W)=>Wv t [] (.slice none 0 0) u (fun _=>False) T W (hT.ext hW) (aG.nil _ _ 2) (D6 (zo hw)) (by have:=qG hw;show 0+t.size<=100000;omega));have HVV:=ah hv;obtain⟨a,cap,rfl,_⟩:=hT;have HZ:=ah ((uR w).alloc (tO t a cap));have HB:=ah (ay w (tO t a cap));dsimp only[tV] at iO⊢;obtain⟨t0,t1,t2⟩:=ak HB.out;rw[hv] at iO;have HVT:Hid ((dO [] (vl (bC t))).1=aV t):=ah rfl;rw[HVT.out] at iO;generalize aV t=L at*;clear hv hw
 go_enter Tryz.func136,Tryz.ntmps136
 go_wp2_with fail
 refine(iO.out _ HZ.out).mono ?_;rintro e w4 ⟨r,rfl,hr,hw4⟩;have H4:=ah (HZ.out.trans hw4);have HR:Hid (dL (fun k=>False\/w.heap.size<=k) w4 r L):=ah ((hr (by simp)).weaken (fun k hk=>hk.elim .inl (fun h=> .inr (Nat.le_trans HZ.out.size h))));obtain⟨ra,rc,GI⟩:=HR.out.shape;subst GI;clear hr hw4 t0 t1 t2
 go_wp2_with fail
 go_ret;exact⟨_,rfl,HR.out,H4.out⟩
def l7 (z:Tm) (d left:Nat) (q:Tm) (r:Int) (v:Value) (w w':World):Prop:=
 ((z.size<=left/\d+z.depth<=61)->q=z/\r=(left:Int)- (z.size:Int)/\∃B,aP 24 w' B q.kids v/\∀j,B j->w.heap.size<=j/\j<w'.heap.size)/\(¬(z.size<=left/\d+z.depth<=61)->r<0)
theorem l7.no {z:Tm} {d left:Nat} {q:Tm} {r:Int} {v:Value} {w w':World} (h: ¬(z.size<=left/\d+z.depth<=61)) (hr:r<0):l7 z d left q r v w w':=⟨fun h2=>absurd h2 h,fun _=>hr⟩
theorem l7.yes {z:Tm} {d left:Nat} {q:Tm} {r:Int} {v:Value} {w w':World} (h1:q=z) (h2:r=(left:Int)- (z.size:Int)) (hn:z.size<=left->d+z.depth<=61) (h3: ∃B,aP 24 w' B q.kids v/\∀j,B j->w.heap.size<=j/\j<w'.heap.size):l7 z d left q r v w w':=⟨fun _=>⟨h1,h2,h3⟩,fun h=>by
 by_cases h4:z.size<=left
 .exact absurd ⟨h4,hn h4⟩ h
 .omega⟩
theorem M_ (t:Tm):1<=t.size:=by rw[size_eq];omega
theorem Ce (t:Tm):1<=t.depth:=by rw[kE];omega
theorem Bz (L:List Tm) (k:Nat):depths (L.take k)<=depths L:=by
 have h:=DF (L.take k) (L.drop k);rw[List.take_append_drop] at h;omega
theorem ac_ (Bs:List Bd) (vB:Value) (RB SB:Nat->Prop) (w0:World) (jD:Hid (iM RB SB w0 vB Bs)) (xQ:Hid (∀k,SB k->k<w0.heap.size)) (lI:Hid (Bs.length<=1000000)) (sW:Hid (∀b∈Bs,b.2.2.size<=100000)):
  ∀(t:Tm) (v:Value) (S:Nat->Prop) (w:World) (d left:Nat),Ext w0 w->bQ S w t v->(∀k,S k->k<w.heap.size)->t.size<=100000->vH t->d<=61->left<=1000->
  Calls Tryz.prog 90 #[vB,v,.int .i64 (d:Int),.int .i64 (left:Int)] w fun e w'=> ∃(q:Tm) (ra:Option Addr) (rc:Nat) (r:Int),e= .returned (.tuple #[.agg #[.string q.name,.string q.sort,.slice ra q.kids.length rc],.int .i64 r])/\l7 (bI Bs t) d left q r (.slice ra q.kids.length rc) w w'/\Ext w w':=by
 refine Tm.ind (fun n s L ih=>?_);intro v S w d left hw0 hT hS hsz hnp hd hleft;obtain⟨va,vc,hvB⟩:=jD.out.shape;subst hvB;obtain⟨Z,jY⟩: ∃Z,bI Bs (.mk n s L)=Z:=⟨_,rfl⟩
 rw[jY];have jm:=ah jY;clear jY;obtain⟨a,cap,rfl,hT⟩:=hT;dsimp only[tV,Tm.name,Tm.sort,Tm.kids] at hT;show Calls _ _ #[_,.agg #[.string n,.string s,.slice a L.length cap],_,_] w _;have dH:=ah hT;have HIH:=ah ih;have iE:=ah hS;have yR:=ah hnp;have HW0:=ah hw0;have fJ:sizes L+1<=100000:=by rw[size_eq] at hsz;simp only[Tm.kids] at hsz;omega
 have HSL:=ah fJ;have j_:L.length<=100000:=by have h1:=bG L;omega
 have hZ:=((uR w).alloc (.cells #[.string n,.string s,.slice a L.length cap] 24)).alloc zO;have HB2:=ah (aB (ay w (.cells #[.string n,.string s,.slice a L.length cap] 24)) zO);have HB3:=ah (alloc_at (w.alloc (.cells #[.string n,.string s,.slice a L.length cap] 24)) zO (n:=w.heap.size+1) (by simp));have hs1:((w.alloc (.cells #[.string n,.string s,.slice a L.length cap] 24)).alloc zO).heap.size=w.heap.size+2:=by simp
 have nJ:=ah hs1;have HZ:=ah hZ;have ER:=ah (Io Bs _ n RB SB ((w.alloc (.cells #[.string n,.string s,.slice a L.length cap] 24)).alloc zO) (jD.out.ext (hw0.trans hZ)) lI.out);have t1:=lg s;have hbl:=lI.out;clear ih hT hS hsz fJ hZ hs1 hw0 hnp
 go_enter Tryz.func90,Tryz.ntmps90
 go_upto_region 1 with fail
 generalize ((w.alloc (.cells #[.string n,.string s,.slice a L.length cap] 24)).alloc zO)=w1 at*;obtain⟨x0,x1,x2⟩:=ak HB2.out;have afP:(s=au\/L=[])->(s≠au->bJ Bs n=none)->Z= .mk n s (L.map (bI Bs)):=fun h1 h2=>by
  rw[<-jm.out];show iH (gG Bs) (.mk n s L)=_;by_cases hs:s=au
  .rw [hs,tC];rfl
  .rw [pz _ hs L,Ip (h2 hs),h1.resolve_left hs];rfl
 have XO:=ah afP;clear afP;by_cases hs0:s=au
 rotate_left
 .rw [dF hs0] at t1;cases hF:(bJ Bs n).isSome with
  |true=>
   obtain⟨m,hlm,hfx,hbg,_⟩:=afO (n:=n) hF;have hZx:Z=(Go.Hw.bg Bs m).2.2:=by rw[<-jm.out];show iH (gG Bs) (.mk n s L)=_;rw[pz _ hs0 L,yT hbg]
   rw[hfx] at ER;obtain⟨gb,ob,hgb,_,Qj⟩:=(jD.out.ext (HW0.out.trans HZ.out)).at_ (by omega);subst hgb;obtain⟨xa,xc,_,_,p2,p3,p4,aW⟩:=Qj _ hlm;have y0:(0:Int)<=(m:Int):=by omega
   have y1:(m:Int)< (Bs.length:Int):=by omega
   have y2:decide ((0:Int)<=(m:Int))=true:=dT y0;have hq1:=sW.out _ (IV hlm);obtain⟨x,hx⟩: ∃x,(Go.Hw.bg Bs m).2.2=x:=⟨_,rfl⟩
   rw[hx] at p2 p3 p4 aW hq1 hZx;clear hx jm XO;have hZx:=hZx.symm;subst hZx;have HK:=ah aW;have hq2:=Nat.le_trans (DI x) hq1;have hq3:=Ce x;have xO:=ah (fun W (hW:Ext w1 W)=>Gp x (tV x (.slice xa x.kids.length xc)) SB W ⟨xa,xc,rfl,HK.out.ext hW⟩ (by omega));have Hg:=ah (fun W (hW:Ext w1 W)=>Zz x (tV x (.slice xa x.kids.length xc)) SB W ⟨xa,xc,rfl,HK.out.ext hW⟩ (by omega));have tu:=ah (fun W (hW:Ext w1 W)=>KQ x (tV x (.slice xa x.kids.length xc)) SB W ⟨xa,xc,rfl,HK.out.ext hW⟩ (fun k hk=>aF (xQ.out k hk) ((HW0.out.trans HZ.out).trans hW).size) hq1);dsimp only[tV] at xO Hg tu;obtain⟨XS,TS⟩: ∃X,x.size=X:=⟨_,rfl⟩
   obtain⟨XD,TT⟩: ∃X,x.depth=X:=⟨_,rfl⟩
   have Eh:=ah (And.intro TS TT);rw[TS] at xO hq1;rw[TT] at Hg hq2 hq3;clear Qj aW hbg hfx hF hs0 TS TT
   go_wp2_with fail
   refine ER.out.mono ?_;rintro e w4 ⟨rfl,hw4⟩;have hw4:=hw4.symm;subst hw4;clear ER
   go_wp2_with fail
   refine(xO.out _ (aC.refl _ _)).mono ?_;rintro e w5 ⟨rfl,hw5⟩;have r2:=hw5.cell p2 (fun h=>h);have r3:=hw5.cell p3 (fun h=>h);have r4:=hw5.cell p4 (fun h=>h);have dh:=ah hw5;have Ci:=ah (hw5.heap HB3.out (fun h=>h));clear hw5 xO p2 p3 p4 x0 x1 x2;by_cases hdd:61<d+XD
   .have t5:decide ((60:Int)< (d:Int)+(XD:Int)-1)=true:=dT (by omega);have Qn:(60:Int)< (d:Int)+(XD:Int)-1:=by omega
    go_wp2_with fail
    refine(Hg.out _ dh.out).mono ?_;rintro e w6 ⟨rfl,hw6⟩;have fV:=ah (HZ.out.trans (dh.out.trans hw6));have sJ:=ah (hw6.heap Ci.out (fun h=>h));have hno: ¬(x.size<=left/\d+x.depth<=61):=fun h=>by have:=Eh.out;omega
    clear hw6 Hg tu r2 r3 r4;have f2:=fun i=>aA sJ.out i;obtain⟨d0,d1,d2⟩:=ak sJ.out
    go_wp2_with fail
    have hr3:=aN sJ.out (.string ⟨#[]⟩) (.string ⟨#[]⟩) (.slice none 0 0);have hu:=aK w6 (w.heap.size+1) (.string ⟨#[]⟩) (.string ⟨#[]⟩) (.slice none 0 0);obtain⟨e0,e1,e2⟩:=ak hr3;have hue:=fV.out.trans' hu (fun j hj e=>by omega);refine bodyPost_ret (v:= .tuple #[.agg #[.string ⟨#[]⟩,.string ⟨#[]⟩,.slice none 0 0],.int .i64 (-1)]) (by simp[results,Tryz.results90,go_sem,e0,e1,e2]) rfl ?_;have hpp: ∀w',l7 x d left (.mk au au []) (-1) (.slice none 0 0) w w':=fun w'=>l7.no (hno) (by omega)
    first|exact⟨.mk au au [],none,0,_,rfl,hpp _,hue⟩|exact⟨.mk au au [],none,0,rfl,hpp _,hue⟩
   have t5:decide ((60:Int)< (d:Int)+(XD:Int)-1)=false:=dF (by omega);have Qn: ¬(60:Int)< (d:Int)+(XD:Int)-1:=by omega
   go_wp2_with fail
   refine(Hg.out _ dh.out).mono ?_;rintro e w6 ⟨rfl,hw6⟩;have nV:=ah (dh.out.trans hw6);have sJ:=ah (hw6.heap Ci.out (fun h=>h));have p2:=hw6.cell r2 (fun h=>h);have p3:=hw6.cell r3 (fun h=>h);have p4:=hw6.cell r4 (fun h=>h);clear hw6 Hg r2 r3 r4
   go_wp2_with fail
   refine(tu.out _ nV.out).mono ?_;rintro e w7 ⟨r7,B7,rfl,yQ,hb7,hw7⟩;obtain⟨ya,yc,jP⟩:=aP.shape yQ;subst jP;have He:=ah yQ;have eU:=ah hb7;have iG:=ah (HZ.out.trans (nV.out.trans hw7));have qZ:=ah (hw7.heap sJ.out (fun h=>h));have G8:Hid (w.heap.size+2<=w6.heap.size):=ah (by rw[<-nJ.out];exact nV.out.size);obtain⟨d0,d1,d2⟩:=ak qZ.out;have f2:=fun i=>aA qZ.out i;dsimp only[tV];clear yQ hb7 hw7 tu p2 p3 p4
   go_wp2_with fail
   have hr3:=aN qZ.out (.string x.name) (.string x.sort) (.slice ya x.kids.length yc);have hu:=aK w7 (w.heap.size+1) (.string x.name) (.string x.sort) (.slice ya x.kids.length yc);obtain⟨e0,e1,e2⟩:=ak hr3;have hue:=iG.out.trans' hu (fun j hj e=>by omega);refine bodyPost_ret (v:= .tuple #[.agg #[.string x.name,.string x.sort,.slice ya x.kids.length yc],.int .i64 ((left:Int)- (XS:Int))]) (by simp[results,Tryz.results90,go_sem,e0,e1,e2]) rfl ?_;have hpp:=l7.yes (z:=x) (d:=d) (left:=left) (q:=x) (r:=(left:Int)- (XS:Int)) (v:= .slice ya x.kids.length yc) (w:=w) (w':=_) rfl (by rw[Eh.out.1]) (fun _=>by have:=Eh.out;omega) ⟨B7,He.out.kept hu (fun j hj e=>by have h1:=(eU.out j hj).1;have:=G8.out;omega),fun j hj=>⟨by have h1:=(eU.out j hj).1;have:=G8.out;omega,aF (eU.out j hj).2 hu.size⟩⟩
   first|exact⟨x,ya,yc,_,rfl,hpp,hue⟩|exact⟨x,ya,yc,rfl,hpp,hue⟩
  |false=>
   have hn:bJ Bs n=none:=by
    cases hb:bJ Bs n with
    |none=>rfl
    |some T=>rw[hb] at hF;cases hF
   have Cj:Hid (Z= .mk n s (L.map (bI Bs))):=ah (XO.out (.inr (yR.out (.mk n s L) (jJ _) hs0)) (fun _=>hn));have Fg:Hid (Z.kids=L.map (bI Bs)):=ah (by rw[Cj.out];rfl);have HZD:Hid (Z.size=sizes (L.map (bI Bs))+1/\Z.depth=depths (L.map (bI Bs))+1):=ah ⟨by rw[Cj.out,size_eq];rfl,by rw[Cj.out,kE];rfl⟩;rw[afN hn] at ER;clear hn hF hs0 XO
   go_wp2_with fail
   refine ER.out.mono ?_;rintro e w4 ⟨rfl,hw4⟩;have hw4:=hw4.symm;subst hw4;clear ER;by_cases hl0:left=0
   .have t5:decide ((left:Int)-1<0)=true:=dT (by omega);have Qn:(left:Int)-1<0:=by omega
    have hno: ¬(Z.size<=left/\d+Z.depth<=61):=fun h=>by have h2:=M_ Z;omega
    clear hl0;have f2:=fun i=>aA HB3.out i;obtain⟨d0,d1,d2⟩:=ak HB3.out
    go_wp2_with fail
    have hr3:=aN HB3.out (.string ⟨#[]⟩) (.string ⟨#[]⟩) (.slice none 0 0);have hu:=aK w1 (w.heap.size+1) (.string ⟨#[]⟩) (.string ⟨#[]⟩) (.slice none 0 0);obtain⟨e0,e1,e2⟩:=ak hr3;have hue:=HZ.out.trans' hu (fun j hj e=>by omega);refine bodyPost_ret (v:= .tuple #[.agg #[.string ⟨#[]⟩,.string ⟨#[]⟩,.slice none 0 0],.int .i64 (-1)]) (by simp[results,Tryz.results90,go_sem,e0,e1,e2]) rfl ?_;have hpp: ∀w',l7 Z d left (.mk au au []) (-1) (.slice none 0 0) w w':=fun w'=>l7.no (hno) (by omega)
    first|exact⟨.mk au au [],none,0,_,rfl,hpp _,hue⟩|exact⟨.mk au au [],none,0,rfl,hpp _,hue⟩
   have t5:decide ((left:Int)-1<0)=false:=dF (by omega);have Qn: ¬(left:Int)-1<0:=by omega
   by_cases hd0:60<d
   .have t6:decide ((60:Int)< (d:Int))=true:=dT (by omega);have t6':(60:Int)< (d:Int):=by omega
    have hno: ¬(Z.size<=left/\d+Z.depth<=61):=fun h=>by have h2:=Ce Z;omega
    clear hl0 hd0;have f2:=fun i=>aA HB3.out i;obtain⟨d0,d1,d2⟩:=ak HB3.out
    go_wp2_with fail
    have hr3:=aN HB3.out (.string ⟨#[]⟩) (.string ⟨#[]⟩) (.slice none 0 0);have hu:=aK w1 (w.heap.size+1) (.string ⟨#[]⟩) (.string ⟨#[]⟩) (.slice none 0 0);obtain⟨e0,e1,e2⟩:=ak hr3;have hue:=HZ.out.trans' hu (fun j hj e=>by omega);refine bodyPost_ret (v:= .tuple #[.agg #[.string ⟨#[]⟩,.string ⟨#[]⟩,.slice none 0 0],.int .i64 (-1)]) (by simp[results,Tryz.results90,go_sem,e0,e1,e2]) rfl ?_;have hpp: ∀w',l7 Z d left (.mk au au []) (-1) (.slice none 0 0) w w':=fun w'=>l7.no (hno) (by omega)
    first|exact⟨.mk au au [],none,0,_,rfl,hpp _,hue⟩|exact⟨.mk au au [],none,0,rfl,hpp _,hue⟩
   have t6:decide ((60:Int)< (d:Int))=false:=dF (by omega);have t6': ¬(60:Int)< (d:Int):=by omega
   obtain⟨lf,rfl⟩: ∃lf,left=lf+1:=⟨left-1,by omega⟩
   have t7:((lf+1:Nat):Int)-1=(lf:Int):=by omega
   have HD:=ah (show d<=60 by omega);clear hl0 hd0;have XP:=(uR w1).alloc (.cells #[.string n,.string s,.slice none 0 0] 24);have gV:=ah (aB HB2.out (.cells #[.string n,.string s,.slice none 0 0] 24));have ru:=ah (aB HB3.out (.cells #[.string n,.string s,.slice none 0 0] 24));have wu:=ah (show(w1.alloc (.cells #[.string n,.string s,.slice none 0 0] 24)).heap[w.heap.size+2]?=some (.cells #[.string n,.string s,.slice none 0 0] 24 (0,0)) from alloc_at w1 (.cells #[.string n,.string s,.slice none 0 0] 24) nJ.out.symm);have bW:=ah (HZ.out.trans XP);have gW:Hid (w.heap.size+3<=(w1.alloc (.cells #[.string n,.string s,.slice none 0 0] 24)).heap.size):=ah (by have:=nJ.out;simp;omega)
   go_wp2_with fail
   try rw[nJ.out]
   generalize w1.alloc (.cells #[.string n,.string s,.slice none 0 0] 24)=w4 at*;clear XP x0 x1 x2 HB2 HB3;have kL:Hid (n_ 24 (w.heap.size+3) w4 (L.map (bI Bs)) (.slice none 0 0) [] (fun _ _=>False) 0):=ah ⟨rfl,⟨rfl,.inl ⟨rfl,rfl⟩⟩,fun i hi=>absurd hi (Nat.not_lt_zero _),fun i j hi=>absurd hi (Nat.not_lt_zero _),fun i i' j hi=>absurd hi (Nat.not_lt_zero _)⟩
   go_loopg [3,13] L.length (fun gk l3 iv wr=> ∃(k lk:Nat) (lv:Value) (us:List Value) (Bk:Nat->Nat->Prop),l3= .int .i64 (lk:Int)/\iv= .int .i64 (k:Int)/\gk=L.length-k/\k<=L.length/\lk<=1000/\Hid (lk+sizes ((L.map (bI Bs)).take k)=lf)/\Hid (n_ 24 (w.heap.size+3) wr (L.map (bI Bs)) lv us Bk k)/\Hid (wr.heap[w.heap.size]?=some (.cells #[.string n,.string s,.slice a L.length cap] 24 (0,0)))/\Hid (wr.heap[w.heap.size+1]?=some zO)/\Hid (wr.heap[w.heap.size+2]?=some (.cells #[.string n,.string s,lv] 24 (0,0)))/\Hid (Ext w wr)/\Hid (w.heap.size+3<=wr.heap.size)/\Hid (d+depths ((L.map (bI Bs)).take k)<=60))
   case atStart=>exact⟨0,lf,_,_,_,rfl,rfl,rfl,Nat.zero_le _,by omega,ah (by simp[sizes]),kL,gV,ru,wu,bW,gW,ah (by simp[depths];exact HD.out)⟩
   case round=>
    clear kL gV ru wu bW gW t7 t5 Qn;obtain⟨k,lk,lv,us,Bk,rfl,rfl,rfl,hk,hlk,Qo,HJ,HB2,jL,HB3,HE,bU,HDK⟩:=hrel;obtain⟨la,lc,hlv⟩:=bF HJ.out.own;subst hlv;obtain⟨b0,b1,b2⟩:=ak HB2.out;by_cases hlt:k<L.length
    .obtain ⟨g,off,hga,_,hat⟩:=(dH.out.ext HE.out).at_ (by omega);subst hga;obtain⟨xa,xc,q0,q1,q2,aW⟩:=hat k hlt;rw[<-Nat.add_assoc] at q1 q2;obtain⟨z0,z1,z2,z2'⟩:=bZ hlt;have bf:=ah (HIH.out (tg L k) (bY L k hlt) _ S wr (d+1) lk (HW0.out.trans HE.out) ⟨xa,xc,rfl,aW⟩ (fun j hj=>aF (iE.out j hj) HE.out.size) (by have h1:=HSL.out;have h2:=gq (bY L k hlt);omega) (yR.out.kid (bY L k hlt)) (by have:=HD.out;omega) hlk);have hd1:((d+1:Nat):Int)=(d:Int)+1:=by omega
     rw[hd1] at bf;dsimp only[tV] at bf;have hlm:k< (L.map (bI Bs)).length:=by rw[List.length_map];exact hlt
     have hsx:=jy (L.map (bI Bs)) k hlm;have xR:=wO (L.map (bI Bs)) k hlm;have hsl:=fF (L.map (bI Bs)) (k+1);have hdl:=Bz (L.map (bI Bs)) (k+1);have hzx:tg (L.map (bI Bs)) k=bI Bs (tg L k):=by
      unfold tg;rw[List.getD_eq_getElem?_getD,List.getD_eq_getElem?_getD,List.getElem?_map,List.getElem?_eq_getElem hlt];rfl
     rw[hzx] at hsx xR;obtain⟨x,hx⟩: ∃x,tg L k=x:=⟨_,rfl⟩
     rw[hx] at q0 q1 q2 bf hzx hsx xR;have PV:=ah hzx;have jf:=ah (And.intro hsx (And.intro xR (And.intro hsl hdl)));clear hat aW hx hzx hsx xR hsl hdl hlm hd1
     go_wp2_with fail
     refine bf.out.mono ?_;rintro e w5 ⟨q,ya,yc,r,rfl,hq,hw5⟩;have mX:=ah hq;have dh:=ah hw5;have yP:=ah (hw5.alloc (tO q ya yc));have Qp:=ah (aB (hw5.heap HB2.out (fun h=>h)) (tO q ya yc));have Iq:=ah (aB (hw5.heap jL.out (fun h=>h)) (tO q ya yc));have sJ:=ah (aB (hw5.heap HB3.out (fun h=>h)) (tO q ya yc));have ZI:=ah (ay w5 (tO q ya yc));have wQ:=ah (Nat.le_trans bU.out yP.out.size);clear hq hw5 bf b0 b1 b2 q0 q1 q2;by_cases hr:r<0
     .have t8:decide (r<0)=true:=dT hr;have fV:=ah (HE.out.trans yP.out);have hno: ¬(Z.size<=lf+1/\d+Z.depth<=61):=fun h=>by
       have h1:=mX.out.2;have h2:=jf.out;have h3:=Qo.out;have h4:=HZD.out;have h5: ¬((bI Bs x).size<=lk/\d+1+(bI Bs x).depth<=61)->False:=fun _=>by
        refine absurd (And.intro ?_ ?_) ‹¬((bI Bs x).size<=lk/\d+1+(bI Bs x).depth<=61)›
        .omega
        .omega
       by_cases h6:((bI Bs x).size<=lk/\d+1+(bI Bs x).depth<=61)
       .have:=(mX.out.1 h6).2.1;omega
       .exact h5 h6
      have hr':r<0:=hr;have f2:=fun i=>aA Iq.out i;obtain⟨d0,d1,d2⟩:=ak Iq.out
      go_wp2_with fail
      have hr3:=aN Iq.out (.string ⟨#[]⟩) (.string ⟨#[]⟩) (.slice none 0 0);have hu:=aK (w5.alloc (tO q ya yc)) (w.heap.size+1) (.string ⟨#[]⟩) (.string ⟨#[]⟩) (.slice none 0 0);obtain⟨e0,e1,e2⟩:=ak hr3;have hue:=fV.out.trans' hu (fun j hj e=>by omega);refine bodyPost_ret (v:= .tuple #[.agg #[.string ⟨#[]⟩,.string ⟨#[]⟩,.slice none 0 0],.int .i64 (r)]) (by simp[results,Tryz.results90,go_sem,e0,e1,e2]) rfl ?_;have hpp: ∀w',l7 Z d (lf+1) (.mk au au []) (r) (.slice none 0 0) w w':=fun w'=>l7.no (hno) (by omega)
      first|exact⟨.mk au au [],none,0,_,rfl,hpp _,hue⟩|exact⟨.mk au au [],none,0,rfl,hpp _,hue⟩
     .have t8:decide (r<0)=false:=dF hr;have hfit:(bI Bs x).size<=lk/\d+1+(bI Bs x).depth<=61:=by
       by_cases h6:((bI Bs x).size<=lk/\d+1+(bI Bs x).depth<=61)
       .exact h6
       .exact absurd (mX.out.2 h6) hr
      obtain⟨hqz,hrz,Bx,hTx,hBx⟩:=mX.out.1 hfit;obtain⟨l2,rfl⟩: ∃l2:Nat,r=(l2:Int):=⟨lk- (bI Bs x).size,by omega⟩
      have HL2:Hid (l2+sizes ((L.map (bI Bs)).take (k+1))=lf):=ah (by have h2:=jf.out.1;have h3:=Qo.out;omega);have HD2:Hid (d+depths ((L.map (bI Bs)).take (k+1))<=60):=ah (by have h2:=jf.out.2.1;have h3:=HDK.out;omega);have hl2:l2<=1000:=by omega
      have Na:=ah hTx;have jS:=ah hBx;have HQZ:=ah hqz;obtain⟨k0,k1,k2⟩:=ak ZI.out;have c2:=aj sJ.out 2 (.slice la k lc) rfl;have BR:=ah (((bH HJ.out.own dh.out (fun _ _ h=>h)).alloc (tO q ya yc)).alloc (tO q ya yc));have hs6:w.heap.size+3<=((w5.alloc (tO q ya yc)).alloc (tO q ya yc)).heap.size:=by have h1:=dh.out.size;have h2:=bU.out;simp;omega
      obtain⟨iT,hi,hz0,hz1,hz2⟩:=info_parts um;clear hTx hBx hqz hrz hfit hr;generalize hw6:w5.alloc (tO q ya yc)=w6 at*
      go_wp2_with(at_builtin;refine oH _ rfl (.tmp 90) (.tmp 92) 22 rfl (w.heap.size+3) 24 iT (.agg #[.string ⟨#[]⟩,.string ⟨#[]⟩,.slice none 0 0]) 3 56 Tryz.underlying22 hi hz0 hz1 hz2 rfl (by decide) _ _ _ rfl BR.out _ 1 1 [Value.string q.name,.string q.sort,.slice ya q.kids.length yc] rfl rfl ?c1 ?c2 ?c3 ?c4 hs6 ?_)
      case c1=>exact zU w6 _ _ _ 24
      case c2=>intro u hu;simp at hu;rcases hu with h|h|h<;>(subst h;rfl)
      case c3=>unfold maxLen;omega
      case c4=>omega
      intro v7 w7 bK;obtain⟨a7,c7,hv7⟩:=bF bK.own;subst hv7;have iV: ¬(Value.slice la k lc).ownBlock=some (w.heap.size+2):=fun e=>by have h1:=(HJ.out.own.lt _ e).1;omega
      have fK:=bK.upd.heap (aB sJ.out (tO q ya yc)) iV;have f7:=fun i=>aA fK i;have c2':=aj fK 2 (.slice la k lc) rfl;have ig:=ah ((aC.refl (fun j=>j=w.heap.size+2) w7).setCell (p:=⟨w.heap.size+2,2,none⟩) (.inl rfl) (.slice a7 (k+1) c7));have Bg:Hid (Ext wr w6):=yP;have dB:Hid (aC (fun j=>(Value.slice la k lc).ownBlock=some j\/j=w.heap.size+2) wr (w7.setCell ⟨w.heap.size+2,2,none⟩ (.slice a7 (k+1) c7))):=ah (((((Bg.out.alloc (tO q ya yc)).mono (fun _ _ x=>x.elim)).trans (bK.upd.mono (fun _ _ e=> .inl e)))).trans (ig.out.mono (fun _ _ e=> .inr e)));have Qq:w5.heap.size<=w6.heap.size:=by rw[<-hw6];simp
      have wS:aP 24 w6 Bx q.kids (.slice ya q.kids.length yc):=by rw[<-hw6];exact Na.out.kept ((uR w5).alloc (tO q ya yc)) (fun _ _ h=>h)
      have uF:=ah (HJ.out.grow (x:=q) (by rw[List.length_map];exact hlt) (by rw[PV.out,HQZ.out]) (Nat.lt_succ_self (w.heap.size+2)) bU.out (aC.refl _ _) Bg.out wS (fun j hj=>⟨(jS.out j hj).1,aF (jS.out j hj).2 Qq⟩) ((uR w6).alloc (tO q ya yc)) bK ig.out);have dG:Hid (Ext w (w7.setCell ⟨w.heap.size+2,2,none⟩ (.slice a7 (k+1) c7))):=ah (HE.out.trans' dB.out (fun j hj e=>by
       rcases e with e|e
       .have h1:=(HJ.out.own.lt j e).1;omega
       .omega))
      have hne: ∀j,j<w.heap.size+2->¬((Value.slice la k lc).ownBlock=some j\/j=w.heap.size+2):=fun j hj e=>by
       rcases e with e|e
       .have h1:=(HJ.out.own.lt _ e).1;omega
       .omega
      have mY:=ah (dB.out.heap HB2.out (hne _ (by omega)));have PY:=ah (dB.out.heap jL.out (hne _ (by omega)));have jC:=setBlock fK 2 (.slice a7 (k+1) c7);have lY:Hid ((w7.setCell ⟨w.heap.size+2,2,none⟩ (.slice a7 (k+1) c7)).heap[w.heap.size+2]?=some (.cells #[.string n,.string s,.slice a7 (k+1) c7] 24 (0,0))):=ah (by simpa using jC);have jX:Hid (w.heap.size+3<=(w7.setCell ⟨w.heap.size+2,2,none⟩ (.slice a7 (k+1) c7)).heap.size):=ah (Nat.le_trans bU.out dB.out.size);clear jC hne bK wS Qq fK hi hz0 hz1 hz2
      go_wp2_with fail
      go_roundg (L.length- (k+1))
      case measure=>omega
      case rel=>exact⟨k+1,l2,_,_,_,rfl,by go_num,rfl,by omega,hl2,HL2,uF,mY,PY,lY,dG,jX,HD2⟩
    .obtain rfl:k=L.length:=by omega
     have z2:decide ((L.length:Int)< (L.length:Int))=false:=dF (by omega);have hfin:=HJ.out;have hll:(L.map (bI Bs)).length=L.length:=List.length_map ..;have Ir:=Qo.out;have Iu:=HDK.out;rw[<-hll] at hfin;have hfin:=hfin.fin;have lZ:=ah hfin;rw[hll] at lZ;rw[<-hll,List.take_length] at Ir Iu;have yU:=ah (And.intro Ir Iu);obtain⟨c0,c1,c2⟩:=ak HB3.out;have f2:=fun i=>aA jL.out i;obtain⟨d0,d1,d2⟩:=ak jL.out;clear hfin hll Ir Iu
     go_wp2_with fail
     have hr3:=aN jL.out (.string n) (.string s) (.slice la L.length lc);have hu:=aK wr (w.heap.size+1) (.string n) (.string s) (.slice la L.length lc);obtain⟨e0,e1,e2⟩:=ak hr3;have hue:=HE.out.trans' hu (fun j hj e=>by omega);refine bodyPost_ret (v:= .tuple #[.agg #[.string n,.string s,.slice la L.length lc],.int .i64 ((lk:Int))]) (by simp[results,Tryz.results90,go_sem,e0,e1,e2]) rfl ?_;have hpp:=l7.yes (z:=Z) (d:=d) (left:=lf+1) (q:=Z) (r:=(lk:Int)) (v:= .slice la L.length lc) (w:=w) (w':=_) rfl (by have h1:=yU.out.1;have h2:=HZD.out;omega) (fun _=>by have h1:=yU.out.2;have h2:=HZD.out;omega) ⟨fun j=>w.heap.size+3<=j/\j<wr.heap.size,by rw[Fg.out];simpa using lZ.out.kept hu (fun j hj e=>by have h1:=hj.1;omega),fun j hj=>⟨by have h1:=hj.1;omega,aF hj.2 hu.size⟩⟩;rw[Cj.out] at hpp⊢;have hkk:(L.map (bI Bs)).length=L.length:=List.length_map ..;refine⟨.mk n s (L.map (bI Bs)),la,lc,?_⟩;dsimp only[Tm.name,Tm.sort,Tm.kids] at hpp⊢;rw[hkk]
     first|exact⟨_,rfl,hpp,hue⟩|exact⟨rfl,hpp,hue⟩
 rw[dT hs0] at t1;have Cj:Hid (Z= .mk n s (L.map (bI Bs))):=ah (XO.out (.inl hs0) (fun h=>absurd hs0 h));have Fg:Hid (Z.kids=L.map (bI Bs)):=ah (by rw[Cj.out];rfl);have HZD:Hid (Z.size=sizes (L.map (bI Bs))+1/\Z.depth=depths (L.map (bI Bs))+1):=ah ⟨by rw[Cj.out,size_eq];rfl,by rw[Cj.out,kE];rfl⟩;clear ER hs0 XO;by_cases hl0:left=0
 .have t5:decide ((left:Int)-1<0)=true:=dT (by omega);have Qn:(left:Int)-1<0:=by omega
  have hno: ¬(Z.size<=left/\d+Z.depth<=61):=fun h=>by have h2:=M_ Z;omega
  clear hl0;have f2:=fun i=>aA HB3.out i;obtain⟨d0,d1,d2⟩:=ak HB3.out
  go_wp2_with fail
  have hr3:=aN HB3.out (.string ⟨#[]⟩) (.string ⟨#[]⟩) (.slice none 0 0);have hu:=aK w1 (w.heap.size+1) (.string ⟨#[]⟩) (.string ⟨#[]⟩) (.slice none 0 0);obtain⟨e0,e1,e2⟩:=ak hr3;have hue:=HZ.out.trans' hu (fun j hj e=>by omega);refine bodyPost_ret (v:= .tuple #[.agg #[.string ⟨#[]⟩,.string ⟨#[]⟩,.slice none 0 0],.int .i64 (-1)]) (by simp[results,Tryz.results90,go_sem,e0,e1,e2]) rfl ?_;have hpp: ∀w',l7 Z d left (.mk au au []) (-1) (.slice none 0 0) w w':=fun w'=>l7.no (hno) (by omega)
  first|exact⟨.mk au au [],none,0,_,rfl,hpp _,hue⟩|exact⟨.mk au au [],none,0,rfl,hpp _,hue⟩
 have t5:decide ((left:Int)-1<0)=false:=dF (by omega);have Qn: ¬(left:Int)-1<0:=by omega
 by_cases hd0:60<d
 .have t6:decide ((60:Int)< (d:Int))=true:=dT (by omega);have t6':(60:Int)< (d:Int):=by omega
  have hno: ¬(Z.size<=left/\d+Z.depth<=61):=fun h=>by have h2:=Ce Z;omega
  clear hl0 hd0;have f2:=fun i=>aA HB3.out i;obtain⟨d0,d1,d2⟩:=ak HB3.out
  go_wp2_with fail
  have hr3:=aN HB3.out (.string ⟨#[]⟩) (.string ⟨#[]⟩) (.slice none 0 0);have hu:=aK w1 (w.heap.size+1) (.string ⟨#[]⟩) (.string ⟨#[]⟩) (.slice none 0 0);obtain⟨e0,e1,e2⟩:=ak hr3;have hue:=HZ.out.trans' hu (fun j hj e=>by omega);refine bodyPost_ret (v:= .tuple #[.agg #[.string ⟨#[]⟩,.string ⟨#[]⟩,.slice none 0 0],.int .i64 (-1)]) (by simp[results,Tryz.results90,go_sem,e0,e1,e2]) rfl ?_;have hpp: ∀w',l7 Z d left (.mk au au []) (-1) (.slice none 0 0) w w':=fun w'=>l7.no (hno) (by omega)
  first|exact⟨.mk au au [],none,0,_,rfl,hpp _,hue⟩|exact⟨.mk au au [],none,0,rfl,hpp _,hue⟩
 have t6:decide ((60:Int)< (d:Int))=false:=dF (by omega);have t6': ¬(60:Int)< (d:Int):=by omega
 obtain⟨lf,rfl⟩: ∃lf,left=lf+1:=⟨left-1,by omega⟩
 have t7:((lf+1:Nat):Int)-1=(lf:Int):=by omega
 have HD:=ah (show d<=60 by omega);clear hl0 hd0;have XP:=(uR w1).alloc (.cells #[.string n,.string s,.slice none 0 0] 24);have gV:=ah (aB HB2.out (.cells #[.string n,.string s,.slice none 0 0] 24));have ru:=ah (aB HB3.out (.cells #[.string n,.string s,.slice none 0 0] 24));have wu:=ah (show(w1.alloc (.cells #[.string n,.string s,.slice none 0 0] 24)).heap[w.heap.size+2]?=some (.cells #[.string n,.string s,.slice none 0 0] 24 (0,0)) from alloc_at w1 (.cells #[.string n,.string s,.slice none 0 0] 24) nJ.out.symm);have bW:=ah (HZ.out.trans XP);have gW:Hid (w.heap.size+3<=(w1.alloc (.cells #[.string n,.string s,.slice none 0 0] 24)).heap.size):=ah (by have:=nJ.out;simp;omega)
 go_wp2_with fail
 try rw[nJ.out]
 generalize w1.alloc (.cells #[.string n,.string s,.slice none 0 0] 24)=w4 at*;clear XP x0 x1 x2 HB2 HB3;have kL:Hid (n_ 24 (w.heap.size+3) w4 (L.map (bI Bs)) (.slice none 0 0) [] (fun _ _=>False) 0):=ah ⟨rfl,⟨rfl,.inl ⟨rfl,rfl⟩⟩,fun i hi=>absurd hi (Nat.not_lt_zero _),fun i j hi=>absurd hi (Nat.not_lt_zero _),fun i i' j hi=>absurd hi (Nat.not_lt_zero _)⟩
 go_loopg [3,13] L.length (fun gk l3 iv wr=> ∃(k lk:Nat) (lv:Value) (us:List Value) (Bk:Nat->Nat->Prop),l3= .int .i64 (lk:Int)/\iv= .int .i64 (k:Int)/\gk=L.length-k/\k<=L.length/\lk<=1000/\Hid (lk+sizes ((L.map (bI Bs)).take k)=lf)/\Hid (n_ 24 (w.heap.size+3) wr (L.map (bI Bs)) lv us Bk k)/\Hid (wr.heap[w.heap.size]?=some (.cells #[.string n,.string s,.slice a L.length cap] 24 (0,0)))/\Hid (wr.heap[w.heap.size+1]?=some zO)/\Hid (wr.heap[w.heap.size+2]?=some (.cells #[.string n,.string s,lv] 24 (0,0)))/\Hid (Ext w wr)/\Hid (w.heap.size+3<=wr.heap.size)/\Hid (d+depths ((L.map (bI Bs)).take k)<=60))
 case atStart=>exact⟨0,lf,_,_,_,rfl,rfl,rfl,Nat.zero_le _,by omega,ah (by simp[sizes]),kL,gV,ru,wu,bW,gW,ah (by simp[depths];exact HD.out)⟩
 case round=>
  clear kL gV ru wu bW gW t7 t5 Qn;obtain⟨k,lk,lv,us,Bk,rfl,rfl,rfl,hk,hlk,Qo,HJ,HB2,jL,HB3,HE,bU,HDK⟩:=hrel;obtain⟨la,lc,hlv⟩:=bF HJ.out.own;subst hlv;obtain⟨b0,b1,b2⟩:=ak HB2.out;by_cases hlt:k<L.length
  .obtain ⟨g,off,hga,_,hat⟩:=(dH.out.ext HE.out).at_ (by omega);subst hga;obtain⟨xa,xc,q0,q1,q2,aW⟩:=hat k hlt;rw[<-Nat.add_assoc] at q1 q2;obtain⟨z0,z1,z2,z2'⟩:=bZ hlt;have bf:=ah (HIH.out (tg L k) (bY L k hlt) _ S wr (d+1) lk (HW0.out.trans HE.out) ⟨xa,xc,rfl,aW⟩ (fun j hj=>aF (iE.out j hj) HE.out.size) (by have h1:=HSL.out;have h2:=gq (bY L k hlt);omega) (yR.out.kid (bY L k hlt)) (by have:=HD.out;omega) hlk);have hd1:((d+1:Nat):Int)=(d:Int)+1:=by omega
   rw[hd1] at bf;dsimp only[tV] at bf;have hlm:k< (L.map (bI Bs)).length:=by rw[List.length_map];exact hlt
   have hsx:=jy (L.map (bI Bs)) k hlm;have xR:=wO (L.map (bI Bs)) k hlm;have hsl:=fF (L.map (bI Bs)) (k+1);have hdl:=Bz (L.map (bI Bs)) (k+1);have hzx:tg (L.map (bI Bs)) k=bI Bs (tg L k):=by
    unfold tg;rw[List.getD_eq_getElem?_getD,List.getD_eq_getElem?_getD,List.getElem?_map,List.getElem?_eq_getElem hlt];rfl
   rw[hzx] at hsx xR;obtain⟨x,hx⟩: ∃x,tg L k=x:=⟨_,rfl⟩
   rw[hx] at q0 q1 q2 bf hzx hsx xR;have PV:=ah hzx;have jf:=ah (And.intro hsx (And.intro xR (And.intro hsl hdl)));clear hat aW hx hzx hsx xR hsl hdl hlm hd1
   go_wp2_with fail
   refine bf.out.mono ?_;rintro e w5 ⟨q,ya,yc,r,rfl,hq,hw5⟩;have mX:=ah hq;have dh:=ah hw5;have yP:=ah (hw5.alloc (tO q ya yc));have Qp:=ah (aB (hw5.heap HB2.out (fun h=>h)) (tO q ya yc));have Iq:=ah (aB (hw5.heap jL.out (fun h=>h)) (tO q ya yc));have sJ:=ah (aB (hw5.heap HB3.out (fun h=>h)) (tO q ya yc));have ZI:=ah (ay w5 (tO q ya yc));have wQ:=ah (Nat.le_trans bU.out yP.out.size);clear hq hw5 bf b0 b1 b2 q0 q1 q2;by_cases hr:r<0
   .have t8:decide (r<0)=true:=dT hr;have fV:=ah (HE.out.trans yP.out);have hno: ¬(Z.size<=lf+1/\d+Z.depth<=61):=fun h=>by
     have h1:=mX.out.2;have h2:=jf.out;have h3:=Qo.out;have h4:=HZD.out;have h5: ¬((bI Bs x).size<=lk/\d+1+(bI Bs x).depth<=61)->False:=fun _=>by
      refine absurd (And.intro ?_ ?_) ‹¬((bI Bs x).size<=lk/\d+1+(bI Bs x).depth<=61)›
      .omega
      .omega
     by_cases h6:((bI Bs x).size<=lk/\d+1+(bI Bs x).depth<=61)
     .have:=(mX.out.1 h6).2.1;omega
     .exact h5 h6
    have hr':r<0:=hr;have f2:=fun i=>aA Iq.out i;obtain⟨d0,d1,d2⟩:=ak Iq.out
    go_wp2_with fail
    have hr3:=aN Iq.out (.string ⟨#[]⟩) (.string ⟨#[]⟩) (.slice none 0 0);have hu:=aK (w5.alloc (tO q ya yc)) (w.heap.size+1) (.string ⟨#[]⟩) (.string ⟨#[]⟩) (.slice none 0 0);obtain⟨e0,e1,e2⟩:=ak hr3;have hue:=fV.out.trans' hu (fun j hj e=>by omega);refine bodyPost_ret (v:= .tuple #[.agg #[.string ⟨#[]⟩,.string ⟨#[]⟩,.slice none 0 0],.int .i64 (r)]) (by simp[results,Tryz.results90,go_sem,e0,e1,e2]) rfl ?_;have hpp: ∀w',l7 Z d (lf+1) (.mk au au []) (r) (.slice none 0 0) w w':=fun w'=>l7.no (hno) (by omega)
    first|exact⟨.mk au au [],none,0,_,rfl,hpp _,hue⟩|exact⟨.mk au au [],none,0,rfl,hpp _,hue⟩
   .have t8:decide (r<0)=false:=dF hr;have hfit:(bI Bs x).size<=lk/\d+1+(bI Bs x).depth<=61:=by
     by_cases h6:((bI Bs x).size<=lk/\d+1+(bI Bs x).depth<=61)
     .exact h6
     .exact absurd (mX.out.2 h6) hr
    obtain⟨hqz,hrz,Bx,hTx,hBx⟩:=mX.out.1 hfit;obtain⟨l2,rfl⟩: ∃l2:Nat,r=(l2:Int):=⟨lk- (bI Bs x).size,by omega⟩
    have HL2:Hid (l2+sizes ((L.map (bI Bs)).take (k+1))=lf):=ah (by have h2:=jf.out.1;have h3:=Qo.out;omega);have HD2:Hid (d+depths ((L.map (bI Bs)).take (k+1))<=60):=ah (by have h2:=jf.out.2.1;have h3:=HDK.out;omega);have hl2:l2<=1000:=by omega
    have Na:=ah hTx;have jS:=ah hBx;have HQZ:=ah hqz;obtain⟨k0,k1,k2⟩:=ak ZI.out;have c2:=aj sJ.out 2 (.slice la k lc) rfl;have BR:=ah (((bH HJ.out.own dh.out (fun _ _ h=>h)).alloc (tO q ya yc)).alloc (tO q ya yc));have hs6:w.heap.size+3<=((w5.alloc (tO q ya yc)).alloc (tO q ya yc)).heap.size:=by have h1:=dh.out.size;have h2:=bU.out;simp;omega
    obtain⟨iT,hi,hz0,hz1,hz2⟩:=info_parts um;clear hTx hBx hqz hrz hfit hr;generalize hw6:w5.alloc (tO q ya yc)=w6 at*
    go_wp2_with(at_builtin;refine oH _ rfl (.tmp 90) (.tmp 92) 22 rfl (w.heap.size+3) 24 iT (.agg #[.string ⟨#[]⟩,.string ⟨#[]⟩,.slice none 0 0]) 3 56 Tryz.underlying22 hi hz0 hz1 hz2 rfl (by decide) _ _ _ rfl BR.out _ 1 1 [Value.string q.name,.string q.sort,.slice ya q.kids.length yc] rfl rfl ?c1 ?c2 ?c3 ?c4 hs6 ?_)
    case c1=>exact zU w6 _ _ _ 24
    case c2=>intro u hu;simp at hu;rcases hu with h|h|h<;>(subst h;rfl)
    case c3=>unfold maxLen;omega
    case c4=>omega
    intro v7 w7 bK;obtain⟨a7,c7,hv7⟩:=bF bK.own;subst hv7;have iV: ¬(Value.slice la k lc).ownBlock=some (w.heap.size+2):=fun e=>by have h1:=(HJ.out.own.lt _ e).1;omega
    have fK:=bK.upd.heap (aB sJ.out (tO q ya yc)) iV;have f7:=fun i=>aA fK i;have c2':=aj fK 2 (.slice la k lc) rfl;have ig:=ah ((aC.refl (fun j=>j=w.heap.size+2) w7).setCell (p:=⟨w.heap.size+2,2,none⟩) (.inl rfl) (.slice a7 (k+1) c7));have Bg:Hid (Ext wr w6):=yP;have dB:Hid (aC (fun j=>(Value.slice la k lc).ownBlock=some j\/j=w.heap.size+2) wr (w7.setCell ⟨w.heap.size+2,2,none⟩ (.slice a7 (k+1) c7))):=ah (((((Bg.out.alloc (tO q ya yc)).mono (fun _ _ x=>x.elim)).trans (bK.upd.mono (fun _ _ e=> .inl e)))).trans (ig.out.mono (fun _ _ e=> .inr e)));have Qq:w5.heap.size<=w6.heap.size:=by rw[<-hw6];simp
    have wS:aP 24 w6 Bx q.kids (.slice ya q.kids.length yc):=by rw[<-hw6];exact Na.out.kept ((uR w5).alloc (tO q ya yc)) (fun _ _ h=>h)
    have uF:=ah (HJ.out.grow (x:=q) (by rw[List.length_map];exact hlt) (by rw[PV.out,HQZ.out]) (Nat.lt_succ_self (w.heap.size+2)) bU.out (aC.refl _ _) Bg.out wS (fun j hj=>⟨(jS.out j hj).1,aF (jS.out j hj).2 Qq⟩) ((uR w6).alloc (tO q ya yc)) bK ig.out);have dG:Hid (Ext w (w7.setCell ⟨w.heap.size+2,2,none⟩ (.slice a7 (k+1) c7))):=ah (HE.out.trans' dB.out (fun j hj e=>by
     rcases e with e|e
     .have h1:=(HJ.out.own.lt j e).1;omega
     .omega))
    have hne: ∀j,j<w.heap.size+2->¬((Value.slice la k lc).ownBlock=some j\/j=w.heap.size+2):=fun j hj e=>by
     rcases e with e|e
     .have h1:=(HJ.out.own.lt _ e).1;omega
     .omega
    have mY:=ah (dB.out.heap HB2.out (hne _ (by omega)));have PY:=ah (dB.out.heap jL.out (hne _ (by omega)));have jC:=setBlock fK 2 (.slice a7 (k+1) c7);have lY:Hid ((w7.setCell ⟨w.heap.size+2,2,none⟩ (.slice a7 (k+1) c7)).heap[w.heap.size+2]?=some (.cells #[.string n,.string s,.slice a7 (k+1) c7] 24 (0,0))):=ah (by simpa using jC);have jX:Hid (w.heap.size+3<=(w7.setCell ⟨w.heap.size+2,2,none⟩ (.slice a7 (k+1) c7)).heap.size):=ah (Nat.le_trans bU.out dB.out.size);clear jC hne bK wS Qq fK hi hz0 hz1 hz2
    go_wp2_with fail
    go_roundg (L.length- (k+1))
    case measure=>omega
    case rel=>exact⟨k+1,l2,_,_,_,rfl,by go_num,rfl,by omega,hl2,HL2,uF,mY,PY,lY,dG,jX,HD2⟩
  .obtain rfl:k=L.length:=by omega
   have z2:decide ((L.length:Int)< (L.length:Int))=false:=dF (by omega);have hfin:=HJ.out;have hll:(L.map (bI Bs)).length=L.length:=List.length_map ..;have Ir:=Qo.out;have Iu:=HDK.out;rw[<-hll] at hfin;have hfin:=hfin.fin;have lZ:=ah hfin;rw[hll] at lZ;rw[<-hll,List.take_length] at Ir Iu;have yU:=ah (And.intro Ir Iu);obtain⟨c0,c1,c2⟩:=ak HB3.out;have f2:=fun i=>aA jL.out i;obtain⟨d0,d1,d2⟩:=ak jL.out;clear hfin hll Ir Iu
   go_wp2_with fail
   have hr3:=aN jL.out (.string n) (.string s) (.slice la L.length lc);have hu:=aK wr (w.heap.size+1) (.string n) (.string s) (.slice la L.length lc);obtain⟨e0,e1,e2⟩:=ak hr3;have hue:=HE.out.trans' hu (fun j hj e=>by omega);refine bodyPost_ret (v:= .tuple #[.agg #[.string n,.string s,.slice la L.length lc],.int .i64 ((lk:Int))]) (by simp[results,Tryz.results90,go_sem,e0,e1,e2]) rfl ?_;have hpp:=l7.yes (z:=Z) (d:=d) (left:=lf+1) (q:=Z) (r:=(lk:Int)) (v:= .slice la L.length lc) (w:=w) (w':=_) rfl (by have h1:=yU.out.1;have h2:=HZD.out;omega) (fun _=>by have h1:=yU.out.2;have h2:=HZD.out;omega) ⟨fun j=>w.heap.size+3<=j/\j<wr.heap.size,by rw[Fg.out];simpa using lZ.out.kept hu (fun j hj e=>by have h1:=hj.1;omega),fun j hj=>⟨by have h1:=hj.1;omega,aF hj.2 hu.size⟩⟩;rw[Cj.out] at hpp⊢;have hkk:(L.map (bI Bs)).length=L.length:=List.length_map ..;refine⟨.mk n s (L.map (bI Bs)),la,lc,?_⟩;dsimp only[Tm.name,Tm.sort,Tm.kids] at hpp⊢;rw[hkk]
   first|exact⟨_,rfl,hpp,hue⟩|exact⟨rfl,hpp,hue⟩
end
end Go.Proofs.YtlkcjmaiahnodaaGreatDoor
