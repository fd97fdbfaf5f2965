/- The texts N38 N39 N40 I95 N74 N75 N41 N42, one behind the other. -/
import Derived.Test.YtlkcjmaiahnodaaGreatDoorEAM
import Derived.Test.YtlkcjmaiahnodaaGreatDoorEAK
import Derived.Test.YtlkcjmaiahnodaaGreatDoorEAH
import Derived.Deep.DeepCutAuto
import Derived.Test.YtlkcjmaiahnodaaGreatDoorEAL
set_option maxRecDepth 100000
set_option maxHeartbeats 8000000
set_option linter.unusedVariables false
set_option linter.unusedSimpArgs false
namespace Go.Proofs.YtlkcjmaiahnodaaGreatDoor
open Go.RowKit Go.Hw Go Tm
section
open Go.Sort Go.Proofs Go.ChangeMaps
theorem YU (Bs:List Bd) (vB:Value) (bs:Nat) (RB S0:Nat->Prop) (w0:World) (jq:Hid (w0.heap[bs]?=some (.cells #[vB] 27 (0,0)))) (HBn:Hid (lC RB S0 w0 vB Bs)) (E5:Hid (∀k,S0 k->k<w0.heap.size)) (HAS:Hid (AscK (Prod.fst:Bd->By) Bs)) (vC:Hid (Bs.length<=1000000)): ∀(t:Tm) (v:Value) (S:Nat->Prop) (w:World),Ext w0 w->bC S w t v->(∀k,S k->k<w.heap.size)->t.size<=100000->uh t->(∀f∈fD t,(fJ Bs f.1 f.2).size<=100000)->
  Calls Tryz.prog 80 #[v,.func (.func 151) #[] #[.pointer (some ⟨bs,0,none⟩)]] w fun e w'=> ∃r B,e= .returned (tV (fA (fJ Bs) t) r)/\aG 24 w' B (fA (fJ Bs) t).kids r/\(∀j,B j->w.heap.size<=j/\j<w'.heap.size)/\Ext w w':=by
 refine Tm.ind (fun n s L ih=>?_);intro v S w hw0 hT hS hsz K_ hok;have La:=ae K_;clear K_;obtain⟨Z,l7⟩: ∃Z,fA (fJ Bs) (.mk n s L)=Z:=⟨_,rfl⟩
 rw[l7];have iH:=ae l7;clear l7;obtain⟨a,cap,rfl,hT⟩:=hT;dsimp only[tV,Tm.name,Tm.sort,Tm.kids] at hT⊢;have cO:=ae hT;have HIH:=ae ih;have jf:=ae hS;have HW0:=ae hw0;have fK:=ae hok;have iU:sizes L+1<=100000:=by rw[size_eq] at hsz;simp only[Tm.kids] at hsz;omega
 have oM:=ae iU;have mr:L.length<=100000:=by have h1:=bf L;omega
 have pg:=ae (fun W=>kX n s a L.length cap W);have hZ:=((uR w).alloc (.cells #[.string n,.string s,.slice a L.length cap] 24)).alloc zO;have HB2:=ae (ak (ai w (.cells #[.string n,.string s,.slice a L.length cap] 24)) zO);have HB3:=ae (alloc_at (w.alloc (.cells #[.string n,.string s,.slice a L.length cap] 24)) zO (n:=w.heap.size+1) (by simp));have hz2:w.heap.size+2<=((w.alloc (.cells #[.string n,.string s,.slice a L.length cap] 24)).alloc zO).heap.size:=by simp
 obtain⟨x0,x1,x2⟩:=ag HB2.out;have HZ:=ae hZ;have HZ2:=ae hz2;clear ih hT hS hsz iU hZ hz2 hw0 hok;by_cases hs0:s=ah
 rotate_left
 .rw [dF hs0] at pg;have HZQ:Hid (fJ Bs n s=Z):=ae (by rw[<-iH.out];exact(o_ _ hs0 L).symm);have DW:Hid (Z.size<=100000):=ae (by rw[<-HZQ.out];exact fK.out (n,s) (qQ hs0 L));obtain⟨zn,zs,zl⟩:=Z;have Hu:Hid (L=[]):=ae (La.out (.mk n s L) (fO _) hs0);clear hs0
  go_enter Tryz.func80,Tryz.ntmps80
  go_wp2_with fail
  refine(pg.out _).mono ?_;rintro e w3 ⟨rfl,hw3⟩;have aS:=ae (HZ.out.trans hw3);have gV:Hid (w.heap.size+2<=w3.heap.size):=ae (Nat.le_trans HZ2.out hw3.size);have nP:=ae (hw3.heap HB2.out (fun h=>h));have uN:=ae (hw3.heap HB3.out (fun h=>h));clear hw3 pg x0 x1 x2;obtain⟨x0,x1,x2⟩:=ag nP.out
  go_wp2_with fail
  have hvc:=(OH Bs vB bs n s L a cap RB S0 S w3 Hu.out (cO.out.ext aS.out) ((HW0.out.trans aS.out).heap jq.out (fun h=>h)) (HBn.out.ext (HW0.out.trans aS.out)) (fun k hk=>ay (E5.out k hk) (HW0.out.trans aS.out).size) (fun k hk=>ay (jf.out k hk) aS.out.size) HAS.out vC.out)
  rw[HZQ.out] at hvc;have WC:=ae hvc;clear hvc;refine WC.out.mono ?_;rintro e w6 ⟨ra,rc,rfl,hr6,hw6⟩;have sZ:=ae (DI (.mk zn zs zl) (tV (.mk zn zs zl) (.slice ra zl.length rc)) (fun k=>k<w6.heap.size) w6 ⟨ra,rc,rfl,hr6.weaken (fun k hk=>ay hk hw6.size)⟩ (fun k h=>h) DW.out);clear hr6;dsimp only[tV,Tm.name,Tm.sort,Tm.kids] at sZ⊢;have eQ:=ae (aS.out.trans hw6);have YQ:=ae (hw6.heap uN.out (fun h=>h));have xx:Hid (w.heap.size+2<=w6.heap.size):=ae (Nat.le_trans gV.out hw6.size);clear hw6 x0 x1 x2
  go_wp2_with fail
  refine sZ.out.mono ?_;rintro e w7 ⟨r7,B7,rfl,DX,hb7,hw7⟩;obtain⟨ya,yc,jB⟩:=aG.shape DX;subst jB;have Ro:=ae DX;have eP:=ae hb7;have jg:=ae (eQ.out.trans hw7);have Gn:=ae (hw7.heap YQ.out (fun h=>h));obtain⟨d0,d1,d2⟩:=ag Gn.out;have f2:=fun i=>au Gn.out i;dsimp only[tV]
  try dsimp only[Tm.name,Tm.sort,Tm.kids,List.length_nil]
  clear DX hb7 hw7 sZ
  go_wp2_with fail
  have hr3:=aJ Gn.out (.string zn) (.string zs) (.slice ya zl.length yc);have hu:=aI w7 (w.heap.size+1) (.string zn) (.string zs) (.slice ya zl.length yc);obtain⟨e0,e1,e2⟩:=ag hr3;have hs6:=xx.out;refine bodyPost_ret (v:= .agg #[.string zn,.string zs,.slice ya zl.length yc]) (by simp[results,Tryz.results80,go_sem,e0,e1,e2]) rfl ⟨.slice ya zl.length yc,B7,rfl,Ro.out.kept hu (fun j hj e=>by have h1:=(eP.out j hj).1;omega),fun j hj=>⟨by have h1:=(eP.out j hj).1;omega,ay (eP.out j hj).2 hu.size⟩,jg.out.trans' hu (fun j hj e=>by omega)⟩
 rw[dT hs0] at pg;obtain rfl:Z= .mk n ah (L.map (fA (fJ Bs))):=by rw[<-iH.out,hs0];exact rG _ n L
 have Ox:Hid (∀x∈L,∀f∈fD x,(fJ Bs f.1 f.2).size<=100000):=ae (fun x hx f hf=>fK.out f (by
  rw[hs0,vI];exact List.mem_flatMap.2 ⟨x,hx,hf⟩))
 clear hs0
 go_enter Tryz.func80,Tryz.ntmps80
 go_wp2_with fail
 refine(pg.out _).mono ?_;rintro e w3 ⟨rfl,hw3⟩;have aS:=ae (HZ.out.trans hw3);have nP:=ae (hw3.heap HB2.out (fun h=>h));have uN:=ae (hw3.heap HB3.out (fun h=>h));have gV:Hid (w.heap.size+2<=w3.heap.size):=ae (Nat.le_trans HZ2.out hw3.size);clear hw3 pg x0 x1 x2;have wL:=ae ((uR w3).alloc (.cells #[.string n,.string ⟨#[]⟩,.slice none 0 0] 24));have dO:=ae (ak nP.out (.cells #[.string n,.string ⟨#[]⟩,.slice none 0 0] 24));have zg:=ae (ak uN.out (.cells #[.string n,.string ⟨#[]⟩,.slice none 0 0] 24));have Gp:=ae (ai w3 (.cells #[.string n,.string ⟨#[]⟩,.slice none 0 0] 24));have gQ:Hid (w3.heap.size+1<=(w3.alloc (.cells #[.string n,.string ⟨#[]⟩,.slice none 0 0] 24)).heap.size):=ae (by simp);obtain⟨x0,x1,x2⟩:=ag nP.out;obtain⟨u0,u1,u2⟩:=ag dO.out
 go_wp2_with fail
 generalize w3.alloc (.cells #[.string n,.string ⟨#[]⟩,.slice none 0 0] 24)=w4 at*;obtain⟨n3,hn3⟩: ∃n3,w3.heap.size=n3:=⟨_,rfl⟩
 rw[hn3] at Gp gQ gV⊢;have bQ:=ae (aS.out.trans wL.out);have nX:Hid (ru 24 (n3+1) w4 (L.map (fA (fJ Bs))) (.slice none 0 0) [] (fun _ _=>False) 0):=ae ⟨rfl,⟨rfl,.inl ⟨rfl,rfl⟩⟩,fun i hi=>absurd hi (Nat.not_lt_zero _),fun i j hi=>absurd hi (Nat.not_lt_zero _),fun i i' j hi=>absurd hi (Nat.not_lt_zero _)⟩;clear hn3 x0 x1 x2 u0 u1 u2 wL aS nP uN dO HZ HB2 HB3
 go_loopg [20] L.length (fun gk iv wr=> ∃(k:Nat) (lv:Value) (us:List Value) (Bk:Nat->Nat->Prop),iv= .int .i64 (k:Int)/\gk=L.length-k/\k<=L.length/\Hid (ru 24 (n3+1) wr (L.map (fA (fJ Bs))) lv us Bk k)/\Hid (wr.heap[w.heap.size+1]?=some zO)/\Hid (wr.heap[n3]?=some (.cells #[.string n,.string ⟨#[]⟩,lv] 24 (0,0)))/\Hid (Ext w wr)/\Hid (n3+1<=wr.heap.size))
 case atStart=>exact⟨0,_,_,_,rfl,rfl,Nat.zero_le _,nX,zg,Gp,bQ,gQ⟩
 case round=>
  clear nX zg Gp bQ gQ;obtain⟨k,lv,us,Bk,rfl,rfl,hk,HJ,HB2,HB3,HE,dw⟩:=hrel;obtain⟨la,lc,hlv⟩:=bJ HJ.out.own;subst hlv;by_cases hlt:k<L.length
  .obtain ⟨g,off,hga,_,hat⟩:=(cO.out.ext HE.out).at_ (by omega);subst hga;obtain⟨xa,xc,q0,q1,q2,aY⟩:=hat k hlt;rw[<-Nat.add_assoc] at q1 q2;obtain⟨z0,z1,z2,z2'⟩:=bz hlt;have a_:=ae (fun W (hW:Ext wr W)=>HIH.out (tg L k) (ed L k hlt) _ S W (HW0.out.trans (HE.out.trans hW)) ⟨xa,xc,rfl,aY.ext hW⟩ (fun j hj=>ay (jf.out j hj) (Nat.le_trans HE.out.size hW.size)) (by have h1:=oM.out;have h2:=ku (ed L k hlt);omega) (La.out.kid (ed L k hlt)) (Ox.out _ (ed L k hlt)));dsimp only[tV] at a_;obtain⟨x,hx⟩: ∃x,tg L k=x:=⟨_,rfl⟩
   have hzx:tg (L.map (fA (fJ Bs))) k=fA (fJ Bs) x:=by
    rw[<-hx];unfold tg;rw[List.getD_eq_getElem?_getD,List.getD_eq_getElem?_getD,List.getElem?_map,List.getElem?_eq_getElem hlt];rfl
   obtain⟨z,hz⟩: ∃z,fA (fJ Bs) x=z:=⟨_,rfl⟩
   rw[hx,hz] at a_;rw[hx] at q0 q1 q2;rw[hz] at hzx;have HZX:=ae hzx;have hQ:=(uR wr).alloc (tO x xa xc);have kT:=ai wr (tO x xa xc);obtain⟨b0,b1,b2⟩:=ag kT;have kz:=ak HB3.out (tO x xa xc);have c2:=af kz 2 (.slice la k lc) rfl;have yA:=ae kz;have HQ:=ae hQ;have xG:=ae (ak HB2.out (tO x xa xc));have CV:=ae (HJ.out.own.alloc (tO x xa xc));have jD:Hid (¬(Value.slice la k lc).ownBlock=some n3):=ae (fun e=>by have h1:=(HJ.out.own.lt n3 e).1;omega);have HK:Hid (k<=100000):=ae (by omega);obtain⟨iT,hi,hz0,hz1,hz2⟩:=info_parts Ar;clear hat aY hx hQ kT kz hz hzx
   go_wp2_with fail
   generalize wr.alloc (tO x xa xc)=wq at*;have yB:Hid (Ext wq wq):=ae (aj.refl _ _);have ui:Hid (n3+1<=wq.heap.size):=ae (Nat.le_trans dw.out HQ.out.size);clear q0 q1 q2
   go_region_law (first
    |(refine dP _ (.tmp 25) (.tmp 29) 22 rfl (n3+1) 24 iT (.agg #[.string ⟨#[]⟩,.string ⟨#[]⟩,.slice none 0 0]) 3 56 Tryz.underlying22 hi hz0 hz1 hz2 rfl (by decide) _ _ _ rfl xH.out _ 1 1 [Value.string z.name,.string z.sort,.slice ya z.kids.length yc] rfl rfl oN.out mW.out jA.out.1 jA.out.2.1 jA.out.2.2 ?_;intro v7 w7 dE;obtain⟨a7,c7,hv7⟩:=bJ dE.own;subst hv7;have iL:=dE.upd.heap (ak fE.out (tO z ya yc)) jD.out;have f7:=fun i=>au iL i;have c2:=af iL 2 (.slice la k lc) rfl;have eP:=ae iL;have mD:=ae dE;clear dE iL)
    |(go_simp;refine(a_.out wq.drew (HQ.out.trans yB.out.drew)).mono ?_;rintro e w5 ⟨r,Bx,rfl,jV,hb5,hw5⟩;obtain⟨ya,yc,jB⟩:=aG.shape jV;subst jB;have dS:Hid (Ext wq w5):=ae (((uR wq).drewN' 1).trans hw5);have ql:=ae jV;have qH:Hid (∀j,Bx j->wq.heap.size<=j/\j<w5.heap.size):=ae hb5;have fE:=ae (dS.out.heap yA.out (fun h=>h));have xH:Hid ((w5.alloc (tO z ya yc)).ownsRow (n3+1) 24 3 (.slice la k lc) k (dC ((L.map (fA (fJ Bs))).take k) us)):=ae ((df CV.out dS.out (fun _ _ h=>h)).alloc _);have oN:Hid (∀(j:Nat) (u:Value),[Value.string z.name,.string z.sort,.slice ya z.kids.length yc][j]?=some u->(w5.alloc (tO z ya yc)).cell? ((⟨w5.heap.size,0,none⟩:Addr).add j)=some u):=ae (F5 w5 _ _ _ 24);have mW:Hid (∀u∈[Value.string z.name,.string z.sort,.slice ya z.kids.length yc],u.oneCell'=true):=ae (fun u hu=>by simp at hu;rcases hu with h|h|h<;>(subst h;rfl));have jA:Hid (k+1<=maxLen/\(k+1)*56<=140737488355328/\n3+1<=(w5.alloc (tO z ya yc)).heap.size):=ae ⟨by unfold maxLen;have:=HK.out;omega,by have:=HK.out;omega,by have h1:=dS.out.size;have h2:=ui.out;simp;omega⟩;have c5:=dS.out.cell c2 (fun h=>h);have c6:=((uR w5).alloc (tO z ya yc)).cell c5 (fun h=>h);clear jV hb5 hw5))
   all_goals
    go_wp2_with fail
    have ji:=ae ((aj.refl (fun j=>j=n3) w7).setCell (p:=⟨n3,2,none⟩) (.inl rfl) (.slice a7 (k+1) c7));have dG:Hid (aj (fun j=>(Value.slice la k lc).ownBlock=some j\/j=n3) wq (w7.setCell ⟨n3,2,none⟩ (.slice a7 (k+1) c7))):=ae (((((dS.out.alloc (tO z ya yc)).mono (fun _ _ x=>x.elim)).trans (mD.out.upd.mono (fun _ _ e=> .inl e)))).trans (ji.out.mono (fun _ _ e=> .inr e)));have zL:=ae (HJ.out.grow (by rw[List.length_map];exact hlt) HZX.out (by omega) dw.out HQ.out dS.out ql.out qH.out ((uR w5).alloc (tO z ya yc)) mD.out ji.out);have hs3:=gV.out;have bV:Hid (Ext w (w7.setCell ⟨n3,2,none⟩ (.slice a7 (k+1) c7))):=ae ((HE.out.trans HQ.out).trans' dG.out (fun j hj e=>by
     rcases e with e|e
     .have h1:=(HJ.out.own.lt j e).1;omega
     .omega))
    have uH:=ae (dG.out.heap xG.out (fun e=>by
     rcases e with e|e
     .have h1:=(HJ.out.own.lt _ e).1;omega
     .omega))
    have lT:=setBlock eP.out 2 (.slice a7 (k+1) c7);have uI:Hid ((w7.setCell ⟨n3,2,none⟩ (.slice a7 (k+1) c7)).heap[n3]?=some (.cells #[.string n,.string ⟨#[]⟩,.slice a7 (k+1) c7] 24 (0,0))):=ae (by simpa using lT);have pF:Hid (n3+1<=(w7.setCell ⟨n3,2,none⟩ (.slice a7 (k+1) c7)).heap.size):=ae (Nat.le_trans ui.out dG.out.size);clear lT c2 f7
    go_roundg (L.length- (k+1))
    case measure=>omega
    case rel=>exact⟨k+1,_,_,_,by go_num,rfl,by omega,zL,uH,uI,bV,pF⟩
  .obtain rfl:k=L.length:=by omega
   have z2:decide ((L.length:Int)< (L.length:Int))=false:=dF (by omega);have hfin:=HJ.out;have hll:(L.map (fA (fJ Bs))).length=L.length:=List.length_map ..;rw[<-hll] at hfin;have hfin:=hfin.fin;have tq:=ae hfin;rw[hll] at tq;obtain⟨c0,c1,c2⟩:=ag HB3.out;have f2:=fun i=>au HB2.out i;obtain⟨d0,d1,d2⟩:=ag HB2.out;clear hfin hll
   go_wp2_with fail
   have hr3:=aJ HB2.out (.string n) (.string ⟨#[]⟩) (.slice la L.length lc);have hu:=aI wr (w.heap.size+1) (.string n) (.string ⟨#[]⟩) (.slice la L.length lc);obtain⟨e0,e1,e2⟩:=ag hr3;have hs3:=gV.out;refine bodyPost_ret (v:= .agg #[.string n,.string ⟨#[]⟩,.slice la L.length lc]) (by simp[results,Tryz.results80,go_sem,e0,e1,e2]) rfl ⟨.slice la L.length lc,fun j=>n3+1<=j/\j<wr.heap.size,by simp[List.length_map,ah],tq.out.kept hu (fun j hj e=>by have h1:=hj.1;omega),fun j hj=>⟨by have h1:=hj.1;omega,ay hj.2 hu.size⟩,HE.out.trans' hu (fun j hj e=>by omega)⟩
theorem afw {t:Tm} {f:Vd} (h:wf ax t=true) (hf:f∈fD t) (hs:f.2≠ah):wf ax (vr f.1 f.2)=true:=by
 obtain⟨x,hx,h1,h2⟩:=YW hf;obtain⟨_,_,hn,_⟩:=vM.1 h;obtain⟨n1,n2,n3⟩:=hn x hx;rw[h1] at n1;rw[h2] at n3;have n4:=(n3.resolve_left hs).1;refine vM.2 ⟨by show 1<=1000;decide,by show 1<=60;decide,fun y hy=>?_,?_⟩
 .have:y=vr f.1 f.2:=by
   rw[o6] at hy;simpa[vr,Tm.kids] using hy
  rw[this];exact⟨n1,by simp[vr,Tm.kids],.inr ⟨n4,rfl⟩⟩
 .rw [IC hs];intro a ha b hb _;simp at ha hb;rw[ha,hb]
theorem afx {Bs:List Bd} {t:Tm} {f:Vd} (hv:pX ax Bs=true) (h:wf ax t=true) (hf:f∈fD t) (hs:f.2≠ah):wf ax (fJ Bs f.1 f.2)=true:=by
 cases hb:bK Bs f.1 with
 |none=>rw[OG hb];exact afw h hf hs
 |some T=>
  rw[OE hb];obtain⟨b,hb1,_,h3⟩:=DY hb;rw[<-h3];exact((DZ hv).2.2 b hb1).2.2.1
theorem YX (Bs:List Bd) (t:Tm) (vB v:Value) (RB SB:Nat->Prop) (w:World) (htab:bT w) (hB:lC RB SB w vB Bs) (hSB: ∀k,SB k->k<w.heap.size) (hR:bC (fun k=>k<w.heap.size) w t v) (hv:pX ax Bs=true) (hw:wf ax t=true):
  Calls Tryz.prog 88 #[vB,v] w fun e w'=> ∃r B,e= .returned (.tuple #[tV (app1 ax Bs t).1 r,.int .i64 (app1 ax Bs t).2])/\aG 24 w' B (app1 ax Bs t).1.kids r/\(∀j,B j->w.heap.size<=j/\j<w'.heap.size)/\Ext w w':=by
 have HR:=ae hR;have jq:=ae hB;have BQ:=ae hSB;obtain⟨Z,l7⟩: ∃Z,app1 ax Bs t=Z:=⟨_,rfl⟩
 rw[l7];have iH:=ae l7;clear l7;obtain⟨va,vc,rfl⟩:=hB.shape;obtain⟨a,cap,rfl,hT⟩:=hR;have hbl:=(DZ hv).1;have hasc:=(DZ hv).2.1;have afz:=jY hw;have wM:=oU hw;have hvl:=mO hw;have hvm:=(yM hw).2;have La:=ae (zI hw);have afA:Hid (∀f∈fD t,wf ax (fJ Bs f.1 f.2)=true):=ae (fun f hf=>afx hv hw hf (afB hf));have NM:=ae hasc;have vC:=ae hbl;have Lc:=ae afz;have fB:=ae htab;have HV:=ae (fun W (hW:Ext w W)=>qY t _ W (aC htab hW) ((HR.out.ext hW).weaken (fun k hk=>ay hk hW.size)) (by omega));rw[wM] at HV;have WA:=ae (fun nm W (hW:Ext w W)=>aa2 Bs (.slice va Bs.length vc) nm RB SB W (jq.out.ext hW) hasc (by omega));have hcl:Ug Bs t=(aO t).any fun f=>match v_ Bs f.1 with|some so=>!decide (so=f.2)|none=>false:=rfl
 obtain⟨VL,DN⟩: ∃L,aO t=L:=⟨_,rfl⟩
 rw[DN] at HV hvl hcl;have jP:=ae hcl;have hlv:VL.length<=100000:=by omega
 have HLV:=ae hlv;dsimp only[tV] at HV⊢;have hZ:=(((uR w).alloc (.cells #[.slice va Bs.length vc] 27)).alloc (tO t a cap)).alloc zO;have H1:=ae (ak (ak (ai w (.cells #[.slice va Bs.length vc] 27)) (tO t a cap)) zO);have H2:=ae (ak (alloc_at (w.alloc (.cells #[.slice va Bs.length vc] 27)) (tO t a cap) (n:=w.heap.size+1) (by simp)) zO);have H3:=ae (alloc_at ((w.alloc (.cells #[.slice va Bs.length vc] 27)).alloc (tO t a cap)) zO (n:=w.heap.size+2) (by simp));have hz3:w.heap.size+3<=(((w.alloc (.cells #[.slice va Bs.length vc] 27)).alloc (tO t a cap)).alloc zO).heap.size:=by simp
 have HZ3:=ae hz3;obtain⟨x0,x1,x2⟩:=ag H2.out;have HZ:=ae hZ;clear hT htab hB hSB hv hw hbl hasc afz wM hvl hvm hcl DN hlv hZ hz3
 go_enter Tryz.func88,Tryz.ntmps88
 go_wp2_with fail
 try rw[show w.heap.size+1+1=w.heap.size+2 from rfl]
 generalize (((w.alloc (.cells #[.slice va Bs.length vc] 27)).alloc (tO t a cap)).alloc zO)=wa at*;refine(HV.out _ HZ.out).mono ?_;rintro e w4 ⟨r1,rfl,hr1,hw4⟩;have bQ:=ae (HZ.out.trans hw4);have OL:=ae (hw4.heap H1.out (fun h=>h));have Ae:=ae (hw4.heap H2.out (fun h=>h));have uz:=ae (hw4.heap H3.out (fun h=>h));have gQ:Hid (w.heap.size+3<=w4.heap.size):=ae (Nat.le_trans HZ3.out hw4.size);have KI:=ae hr1;obtain⟨p1,c1,hp1⟩:=bU.shape hr1;subst hp1;clear hw4 x0 x1 x2 H1 H2 H3 HZ HZ3 HV hr1;have hlv:=HLV.out
 go_wp2_with fail
 go_loopg [23] VL.length (fun gk iv wr=> ∃k:Nat,iv= .int .i64 (k:Int)/\gk=VL.length-k/\k<=VL.length/\Hid (Ext w4 wr)/\Hid (∀f∈VL.take k,(match v_ Bs f.1 with|some so=>!decide (so=f.2)|none=>false)=false))
 case atStart=>exact⟨0,rfl,rfl,Nat.zero_le _,ae (aj.refl _ _),ae (fun v hv=>by simp at hv)⟩
 case round=>
  obtain⟨k,rfl,rfl,hk,HE,rZ⟩:=hrel;by_cases hlt:k<VL.length
  .obtain ⟨g,off,hga,hat⟩:=bU.at_ (bU.ext KI.out HE.out) (by omega);subst hga;obtain⟨q0,q1⟩:=hat k hlt;have htk:=EE VL k hlt;have hvm:=xk hlt;obtain⟨v,hv⟩: ∃v,vg VL k=v:=⟨_,rfl⟩
   rw[hv] at q0 q1 htk hvm;obtain⟨nm,so⟩:=v;simp only at q0 q1;obtain⟨z0,z1,z2,z2'⟩:=bz hlt;have nM:=HE.out.alloc (.cells #[.string nm,.string so] 116);have fP:=ae nM;have fE:=ae (ai wr (.cells #[.string nm,.string so] 116));have e0:=af fE.out 0 (.string nm) rfl;have s0:=af (nM.heap OL.out (fun h=>h)) 0 (.slice va Bs.length vc) rfl;have Rn:=ae (WA.out nm _ (bQ.out.trans nM));have hno: ∀sb,v_ Bs nm=some sb->sb≠so->Z=(.mk ah ah [],11):=fun sb h1 h2=>by
    rw[<-iH.out];unfold app1;have:Ug Bs t=true:=by
     rw[jP.out,List.any_eq_true];refine⟨(nm,so),hvm,?_⟩;simp only[h1];simp[h2]
    rw[if_pos this]
   have hyes:(match v_ Bs nm with|some sb=>!decide (sb=so)|none=>false)=false->∀f∈VL.take (k+1),(match v_ Bs f.1 with|some so=>!decide (so=f.2)|none=>false)=false:=fun h f hf=>by
    rw[htk,List.mem_append,List.mem_singleton] at hf;rcases hf with hf|hf
    .exact rZ.out f hf
    .rw [hf];exact h
   have tH:=ae hno;have qK:=ae hyes;obtain⟨F,hF⟩: ∃F,(bK Bs nm).isSome=F:=⟨_,rfl⟩
   rw[hF] at Rn;have HF:=ae hF;clear hat htk hvm hv nM hno hyes hF
   go_wp2_with fail
   generalize wr.alloc (.cells #[.string nm,.string so] 116)=w5 at*;refine Rn.out.mono ?_;rintro e w6 ⟨rfl,hw6⟩;have eQ:=ae (fP.out.trans hw6);have iG:=ae (hw6.heap fE.out (fun h=>h));have s0:=af (eQ.out.heap OL.out (fun h=>h)) 0 (.slice va Bs.length vc) rfl;have e1:=af iG.out 1 (.string so) rfl;clear hw6 Rn q0 q1 e0;cases F with
   |false=>
    have fV:=ae (qK.out (by
     have:v_ Bs nm=none:=WG.2 (by
      have:=HF.out;cases hb:bK Bs nm with
      |none=>rfl
      |some T=>rw[hb] at this;cases this)
     rw[this]))
    go_wp2_with fail
    go_quiet (fail)
    go_wp2_with fail
    go_roundg (VL.length- (k+1))
    case measure=>omega
    case rel=>exact⟨k+1,by go_num,rfl,by omega,ae (eQ.out.drewN' _),fV⟩
   |true=>
    obtain⟨hlm,_,hbs⟩:=KY (n:=nm) NM.out HF.out;obtain⟨gb,ob,hgb,_,afC⟩:=(jq.out.ext (bQ.out.trans eQ.out)).at_ (by omega);subst hgb;obtain⟨xa,xc,_,p1,_,_,_,_⟩:=afC _ hlm;obtain⟨m,hm⟩: ∃m,lh Bs nm=m:=⟨_,rfl⟩
    rw[hm] at p1 hlm hbs⊢;have y0:(0:Int)<=(m:Int):=by omega
    have y1:(m:Int)< (Bs.length:Int):=by omega
    obtain⟨sb,hsb⟩: ∃x,(Go.Hw.bg Bs m).2.1=x:=⟨_,rfl⟩
    rw[hsb] at p1 hbs;have s1:=nK sb so;have afD:=ae hbs;clear afC hm hsb hbs;by_cases he:sb=so
    .rw [dT he] at s1;have fV:=ae (qK.out (by rw[afD.out];simp[he]));clear he
     go_wp2_with fail
     go_quiet (fail)
     go_wp2_with fail
     go_roundg (VL.length- (k+1))
     case measure=>omega
     case rel=>exact⟨k+1,by go_num,rfl,by omega,ae (eQ.out.drewN' _),fV⟩
    .rw [dF he] at s1;obtain rfl:Z=(.mk ah ah [],11):=tH.out sb afD.out he;clear he;have jg:=ae (bQ.out.trans eQ.out);have BL:=ae (eQ.out.heap uz.out (fun h=>h))
     go_wp2_with fail
     go_quiet (fail)
     have bV:=ae (jg.out.drewN' nq);have H38:=ae (((uR w6).drewN' nq).heap BL.out (fun h=>h));generalize w6.drewN nq=w8 at*;obtain⟨d0,d1,d2⟩:=ag H38.out;have f2:=fun i=>au H38.out i
     go_wp2_with fail
     have hr3:=aJ H38.out (.string ⟨#[]⟩) (.string ⟨#[]⟩) (.slice none 0 0);have hu:=aI w8 (w.heap.size+2) (.string ⟨#[]⟩) (.string ⟨#[]⟩) (.slice none 0 0);obtain⟨e0,e1,e2⟩:=ag hr3;refine bodyPost_ret (v:= .tuple #[.agg #[.string ⟨#[]⟩,.string ⟨#[]⟩,.slice none 0 0],.int .i64 11]) (by simp[results,Tryz.results88,go_sem,e0,e1,e2]) rfl ?_;have hue:=bV.out.trans' hu (fun j hj e=>by omega)
     first|exact⟨.slice none 0 0,fun _=>False,rfl,aG.nil _ _ _,fun j hj=>hj.elim,hue⟩|exact⟨.slice none 0 0,rfl,fun _=>False,aG.nil _ _ _,fun j hj=>hj.elim,hue⟩
  .obtain rfl:k=VL.length:=by omega
   have z2:decide ((VL.length:Int)< (VL.length:Int))=false:=dF (by omega);have HCF:Hid (Ug Bs t=false):=ae (by
    rw[jP.out,List.any_eq_false];intro f hf;have:=rZ.out f (by rw[List.take_length];exact hf);rw[this];simp)
   have dX:=ae (bQ.out.trans HE.out);have H15:=ae (HE.out.heap OL.out (fun h=>h));have Oi:=ae (HE.out.heap Ae.out (fun h=>h));have Ir:=ae (HE.out.heap uz.out (fun h=>h));have qi:Hid (w.heap.size+3<=wr.heap.size):=ae (Nat.le_trans gQ.out HE.out.size);have Ai:=(uR wr).alloc (.cells #[.func (.func 151) #[] #[.pointer (some ⟨w.heap.size,0,none⟩)]] 90);have zQ:=ae Ai;have iG:=ae (ai wr (.cells #[.func (.func 151) #[] #[.pointer (some ⟨w.heap.size,0,none⟩)]] 90));have eQ:=ae (dX.out.trans Ai);have H16:=ae (Ai.heap H15.out (fun h=>h));have Ri:=ae (Ai.heap Oi.out (fun h=>h));have BL:=ae (Ai.heap Ir.out (fun h=>h));have HME:=ae (afr Bs (.slice va Bs.length vc) w.heap.size wr.heap.size RB SB (wr.alloc (.cells #[.func (.func 151) #[] #[.pointer (some ⟨w.heap.size,0,none⟩)]] 90)) H16 iG (ae (jq.out.ext eQ.out)) (ae (fun k hk=>ay (BQ.out k hk) eQ.out.size)) NM (ae (by have:=vC.out;omega)) (ae (aC fB.out eQ.out)) t _ (fun k=>k<w.heap.size) (wr.alloc (.cells #[.func (.func 151) #[] #[.pointer (some ⟨w.heap.size,0,none⟩)]] 90)) (aj.refl _ _) (HR.out.ext eQ.out) (fun k hk=>ay hk eQ.out.size) (by have:=Lc.out;omega) La.out afA.out);dsimp only[tV] at HME;have v0:=af iG.out 0 (.func (.func 151) #[] #[.pointer (some ⟨w.heap.size,0,none⟩)]) rfl;obtain⟨x0,x1,x2⟩:=ag Ri.out;clear Ai Ae uz OL HE KI rZ
   go_wp2_with fail
   obtain⟨vb,hvb⟩: ∃n,wr.heap.size=n:=⟨_,rfl⟩
   rw[hvb] at HME iG v0 qi
   try rw[hvb]
   clear hvb;generalize wr.alloc (.cells #[.func (.func 151) #[] #[.pointer (some ⟨w.heap.size,0,none⟩)]] 90)=w6 at*;refine HME.out.mono ?_;rintro e w7 ⟨rfl,hw7⟩;have jg:=ae (eQ.out.trans hw7);have H17:=ae (hw7.heap H16.out (fun h=>h));have H27:=ae (hw7.heap Ri.out (fun h=>h));have Iu:=ae (hw7.heap BL.out (fun h=>h));have eP:=ae (hw7.heap iG.out (fun h=>h));obtain⟨z,hz⟩: ∃z,wO Bs t=z:=⟨_,rfl⟩
   rw[hz];have OM:=ae hz;obtain⟨A1,hA1⟩: ∃n,min z.size 1001=n:=⟨_,rfl⟩
   obtain⟨A2,hA2⟩: ∃n,min z.depth 61=n:=⟨_,rfl⟩
   rw[hA1,hA2];have HA:=ae (And.intro hA1 hA2);clear hw7 HME hz hA1 hA2 x0 x1 x2 v0 H16 Ri BL iG eQ zQ;by_cases hbig:1000<z.size\/60<z.depth
   .obtain rfl:Z=(.mk ah ah [],4):=by
     rw[<-iH.out];unfold app1;rw[if_neg (by rw[HCF.out];simp),if_pos (by rw[OM.out];exact hbig)]
    by_cases hb1:1000<A1
    .have y1:decide ((1000:Int)< (A1:Int))=true:=dT (by omega);have y1':(1000:Int)< (A1:Int):=by omega
     clear hbig hb1;obtain⟨d0,d1,d2⟩:=ag Iu.out;have f2:=fun i=>au Iu.out i
     go_wp2_with fail
     have hr3:=aJ Iu.out (.string ⟨#[]⟩) (.string ⟨#[]⟩) (.slice none 0 0);have hu:=aI w7 (w.heap.size+2) (.string ⟨#[]⟩) (.string ⟨#[]⟩) (.slice none 0 0);obtain⟨e0,e1,e2⟩:=ag hr3;refine bodyPost_ret (v:= .tuple #[.agg #[.string ⟨#[]⟩,.string ⟨#[]⟩,.slice none 0 0],.int .i64 4]) (by simp[results,Tryz.results88,go_sem,e0,e1,e2]) rfl ?_;have hue:=jg.out.trans' hu (fun j hj e=>by omega)
     first|exact⟨.slice none 0 0,fun _=>False,rfl,aG.nil _ _ _,fun j hj=>hj.elim,hue⟩|exact⟨.slice none 0 0,rfl,fun _=>False,aG.nil _ _ _,fun j hj=>hj.elim,hue⟩
    .have y1:decide ((1000:Int)< (A1:Int))=false:=dF (by omega);have y1': ¬(1000:Int)< (A1:Int):=by omega
     have y2':(60:Int)< (A2:Int):=by have:=HA.out;omega
     have y2:decide ((60:Int)< (A2:Int))=true:=dT y2';clear hbig hb1;obtain⟨d0,d1,d2⟩:=ag Iu.out;have f2:=fun i=>au Iu.out i
     go_wp2_with fail
     have hr3:=aJ Iu.out (.string ⟨#[]⟩) (.string ⟨#[]⟩) (.slice none 0 0);have hu:=aI w7 (w.heap.size+2) (.string ⟨#[]⟩) (.string ⟨#[]⟩) (.slice none 0 0);obtain⟨e0,e1,e2⟩:=ag hr3;refine bodyPost_ret (v:= .tuple #[.agg #[.string ⟨#[]⟩,.string ⟨#[]⟩,.slice none 0 0],.int .i64 4]) (by simp[results,Tryz.results88,go_sem,e0,e1,e2]) rfl ?_;have hue:=jg.out.trans' hu (fun j hj e=>by omega)
     first|exact⟨.slice none 0 0,fun _=>False,rfl,aG.nil _ _ _,fun j hj=>hj.elim,hue⟩|exact⟨.slice none 0 0,rfl,fun _=>False,aG.nil _ _ _,fun j hj=>hj.elim,hue⟩
   have y1': ¬(1000:Int)< (A1:Int):=by have:=HA.out;omega
   have y2': ¬(60:Int)< (A2:Int):=by have:=HA.out;omega
   have y1:decide ((1000:Int)< (A1:Int))=false:=dF y1';have y2:decide ((60:Int)< (A2:Int))=false:=dF y2';have nZ:=ae hbig;have yN:=ae (YU Bs (.slice va Bs.length vc) w.heap.size RB SB w7 H17 (ae (jq.out.ext jg.out)) (ae (fun k hk=>ay (BQ.out k hk) jg.out.size)) NM (ae (by have:=vC.out;omega)) t _ (fun k=>k<w.heap.size) w7 (aj.refl _ _) (HR.out.ext jg.out) (fun k hk=>ay hk jg.out.size) (by have:=Lc.out;omega) La.out (fun f hf=>by have:=jY (afA.out f hf);omega));have hzz:fA (fJ Bs) t=z:=OM.out;rw[hzz] at yN;dsimp only[tV] at yN;have v0:=af eP.out 0 (.func (.func 151) #[] #[.pointer (some ⟨w.heap.size,0,none⟩)]) rfl;obtain⟨x0,x1,x2⟩:=ag H27.out;clear hbig hzz
   go_wp2_with fail
   refine yN.out.mono ?_;rintro e w8 ⟨r8,B8,rfl,Aj,hb8,hw8⟩;obtain⟨ya,yc,jB⟩:=aG.shape Aj;subst jB;have WH:=(uR w8).alloc (tO z ya yc);have Ag:=ae (Aj.kept WH (fun _ _ h=>h));have l9:=ae (ai w8 (tO z ya yc));have kY:=ae (jg.out.trans (hw8.trans WH));have H39:=ae ((hw8.trans WH).heap Iu.out (fun h=>h));have Uh:Hid (∀j,B8 j->w.heap.size+3<=j/\j< (w8.alloc (tO z ya yc)).heap.size):=ae (fun j hj=>⟨by have h1:=(hb8 j hj).1;have h2:=qi.out;have h3:vb<w7.heap.size:=(Array.getElem?_eq_some_iff.1 eP.out).1;omega,ay (hb8 j hj).2 WH.size⟩);have sG:=ae (xn z (tV z (.slice ya z.kids.length yc)) (w8.alloc (tO z ya yc)) (aC fB.out kY.out) ⟨ya,yc,rfl,(Ag.out.read).weaken (fun k hk=>(Uh.out k hk).2)⟩ (by have:=nZ.out;omega));dsimp only[tV] at sG⊢;clear Aj hb8 hw8 WH yN x0 x1 x2 v0 H17 H27 Iu eP;obtain⟨x0,x1,x2⟩:=ag l9.out
   go_wp2_with fail
   generalize w8.alloc (tO z ya yc)=w9 at*;refine sG.out.mono ?_;rintro e w10 ⟨rfl,JF⟩;have afH:=ae (kY.out.trans JF);have JG:=ae (JF.heap H39.out (fun h=>h));have amD:=ae (JF.heap l9.out (fun h=>h));have amE:=ae (Ag.out.kept JF (fun _ _ h=>h));have Ui:Hid (∀j,B8 j->w.heap.size+3<=j/\j<w10.heap.size):=ae (fun j hj=>⟨(Uh.out j hj).1,ay (Uh.out j hj).2 JF.size⟩);clear JF sG x0 x1 x2 l9 H39 Ag Uh kY;cases hwz:wf ax z with
   |false=>
    obtain rfl:Z=(.mk ah ah [],11):=by
     rw[<-iH.out];unfold app1;rw[if_neg (by rw[HCF.out];simp),if_neg (by rw[OM.out];exact nZ.out),if_pos (by rw[OM.out];exact hwz)]
    clear hwz;obtain⟨d0,d1,d2⟩:=ag JG.out;have f2:=fun i=>au JG.out i
    go_wp2_with fail
    have hr3:=aJ JG.out (.string ⟨#[]⟩) (.string ⟨#[]⟩) (.slice none 0 0);have hu:=aI w10 (w.heap.size+2) (.string ⟨#[]⟩) (.string ⟨#[]⟩) (.slice none 0 0);obtain⟨e0,e1,e2⟩:=ag hr3;refine bodyPost_ret (v:= .tuple #[.agg #[.string ⟨#[]⟩,.string ⟨#[]⟩,.slice none 0 0],.int .i64 11]) (by simp[results,Tryz.results88,go_sem,e0,e1,e2]) rfl ?_;have hue:=afH.out.trans' hu (fun j hj e=>by omega)
    first|exact⟨.slice none 0 0,fun _=>False,rfl,aG.nil _ _ _,fun j hj=>hj.elim,hue⟩|exact⟨.slice none 0 0,rfl,fun _=>False,aG.nil _ _ _,fun j hj=>hj.elim,hue⟩
   |true=>
    obtain rfl:Z=(z,0):=by
     rw[<-iH.out];unfold app1;rw[if_neg (by rw[HCF.out];simp),if_neg (by rw[OM.out];exact nZ.out),if_neg (by rw[OM.out,hwz];simp),OM.out]
    clear hwz;obtain⟨x0,x1,x2⟩:=ag amD.out;obtain⟨d0,d1,d2⟩:=ag JG.out;have f2:=fun i=>au JG.out i
    go_wp2_with fail
    have hr3:=aJ JG.out (.string z.name) (.string z.sort) (.slice ya z.kids.length yc);have hu:=aI w10 (w.heap.size+2) (.string z.name) (.string z.sort) (.slice ya z.kids.length yc);obtain⟨e0,e1,e2⟩:=ag hr3;refine bodyPost_ret (v:= .tuple #[.agg #[.string z.name,.string z.sort,.slice ya z.kids.length yc],.int .i64 0]) (by simp[results,Tryz.results88,go_sem,e0,e1,e2]) rfl ?_;have hue:=afH.out.trans' hu (fun j hj e=>by omega);have own:=amE.out.kept hu (fun j hj e=>by have h3:=(Ui.out j hj).1;omega);have WI: ∀j,B8 j->w.heap.size<=j/\j<_:=fun j hj=>⟨by have h3:=(Ui.out j hj).1;omega,ay (Ui.out j hj).2 hu.size⟩
    first|exact⟨.slice ya z.kids.length yc,B8,rfl,own,WI,hue⟩|exact⟨.slice ya z.kids.length yc,rfl,B8,own,WI,hue⟩
theorem Y0 (Bs:List Bd) (t:Tm) (vB v:Value) (w:World) (htab:bT w) (hB:lC (fun k=>k<w.heap.size) (fun k=>k<w.heap.size) w vB Bs) (hR:bC (fun k=>k<w.heap.size) w t v) (hl:Bs.length<=1000000) (hs: ∀b∈Bs,(b.2.2.size:Int)<=1000000000000) (ht:(t.size:Int)<=1000000000000):
  Calls Tryz.prog 29 #[vB,v] w fun e w'=> ∃r B,e= .returned (.tuple #[tV (D5 ax Bs t).1 r,.int .i64 (D5 ax Bs t).2])/\aG 24 w' B (D5 ax Bs t).1.kids r/\(∀j,B j->w.heap.size<=j/\j<w'.heap.size)/\Ext w w':=by
 obtain⟨Z,l7⟩: ∃Z,D5 ax Bs t=Z:=⟨_,rfl⟩
 rw[l7];have iH:=ae l7;clear l7;have HR:=ae hR;have HV:=ae (fun W (hW:Ext w W)=>acH Bs vB W (aC htab hW) ((hB.ext hW).weaken (fun k hk=>ay hk hW.size) (fun k hk=>ay hk hW.size)) hl hs);have HF:=ae (fun W (hW:Ext w W)=>xn t v W (aC htab hW) ((hR.ext hW).weaken (fun k hk=>ay hk hW.size)) ht);have HA:=ae (fun(h1:pX ax Bs=true) (h2:wf ax t=true) W (hW:Ext w W)=>YX Bs t vB v _ (fun k=>k<w.heap.size) W (aC htab hW) (hB.ext hW) (fun k hk=>ay hk hW.size) ((hR.ext hW).weaken (fun k hk=>ay hk hW.size)) h1 h2);obtain⟨va,vc,rfl⟩:=hB.shape;obtain⟨a,cap,rfl,hT⟩:=hR;dsimp only[tV] at HF HA⊢;have hZ:=((uR w).alloc (tO t a cap)).alloc zO;have H2:=ae (ak (ai w (tO t a cap)) zO);have H3:=ae (alloc_at (w.alloc (tO t a cap)) zO (n:=w.heap.size+1) (by simp));have hz2:w.heap.size+2<=((w.alloc (tO t a cap)).alloc zO).heap.size:=by simp
 have HZ2:=ae hz2;obtain⟨x0,x1,x2⟩:=ag H2.out;have HZ:=ae hZ;have OO:Hid (Z=if(pX ax Bs&&wf ax t)=true then app1 ax Bs t else(.mk ah ah [],1)):=ae (by rw[<-iH.out];rfl);obtain⟨Q,hQ⟩: ∃Q,app1 ax Bs t=Q:=⟨_,rfl⟩
 obtain⟨b1,hb1⟩: ∃b,pX ax Bs=b:=⟨_,rfl⟩
 obtain⟨b2,hb2⟩: ∃b,wf ax t=b:=⟨_,rfl⟩
 rw[hb1] at HV HA OO;rw[hb2] at HF HA OO;rw[hQ] at HA OO;clear hT htab hB hl hs ht hZ hz2 iH hQ hb1 hb2 HR
 go_enter Tryz.func29,Tryz.ntmps29
 go_wp2_with fail
 generalize ((w.alloc (tO t a cap)).alloc zO)=wa at*;refine(HV.out _ HZ.out).mono ?_;rintro e w3 ⟨rfl,hw3⟩;have aS:=ae (HZ.out.trans hw3);have Ad:=ae (hw3.heap H2.out (fun h=>h));have uw:=ae (hw3.heap H3.out (fun h=>h));have gV:Hid (w.heap.size+2<=w3.heap.size):=ae (Nat.le_trans HZ2.out hw3.size);clear hw3 x0 x1 x2 H2 H3 HZ HV HZ2;cases b1
 .obtain rfl:Z=(.mk ah ah [],1):=by have:=OO.out;simpa using this
  obtain⟨d0,d1,d2⟩:=ag uw.out;have f2:=fun i=>au uw.out i
  go_wp2_with fail
  have hr3:=aJ uw.out (.string ⟨#[]⟩) (.string ⟨#[]⟩) (.slice none 0 0);have hu:=aI w3 (w.heap.size+1) (.string ⟨#[]⟩) (.string ⟨#[]⟩) (.slice none 0 0);obtain⟨e0,e1,e2⟩:=ag hr3;refine bodyPost_ret (v:= .tuple #[.agg #[.string ⟨#[]⟩,.string ⟨#[]⟩,.slice none 0 0],.int .i64 1]) (by simp[results,Tryz.results29,go_sem,e0,e1,e2]) rfl ?_;have hue:=aS.out.trans' hu (fun j hj e=>by omega)
  first|exact⟨.slice none 0 0,fun _=>False,rfl,aG.nil _ _ _,fun j hj=>hj.elim,hue⟩|exact⟨.slice none 0 0,rfl,fun _=>False,aG.nil _ _ _,fun j hj=>hj.elim,hue⟩
 obtain⟨x0,x1,x2⟩:=ag Ad.out
 go_wp2_with fail
 refine(HF.out _ aS.out).mono ?_;rintro e w4 ⟨rfl,hw4⟩;have bQ:=ae (aS.out.trans hw4);have Ae:=ae (hw4.heap Ad.out (fun h=>h));have uz:=ae (hw4.heap uw.out (fun h=>h));have gQ:Hid (w.heap.size+2<=w4.heap.size):=ae (Nat.le_trans gV.out hw4.size);clear hw4 x0 x1 x2 Ad uw aS HF gV;cases b2
 .obtain rfl:Z=(.mk ah ah [],1):=by have:=OO.out;simpa using this
  obtain⟨d0,d1,d2⟩:=ag uz.out;have f2:=fun i=>au uz.out i
  go_wp2_with fail
  have hr3:=aJ uz.out (.string ⟨#[]⟩) (.string ⟨#[]⟩) (.slice none 0 0);have hu:=aI w4 (w.heap.size+1) (.string ⟨#[]⟩) (.string ⟨#[]⟩) (.slice none 0 0);obtain⟨e0,e1,e2⟩:=ag hr3;refine bodyPost_ret (v:= .tuple #[.agg #[.string ⟨#[]⟩,.string ⟨#[]⟩,.slice none 0 0],.int .i64 1]) (by simp[results,Tryz.results29,go_sem,e0,e1,e2]) rfl ?_;have hue:=bQ.out.trans' hu (fun j hj e=>by omega)
  first|exact⟨.slice none 0 0,fun _=>False,rfl,aG.nil _ _ _,fun j hj=>hj.elim,hue⟩|exact⟨.slice none 0 0,rfl,fun _=>False,aG.nil _ _ _,fun j hj=>hj.elim,hue⟩
 obtain rfl:Z=Q:=by have:=OO.out;simpa using this
 obtain⟨x0,x1,x2⟩:=ag Ae.out;have HA2:=ae (HA.out (by simp) (by simp) w4 bQ.out);obtain⟨z,en⟩:=Z;dsimp only at HA2⊢;clear HA OO
 go_wp2_with fail
 refine HA2.out.mono ?_;rintro e w6 ⟨r6,B6,rfl,xN,hb6,hw6⟩;obtain⟨ya,yc,jB⟩:=aG.shape xN;subst jB;have H_:=ae xN;have eQ:=ae (bQ.out.trans hw6);have BL:=ae (hw6.heap uz.out (fun h=>h));have Y1:Hid (∀j,B6 j->w.heap.size+2<=j/\j<w6.heap.size):=ae (fun j hj=>⟨Nat.le_trans gQ.out (hb6 j hj).1,(hb6 j hj).2⟩);dsimp only[tV];clear xN hb6 hw6 HA2 x0 x1 x2;obtain⟨d0,d1,d2⟩:=ag BL.out;have f2:=fun i=>au BL.out i
 go_wp2_with fail
 have hr3:=aJ BL.out (.string z.name) (.string z.sort) (.slice ya z.kids.length yc);have hu:=aI w6 (w.heap.size+1) (.string z.name) (.string z.sort) (.slice ya z.kids.length yc);obtain⟨e0,e1,e2⟩:=ag hr3;refine bodyPost_ret (v:= .tuple #[.agg #[.string z.name,.string z.sort,.slice ya z.kids.length yc],.int .i64 en]) (by simp[results,Tryz.results29,go_sem,e0,e1,e2]) rfl ?_;have hue:=eQ.out.trans' hu (fun j hj e=>by omega);have own:=H_.out.kept hu (fun j hj e=>by have h3:=(Y1.out j hj).1;omega);have WI: ∀j,B6 j->w.heap.size<=j/\j<_:=fun j hj=>⟨by have h3:=(Y1.out j hj).1;omega,ay (Y1.out j hj).2 hu.size⟩
 first|exact⟨.slice ya z.kids.length yc,B6,rfl,own,WI,hue⟩|exact⟨.slice ya z.kids.length yc,rfl,B6,own,WI,hue⟩
end
theorem wZ (t:Tm) (v:Value) (w:World) (htab:bT w) (hR:bC (fun k=>k<w.heap.size) w t v) (hsz:(t.size:Int)<=1000000000000):Calls Tryz.prog 116 #[v] w fun e w'=>e= .returned (.bool (wf ax t))/\Ext w w':=by
 have HR:=ae hR;obtain⟨a,cap,rfl,hT⟩:=hR;have hb:=ai w (tO t a cap);have HZ:=ae ((uR w).alloc (tO t a cap));have HS:=ae (fun W (hW:Ext w W)=>Nc t _ W (aC htab hW) ((HR.out.ext hW).weaken (fun k hk=>ay hk hW.size)) hsz);dsimp only[tV] at HS⊢;obtain⟨c0,c1,c2⟩:=ag hb;have hpos:=size_pos t;have hz:decide (0<wG t)=wf ax t:=by
  unfold wG;by_cases h:wf ax t=true
  .rw [if_pos h,h,dT (by omega)]
  .rw [if_neg h,Bool.eq_false_iff.2 h];rfl
 have HV:=ae hz;obtain⟨X,hX⟩: ∃X,wG t=X:=⟨_,rfl⟩
 rw[hX] at HS HV;clear hz hX hT hb
 go_enter Tryz.func116,Tryz.ntmps116
 go_wp2_with fail
 refine(HS.out _ HZ.out).mono ?_;rintro e w4 ⟨rfl,hw4⟩;have H4:=ae (HZ.out.ext hw4);clear hw4 c0 c1 c2;by_cases h0:0<X
 .have t0:(0:Int)< (X:Int):=by omega
  have t1:decide ((0:Int)< (X:Int))=true:=dT t0;have jb:Hid (wf ax t=true):=ae (by rw[<-HV.out];exact dT h0)
  go_wp2_with fail
  go_ret;rw[jb.out];exact⟨rfl,H4.out⟩
 .have t0: ¬(0:Int)< (X:Int):=by omega
  have t1:decide ((0:Int)< (X:Int))=false:=dF t0;have jb:Hid (wf ax t=false):=ae (by rw[<-HV.out];exact dF h0)
  go_wp2_with fail
  go_ret;rw[jb.out];exact⟨rfl,H4.out⟩
def gK (t:Tm) (p:List Nat) (u:Tm):Tm×Int:=if wf ax (putAt t p u)=true then(putAt t p u,0) else(bP,4)
theorem MJ (t u:Tm) (p:List Nat) (tv uv pv:Value) (S R T:Nat->Prop) (w:World) (hT:bC S w t tv) (hU:bC R w u uv) (hS: ∀k,S k->k<w.heap.size) (hRR: ∀k,R k->k<w.heap.size) (hP:az T w 1 pv p.length (p.map fun i:Nat=>Value.int .i64 (i:Int))) (hok:uj t p) (htab:bT w) (hsz:t.size<=100000) (aoZ:u.size<=100000) (hl:p.length<=1000000):
  Calls Tryz.prog 120 #[tv,pv,uv] w fun e w'=> ∃r,e= .returned (.tuple #[tV (gK t p u).1 r,.int .i64 (gK t p u).2])/\aA (fun k=>(w.heap.size<=k/\k<w'.heap.size)\/R k) w' (gK t p u).1.kids r/\Ext w w':=by
 obtain⟨pa,pc,rfl⟩:=az.shape hP;have HP:=ae hP;obtain⟨a,cap,rfl,hT⟩:=hT;obtain⟨ua,uc,rfl,hU⟩:=hU;have HU:=ae hU;have HRR:=ae hRR;have fK:=ae hok;have cZ:=ae ((((uR w).alloc (tO t a cap)).alloc (tO u ua uc)).alloc zO);have HB3:=ae (ak (ak (ai w (tO t a cap)) (tO u ua uc)) zO);have fE:=ae (ak (alloc_at (w.alloc (tO t a cap)) (tO u ua uc) (n:=w.heap.size+1) (by simp)) zO);have iG:=ae (alloc_at ((w.alloc (tO t a cap)).alloc (tO u ua uc)) zO (n:=w.heap.size+2) (by simp));have hz0:(((w.alloc (tO t a cap)).alloc (tO u ua uc)).alloc zO).heap.size=w.heap.size+3:=by simp
 have HZ0:=ae hz0;have NM:=ae (fun W (hW:Ext w W)=>aC htab hW);have QT:=ae (fun W (hW:Ext w W)=>yF t (.agg #[.string t.name,.string t.sort,.slice a t.kids.length cap]) S W ⟨a,cap,rfl,hT.ext hW⟩ (fun k hk=>ay (hS k hk) hW.size) hsz);have HF:Hid (gK t p u=if wf ax (putAt t p u)=true then(putAt t p u,0) else(bP,4)):=ae rfl;obtain⟨F,hF⟩: ∃F,gK t p u=F:=⟨_,rfl⟩
 rw[hF] at HF⊢;dsimp only[tV] at QT⊢;clear hP hT hU hS hRR htab hF hz0 hok;obtain⟨k0,k1,k2⟩:=ag HB3.out
 go_enter Tryz.func120,Tryz.ntmps120
 go_wp2_with fail
 refine(QT.out _ cZ.out).mono ?_;rintro e w6 ⟨r1,B1,rfl,CX,hb6,hw6⟩;obtain⟨ra,rc,hr1⟩:=aG.shape CX;subst hr1;have VE:=(uR w6).alloc (tO t ra rc);have H7:=ae ((cZ.out.trans hw6).trans VE);have al4:=ae (VE.heap (hw6.heap fE.out (fun h=>h)) (fun h=>h));have aeg:=ae (VE.heap (hw6.heap iG.out (fun h=>h)) (fun h=>h));have Jw:=ae (ai w6 (tO t ra rc));have Ia:=ae (CX.kept VE (fun _ _ h=>h));have HZ6:Hid (w.heap.size+3<=w6.heap.size):=ae (by rw[<-HZ0.out];exact hw6.size);have HBF:Hid (∀j,B1 j->w.heap.size+3<=j/\j<w6.heap.size):=ae (fun j hj=>by have h1:=hb6 j hj;rw[HZ0.out] at h1;exact h1);have HZ7:Hid ((w6.alloc (tO t ra rc)).heap.size=w6.heap.size+1):=ae (by simp);have QU:Hid (Kw B1 (w6.alloc (tO t ra rc)) (w6.heap.size,0) t):=ae ⟨ra,rc,af Jw.out 0 _ rfl,af Jw.out 1 _ rfl,af Jw.out 2 _ rfl,Ia.out.read⟩;clear CX hb6 hw6 VE QT k0 k1 k2 HB3 fE iG cZ HZ0
 go_wp2_with fail
 generalize w6.alloc (tO t ra rc)=w8 at*;have Ib:=ae (az.kept HP.out H7.out (fun _ _ h=>h));obtain⟨n8,hn8⟩: ∃n,w6.heap.size=n:=⟨_,rfl⟩
 rw[hn8] at QU Jw⊢;have HN8:=ae hn8;clear hn8
 go_loopg [9,16] p.length (fun gk qv iv wr=> ∃(k:Nat) (c:Nat×Nat) (x:Tm),qv= .pointer (some ⟨c.1,c.2,none⟩)/\iv= .int .i64 (k:Int)/\gk=p.length-k/\k<=p.length/\Hid (uj x (p.drop k))/\Hid (pR w8 (p.take k) (n8,0) c)/\Hid (Kw B1 w8 c x)/\w8=wr)
 case atStart=>exact⟨0,(n8,0),t,rfl,rfl,rfl,Nat.zero_le _,fK,ae rfl,QU,rfl⟩
 case round=>
  clear QU;obtain⟨k,⟨cb,co⟩,x,rfl,rfl,rfl,hk,HS,HD,HX,rfl⟩:=hrel;by_cases hlt:k<p.length
  .obtain ⟨g,off,hga,_,hat⟩:=az.uZ (d:=(0:Nat)) Ib.out (by omega);subst hga;have q0:=hat k hlt;obtain⟨z0,z1,z2,z2'⟩:=bz hlt;have hd:p.drop k=p.getD k 0::p.drop (k+1):=by
    rw[List.drop_eq_getElem_cons hlt,List.getD_eq_getElem?_getD,List.getElem?_eq_getElem hlt];rfl
   have htk:p.take (k+1)=p.take k++[p.getD k 0]:=by
    rw[List.take_add_one,List.getD_eq_getElem?_getD,List.getElem?_eq_getElem hlt];rfl
   have hs:=HS.out;rw[hd] at hs;obtain⟨j,hj0⟩: ∃j,p.getD k 0=j:=⟨_,rfl⟩
   rw[hj0] at q0 hs htk;have mF:=ae htk;obtain⟨hj,hs2⟩:=hs;have HS2:=ae hs2;obtain⟨xa,xc,x0,x1,x2,hx⟩:=HX.out;dsimp only at x0 x1 x2 q0;obtain⟨g2,lU,qJ,_,oO⟩:=hx.at_ (by omega);subst qJ;obtain⟨ya,yc,r0,r1,r2,hy⟩:=oO j hj;have HD2:Hid (pR w8 (p.take (k+1)) (n8,0) (g2,lU+j*3)):=ae (by
    rw[mF.out];refine pR.snoc HD.out ⟨g2,lU,x.kids.length,xc,x2,?_⟩;rfl)
   have BF:Hid (Kw B1 w8 (g2,lU+j*3) (tg x.kids j)):=ae ⟨ya,yc,r0,by rw[Nat.add_assoc];exact r1,by rw[Nat.add_assoc];exact r2,hy⟩;have u0:(0:Int)<=(j:Int):=by omega
   have u1:(j:Int)< (x.kids.length:Int):=by omega
   clear x0 x1 hx hat oO r0 r1 r2 hy mF HD HX hd htk hj0 hs2 HS
   go_wp2_with fail
   go_roundg (p.length- (k+1))
   case measure=>omega
   case rel=>exact⟨k+1,(g2,lU+j*3),tg x.kids j,rfl,by go_num,rfl,by omega,HS2,HD2,BF,rfl⟩
  .obtain rfl:k=p.length:=by omega
   have z2:decide ((p.length:Int)< (p.length:Int))=false:=dF (by omega);have hdd:=HD.out;rw[List.take_length] at hdd;obtain⟨o,ho⟩: ∃o,putAt t p u=o:=⟨_,rfl⟩
   have yD:=ae ho;have hos:=Hq u p t fK.out;rw[ho] at hos HF;have HOS:=ae (show o.size<=200000 by omega);have hput:=acp (y:=u) (u:= .slice ua u.kids.length uc) (S:=R) (w:=w8) Jw.out Ia.out (fun h=>by have:=(HBF.out _ h).2;have:=HN8.out;omega) (HU.out.ext H7.out) (fun k hk=>⟨fun h=>by have h1:=(HBF.out k h).1;have h2:=HRR.out k hk;omega,fun e=>by have h2:=HRR.out k hk;have h3:=HN8.out;have h4:=HZ6.out;omega⟩) fK.out hdd;rw[yD.out] at hput;obtain⟨VG,⟨cur,NP,hcb⟩,u',hbox,hkids⟩:=hput;obtain⟨oa,oc,hou⟩:=hkids.shape;subst hou;have KH:Hid (w.heap.size+3<=cb):=ae (by
    rcases VG with h|h
    .have h1:=HZ6.out;have h2:=HN8.out;dsimp only at h;omega
    .exact (HBF.out _ h).1)
   have je:Hid ((((w8.setCell ⟨cb,co,none⟩ (.string u.name)).setCell ⟨cb,co+1,none⟩ (.string u.sort)).setCell ⟨cb,co+2,none⟩ (.slice ua u.kids.length uc)).heap[n8]?=some (tO o oa oc)):=ae hbox;have HKD:Hid (aA (fun k=>B1 k\/R k) (((w8.setCell ⟨cb,co,none⟩ (.string u.name)).setCell ⟨cb,co+1,none⟩ (.string u.sort)).setCell ⟨cb,co+2,none⟩ (.slice ua u.kids.length uc)) o.kids (.slice oa o.kids.length oc)):=ae hkids;have NQ:Hid (aj (fun k=>k=cb) w8 (((w8.setCell ⟨cb,co,none⟩ (.string u.name)).setCell ⟨cb,co+1,none⟩ (.string u.sort)).setCell ⟨cb,co+2,none⟩ (.slice ua u.kids.length uc))):=ae (zW w8 (cb,co) u.name u.sort (.slice ua u.kids.length uc));have m0:w8.cell? ⟨cb,co,none⟩=some (cur[co]'(by simp only at hcb;omega)):=af NP co _ (Array.getElem?_eq_getElem _);have m1:w8.cell? ⟨cb,co+1,none⟩=some (cur[co+1]'(by simp only at hcb;omega)):=af NP (co+1) _ (Array.getElem?_eq_getElem _);have m2:w8.cell? ⟨cb,co+2,none⟩=some (cur[co+2]'(by simp only at hcb;omega)):=af NP (co+2) _ (Array.getElem?_eq_getElem _);have fz:=fun i=>au NP i;generalize cur[co]'(by simp only at hcb;omega)=v0 at m0;generalize cur[co+1]'(by simp only at hcb;omega)=v1 at m1;generalize cur[co+2]'(by simp only at hcb;omega)=v2 at m2;obtain⟨l0,l1,l2⟩:=ag al4.out;clear hbox hkids VG NP hcb Ia Jw hdd ho hos HS HX HD
   go_upto_region 9 with fail
   generalize kF:(((w8.setCell ⟨cb,co,none⟩ (.string u.name)).setCell ⟨cb,co+1,none⟩ (.string u.sort)).setCell ⟨cb,co+2,none⟩ (.slice ua u.kids.length uc))=w9 at*;clear kF m0 m1 m2 fz l0 l1 l2;have H9:Hid (Ext w w9):=ae (H7.out.trans' NQ.out (fun j hj e=>by have:=KH.out;omega));have aej:=ae (NQ.out.heap aeg.out (fun e=>by have:=KH.out;omega));have HKF:Hid (aA (fun k=>(k≠w.heap.size+2/\w.heap.size<=k/\k<w9.heap.size)\/R k) w9 o.kids (.slice oa o.kids.length oc)):=ae (HKD.out.weaken (fun k hk=>by
    have h1:=NQ.out.size;have h2:=HZ7.out;rcases hk with hk|hk
    .exact .inl (by have:=HBF.out k hk;omega)
    .exact .inr hk))
   have uf:=ae (wZ o _ w9 (NM.out _ H9.out) ⟨oa,oc,rfl,HKF.out.weaken (fun k hk=>hk.elim (fun h=>h.2.2) (fun h=>ay (HRR.out k h) H9.out.size))⟩ (by have:=HOS.out;omega));dsimp only[tV] at uf;obtain⟨FO,hFO⟩: ∃b,wf ax o=b:=⟨_,rfl⟩
   rw[hFO] at uf;have KI:Hid (F=if FO=true then(o,0) else(bP,4)):=ae (by rw[HF.out,hFO]);clear hFO HF HKD H7 aeg NQ Ib;obtain⟨k0,k1,k2⟩:=ag je.out
   go_wp2_with fail
   refine uf.out.mono ?_;rintro e wa ⟨rfl,lJ⟩;have Ha:=ae (H9.out.trans lJ);have Jy:=ae (lJ.heap aej.out (fun h=>h));have al5:=ae (lJ.heap je.out (fun h=>h));have al6:=ae (HKF.out.ext lJ);have sH:=ae lJ.size;clear lJ k0 k1 k2 uf aej je H9;cases FO
   .have HV:Hid (F=(bP,4)):=ae (by rw[KI.out,if_neg (by simp)]);have f2:=fun i=>au Jy.out i;obtain⟨d0,d1,d2⟩:=ag Jy.out
    go_wp2_with fail
    have hr:=aJ Jy.out (.string ⟨#[]⟩) (.string ⟨#[]⟩) (.slice none 0 0);have hu:=aI wa (w.heap.size+2) (.string ⟨#[]⟩) (.string ⟨#[]⟩) (.slice none 0 0);obtain⟨e0,e1,e2⟩:=ag hr;refine bodyPost_ret (v:= .tuple #[.agg #[.string ⟨#[]⟩,.string ⟨#[]⟩,.slice none 0 0],.int .i64 4]) (by simp[results,Tryz.results120,go_sem,e0,e1,e2]) rfl ⟨.slice none 0 0,by rw[HV.out];rfl,by rw[HV.out];exact aA.nil _ _,Ha.out.trans' hu (fun j hj e=>by omega)⟩
   .have HV:Hid (F=(o,0)):=ae (by rw[KI.out,if_pos rfl]);obtain⟨k0,k1,k2⟩:=ag al5.out;have f2:=fun i=>au Jy.out i;obtain⟨d0,d1,d2⟩:=ag Jy.out
    go_wp2_with fail
    have hr:=aJ Jy.out (.string o.name) (.string o.sort) (.slice oa o.kids.length oc);have hu:=aI wa (w.heap.size+2) (.string o.name) (.string o.sort) (.slice oa o.kids.length oc);obtain⟨e0,e1,e2⟩:=ag hr;refine bodyPost_ret (v:= .tuple #[.agg #[.string o.name,.string o.sort,.slice oa o.kids.length oc],.int .i64 0]) (by simp[results,Tryz.results120,go_sem,e0,e1,e2]) rfl ⟨.slice oa o.kids.length oc,by rw[HV.out],?_,Ha.out.trans' hu (fun j hj e=>by omega)⟩;rw[HV.out];exact(al6.out.kept hu (fun k hk e=>hk.elim (fun h=>h.1 e) (fun h=>by have:=HRR.out k h;omega))).weaken (fun k hk=>hk.elim (fun h=> .inl ⟨h.2.1,ay h.2.2 (Nat.le_trans sH.out hu.size)⟩) .inr)
section
open Go.Sort Go.Proofs Go.ChangeMaps
theorem acZ (x y p q u:Tm) (xa ya pa qa:Option Addr) (xc yc pc qc:Nat) (xp:List Int) (pv:Value) (B2:Nat->Prop) (w:World) (htab:bT w) (hx:aA (fun k=>k<w.heap.size) w x.kids (.slice xa x.kids.length xc)) (hy:aA (fun k=>k<w.heap.size) w y.kids (.slice ya y.kids.length yc)) (hp:aG 24 w B2 p.kids (.slice pa p.kids.length pc)) (hB2: ∀k,B2 k->k<w.heap.size) (hq:aA (fun k=>k<w.heap.size) w q.kids (.slice qa q.kids.length qc)) (hpv:wQ (fun k=>k<w.heap.size) w pv xp) (hpl:xp.length<=1000) (hsx:x.size<=1000) (hsy:y.size<=1000) (Kv:q.size<=1000) (hat:nY x xp=(u,0)) (Bs:List Bd) (pk rt pt lf:Tm) (path:List Nat) (iP:xp=path.map fun j:Nat=>(j:Int)) (hpk:D5 ax Bs x=(pk,0)) (hrt:D5 ax Bs y=(rt,0)) (hpt:D5 ax Bs q=(pt,0)) (hlf:gK pk path pt=(lf,0)) (hok:uj pk path) (hBl:Bs.length<=1000) (hBs: ∀b∈Bs,b.2.2.size<=1000) (hks:pk.size<=1000) (hts:pt.size<=1000) (hU: ∀W,Ext w W->∀(B1 B2:Nat->Prop) (va vb:Value),aG 24 W B1 u.kids va->aG 24 W B2 p.kids vb->(∀k,B1 k->¬B2 k)->(∀k,B1 k->k<W.heap.size)->(∀k,B2 k->k<W.heap.size)->bT W->Calls Tryz.prog 17 #[tV u va,tV p vb] W fun e w'=> ∃ra rc,e= .returned (.tuple #[.slice ra Bs.length rc,.int .i64 0])/\lC (fun k=>W.heap.size<=k/\k<w'.heap.size) (fun k=>W.heap.size<=k/\k<w'.heap.size) w' (.slice ra Bs.length rc) Bs/\Ext W w'):
  Calls Tryz.prog 164 #[.agg #[.string x.name,.string x.sort,.slice xa x.kids.length xc,.string y.name,.string y.sort,.slice ya y.kids.length yc],.agg #[.string p.name,.string p.sort,.slice pa p.kids.length pc,.string q.name,.string q.sort,.slice qa q.kids.length qc],pv] w fun e w'=> ∃ka kc za zc ra rc,e= .returned (.tuple #[.agg #[.string pk.name,.string pk.sort,.slice ka pk.kids.length kc,.string lf.name,.string lf.sort,.slice za lf.kids.length zc,.string rt.name,.string rt.sort,.slice ra rt.kids.length rc,.int .i64 0,.int .i64 0,pv],.int .i64 0])/\aA (fun k=>k<w'.heap.size) w' pk.kids (.slice ka pk.kids.length kc)/\aA (fun k=>k<w'.heap.size) w' lf.kids (.slice za lf.kids.length zc)/\aA (fun k=>k<w'.heap.size) w' rt.kids (.slice ra rt.kids.length rc)/\Ext w w':=by
 have HAT:=ae (fun W (hW:Ext w W)=>abw x xp (tV x (.slice xa x.kids.length xc)) pv (fun k=>k<w.heap.size) (fun k=>k<w.heap.size) W ⟨xa,xc,rfl,hx.ext hW⟩ (fun k hk=>ay hk hW.size) (az.kept hpv hW (fun _ _ h=>h)) (aC htab hW) (by omega) (by omega));rw[hat] at HAT;have HPV:=ae hpv;have fB:=ae htab;have HP2:=ae hp;have HB2:=ae hB2;have OU:=ae (And.intro hx (And.intro hy hq));have dw:=ae (And.intro hsx (And.intro hsy Kv));have pG:=ae hpl;have yG:=ae (fun(z zz:Tm) (hz:D5 ax Bs z=(zz,0)) (hzs:z.size<=1000) (vB zv:Value) W (hW:Ext w W) (hB:lC (fun k=>k<W.heap.size) (fun k=>k<W.heap.size) W vB Bs) (hT:bC (fun k=>k<W.heap.size) W z zv)=>show _ from by
  have h9:=Y0 Bs z vB zv W (aC htab hW) hB hT (by omega) (fun b hb=>by have:=hBs b hb;omega) (by omega);rw[hz] at h9;exact h9)
 have hpp:path.length<=1000000:=by
  have:xp.length=path.length:=by rw[iP,List.length_map]
  omega
 have oh:=ae (fun(kv tv qv:Value) (R:Nat->Prop) W (hW:Ext w W) (hK:bC (fun k=>k<W.heap.size) W pk kv) (hT:bC R W pt tv) (hR: ∀k,R k->k<W.heap.size) (hP:az (fun k=>k<W.heap.size) W 1 qv path.length (path.map fun i:Nat=>Value.int .i64 (i:Int)))=>show _ from by
  have h9:=MJ pk pt path kv tv qv (fun k=>k<W.heap.size) R (fun k=>k<W.heap.size) W hK hT (fun k hk=>hk) hR hP hok (aC htab hW) (by omega) (by omega) hpp;rw[hlf] at h9;exact h9)
 have agp:=ae (fun vB zv W hW hB hT=>yG.out x pk hpk hsx vB zv W hW hB hT);have agq:=ae (yG.out y rt hrt hsy);have agr:=ae (yG.out q pt hpt Kv);have hlenp:xp.length=path.length:=by rw[iP,List.length_map]
 have abx:xp.map (Value.int .i64)=path.map (fun i:Nat=>Value.int .i64 (i:Int)):=by rw[iP,List.map_map];rfl
 have yu:Hid (az (fun k=>k<w.heap.size) w 1 pv path.length (path.map fun i:Nat=>Value.int .i64 (i:Int))):=ae (by rw[<-hlenp,<-abx];exact hpv);clear yG iP hpk hrt hpt hlf hok hBl hBs hks hts hlenp abx;obtain⟨va,vc,rfl⟩:=hpv.shape;have hE:=(((uR w).alloc (.cells #[.string x.name,.string x.sort,.slice xa x.kids.length xc,.string y.name,.string y.sort,.slice ya y.kids.length yc] 146)).alloc (.cells #[.string p.name,.string p.sort,.slice pa p.kids.length pc,.string q.name,.string q.sort,.slice qa q.kids.length qc] 146)).alloc (.cells #[.string ⟨#[]⟩,.string ⟨#[]⟩,.slice none 0 0,.string ⟨#[]⟩,.string ⟨#[]⟩,.slice none 0 0,.string ⟨#[]⟩,.string ⟨#[]⟩,.slice none 0 0,.int .i64 0,.int .i64 0,.slice none 0 0] 152);have HE:=ae hE;have HB0:=ae (ak (ak (ai w (.cells #[.string x.name,.string x.sort,.slice xa x.kids.length xc,.string y.name,.string y.sort,.slice ya y.kids.length yc] 146)) (.cells #[.string p.name,.string p.sort,.slice pa p.kids.length pc,.string q.name,.string q.sort,.slice qa q.kids.length qc] 146)) (.cells #[.string ⟨#[]⟩,.string ⟨#[]⟩,.slice none 0 0,.string ⟨#[]⟩,.string ⟨#[]⟩,.slice none 0 0,.string ⟨#[]⟩,.string ⟨#[]⟩,.slice none 0 0,.int .i64 0,.int .i64 0,.slice none 0 0] 152));have HB1:=ae (ak (alloc_at (w.alloc (.cells #[.string x.name,.string x.sort,.slice xa x.kids.length xc,.string y.name,.string y.sort,.slice ya y.kids.length yc] 146)) (.cells #[.string p.name,.string p.sort,.slice pa p.kids.length pc,.string q.name,.string q.sort,.slice qa q.kids.length qc] 146) (n:=w.heap.size+1) (by simp)) (.cells #[.string ⟨#[]⟩,.string ⟨#[]⟩,.slice none 0 0,.string ⟨#[]⟩,.string ⟨#[]⟩,.slice none 0 0,.string ⟨#[]⟩,.string ⟨#[]⟩,.slice none 0 0,.int .i64 0,.int .i64 0,.slice none 0 0] 152));have KZ:=ae (alloc_at ((w.alloc (.cells #[.string x.name,.string x.sort,.slice xa x.kids.length xc,.string y.name,.string y.sort,.slice ya y.kids.length yc] 146)).alloc (.cells #[.string p.name,.string p.sort,.slice pa p.kids.length pc,.string q.name,.string q.sort,.slice qa q.kids.length qc] 146)) (.cells #[.string ⟨#[]⟩,.string ⟨#[]⟩,.slice none 0 0,.string ⟨#[]⟩,.string ⟨#[]⟩,.slice none 0 0,.string ⟨#[]⟩,.string ⟨#[]⟩,.slice none 0 0,.int .i64 0,.int .i64 0,.slice none 0 0] 152) (n:=w.heap.size+2) (by simp));have hz:w.heap.size+3<=(((w.alloc (.cells #[.string x.name,.string x.sort,.slice xa x.kids.length xc,.string y.name,.string y.sort,.slice ya y.kids.length yc] 146)).alloc (.cells #[.string p.name,.string p.sort,.slice pa p.kids.length pc,.string q.name,.string q.sort,.slice qa q.kids.length qc] 146)).alloc (.cells #[.string ⟨#[]⟩,.string ⟨#[]⟩,.slice none 0 0,.string ⟨#[]⟩,.string ⟨#[]⟩,.slice none 0 0,.string ⟨#[]⟩,.string ⟨#[]⟩,.slice none 0 0,.int .i64 0,.int .i64 0,.slice none 0 0] 152)).heap.size:=by simp
 have HS:=ae hz;obtain⟨x0,x1,x2,x3,x4,x5⟩:=eG HB0.out;dsimp only[tV] at HAT hU⊢;have HU:=ae hU;clear hE hz hx hy hp hB2 hq htab hsx hsy Kv hat hpl hpv hU
 go_enter Tryz.func164,Tryz.ntmps164
 go_wp2_with fail
 generalize (((w.alloc (.cells #[.string x.name,.string x.sort,.slice xa x.kids.length xc,.string y.name,.string y.sort,.slice ya y.kids.length yc] 146)).alloc (.cells #[.string p.name,.string p.sort,.slice pa p.kids.length pc,.string q.name,.string q.sort,.slice qa q.kids.length qc] 146)).alloc (.cells #[.string ⟨#[]⟩,.string ⟨#[]⟩,.slice none 0 0,.string ⟨#[]⟩,.string ⟨#[]⟩,.slice none 0 0,.string ⟨#[]⟩,.string ⟨#[]⟩,.slice none 0 0,.int .i64 0,.int .i64 0,.slice none 0 0] 152))=w1 at*;refine(HAT.out _ HE.out).mono ?_;rintro e w3 ⟨r,B1,rfl,yf,hB1,hw3⟩;obtain⟨ua,uc,hr⟩:=aG.shape yf;subst hr;have hX:=hw3.alloc (tO u ua uc);have aS:=ae (HE.out.trans hX);have wo:=ae (hX.heap HB0.out (fun h=>h));have jS:=ae (hX.heap HB1.out (fun h=>h));have O8:=ae (hX.heap KZ.out (fun h=>h));have gz:=ae (ai w3 (tO u ua uc));have Xb:=ae (yf.kept ((uR w3).alloc (tO u ua uc)) (fun _ _ h=>h));have Hy:Hid (∀j,B1 j->w.heap.size+3<=j/\j< (w3.alloc (tO u ua uc)).heap.size):=ae (fun j hj=>⟨Nat.le_trans HS.out (hB1 j hj).1,ay (hB1 j hj).2 ((uR w3).alloc (tO u ua uc)).size⟩);have gV:Hid (w.heap.size+3<=w3.heap.size):=ae (Nat.le_trans HS.out hw3.size);clear yf hB1 hw3 hX HAT HE HB0 HB1 KZ HS x0 x1 x2 x3 x4 x5;dsimp only;obtain⟨nb,hnb⟩: ∃n,w3.heap.size=n:=⟨_,rfl⟩
 rw[hnb] at gz gV;obtain⟨x0,x1,x2,x3,x4,x5⟩:=eG jS.out;obtain⟨m0,m1,m2⟩:=ag gz.out
 go_wp2_with fail
 try rw[hnb]
 generalize w3.alloc (tO u ua uc)=w4 at*;clear hnb;have Xc:=HU.out w4 aS.out B1 B2 _ _ Xb.out (HP2.out.kept aS.out (fun _ _ h=>h)) (fun k h1 h2=>by have:=(Hy.out k h1).1;have:=HB2.out k h2;omega) (fun k h1=>(Hy.out k h1).2) (fun k h2=>ay (HB2.out k h2) aS.out.size) (aC fB.out aS.out);refine Xc.mono ?_;rintro e w5 ⟨sa,sc,rfl,hBn,hw5⟩;have fP:=ae hw5;have dX:=ae (aS.out.trans hw5);have vP:=ae (hw5.heap wo.out (fun h=>h));have jm:=ae (hw5.heap jS.out (fun h=>h));have JV:=ae (hw5.heap O8.out (fun h=>h));have rD:=ae hBn;have qi:Hid (w.heap.size+3<=w4.heap.size/\w4.heap.size<=w5.heap.size):=ae ⟨by have:=(Array.getElem?_eq_some_iff.1 gz.out).1;have:=gV.out;omega,hw5.size⟩;clear hw5 hBn Xc aS wo jS O8 gz Xb Hy gV x0 x1 x2 x3 x4 x5 m0 m1 m2 HU HP2 HB2;have Ai:=(uR w5).alloc (.cells #[.string ⟨#[]⟩,.string ⟨#[]⟩,.slice none 0 0,.string ⟨#[]⟩,.string ⟨#[]⟩,.slice none 0 0,.string ⟨#[]⟩,.string ⟨#[]⟩,.slice none 0 0,.int .i64 0,.int .i64 0,.slice va xp.length vc] 152);have eQ:=ae (dX.out.trans Ai);have Zq:=ae (Ai.heap vP.out (fun h=>h));have ags:=ae (Ai.heap jm.out (fun h=>h));have agt:=ae (Ai.heap JV.out (fun h=>h));have NL:=ae (ai w5 (.cells #[.string ⟨#[]⟩,.string ⟨#[]⟩,.slice none 0 0,.string ⟨#[]⟩,.string ⟨#[]⟩,.slice none 0 0,.string ⟨#[]⟩,.string ⟨#[]⟩,.slice none 0 0,.int .i64 0,.int .i64 0,.slice va xp.length vc] 152));have UC:Hid (lC (fun k=>w4.heap.size<=k/\k<w5.heap.size) (fun k=>w4.heap.size<=k/\k<w5.heap.size) (w5.alloc (.cells #[.string ⟨#[]⟩,.string ⟨#[]⟩,.slice none 0 0,.string ⟨#[]⟩,.string ⟨#[]⟩,.slice none 0 0,.string ⟨#[]⟩,.string ⟨#[]⟩,.slice none 0 0,.int .i64 0,.int .i64 0,.slice va xp.length vc] 152)) (.slice sa Bs.length sc) Bs):=ae (rD.out.ext Ai);have h56:w5.heap.size< (w5.alloc (.cells #[.string ⟨#[]⟩,.string ⟨#[]⟩,.slice none 0 0,.string ⟨#[]⟩,.string ⟨#[]⟩,.slice none 0 0,.string ⟨#[]⟩,.string ⟨#[]⟩,.slice none 0 0,.int .i64 0,.int .i64 0,.slice va xp.length vc] 152)).heap.size:=by simp
 have Xd:=ae h56;obtain⟨bn,hbn⟩: ∃n,w5.heap.size=n:=⟨_,rfl⟩
 rw[hbn] at NL qi Xd UC;clear Ai dX vP jm JV rD fP h56;obtain⟨x0,x1,x2,x3,x4,x5⟩:=eG Zq.out
 go_wp2_with fail
 try rw[hbn]
 generalize w5.alloc (.cells #[.string ⟨#[]⟩,.string ⟨#[]⟩,.slice none 0 0,.string ⟨#[]⟩,.string ⟨#[]⟩,.slice none 0 0,.string ⟨#[]⟩,.string ⟨#[]⟩,.slice none 0 0,.int .i64 0,.int .i64 0,.slice va xp.length vc] 152)=w6 at*;clear hbn;refine(agp.out _ _ w6 eQ.out (UC.out.weaken (fun k hk=>Nat.lt_trans hk.2 Xd.out) (fun k hk=>Nat.lt_trans hk.2 Xd.out)) ⟨xa,xc,rfl,(OU.out.1.ext eQ.out).weaken (fun k hk=>ay hk eQ.out.size)⟩).mono ?_;rintro e w7 ⟨r,B7,rfl,hTk,iL,hw7⟩;obtain⟨ka,kc,hr⟩:=aG.shape hTk;subst hr;have jg:=ae (eQ.out.trans hw7);have Zr:=ae (hw7.heap Zq.out (fun h=>h));have agv:=ae (hw7.heap ags.out (fun h=>h));have agw:=ae (hw7.heap agt.out (fun h=>h));have MP:=ae (hw7.heap NL.out (fun h=>h));have agx:=ae (UC.out.ext hw7);have mF:=ae hTk.read;have eP:=ae iL;have Oj:Hid (bn<w6.heap.size/\w6.heap.size<=w7.heap.size):=ae ⟨Xd.out,hw7.size⟩;clear hTk iL hw7 agp eQ Zq ags agt NL UC x0 x1 x2 x3 x4 x5;dsimp only[tV];obtain⟨c0,c1,c2,c3,c4,c5,c6,c7,c8,c9,c10,c11⟩:=iY MP.out;obtain⟨x0,x1,x2,x3,x4,x5⟩:=eG Zr.out;have f2:=fun i=>au MP.out i
 go_upto_region 11 with fail
 have hc8:=W9 MP.out (.string pk.name) (.string pk.sort) (.slice ka pk.kids.length kc);have kJ:=Zn w7 bn (.string pk.name) (.string pk.sort) (.slice ka pk.kids.length kc);clear c0 c1 c2 c3 c4 c5 c6 c7 c8 c9 c10 c11 f2 x0 x1 x2 x3 x4 x5;generalize ((((((w7).setCell ⟨bn,0,none⟩ (.string pk.name))).setCell ⟨bn,1,none⟩ (.string pk.sort))).setCell ⟨bn,2,none⟩ (.slice ka pk.kids.length kc))=w8 at*;have hs5:=qi.out;have HC8:=ae hc8;have bV:=ae (jg.out.trans' kJ (fun j hj e=>by have:=hs5.1;omega));have agy:=ae (kJ.heap Zr.out (by omega));have JK:=ae (kJ.heap agv.out (by omega));have agz:=ae (kJ.heap agw.out (by omega));have Zt:=ae (agx.out.kept kJ (fun k hk e=>by omega) (fun k hk e=>by omega));have UD:Hid (aA (fun j=>bn<j/\j<w8.heap.size) w8 pk.kids (.slice ka pk.kids.length kc)):=ae ((mF.out.kept kJ (fun j hj e=>by have:=(eP.out j hj).1;have:=Oj.out;omega)).weaken (fun j hj=>⟨by have:=(eP.out j hj).1;have:=Oj.out;omega,ay (eP.out j hj).2 kJ.size⟩));have ji:Hid (bn<w8.heap.size):=ae (by have:=Oj.out;have:=kJ.size;omega);clear hc8 kJ jg Zr agv agw MP agx mF eP Oj Xd;obtain⟨x0,x1,x2,x3,x4,x5⟩:=eG agy.out
 go_wp2_with fail
 refine(agq.out _ _ w8 bV.out (Zt.out.weaken (fun k hk=>Nat.lt_trans hk.2 ji.out) (fun k hk=>Nat.lt_trans hk.2 ji.out)) ⟨ya,yc,rfl,(OU.out.2.1.ext bV.out).weaken (fun k hk=>ay hk bV.out.size)⟩).mono ?_;rintro e w9 ⟨r,B9,rfl,hTr,Lp,kF⟩;obtain⟨ra,rc,hr⟩:=aG.shape hTr;subst hr;have kY:=ae (bV.out.trans kF);have tJ:=ae (kF.heap JK.out (fun h=>h));have agA:=ae (kF.heap agz.out (fun h=>h));have HC9:=ae (kF.heap HC8.out (fun h=>h));have agB:=ae (Zt.out.ext kF);have agC:=ae (UD.out.ext kF);have rV:=ae hTr.read;have l9:=ae Lp;have pF:Hid (bn<w8.heap.size/\w8.heap.size<=w9.heap.size):=ae ⟨ji.out,kF.size⟩;clear hTr Lp kF agq bV agy JK agz HC8 Zt UD ji x0 x1 x2 x3 x4 x5;dsimp only[tV];obtain⟨c0,c1,c2,c3,c4,c5,c6,c7,c8,c9,c10,c11⟩:=iY HC9.out;obtain⟨x0,x1,x2,x3,x4,x5⟩:=eG tJ.out;have f2:=fun i=>au HC9.out i
 go_upto_region 14 with fail
 have hc8:=Xa HC9.out (.string rt.name) (.string rt.sort) (.slice ra rt.kids.length rc);have kJ:=Zp w9 bn (.string rt.name) (.string rt.sort) (.slice ra rt.kids.length rc);clear c0 c1 c2 c3 c4 c5 c6 c7 c8 c9 c10 c11 f2 x0 x1 x2 x3 x4 x5;generalize ((((((w9).setCell ⟨bn,6,none⟩ (.string rt.name))).setCell ⟨bn,7,none⟩ (.string rt.sort))).setCell ⟨bn,8,none⟩ (.slice ra rt.kids.length rc))=wA at*;have HCA:=ae hc8;have kG:=ae (kY.out.trans' kJ (fun j hj e=>by have:=hs5.1;omega));have yX:=ae (kJ.heap tJ.out (by omega));have agD:=ae (kJ.heap agA.out (by omega));have agE:=ae (agB.out.kept kJ (fun k hk e=>by omega) (fun k hk e=>by omega));have agF:Hid (aA (fun j=>bn<j/\j<wA.heap.size) wA pk.kids (.slice ka pk.kids.length kc)):=ae ((agC.out.kept kJ (fun j hj e=>by omega)).weaken (fun j hj=>⟨hj.1,by have:=pF.out;have:=kJ.size;omega⟩));have agG:Hid (aA (fun j=>bn<j/\j<wA.heap.size) wA rt.kids (.slice ra rt.kids.length rc)):=ae ((rV.out.kept kJ (fun j hj e=>by have:=(l9.out j hj).1;have:=pF.out;omega)).weaken (fun j hj=>⟨by have:=(l9.out j hj).1;have:=pF.out;omega,ay (l9.out j hj).2 kJ.size⟩));have sH:Hid (bn<wA.heap.size):=ae (by have:=pF.out;have:=kJ.size;omega);clear hc8 kJ kY tJ agA HC9 agB agC rV l9 pF;obtain⟨x0,x1,x2,x3,x4,x5⟩:=eG yX.out
 go_wp2_with fail
 refine(agr.out _ _ wA kG.out (agE.out.weaken (fun k hk=>Nat.lt_trans hk.2 sH.out) (fun k hk=>Nat.lt_trans hk.2 sH.out)) ⟨qa,qc,rfl,(OU.out.2.2.ext kG.out).weaken (fun k hk=>ay hk kG.out.size)⟩).mono ?_;rintro e wB ⟨r,B11,rfl,hTt,hBt,hwB⟩;obtain⟨ta,tc,hr⟩:=aG.shape hTt;subst hr;have hX:=hwB.alloc (tO pt ta tc);have xX:=ae (kG.out.trans hX);have agI:=ae (hX.heap agD.out (fun h=>h));have Xf:=ae (hX.heap HCA.out (fun h=>h));have Dj:=ae (ai wB (tO pt ta tc));have Zu:=ae (agF.out.ext hX);have agJ:=ae (agG.out.ext hX);have HTT:=ae ((hTt.read.ext ((uR wB).alloc (tO pt ta tc))).weaken (fun j hj=>(⟨by have:=(hBt j hj).1;have:=sH.out;omega,ay (hBt j hj).2 ((uR wB).alloc (tO pt ta tc)).size⟩:bn<j/\j< (wB.alloc (tO pt ta tc)).heap.size)));have BQ:Hid (bn<wB.heap.size/\wA.heap.size<=(wB.alloc (tO pt ta tc)).heap.size):=ae ⟨by have:=sH.out;have:=hwB.size;omega,hX.size⟩;clear hTt hBt hwB hX agr kG yX agD HCA agE agF agG sH x0 x1 x2 x3 x4 x5;dsimp only[tV];obtain⟨tn,htn⟩: ∃n,wB.heap.size=n:=⟨_,rfl⟩
 rw[htn] at Dj BQ;obtain⟨c0,c1,c2,c3,c4,c5,c6,c7,c8,c9,c10,c11⟩:=iY Xf.out;obtain⟨m0,m1,m2⟩:=ag Dj.out
 go_wp2_with fail
 try rw[htn]
 generalize wB.alloc (tO pt ta tc)=wC at*;clear htn;refine(oh.out _ _ _ (fun j=>bn<j/\j<wC.heap.size) wC xX.out ⟨ka,kc,rfl,Zu.out.weaken (fun j hj=>by have:=BQ.out;omega)⟩ ⟨ta,tc,rfl,HTT.out⟩ (fun k hk=>hk.2) ((az.kept yu.out xX.out (fun _ _ h=>h)).weaken (fun k hk=>ay hk xX.out.size))).mono ?_;rintro e wD ⟨r,rfl,hTl,hwD⟩;obtain⟨za,zc,hr⟩:=aA.shape hTl;subst hr;have HED:=ae (xX.out.trans hwD);have agK:=ae (hwD.heap agI.out (fun h=>h));have IU:=ae (hwD.heap Xf.out (fun h=>h));have agL:=ae ((Zu.out.ext hwD).weaken (fun j hj=>(⟨hj.1,by have:=BQ.out;have:=hwD.size;omega⟩:bn<j/\j<wD.heap.size)));have agM:=ae ((agJ.out.ext hwD).weaken (fun j hj=>(⟨hj.1,by have:=BQ.out;have:=hwD.size;omega⟩:bn<j/\j<wD.heap.size)));have cO:Hid (aA (fun j=>bn<j/\j<wD.heap.size) wD lf.kids (.slice za lf.kids.length zc)):=ae (hTl.weaken (fun j hj=>by
  have h1:=hwD.size;have h2:=(Array.getElem?_eq_some_iff.1 Xf.out).1;rcases hj with hj|hj<;>exact⟨by omega,by omega⟩))
 have HSD:Hid (bn<wC.heap.size/\wC.heap.size<=wD.heap.size):=ae ⟨by have:=(Array.getElem?_eq_some_iff.1 Xf.out).1;omega,hwD.size⟩;clear hTl hwD oh xX agI Xf Dj Zu agJ HTT BQ c0 c1 c2 c3 c4 c5 c6 c7 c8 c9 c10 c11 m0 m1 m2;dsimp only[tV];obtain⟨c0,c1,c2,c3,c4,c5,c6,c7,c8,c9,c10,c11⟩:=iY IU.out;have f2:=fun i=>au IU.out i
 go_upto_region 18 with fail
 have hc8:=W_ IU.out (.string lf.name) (.string lf.sort) (.slice za lf.kids.length zc);have kJ:=Zo wD bn (.string lf.name) (.string lf.sort) (.slice za lf.kids.length zc);clear c0 c1 c2 c3 c4 c5 c6 c7 c8 c9 c10 c11 f2;generalize ((((((wD).setCell ⟨bn,3,none⟩ (.string lf.name))).setCell ⟨bn,4,none⟩ (.string lf.sort))).setCell ⟨bn,5,none⟩ (.slice za lf.kids.length zc))=wE at*;have HCE:=ae hc8;have pK:=ae (HED.out.trans' kJ (fun j hj e=>by have:=hs5.1;omega));have Zw:=ae (kJ.heap agK.out (by omega));have amS:Hid (aA (fun j=>bn<j/\j<wE.heap.size) wE pk.kids (.slice ka pk.kids.length kc)):=ae ((agL.out.kept kJ (fun j hj e=>by omega)).weaken (fun j hj=>⟨hj.1,ay hj.2 kJ.size⟩));have amT:Hid (aA (fun j=>bn<j/\j<wE.heap.size) wE rt.kids (.slice ra rt.kids.length rc)):=ae ((agM.out.kept kJ (fun j hj e=>by omega)).weaken (fun j hj=>⟨hj.1,ay hj.2 kJ.size⟩));have amU:Hid (aA (fun j=>bn<j/\j<wE.heap.size) wE lf.kids (.slice za lf.kids.length zc)):=ae ((cO.out.kept kJ (fun j hj e=>by omega)).weaken (fun j hj=>⟨hj.1,ay hj.2 kJ.size⟩));clear hc8 kJ HED agK IU agL agM cO HSD;obtain⟨c0,c1,c2,c3,c4,c5,c6,c7,c8,c9,c10,c11⟩:=iY HCE.out;have f2:=fun i=>au Zw.out i;obtain⟨d0,d1,d2,d3,d4,d5,d6,d7,d8,d9,d10,d11⟩:=iY Zw.out
 go_wp2_with fail
 have hr:=Lm Zw.out (.string pk.name) (.string pk.sort) (.slice ka pk.kids.length kc) (.string lf.name) (.string lf.sort) (.slice za lf.kids.length zc) (.string rt.name) (.string rt.sort) (.slice ra rt.kids.length rc) (.int .i64 0) (.int .i64 0) (.slice va xp.length vc);have hu:=O7 wE (w.heap.size+2) (.string pk.name) (.string pk.sort) (.slice ka pk.kids.length kc) (.string lf.name) (.string lf.sort) (.slice za lf.kids.length zc) (.string rt.name) (.string rt.sort) (.slice ra rt.kids.length rc) (.int .i64 0) (.int .i64 0) (.slice va xp.length vc);obtain⟨e0,e1,e2,e3,e4,e5,e6,e7,e8,e9,e10,e11⟩:=iY hr;refine bodyPost_ret (v:= .tuple #[.agg #[.string pk.name,.string pk.sort,.slice ka pk.kids.length kc,.string lf.name,.string lf.sort,.slice za lf.kids.length zc,.string rt.name,.string rt.sort,.slice ra rt.kids.length rc,.int .i64 0,.int .i64 0,.slice va xp.length vc],.int .i64 0]) (by simp[results,Tryz.results164,go_sem,e0,e1,e2,e3,e4,e5,e6,e7,e8,e9,e10,e11]) rfl ?_;have hue:=pK.out.trans' hu (fun j hj e=>by omega);have hq5:=hs5.1;exact⟨ka,kc,za,zc,ra,rc,rfl,(amS.out.kept hu (fun j hj e=>by omega)).weaken (fun j hj=>ay hj.2 hu.size),(amU.out.kept hu (fun j hj e=>by omega)).weaken (fun j hj=>ay hj.2 hu.size),(amT.out.kept hu (fun j hj e=>by omega)).weaken (fun j hj=>ay hj.2 hu.size),hue⟩
theorem aG.typed {w:World} {B:Nat->Prop} {L:List Tm} {v:Value} (h:aG 24 w B L v):aG 24 w (fun k=>B k/\vZ w k) L v:=by
 induction h with
 |mk B L us v Bk hl hown hb hkb hrow hdis hk ih=>
  refine .mk _ L us v (fun i k=>Bk i k/\vZ w k) hl hown (fun k hk2=>⟨hb k hk2,?_⟩) (fun i k hi hk2=>⟨hkb i k hi hk2.1,hk2.2⟩) (fun i k hi hk2=>hrow i k hi hk2.1) (fun i j k hi hj hne h1 h2=>hdis i j k hi hj hne h1.1 h2.1) ih;rcases hown.2 with⟨e,_⟩|⟨g,cap,cur,e,_,h3,_⟩
  .rw [e] at hk2;cases hk2
  .rw [e] at hk2;injection hk2 with hk2
   rw[<-hk2];exact⟨_,_,h3⟩
theorem vZ.lt {W:World} {k:Nat} (h:vZ W k):k<W.heap.size:=by
 obtain⟨cs,fz,h⟩:=h;exact(Array.getElem?_eq_some_iff.1 h).1
theorem vZ.upd {W W':World} {k:Nat} {F:Nat->Prop} (h:vZ W k) (hE:aj F W W') (hF: ¬F k):vZ W' k:=by
 obtain⟨cs,fz,h⟩:=h;exact⟨cs,fz,hE.heap h hF⟩
abbrev Re:=Rl×Value×Value
abbrev tX (x:Re):List Value:=[.string x.1.1.name,.string x.1.1.sort,x.2.1,.string x.1.2.name,.string x.1.2.sort,x.2.2]
abbrev eg (L:List Re) (i:Nat):Re:=L.getD i ((default,default),qG,qG)
theorem Xg {L:List Re} {i:Nat} (h:i<L.length):eg L i=L[i]:=by unfold eg;rw[List.getD_eq_getElem?_getD,List.getElem?_eq_getElem h];rfl
theorem O9: ∀(L:List Re) (i j:Nat),i<L.length->j<6->(L.flatMap tX)[i*6+j]?=(tX (eg L i))[j]?
 |x::L,0,j,_,hj=>by
  rw[List.flatMap_cons,List.getElem?_append_left (by simpa using hj),Nat.zero_mul,Nat.zero_add];rfl
 |x::L,i+1,j,hi,hj=>by
  rw[List.flatMap_cons,List.getElem?_append_right (by show 6<=_;omega)];have e:(i+1)*6+j- (tX x).length=i*6+j:=by show(i+1)*6+j-6=_;omega
  rw[e,O9 L i j (by simpa using hi) hj];rfl
def iZ (n0:Nat) (W:World) (t:Tm) (u:Value):Prop:= ∃B:Nat->Prop,aG 24 W B t.kids u/\∀j,B j->n0<=j/\vZ W j
theorem iZ.upd {n0:Nat} {W W':World} {t:Tm} {u:Value} {F:Nat->Prop} (h:iZ n0 W t u) (hu:aj F W W') (hF: ∀k,F k->¬vZ W k):iZ n0 W' t u:=by
 obtain⟨B,h1,h2⟩:=h;exact⟨B,h1.kept hu (fun k hk e=>hF k e (h2 k hk).2),fun j hj=>⟨(h2 j hj).1,(h2 j hj).2.upd hu (fun e=>hF j e (h2 j hj).2)⟩⟩
theorem iZ.ext {n0:Nat} {W W':World} {t:Tm} {u:Value} (h:iZ n0 W t u) (hu:Ext W W'):iZ n0 W' t u:=h.upd hu (fun _ h=>h.elim)
theorem iZ.of {n0:Nat} {W:World} {t:Tm} {u:Value} {B:Nat->Prop} (h:aG 24 W B t.kids u) (hB: ∀j,B j->n0<=j):iZ n0 W t u:=⟨_,aG.typed h,fun j hj=>⟨hB j hj.1,hj.2⟩⟩
theorem iZ.shape {n0:Nat} {W:World} {t:Tm} {u:Value} (h:iZ n0 W t u): ∃a c,u= .slice a t.kids.length c:=by
 obtain⟨B,h,_⟩:=h;exact aG.shape h
structure wU (n0:Nat) (W:World) (v:Value) (L:List Re):Prop where
 own:W.ownsRow n0 146 6 v L.length (L.flatMap tX)
 tl: ∀x∈L,iZ n0 W x.1.1 x.2.1/\iZ n0 W x.1.2 x.2.2
theorem wU.nil (n0:Nat) (W:World):wU n0 W qG []:=⟨⟨rfl,.inl ⟨rfl,rfl⟩⟩,fun x hx=>by cases hx⟩
theorem wU.upd {n0:Nat} {W W':World} {v:Value} {L:List Re} {F:Nat->Prop} (h:wU n0 W v L) (hu:aj F W W') (hF: ∀k,v.ownBlock=some k->¬F k) (hT: ∀k,F k->¬vZ W k):wU n0 W' v L:=
 ⟨df h.own hu hF,fun x hx=>⟨(h.tl x hx).1.upd hu hT,(h.tl x hx).2.upd hu hT⟩⟩
theorem wU.ext {n0:Nat} {W W':World} {v:Value} {L:List Re} (h:wU n0 W v L) (hu:Ext W W'):wU n0 W' v L:=h.upd hu (fun _ _ h=>h) (fun _ h=>h.elim)
theorem IV {W:World} {b n:Nat} {v:Value} {xs:List Value} (h:W.ownsRow b 146 6 v n xs) {k:Nat} (hk:v.ownBlock=some k): ¬vZ W k:=fun⟨cs,fz,h4⟩=>by
 rcases h.2 with⟨e,_⟩|⟨g,cap,cur,e,_,h3,_⟩
 .rw [e] at hk;cases hk
 .rw [e] at hk;injection hk with hk
  rw[<-hk,h3] at h4;injection h4 with h4
  injection h4 with _ h4
  cases h4
theorem wU.at_ {n0:Nat} {W:World} {a:Option Addr} {n c:Nat} {L:List Re} (h:wU n0 W (.slice a n c) L) (hl:0<L.length): ∃g off,a=some ⟨g,off,none⟩/\∀i,i<L.length->∃xa xc ya yc,(eg L i).2.1= .slice xa (eg L i).1.1.kids.length xc/\(eg L i).2.2= .slice ya (eg L i).1.2.kids.length yc/\iZ n0 W (eg L i).1.1 (.slice xa (eg L i).1.1.kids.length xc)/\iZ n0 W (eg L i).1.2 (.slice ya (eg L i).1.2.kids.length yc)/\
  W.cell? ⟨g,off+i*6,none⟩=some (.string (eg L i).1.1.name)/\W.cell? ⟨g,off+i*6+1,none⟩=some (.string (eg L i).1.1.sort)/\W.cell? ⟨g,off+i*6+2,none⟩=some (.slice xa (eg L i).1.1.kids.length xc)/\W.cell? ⟨g,off+i*6+3,none⟩=some (.string (eg L i).1.2.name)/\W.cell? ⟨g,off+i*6+4,none⟩=some (.string (eg L i).1.2.sort)/\W.cell? ⟨g,off+i*6+5,none⟩=some (.slice ya (eg L i).1.2.kids.length yc):=by
 obtain⟨g,off,cap,e,_,_,hj⟩:=az.pos (az.iV h.own) hl;injection e with e e2 e3
 refine⟨g,off,e,fun i hi=>?_⟩;have hm:eg L i∈L:=by rw[Xg hi];exact List.getElem_mem hi
 obtain⟨h1,h2⟩:=h.tl _ hm;obtain⟨xa,xc,ex⟩:=h1.shape;obtain⟨ya,yc,ey⟩:=h2.shape;have hc: ∀j,j<6->W.cell? ⟨g,off+i*6+j,none⟩=(tX (eg L i))[j]?:=fun j hj6=>by
  rw[Nat.add_assoc,hj _ (by omega),O9 L i j hi hj6]
 have h0:=hc 0 (by decide);rw[Nat.add_zero] at h0;rw[ex] at h1;rw[ey] at h2;exact⟨xa,xc,ya,yc,ex,ey,h1,h2,h0,hc 1 (by decide),(hc 2 (by decide)).trans (congrArg some ex),hc 3 (by decide),hc 4 (by decide),(hc 5 (by decide)).trans (congrArg some ey)⟩
abbrev Cp:=Tm×Tm×Tm×Nat×Nat×List Nat
def OvP (res:Option (Tm×Tm×Tm)) (pv:Value) (w':World) (e:Ending):Prop:=match res with
 |none=>e= .returned (.tuple #[.agg #[.string ⟨#[]⟩,.string ⟨#[]⟩,.slice none 0 0,.string ⟨#[]⟩,.string ⟨#[]⟩,.slice none 0 0,.string ⟨#[]⟩,.string ⟨#[]⟩,.slice none 0 0,.int .i64 0,.int .i64 0,.slice none 0 0],.int .i64 12])
 |some r=> ∃ka kc za zc ra rc,e= .returned (.tuple #[.agg #[.string r.1.name,.string r.1.sort,.slice ka r.1.kids.length kc,.string r.2.1.name,.string r.2.1.sort,.slice za r.2.1.kids.length zc,.string r.2.2.name,.string r.2.2.sort,.slice ra r.2.2.kids.length rc,.int .i64 0,.int .i64 0,pv],.int .i64 0])/\aA (fun k=>k<w'.heap.size) w' r.1.kids (.slice ka r.1.kids.length kc)/\aA (fun k=>k<w'.heap.size) w' r.2.1.kids (.slice za r.2.1.kids.length zc)/\aA (fun k=>k<w'.heap.size) w' r.2.2.kids (.slice ra r.2.2.kids.length rc)
def IW (o r:Rl) (p:List Nat) (res:Option (Tm×Tm×Tm)):Prop:= ∀(xa ya pa qa:Option Addr) (xc yc pc qc:Nat) (pv:Value) (B2:Nat->Prop) (W:World),bT W->aA (fun k=>k<W.heap.size) W o.1.kids (.slice xa o.1.kids.length xc)->aA (fun k=>k<W.heap.size) W o.2.kids (.slice ya o.2.kids.length yc)->aG 24 W B2 r.1.kids (.slice pa r.1.kids.length pc)->(∀k,B2 k->k<W.heap.size)->aA (fun k=>k<W.heap.size) W r.2.kids (.slice qa r.2.kids.length qc)->wQ (fun k=>k<W.heap.size) W pv (p.map fun j:Nat=>(j:Int))->
  Calls Tryz.prog 164 #[.agg #[.string o.1.name,.string o.1.sort,.slice xa o.1.kids.length xc,.string o.2.name,.string o.2.sort,.slice ya o.2.kids.length yc],.agg #[.string r.1.name,.string r.1.sort,.slice pa r.1.kids.length pc,.string r.2.name,.string r.2.sort,.slice qa r.2.kids.length qc],pv] W fun e w'=>OvP res pv w' e/\Ext W w'
def Xh (ov:Nat->List Nat->Nat->Option (Tm×Tm×Tm)) (i:Nat) (p:List Nat) (k:Nat) (acc:Option Cp):Option (Option Cp):=if p.length=0/\k<=i then some acc else match ov i p k with
 |none=>some acc
 |some r=>match acc with
  |none=>some (some (r.1,r.2.1,r.2.2,i,k,p))
  |some _=>none
def IX (ov:Nat->List Nat->Nat->Option (Tm×Tm×Tm)) (i:Nat) (p:List Nat):Nat->Nat->Option Cp->Option (Option Cp)
 |0,_,acc=>some acc
 |m+1,k,acc=>(Xh ov i p k acc).bind (IX ov i p m (k+1))
def IY (ov:Nat->List Nat->Nat->Option (Tm×Tm×Tm)) (i n:Nat):List (List Nat)->Option Cp->Option (Option Cp)
 |[],acc=>some acc
 |p::ps,acc=>(IX ov i p n 0 acc).bind (IY ov i n ps)
def IZ (ov:Nat->List Nat->Nat->Option (Tm×Tm×Tm)) (fs:List Rl) (n:Nat):Nat->Nat->Option Cp->Option (Option Cp)
 |0,_,acc=>some acc
 |m+1,i,acc=>(IY ov i n (iK (rg fs i).1 []) acc).bind (IZ ov fs n m (i+1))
def Em (W:World) (v:Value) (acc:Option Cp):Prop:=match acc with
 |none=>v= .slice none 0 0
 |some c=> ∃g cap ka kc za zc ra rc qa qc,v= .slice (some ⟨g,0,none⟩) 1 cap/\(∀j u,[.string c.1.name,.string c.1.sort,.slice ka c.1.kids.length kc,.string c.2.1.name,.string c.2.1.sort,.slice za c.2.1.kids.length zc,.string c.2.2.1.name,.string c.2.2.1.sort,.slice ra c.2.2.1.kids.length rc,.int .i64 (c.2.2.2.1:Int),.int .i64 (c.2.2.2.2.1:Int),.slice qa c.2.2.2.2.2.length qc][j]?=some u->W.cell? ⟨g,j,none⟩=some u)/\aA (fun k=>k<W.heap.size) W c.1.kids (.slice ka c.1.kids.length kc)/\aA (fun k=>k<W.heap.size) W c.2.1.kids (.slice za c.2.1.kids.length zc)/\aA (fun k=>k<W.heap.size) W c.2.2.1.kids (.slice ra c.2.2.1.kids.length rc)/\az (fun k=>k<W.heap.size) W 1 (.slice qa c.2.2.2.2.2.length qc) c.2.2.2.2.2.length (c.2.2.2.2.2.map (fun i:Nat=>Value.int .i64 (i:Int)))
theorem Em.ext {W W':World} {v:Value} {acc:Option Cp} (h:Em W v acc) (hE:Ext W W'):Em W' v acc:=by
 cases acc with
 |none=>exact h
 |some c=>
  obtain⟨g,cap,ka,kc,za,zc,ra,rc,qa,qc,h1,h2,h3,h4,h5,h6⟩:=h;exact⟨g,cap,ka,kc,za,zc,ra,rc,qa,qc,h1,fun j u hj=>hE.cell (h2 j u hj) (fun h=>h),(h3.ext hE).weaken (fun k hk=>ay hk hE.size),(h4.ext hE).weaken (fun k hk=>ay hk hE.size),(h5.ext hE).weaken (fun k hk=>ay hk hE.size),(az.kept h6 hE (fun _ _ h=>h)).weaken (fun k hk=>ay hk hE.size)⟩
theorem OQ (t:Tm) (u:Value) (T:Nat->Prop) (w:World) (hT:bC T w t u) (hw:wf ax t=true):Calls Tryz.prog 136 #[u] w fun e w'=> ∃r,e= .returned r/\bU (fun k=>False\/w.heap.size<=k) w' r (aO t)/\Ext w w':=by
 have hv:(bZ [] (vl (aV t))).2=true:=by
  rw[MV];unfold wf at hw;rw[Bool.and_eq_true] at hw;exact hw.2
 have jw:=ae (fun W (hW:Ext w W)=>Va t [] (.slice none 0 0) u (fun _=>False) T W (hT.ext hW) (az.nil _ _ 2) (CG (uY hw)) (by have:=jY hw;show 0+t.size<=100000;omega));have HVV:=ae hv;obtain⟨a,cap,rfl,_⟩:=hT;have HZ:=ae ((uR w).alloc (tO t a cap));have HB:=ae (ai w (tO t a cap));dsimp only[tV] at jw⊢;obtain⟨t0,t1,t2⟩:=ag HB.out;rw[hv] at jw;have HVT:Hid ((bZ [] (vl (aV t))).1=aO t):=ae rfl;rw[HVT.out] at jw;generalize aO t=L at*;clear hv hw
 go_enter Tryz.func136,Tryz.ntmps136
 go_wp2_with fail
 refine(jw.out _ HZ.out).mono ?_;rintro e w4 ⟨r,rfl,hr,hw4⟩;have H4:=ae (HZ.out.trans hw4);have HR:Hid (bU (fun k=>False\/w.heap.size<=k) w4 r L):=ae ((hr (by simp)).weaken (fun k hk=>hk.elim .inl (fun h=> .inr (Nat.le_trans HZ.out.size h))));obtain⟨ra,rc,BD⟩:=HR.out.shape;subst BD;clear hr hw4 t0 t1 t2
 go_wp2_with fail
 go_ret;exact⟨_,rfl,HR.out,H4.out⟩
end
end Go.Proofs.YtlkcjmaiahnodaaGreatDoor
