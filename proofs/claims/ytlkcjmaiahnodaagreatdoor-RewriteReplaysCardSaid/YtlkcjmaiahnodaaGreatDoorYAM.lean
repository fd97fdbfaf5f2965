/- The texts N27 N28 N29 N30 N32 N33 N34 N35 N36 N37, one behind the other. -/
import Derived.Test.YtlkcjmaiahnodaaGreatDoorYAL
import Derived.Test.YtlkcjmaiahnodaaGreatDoorYAB
import Derived.Test.YtlkcjmaiahnodaaGreatDoorYAE
import Derived.Test.YtlkcjmaiahnodaaGreatDoorYAC
import Derived.Test.YtlkcjmaiahnodaaGreatDoorYAD
set_option maxRecDepth 100000
set_option maxHeartbeats 8000000
set_option linter.unusedVariables false
set_option linter.unusedSimpArgs false
namespace Go.Proofs.YtlkcjmaiahnodaaGreatDoor
open Go.RowKit Go.Hw Go Tm
section
open Go.Sort Go.Proofs Go.ChangeMaps
def jB (W:World) (k:Nat):Prop:= ∃cs fz,W.heap[k]?=some (.cells cs 24 fz)
theorem aG.ty {w:World} {B:Nat->Prop} {L:List Tm} {v:Value} (h:aG 24 w B L v):ay (jB w) w L v:=by
 induction h with
 |mk B L us v Bk hl hown hb hkb hrow hdis hk ih=>
  refine .mk L us v hl ((aA.fC hown).weaken (fun k hk2=>?_)) ih;rcases hown.2 with⟨e,_⟩|⟨g,cap,cur,e,_,h3,_⟩
  .rw [e] at hk2;cases hk2
  .rw [e] at hk2;injection hk2 with hk2
   rw[<-hk2];exact⟨_,_,h3⟩
theorem jB.ext {W W':World} {k:Nat} (h:jB W k) (hE:Ext W W'):jB W' k:=by
 obtain⟨cs,fz,h⟩:=h;exact⟨cs,fz,hE.heap h (fun h=>h)⟩
theorem DF {B:List Bd} {us:List Value} (h:us.length=B.length) (x:Bd) (u:Value):gK (B++[x]) (us++[u])=gK B us++[.string x.1,.string x.2.1,.string x.2.2.name,.string x.2.2.sort,u]:=by
 rw[Gq B [x] us [u] h];rfl
theorem Vu {R S:Nat->Prop} {w:World} {B:List Bd} {us:List Value} (h:us.length=B.length) (ht: ∀i,i<B.length->ay S w (Go.Hw.bg B i).2.2.kids (ug us i)): ∀u∈us,u.oneCell'=true:=fun u hu=>by
 obtain⟨i,hi,e⟩:=List.getElem_of_mem hu;have h1:=ht i (by omega);have h2:ug us i=u:=by unfold ug;rw[List.getD_eq_getElem?_getD,List.getElem?_eq_getElem hi];exact e
 rw[h2] at h1;obtain⟨a,c,h3⟩:=h1.shape;rw[h3];rfl
theorem J5 {B:List Bd} {n:By} {x:Tm} (h:bf B n=some x): ∃i,i<B.length/\sV B n=(i:Int)/\(Go.Hw.bg B i).2.2=x:=by
 unfold sV;cases hf:B.findIdx? (fun b=>decide (b.1=n)) with
 |none=>
  rw[List.findIdx?_eq_none_iff] at hf;unfold bf at h;have:B.find? (fun b=>decide (b.1=n))=none:=by
   rw[List.find?_eq_none];intro b hb;have:=hf b hb;simpa using this
  rw[this] at h;cases h
 |some i=>
  rw[List.findIdx?_eq_some_iff_getElem] at hf;obtain⟨hi,h1,h2⟩:=hf;refine⟨i,hi,rfl,?_⟩;have h3:B.find? (fun b=>decide (b.1=n))=some B[i]:=by
   rw[List.find?_eq_some_iff_getElem];exact⟨h1,i,hi,rfl,fun j hj=>by simpa using h2 j hj⟩
  unfold bf at h;rw[h3] at h;unfold Go.Hw.bg;rw[List.getD_eq_getElem?_getD,List.getElem?_eq_getElem hi];injection h
theorem J6 {B:List Bd} {n:By} (h:bf B n=none):sV B n= -1:=by
 unfold sV;cases hf:B.findIdx? (fun b=>decide (b.1=n)) with
 |none=>rfl
 |some i=>
  rw[List.findIdx?_eq_some_iff_getElem] at hf;obtain⟨hi,h1,h2⟩:=hf;have h3:B.find? (fun b=>decide (b.1=n))=some B[i]:=by
   rw[List.find?_eq_some_iff_getElem];exact⟨h1,i,hi,rfl,fun j hj=>by simpa using h2 j hj⟩
  unfold bf at h;rw[h3] at h;cases h
theorem QE {X:List Vd} {Y:Tm->Prop} {B:List Bd} (h:qm X Y B):B.length<=X.length:=by
 have h1:(B.map fun b=>(b.1,b.2.1)).Nodup:=by
  rw[List.Nodup,List.pairwise_map];exact h.FT.imp (fun hab e=>hab (Prod.mk.inj e).1)
 have h2:=h1.length_le_of_subset (fun q hq=>by
  obtain⟨b,hb,e⟩:=List.mem_map.1 hq;rw[<-e];exact h.inX b hb)
 rw[List.length_map] at h2;exact h2
theorem uO {W W':World} {v:Value} {B:List Bd} (h:gQ (fun k=>k<W.heap.size) (fun k=>k<W.heap.size) W v B) (hE:Ext W W'):gQ (fun k=>k<W'.heap.size) (fun k=>k<W'.heap.size) W' v B:=adB h hE
theorem Vw {X:List Vd} (hX:X.length<=100000): ∀(p t:Tm) (v v' vs:Value) (B:List Bd) (w:World),bG (fun k=>k<w.heap.size) w p v->bG (fun k=>k<w.heap.size) w t v'->gQ (fun k=>k<w.heap.size) (fun k=>k<w.heap.size) w vs B->p.size<=1000000->t.size<=100000->tZ p->(∀f∈cu p,f∈X)->qm X (fun t=>t.size<=100000) B->
  Calls Tryz.prog 67 #[v,v',vs] w fun e w'=> ∃r,e= .returned (.tuple #[r,.bool (jG p t B).isSome])/\(∀C,jG p t B=some C->gQ (fun k=>k<w'.heap.size) (fun k=>k<w'.heap.size) w' r C)/\Ext w w':=by
 refine Tm.ind (fun n s L ih=>?_);intro t v v' vs B w hP hT hB hsz zW DI Zr hI;obtain⟨m,r,M⟩:=t;obtain⟨V,hV⟩: ∃V,jG (.mk n s L) (.mk m r M) B=V:=⟨_,rfl⟩
 rw[hV];have HVV:=ae hV;obtain⟨pa,pc,rfl,hP⟩:=hP;obtain⟨ta,tc,rfl,hT⟩:=hT;dsimp only[tV,Tm.name,Tm.sort,Tm.kids] at hP hT⊢;have oD:=ae hP;have Bf:=ae hT;have HB:=ae hB;have HI:=ae hI;have HIH:=ae ih;have xx:=ae DI;have jg:=ae Zr;have FP:=ae zW;have hbl:B.length<=100000:=Nat.le_trans (QE hI) hX;have kP:=ae hbl;have jW:L.length<=1000000:=by have h1:=aX L;have h2:=hsz;rw[size_eq] at h2;exact Nat.le_trans h1 (Nat.le_of_succ_le h2)
 have MI:sizes L+1<=1000000:=by rw[size_eq] at hsz;exact hsz
 have MJ:sizes M+1<=100000:=by rw[size_eq] at zW;exact zW
 have bT:=ae (And.intro MI MJ);obtain⟨ba,bc,rfl⟩:=hB.shape;clear ih hP hT hB hsz zW MI MJ hV hI DI Zr hbl;have HE:=ae (((uR w).alloc (.cells #[.string n,.string s,.slice pa L.length pc] 24)).alloc (.cells #[.string m,.string r,.slice ta M.length tc] 24));have BA:=ae (ak (aj w (.cells #[.string n,.string s,.slice pa L.length pc] 24)) (.cells #[.string m,.string r,.slice ta M.length tc] 24));have QF:=ae (alloc_at (w.alloc (.cells #[.string n,.string s,.slice pa L.length pc] 24)) (.cells #[.string m,.string r,.slice ta M.length tc] 24) (n:=w.heap.size+1) (by simp));obtain⟨a0,a1,a2⟩:=af BA.out;obtain⟨b0,b1,b2⟩:=af QF.out;have t1:=kF s;have t2:=kF r
 go_enter Tryz.func67,Tryz.ntmps67
 go_upto_region 1 with fail
 generalize (w.alloc (.cells #[.string n,.string s,.slice pa L.length pc] 24)).alloc (.cells #[.string m,.string r,.slice ta M.length tc] 24)=w1 at*;by_cases hs0:s=ah
 .rw [dT hs0] at t1;have DJ:=ae hs0;clear hs0;by_cases hr0:r=ah
  rotate_left
  .rw [dF hr0] at t2;have HV:Hid (V=none):=ae (by rw[<-HVV.out,DJ.out];exact DK (fun h=>hr0 h.1));clear hr0
   go_wp2_with fail
   go_ret2
   rw[HV.out];exact⟨_,rfl,(fun C h=>by cases h),HE.out⟩
  rw[dT hr0] at t2;have HR0:=ae hr0;clear hr0;have t3:=kQ m n;by_cases hnm:m=n
  rotate_left
  .rw [dF hnm] at t3;have HV:Hid (V=none):=ae (by rw[<-HVV.out,DJ.out];exact DK (fun h=>hnm h.2.1));clear hnm
   go_wp2_with fail
   go_ret2
   rw[HV.out];exact⟨_,rfl,(fun C h=>by cases h),HE.out⟩
  rw[dT hnm] at t3;by_cases hlen:M.length=L.length
  rotate_left
  .have t4:((M.length:Int) !=(L.length:Int))=true:=Zh hlen;have HV:Hid (V=none):=ae (by rw[<-HVV.out,DJ.out];exact DK (fun h=>hlen h.2.2));clear hnm hlen
   go_wp2_with fail
   go_ret2
   rw[HV.out];exact⟨_,rfl,(fun C h=>by cases h),HE.out⟩
  have t4:((M.length:Int) !=(L.length:Int))=false:=by simp[hlen]
  have JL:Hid (pU L M B=V):=ae (by rw[<-HVV.out,DJ.out];exact(NL (t:= .mk m r M) ⟨HR0.out,hnm,hlen⟩).symm);have GL:=ae hlen;have vP:Hid (∀x∈L,∀f∈cu x,f∈X):=ae (fun x hx f hf=>jg.out f (zD (t:= .mk n s L) hx hf));have HB0:=ae (uO HB.out HE.out);clear hnm hlen HVV
  go_wp2_with fail
  clear t1 t2 t3 t4 a0 a1 a2 b0 b1 b2
  go_loopg [2,9] L.length (fun gk sv iv wr=> ∃(k:Nat) (C:List Bd),iv= .int .i64 (k:Int)/\gk=L.length-k/\k<=L.length/\Hid (gQ (fun k=>k<wr.heap.size) (fun k=>k<wr.heap.size) wr sv C)/\Hid (qm X (fun t=>t.size<=100000) C)/\Hid (pU (L.drop k) (M.drop k) C=V)/\Hid (Ext w wr)/\Hid (wr.heap[w.heap.size]?=some (.cells #[.string n,.string s,.slice pa L.length pc] 24 (0,0)))/\Hid (wr.heap[w.heap.size+1]?=some (.cells #[.string m,.string r,.slice ta M.length tc] 24 (0,0))))
  case atStart=>exact⟨0,B,rfl,rfl,Nat.zero_le _,HB0,HI,JL,HE,BA,QF⟩
  case round=>
   clear HB0 JL HE BA QF HB HI;obtain⟨k,C,rfl,rfl,hk,jD,HIC,jX,HE,BA,QF⟩:=hrel;obtain⟨ca,cc,hsv⟩:=jD.out.shape;subst hsv;obtain⟨a0,a1,a2⟩:=af BA.out;obtain⟨b0,b1,b2⟩:=af QF.out;by_cases hlt:k<L.length
   .have qG:k<M.length:=by have:=GL.out;omega
    obtain⟨g,off,hga,_,hat⟩:=(oD.out.ext HE.out).at_ (by omega);obtain⟨g',off',MH,_,hat'⟩:=(Bf.out.ext HE.out).at_ (by omega);subst hga;subst MH;obtain⟨xa,xc,q0,q1,q2,aQ⟩:=hat k hlt;obtain⟨ya,yc,p0,p1,p2,ou⟩:=hat' k qG;rw[<-Nat.add_assoc] at q1 q2 p1 p2;obtain⟨z0,z1,z2,z2'⟩:=bJ hlt;have z3:(k:Int)< (M.length:Int):=by omega
    have hyz:(tg M k).size<=100000:=by have h1:=bT.out.2;have h2:=eU (bM M k qG);omega
    have aW:=ae (fun W (hW:Ext wr W)=>HIH.out (tg L k) (bM L k hlt) (tg M k) _ _ (.slice ca C.length cc) C W ⟨xa,xc,rfl,(aQ.ext hW).weaken (fun j hj=>ax hj (Nat.le_trans HE.out.size hW.size))⟩ ⟨ya,yc,rfl,(ou.ext hW).weaken (fun j hj=>ax hj (Nat.le_trans HE.out.size hW.size))⟩ (uO jD.out hW) (by have h1:=bT.out.1;have h2:=eU (bM L k hlt);omega) hyz (xx.out.kid (bM L k hlt)) (vP.out _ (bM L k hlt)) HIC.out);have h_:=ae (jX.out.symm.trans (aa7 (B:=C) hlt qG));have JZ:=ae (fun D (h:jG (tg L k) (tg M k) C=some D)=>(zF (X:=X) (Y:=fun t=>t.size<=100000) (fun t x h hx=>by have:=eU hx;have h3:=size_eq t;omega) (tg L k) (tg M k) C D h (xx.out.kid (bM L k hlt)) (vP.out _ (bM L k hlt)) hyz HIC.out).1);dsimp only[tV] at aW;obtain⟨x,hx⟩: ∃x,tg L k=x:=⟨_,rfl⟩
    obtain⟨y,hy⟩: ∃y,tg M k=y:=⟨_,rfl⟩
    rw[hx] at q0 q1 q2 aW h_ JZ;rw[hy] at p0 p1 p2 aW h_ JZ;obtain⟨U,hU⟩: ∃U,jG x y C=U:=⟨_,rfl⟩
    rw[hU] at aW h_ JZ;have J4:Hid (Ext wr wr):=ae (au.refl _ _);clear hx hy hU jX jD hat hat' aQ ou hyz
    go_wp2_with fail
    go_region_law (first
     |(go_simp;refine(aW.out wr.drew J4.out.drew).mono ?_;rintro e w5 ⟨r5,rfl,hb5,hw5⟩;have bV:Hid (Ext wr w5):=ae (((uR wr).drewN' 1).trans hw5);have dW:=ae hb5;clear hb5 hw5 aW))
    all_goals
     have di:=ae (HE.out.trans bV.out);have NM:=ae (bV.out.heap BA.out (fun h=>h));have ajA:=ae (bV.out.heap QF.out (fun h=>h));clear p0 p1 p2 q0 q1 q2 a0 a1 a2 b0 b1 b2;cases U with
     |none=>
      have HV:Hid (V=none):=ae h_.out;simp only[Option.isSome_none];clear h_
      go_wp2_with fail
      go_ret2
      rw[HV.out];exact⟨_,rfl,(fun C h=>by cases h),di.out⟩
     |some D=>
      have ajB:Hid (pU (L.drop (k+1)) (M.drop (k+1)) D=V):=ae h_.out.symm;have kN:=ae (dW.out D rfl);have HID:=ae (JZ.out D rfl);simp only[Option.isSome_some];clear h_ dW
      go_wp2_with fail
      go_roundg (L.length- (k+1))
      case measure=>omega
      case rel=>exact⟨k+1,D,by go_num,rfl,by omega,kN,HID,ajB,di,NM,ajA⟩
   .obtain rfl:k=L.length:=by omega
    have z2:decide ((L.length:Int)< (L.length:Int))=false:=dF (by omega);have HV:Hid (V=some C):=ae (by rw[<-jX.out,List.drop_length];unfold pU;rfl);clear jX
    go_wp2_with fail
    go_ret2
    rw[HV.out];exact⟨_,rfl,(fun D h=>by injection h with h;rw[<-h];exact jD.out),HE.out⟩
 .rw [dF hs0] at t1;have iD:=ae hs0;clear hs0;by_cases hr0:r=ah
  .rw [dT hr0] at t2;have NP:Hid (¬(r≠ah/\r≠s)):=ae (fun h=>h.1 hr0);clear hr0
   go_upto_region 4 with fail
   clear t1 t2;have yY:=ae (F6 B (.slice ba B.length bc) n _ _ w1 (uO HB.out HE.out) (by have:=kP.out;omega));obtain⟨FX,NQ⟩: ∃x,sV B n=x:=⟨_,rfl⟩
   rw[NQ] at yY;have eu:=ae NQ;clear NQ;cases hx:bf B n with
   |some x=>
    obtain⟨i,hi,hfi,hxe⟩:=J5 hx;obtain rfl:FX=(i:Int):=by rw[<-eu.out,hfi]
    have hbx:=uO HB.out HE.out;obtain⟨g,off,hga,_,hat⟩:=hbx.at_ (by omega);obtain⟨ka,kc,q0,q1,q2,q3,q4,NR⟩:=hat i hi;subst hga;rw[hxe] at q2 q3 q4 NR;have hxz:x.size<=100000:=by rw[<-hxe];exact HI.out.val _ (Gt hi)
    have HV:Hid (V=if x= .mk m r M then some B else none):=ae (by rw[<-HVV.out];exact Ae iD.out NP.out hx);have jb:=ae (fun W (hW:Ext w1 W)=>wZ x (.mk m r M) (.agg #[.string x.name,.string x.sort,.slice ka x.kids.length kc]) (.agg #[.string m,.string r,.slice ta M.length tc]) _ _ W ⟨ka,kc,rfl,NR.ext hW⟩ ⟨ta,tc,rfl,(Bf.out.ext HE.out).ext hW⟩ (by omega));have z0:(0:Int)<=(i:Int):=by omega
    have z1:(i:Int)< (B.length:Int):=by omega
    have z2:decide ((0:Int)<=(i:Int))=true:=dT z0;have HW1:Hid (Ext w1 w1):=ae (au.refl _ _);have HB1:=ae hbx;clear hat q0 q1 NR hx hfi hxe hi hbx hxz
    go_wp2_with fail
    refine yY.out.mono ?_;rintro e w2 ⟨rfl,hw2⟩;subst hw2
    go_wp2_with fail
    go_region_law (first
     |(go_simp;refine(jb.out w2.drew HW1.out.drew).mono ?_;rintro e w5 ⟨rfl,hw5⟩;have bV:Hid (Ext w2 w5):=ae (((uR w2).drewN' 1).trans hw5);clear hw5 jb))
    all_goals
     have di:=ae (HE.out.trans bV.out);have dW:=ae (uO HB1.out bV.out);clear q2 q3 q4 a0 a1 a2 b0 b1 b2
     go_wp2_with fail
     go_ret2
     rw[HV.out];by_cases e:x= .mk m r M
     .rw [if_pos e,dT e];exact⟨_,rfl,(fun C h=>by injection h with h;rw[<-h];exact dW.out),di.out⟩
     .rw [if_neg e,dF e];exact⟨_,rfl,(fun _ h=>by cases h),di.out⟩
   |none=>
    obtain rfl:FX= -1:=by rw[<-eu.out,J6 hx]
    have HV:Hid (V=some (B++[(n,s,.mk m r M)])):=ae (by rw[<-HVV.out];exact EC iD.out NP.out hx);clear hx
    go_wp2_with fail
    refine yY.out.mono ?_;rintro e w2 ⟨rfl,hw2⟩;subst hw2;obtain⟨us,DL,hsl,htl⟩:=uO HB.out HE.out;have hone:=Gs B us (Vu (R:=fun _=>True) DL htl);have xy:=ae (And.intro DL (And.intro hsl (And.intro htl hone)));have xa0:=fun x:XW w2=>x.ext.cell a0 (fun h=>h);have xa1:=fun x:XW w2=>x.ext.cell a1 (fun h=>h);have xb0:=fun x:XW w2=>x.ext.cell b0 (fun h=>h);have QG:=fun x:XW w2=>x.ext.cell b1 (fun h=>h);have xb2:=fun x:XW w2=>x.ext.cell b2 (fun h=>h);obtain⟨iS,hi,hz0,hz1,hz2⟩:=info_parts Np;clear DL hsl htl hone a0 a1 a2 b0 b1 b2
    go_wp2_with fail
    refine bP (α:=Option Addr×Nat) 11 [] 11 [(11,2),(12,2),(13,2)] [[],[],[0,1],[],[3],[],[5],[],[0,1,2,7],[0,1,2,3,4,5,6,7,8],[0,1,2,3,4,5,6,7,8,9],[0,1,2,3,4,5,6,7,8,9,10],[0,1,2,3,4,5,6,7,8,9,10,11],[0,1,2,3,4,5,6,7,8,9,10,11,12]]
     [some ⟨fun x=> .slice x.1 0 0,fun x W=>W.ownsRow w2.heap.size 93 5 (.slice x.1 0 0) 0 [],fun x W W' h hE=>bI h hE (fun _ _ h=>h)⟩,none,some ⟨fun x=> .slice x.1 B.length x.2,fun x W=>W.ownsRow w2.heap.size 93 5 (.slice x.1 B.length x.2) B.length (gK B us),fun x W W' h hE=>bI h hE (fun _ _ h=>h)⟩,none,none,none,none,none,some ⟨fun x=> .agg #[.string m,.string r,.slice x.1 M.length x.2],fun x W=>ay (jB W) W M (.slice x.1 M.length x.2),fun x W W' h hE=>(h.ext hE).weaken (fun k hk=>jB.ext hk hE)⟩,none,some ⟨fun x=> .slice x.1 1 x.2,fun x W=> ∃ya yc,aA (fun _=>True) W 5 (.slice x.1 1 x.2) 1 [.string n,.string s,.string m,.string r,.slice ya M.length yc]/\ay (jB W) W M (.slice ya M.length yc),fun x W W' ⟨ya,yc,h1,h2⟩ hE=>⟨ya,yc,aA.kept h1 hE (fun _ _ h=>h),(h2.ext hE).weaken (fun k hk=>jB.ext hk hE)⟩⟩]
     [true,false,true,false,false,false,false,false,true,false,true] (by kernel_rfl) (by kernel_rfl) rfl (fun _ _ d _ _ h=>by cases d<;>exact h) ?_
    simp only[List.take_succ_cons,List.take_zero,fF,List.getElem?_cons_zero,List.getElem?_cons_succ];refine aH _ rfl (by go_simp) (fun W hW hG K hK=>?_) (fun K zz0 hK=>?_)
    .go_simp;exact hK (some ⟨W.heap.size,0,none⟩,0) _ ((uR W).alloc _) (World.ownsRow_lit (base:=w2.heap.size) (e:=93) (size:=5) W #[] 0 hW.size (by unfold maxLen;omega) (by simp))
    refine hK _ ?_;clear hK K;dsimp only;refine aS rfl (fun K hK=>?_);go_simp;refine hK _ ?_;clear hK K;refine aH _ rfl (by go_simp) (fun W hW hG K hK=>?_) (fun K H_ hK=>?_)
    .have g0:=hG _ (List.mem_singleton.2 rfl) (by show(0:Nat)∈_;decide);refine oC _ (.tmp 39) (.tmp 40) 27 rfl w2.heap.size 93 iS (.agg #[.string ⟨#[]⟩,.string ⟨#[]⟩,.string ⟨#[]⟩,.string ⟨#[]⟩,.slice none 0 0]) 5 88 Tryz.underlying27 hi hz0 hz1 hz2 rfl (by decide) _ rfl g0 (fun k=>k<w2.heap.size) _ B.length _ rfl (aA.kept xy.out.2.1 hW (fun _ _ h=>h)) xy.out.2.2.2 (by have:=kP.out;unfold maxLen;omega) (by have:=kP.out;omega) hW.size ?_;intro v' w' oq hO4;obtain⟨p4,c4,rfl⟩:=aY hO4;exact hK (p4,c4) _ oq hO4
    refine hK _ ?_;clear hK K;dsimp only
    iterate 5(refine aS rfl (fun K hK=>?_);go_simp;refine hK _ ?_;clear hK K)
    refine aH _ rfl (by go_simp) (fun W hW hG K hK=>?_) (fun K zG hK=>?_)
    .go_simp;refine(Jc (.mk m r M) (.agg #[.string m,.string r,.slice ta M.length tc]) (fun k=>k<w.heap.size) W ⟨ta,tc,rfl,(Bf.out.ext HE.out).ext hW⟩ (fun k hk=>ax hk (Nat.le_trans HE.out.size hW.size)) FP.out).mono ?_;rintro e w' ⟨r',Bx,rfl,hT,hb,hE⟩;obtain⟨ya,yc,rfl⟩:=aG.shape hT;exact hK (ya,yc) _ hE (aG.ty hT)
    refine hK _ ?_;clear hK K;dsimp only;refine aS rfl (fun K hK=>?_);go_simp;refine hK _ ?_;clear hK K;refine aH _ rfl (by go_simp) (fun W hW hG K hK=>?_) (fun K NS hK=>?_)
    .have g8:=hG _ (List.mem_append_right _ (List.mem_singleton.2 rfl)) (by show(8:Nat)∈_;decide);go_simp;have hA:=(uR W).alloc (.cells #[.string n,.string s,.string m,.string r,.slice zG.1 M.length zG.2] 93);exact hK (some ⟨W.heap.size,0,none⟩,1) _ hA ⟨zG.1,zG.2,aA.weaken (aA.fC (World.ownsRow_lit (base:=w2.heap.size) (e:=93) (size:=5) W #[.string n,.string s,.string m,.string r,.slice zG.1 M.length zG.2] 1 hW.size (by unfold maxLen;omega) (by simp))) (fun _ _=>trivial),(g8.ext hA).weaken (fun k hk=>jB.ext hk hA)⟩
    refine hK _ ?_;clear hK K;dsimp only;refine gJ (fun w8 hW hG=>?_);have g2:=hG _ (List.mem_append_left _ (List.mem_append_left _ (List.mem_append_right _ (List.mem_singleton.2 rfl))));have g10:=hG _ (List.mem_append_right _ (List.mem_singleton.2 rfl));dsimp only at g2 g10;obtain⟨ya,yc,gs,gt⟩:=g10;clear hG;refine dM (fun K hK=>?_);rw[if_pos (by go_simp)];refine mf _ (.tmp 41) (.tmp 49) 27 rfl w2.heap.size 93 iS (.agg #[.string ⟨#[]⟩,.string ⟨#[]⟩,.string ⟨#[]⟩,.string ⟨#[]⟩,.slice none 0 0]) 5 88 Tryz.underlying27 hi hz0 hz1 hz2 rfl (by decide) (.slice H_.1 B.length H_.2) B.length _ rfl g2 (fun _=>True) (.slice NS.1 1 NS.2) 1 _ rfl gs (fun u hu=>by simp at hu;rcases hu with h|h|h|h|h<;>(subst h;rfl)) (by have:=kP.out;unfold maxLen;omega) (by have:=kP.out;omega) hW.size ?_;intro v7 w9 bF;refine hK _ _ ?_;clear hK K;have hlt2: ∀k,(Value.slice H_.1 B.length H_.2).ownBlock=some k->w2.heap.size<=k:=fun k e=>(g2.lt k e).1;have fD:Hid (Ext w w9):=ae ((HE.out.trans hW).trans' bF.upd (fun j hj e=>by have h1:=hlt2 j e;have h2:=HE.out.size;omega));have Vx:w2.heap.size<=w9.heap.size:=Nat.le_trans hW.size bF.upd.size;have mX:Hid (gQ (fun k=>k<w9.heap.size) (fun k=>k<w9.heap.size) w9 v7 (B++[(n,s,.mk m r M)])):=ae (by
     refine⟨us++[.slice ya M.length yc],by rw[List.length_append,List.length_append,xy.out.1];rfl,?_,fun i hi=>?_⟩
     .rw [DF xy.out.1,List.length_append];exact aA.weaken (aA.fC bF.own) (fun k hk=>(bF.own.lt k hk).2)
     .by_cases e:i<B.length
      .have e1:Go.Hw.bg (B++[(n,s,.mk m r M)]) i=Go.Hw.bg B i:=by unfold Go.Hw.bg;rw[List.getD_eq_getElem?_getD,List.getD_eq_getElem?_getD,List.getElem?_append_left e]
       have e2:ug (us++[.slice ya M.length yc]) i=ug us i:=by unfold ug;rw[List.getD_eq_getElem?_getD,List.getD_eq_getElem?_getD,List.getElem?_append_left (by rw[xy.out.1];exact e)]
       rw[e1,e2];exact(((xy.out.2.2.1 i e).ext hW).kept bF.upd (fun k hk e=>by have h1:=hlt2 k e;omega)).weaken (fun k hk=>ax hk Vx)
      .have e0:i=B.length:=by rw[List.length_append] at hi;simp at hi;omega
       have e1:Go.Hw.bg (B++[(n,s,.mk m r M)]) i=(n,s,.mk m r M):=by unfold Go.Hw.bg;rw[List.getD_eq_getElem?_getD,e0,List.getElem?_append_right (Nat.le_refl _),Nat.sub_self];rfl
       have e2:ug (us++[.slice ya M.length yc]) i= .slice ya M.length yc:=by unfold ug;rw[List.getD_eq_getElem?_getD,e0,<-xy.out.1,List.getElem?_append_right (Nat.le_refl _),Nat.sub_self];rfl
       rw[e1,e2];refine(gt.kept bF.upd (fun k hk e=>?_)).weaken (fun k hk=>?_)
       .obtain ⟨cs,fz,h1⟩:=hk;rcases g2.2 with⟨h2,_⟩|⟨g,cap,cur,h2,_,h3,_⟩
        .rw [h2] at e;cases e
        .rw [h2] at e;injection e with e
         rw[<-e,h3] at h1;injection h1 with h1
         injection h1 with _ h1
         cases h1
       .obtain ⟨cs,fz,h1⟩:=hk;exact ax (Array.getElem?_eq_some_iff.1 h1).1 bF.upd.size)
    clear bF g2 gs gt hW hlt2 Vx;refine dM (fun K hK=>?_);go_simp;refine hK _ _ ?_;clear hK K;refine dM (fun K hK=>?_);go_simp;refine hK _ _ ?_;clear hK K;simp only[bW]
    go_wp2_with fail
    go_ret2
    rw[HV.out];exact⟨v7,rfl,(fun C h=>by injection h with h;rw[<-h];exact mX.out),fD.out⟩
  .rw [dF hr0] at t2;have t3:=kQ r s;by_cases hrs:r=s
   .rw [dT hrs] at t3;have NP:Hid (¬(r≠ah/\r≠s)):=ae (fun h=>h.2 hrs);clear hr0 hrs
    go_upto_region 4 with fail
    clear t3;clear t1 t2;have yY:=ae (F6 B (.slice ba B.length bc) n _ _ w1 (uO HB.out HE.out) (by have:=kP.out;omega));obtain⟨FX,NQ⟩: ∃x,sV B n=x:=⟨_,rfl⟩
    rw[NQ] at yY;have eu:=ae NQ;clear NQ;cases hx:bf B n with
    |some x=>
     obtain⟨i,hi,hfi,hxe⟩:=J5 hx;obtain rfl:FX=(i:Int):=by rw[<-eu.out,hfi]
     have hbx:=uO HB.out HE.out;obtain⟨g,off,hga,_,hat⟩:=hbx.at_ (by omega);obtain⟨ka,kc,q0,q1,q2,q3,q4,NR⟩:=hat i hi;subst hga;rw[hxe] at q2 q3 q4 NR;have hxz:x.size<=100000:=by rw[<-hxe];exact HI.out.val _ (Gt hi)
     have HV:Hid (V=if x= .mk m r M then some B else none):=ae (by rw[<-HVV.out];exact Ae iD.out NP.out hx);have jb:=ae (fun W (hW:Ext w1 W)=>wZ x (.mk m r M) (.agg #[.string x.name,.string x.sort,.slice ka x.kids.length kc]) (.agg #[.string m,.string r,.slice ta M.length tc]) _ _ W ⟨ka,kc,rfl,NR.ext hW⟩ ⟨ta,tc,rfl,(Bf.out.ext HE.out).ext hW⟩ (by omega));have z0:(0:Int)<=(i:Int):=by omega
     have z1:(i:Int)< (B.length:Int):=by omega
     have z2:decide ((0:Int)<=(i:Int))=true:=dT z0;have HW1:Hid (Ext w1 w1):=ae (au.refl _ _);have HB1:=ae hbx;clear hat q0 q1 NR hx hfi hxe hi hbx hxz
     go_wp2_with fail
     refine yY.out.mono ?_;rintro e w2 ⟨rfl,hw2⟩;subst hw2
     go_wp2_with fail
     go_region_law (first
      |(go_simp;refine(jb.out w2.drew HW1.out.drew).mono ?_;rintro e w5 ⟨rfl,hw5⟩;have bV:Hid (Ext w2 w5):=ae (((uR w2).drewN' 1).trans hw5);clear hw5 jb))
     all_goals
      have di:=ae (HE.out.trans bV.out);have dW:=ae (uO HB1.out bV.out);clear q2 q3 q4 a0 a1 a2 b0 b1 b2
      go_wp2_with fail
      go_ret2
      rw[HV.out];by_cases e:x= .mk m r M
      .rw [if_pos e,dT e];exact⟨_,rfl,(fun C h=>by injection h with h;rw[<-h];exact dW.out),di.out⟩
      .rw [if_neg e,dF e];exact⟨_,rfl,(fun _ h=>by cases h),di.out⟩
    |none=>
     obtain rfl:FX= -1:=by rw[<-eu.out,J6 hx]
     have HV:Hid (V=some (B++[(n,s,.mk m r M)])):=ae (by rw[<-HVV.out];exact EC iD.out NP.out hx);clear hx
     go_wp2_with fail
     refine yY.out.mono ?_;rintro e w2 ⟨rfl,hw2⟩;subst hw2;obtain⟨us,DL,hsl,htl⟩:=uO HB.out HE.out;have hone:=Gs B us (Vu (R:=fun _=>True) DL htl);have xy:=ae (And.intro DL (And.intro hsl (And.intro htl hone)));have xa0:=fun x:XW w2=>x.ext.cell a0 (fun h=>h);have xa1:=fun x:XW w2=>x.ext.cell a1 (fun h=>h);have xb0:=fun x:XW w2=>x.ext.cell b0 (fun h=>h);have QG:=fun x:XW w2=>x.ext.cell b1 (fun h=>h);have xb2:=fun x:XW w2=>x.ext.cell b2 (fun h=>h);obtain⟨iS,hi,hz0,hz1,hz2⟩:=info_parts Np;clear DL hsl htl hone a0 a1 a2 b0 b1 b2
     go_wp2_with fail
     refine bP (α:=Option Addr×Nat) 11 [] 11 [(11,2),(12,2),(13,2)] [[],[],[0,1],[],[3],[],[5],[],[0,1,2,7],[0,1,2,3,4,5,6,7,8],[0,1,2,3,4,5,6,7,8,9],[0,1,2,3,4,5,6,7,8,9,10],[0,1,2,3,4,5,6,7,8,9,10,11],[0,1,2,3,4,5,6,7,8,9,10,11,12]]
      [some ⟨fun x=> .slice x.1 0 0,fun x W=>W.ownsRow w2.heap.size 93 5 (.slice x.1 0 0) 0 [],fun x W W' h hE=>bI h hE (fun _ _ h=>h)⟩,none,some ⟨fun x=> .slice x.1 B.length x.2,fun x W=>W.ownsRow w2.heap.size 93 5 (.slice x.1 B.length x.2) B.length (gK B us),fun x W W' h hE=>bI h hE (fun _ _ h=>h)⟩,none,none,none,none,none,some ⟨fun x=> .agg #[.string m,.string r,.slice x.1 M.length x.2],fun x W=>ay (jB W) W M (.slice x.1 M.length x.2),fun x W W' h hE=>(h.ext hE).weaken (fun k hk=>jB.ext hk hE)⟩,none,some ⟨fun x=> .slice x.1 1 x.2,fun x W=> ∃ya yc,aA (fun _=>True) W 5 (.slice x.1 1 x.2) 1 [.string n,.string s,.string m,.string r,.slice ya M.length yc]/\ay (jB W) W M (.slice ya M.length yc),fun x W W' ⟨ya,yc,h1,h2⟩ hE=>⟨ya,yc,aA.kept h1 hE (fun _ _ h=>h),(h2.ext hE).weaken (fun k hk=>jB.ext hk hE)⟩⟩]
      [true,false,true,false,false,false,false,false,true,false,true] (by kernel_rfl) (by kernel_rfl) rfl (fun _ _ d _ _ h=>by cases d<;>exact h) ?_
     simp only[List.take_succ_cons,List.take_zero,fF,List.getElem?_cons_zero,List.getElem?_cons_succ];refine aH _ rfl (by go_simp) (fun W hW hG K hK=>?_) (fun K zz0 hK=>?_)
     .go_simp;exact hK (some ⟨W.heap.size,0,none⟩,0) _ ((uR W).alloc _) (World.ownsRow_lit (base:=w2.heap.size) (e:=93) (size:=5) W #[] 0 hW.size (by unfold maxLen;omega) (by simp))
     refine hK _ ?_;clear hK K;dsimp only;refine aS rfl (fun K hK=>?_);go_simp;refine hK _ ?_;clear hK K;refine aH _ rfl (by go_simp) (fun W hW hG K hK=>?_) (fun K H_ hK=>?_)
     .have g0:=hG _ (List.mem_singleton.2 rfl) (by show(0:Nat)∈_;decide);refine oC _ (.tmp 39) (.tmp 40) 27 rfl w2.heap.size 93 iS (.agg #[.string ⟨#[]⟩,.string ⟨#[]⟩,.string ⟨#[]⟩,.string ⟨#[]⟩,.slice none 0 0]) 5 88 Tryz.underlying27 hi hz0 hz1 hz2 rfl (by decide) _ rfl g0 (fun k=>k<w2.heap.size) _ B.length _ rfl (aA.kept xy.out.2.1 hW (fun _ _ h=>h)) xy.out.2.2.2 (by have:=kP.out;unfold maxLen;omega) (by have:=kP.out;omega) hW.size ?_;intro v' w' oq hO4;obtain⟨p4,c4,rfl⟩:=aY hO4;exact hK (p4,c4) _ oq hO4
     refine hK _ ?_;clear hK K;dsimp only
     iterate 5(refine aS rfl (fun K hK=>?_);go_simp;refine hK _ ?_;clear hK K)
     refine aH _ rfl (by go_simp) (fun W hW hG K hK=>?_) (fun K zG hK=>?_)
     .go_simp;refine(Jc (.mk m r M) (.agg #[.string m,.string r,.slice ta M.length tc]) (fun k=>k<w.heap.size) W ⟨ta,tc,rfl,(Bf.out.ext HE.out).ext hW⟩ (fun k hk=>ax hk (Nat.le_trans HE.out.size hW.size)) FP.out).mono ?_;rintro e w' ⟨r',Bx,rfl,hT,hb,hE⟩;obtain⟨ya,yc,rfl⟩:=aG.shape hT;exact hK (ya,yc) _ hE (aG.ty hT)
     refine hK _ ?_;clear hK K;dsimp only;refine aS rfl (fun K hK=>?_);go_simp;refine hK _ ?_;clear hK K;refine aH _ rfl (by go_simp) (fun W hW hG K hK=>?_) (fun K NS hK=>?_)
     .have g8:=hG _ (List.mem_append_right _ (List.mem_singleton.2 rfl)) (by show(8:Nat)∈_;decide);go_simp;have hA:=(uR W).alloc (.cells #[.string n,.string s,.string m,.string r,.slice zG.1 M.length zG.2] 93);exact hK (some ⟨W.heap.size,0,none⟩,1) _ hA ⟨zG.1,zG.2,aA.weaken (aA.fC (World.ownsRow_lit (base:=w2.heap.size) (e:=93) (size:=5) W #[.string n,.string s,.string m,.string r,.slice zG.1 M.length zG.2] 1 hW.size (by unfold maxLen;omega) (by simp))) (fun _ _=>trivial),(g8.ext hA).weaken (fun k hk=>jB.ext hk hA)⟩
     refine hK _ ?_;clear hK K;dsimp only;refine gJ (fun w8 hW hG=>?_);have g2:=hG _ (List.mem_append_left _ (List.mem_append_left _ (List.mem_append_right _ (List.mem_singleton.2 rfl))));have g10:=hG _ (List.mem_append_right _ (List.mem_singleton.2 rfl));dsimp only at g2 g10;obtain⟨ya,yc,gs,gt⟩:=g10;clear hG;refine dM (fun K hK=>?_);rw[if_pos (by go_simp)];refine mf _ (.tmp 41) (.tmp 49) 27 rfl w2.heap.size 93 iS (.agg #[.string ⟨#[]⟩,.string ⟨#[]⟩,.string ⟨#[]⟩,.string ⟨#[]⟩,.slice none 0 0]) 5 88 Tryz.underlying27 hi hz0 hz1 hz2 rfl (by decide) (.slice H_.1 B.length H_.2) B.length _ rfl g2 (fun _=>True) (.slice NS.1 1 NS.2) 1 _ rfl gs (fun u hu=>by simp at hu;rcases hu with h|h|h|h|h<;>(subst h;rfl)) (by have:=kP.out;unfold maxLen;omega) (by have:=kP.out;omega) hW.size ?_;intro v7 w9 bF;refine hK _ _ ?_;clear hK K;have hlt2: ∀k,(Value.slice H_.1 B.length H_.2).ownBlock=some k->w2.heap.size<=k:=fun k e=>(g2.lt k e).1;have fD:Hid (Ext w w9):=ae ((HE.out.trans hW).trans' bF.upd (fun j hj e=>by have h1:=hlt2 j e;have h2:=HE.out.size;omega));have Vx:w2.heap.size<=w9.heap.size:=Nat.le_trans hW.size bF.upd.size;have mX:Hid (gQ (fun k=>k<w9.heap.size) (fun k=>k<w9.heap.size) w9 v7 (B++[(n,s,.mk m r M)])):=ae (by
      refine⟨us++[.slice ya M.length yc],by rw[List.length_append,List.length_append,xy.out.1];rfl,?_,fun i hi=>?_⟩
      .rw [DF xy.out.1,List.length_append];exact aA.weaken (aA.fC bF.own) (fun k hk=>(bF.own.lt k hk).2)
      .by_cases e:i<B.length
       .have e1:Go.Hw.bg (B++[(n,s,.mk m r M)]) i=Go.Hw.bg B i:=by unfold Go.Hw.bg;rw[List.getD_eq_getElem?_getD,List.getD_eq_getElem?_getD,List.getElem?_append_left e]
        have e2:ug (us++[.slice ya M.length yc]) i=ug us i:=by unfold ug;rw[List.getD_eq_getElem?_getD,List.getD_eq_getElem?_getD,List.getElem?_append_left (by rw[xy.out.1];exact e)]
        rw[e1,e2];exact(((xy.out.2.2.1 i e).ext hW).kept bF.upd (fun k hk e=>by have h1:=hlt2 k e;omega)).weaken (fun k hk=>ax hk Vx)
       .have e0:i=B.length:=by rw[List.length_append] at hi;simp at hi;omega
        have e1:Go.Hw.bg (B++[(n,s,.mk m r M)]) i=(n,s,.mk m r M):=by unfold Go.Hw.bg;rw[List.getD_eq_getElem?_getD,e0,List.getElem?_append_right (Nat.le_refl _),Nat.sub_self];rfl
        have e2:ug (us++[.slice ya M.length yc]) i= .slice ya M.length yc:=by unfold ug;rw[List.getD_eq_getElem?_getD,e0,<-xy.out.1,List.getElem?_append_right (Nat.le_refl _),Nat.sub_self];rfl
        rw[e1,e2];refine(gt.kept bF.upd (fun k hk e=>?_)).weaken (fun k hk=>?_)
        .obtain ⟨cs,fz,h1⟩:=hk;rcases g2.2 with⟨h2,_⟩|⟨g,cap,cur,h2,_,h3,_⟩
         .rw [h2] at e;cases e
         .rw [h2] at e;injection e with e
          rw[<-e,h3] at h1;injection h1 with h1
          injection h1 with _ h1
          cases h1
        .obtain ⟨cs,fz,h1⟩:=hk;exact ax (Array.getElem?_eq_some_iff.1 h1).1 bF.upd.size)
     clear bF g2 gs gt hW hlt2 Vx;refine dM (fun K hK=>?_);go_simp;refine hK _ _ ?_;clear hK K;refine dM (fun K hK=>?_);go_simp;refine hK _ _ ?_;clear hK K;simp only[bW]
     go_wp2_with fail
     go_ret2
     rw[HV.out];exact⟨v7,rfl,(fun C h=>by injection h with h;rw[<-h];exact mX.out),fD.out⟩
   .rw [dF hrs] at t3;have HV:Hid (V=none):=ae (by rw[<-HVV.out];exact Af iD.out ⟨hr0,hrs⟩);clear hr0 hrs
    go_wp2_with fail
    go_ret2
    rw[HV.out];exact⟨_,rfl,(fun C h=>by cases h),HE.out⟩
def FwP (q:Nat) (w w':World) (j:Int):Prop:=au (fun k=>k=q) w w'/\w'.heap[q]?=some (.cells #[.int .i64 j] 3 (0,0))
def lQ (B:List Bd) (n:By):Nat:=B.findIdx fun b=>!blt b.1 n
theorem sW {B:List Bd} {t:Nat} (h:t<B.length):Go.Hw.bg B t=B[t]:=by unfold Go.Hw.bg;rw[List.getD_eq_getElem?_getD,List.getElem?_eq_getElem h];rfl
theorem QI (B:List Bd) (n:By):lQ B n<=B.length:=List.findIdx_le_length
theorem QJ {B:List Bd} {n:By} (h:AscK (Prod.fst:Bd->By) B):(∀t,t<lQ B n->blt (Go.Hw.bg B t).1 n=true)/\(∀t,lQ B n<=t->t<B.length->blt (Go.Hw.bg B t).1 n=false):=by
 have hle:=QI B n;refine⟨fun t ht=>?_,fun t ht htl=>?_⟩
 .rw [sW (by omega)];have:=List.not_of_lt_findIdx (show t<lQ B n from ht);simpa using this
 .rw [sW htl];have h0:lQ B n<B.length:=by omega
  have h1:(!blt B[lQ B n].1 n)=true:=List.findIdx_getElem (p:=fun x:Bd=>!blt x.1 n) (w:=h0);have h2:blt B[lQ B n].1 n=false:=by simpa using h1
  rcases Nat.eq_or_lt_of_le ht with e|e
  .have:B[t]=B[lQ B n]:=by congr 1;omega
   rw[this];exact h2
  .rw [Bool.eq_false_iff];intro h3;have:=mZ (List.pairwise_iff_getElem.1 h (lQ B n) t h0 htl e) h3;rw[h2] at this;cases this
theorem NV {B:List Bd} {n:By} (h:AscK (Prod.fst:Bd->By) B):(lQ B n<B.length/\(Go.Hw.bg B (lQ B n)).1=n)<->(bf B n).isSome=true:=by
 constructor
 .rintro ⟨h1,h2⟩;rw[sW h1] at h2;have:=(QK (NW h) (List.getElem_mem h1)).1;rw[h2] at this;rw[this];rfl
 .intro hs;obtain⟨T,hT⟩:=Option.isSome_iff_exists.1 hs;obtain⟨b,hb,h1,_⟩:=rE hT;obtain⟨p,hp,rfl⟩:=List.mem_iff_getElem.1 hb;have h2:=QJ (n:=n) h;have h3:lQ B n=p:=by
   rcases Nat.lt_trichotomy (lQ B n) p with e|e|e
   .have h4:=h2.2 _ (Nat.le_refl _) (by omega);rw[sW (by omega)] at h4;have:=List.pairwise_iff_getElem.1 h _ p (by omega) hp e;rw[h1] at this;rw[this] at h4;cases h4
   .exact e
   .have h4:=h2.1 p e;rw[sW hp,h1,f_] at h4;cases h4
  rw[h3];exact⟨hp,by rw[sW hp];exact h1⟩
theorem J7 {B:List Bd} {n:By} (h:AscK (Prod.fst:Bd->By) B) (hs:(bf B n).isSome=true):lQ B n<B.length/\bf B n=some (Go.Hw.bg B (lQ B n)).2.2/\sZ B n=some (Go.Hw.bg B (lQ B n)).2.1:=by
 obtain⟨h1,h2⟩:=(NV h).2 hs;have:=QK (NW h) (List.getElem_mem h1);rw[<-sW h1,h2] at this;exact⟨h1,this.1,this.2⟩
theorem XN (a b:By):(dO a b<0)<->blt a b=true:=by
 unfold dO;by_cases h:blt a b=true
 .rw [if_pos h];simp[h]
 .rw [if_neg h];split<;>simp[h]
theorem QL (x:Bd) (xa:Option Addr) (xc:Nat) (nm:By) (w:World):Calls Tryz.prog 95 #[(.agg #[.string x.1,.string x.2.1,.string x.2.2.name,.string x.2.2.sort,.slice xa x.2.2.kids.length xc]),.string nm] w fun e w'=>e= .returned (.int .i64 (dO x.1 nm))/\Ext w w':=by
 have HE:=ae ((uR w).alloc (.cells #[.string x.1,.string x.2.1,.string x.2.2.name,.string x.2.2.sort,.slice xa x.2.2.kids.length xc] 93));have hb:=aj w (.cells #[.string x.1,.string x.2.1,.string x.2.2.name,.string x.2.2.sort,.slice xa x.2.2.kids.length xc] 93);have c0:=ag hb 0 (.string x.1) rfl;have hc: ∀W,Calls Tryz.prog 99 #[.string x.1,.string nm] W fun e w'=>e= .returned (.int .i64 (dO x.1 nm))/\w'=W:=fun W=>by rw[<-QM];exact Tryz.strings_Compare x.1 nm W
 have HC:=ae hc;obtain⟨r,hr⟩: ∃r,dO x.1 nm=r:=⟨_,rfl⟩
 rw[hr] at HC⊢;clear hb hc hr
 go_enter Tryz.func95,Tryz.ntmps95
 go_wp2_with fail
 refine(HC.out _).mono ?_;rintro e w4 ⟨rfl,rfl⟩
 go_wp2_with fail
 go_ret;exact⟨rfl,HE.out⟩
theorem ZH (B:List Bd) (v:Value) (nm:By) (R S:Nat->Prop) (w:World) (h:gQ R S w v B) (ha:AscK (Prod.fst:Bd->By) B) (hl:B.length<=1000000):Calls Tryz.prog 94 #[v,.string nm,.func (.func 95) #[] #[]] w fun e w'=>e= .returned (.tuple #[.int .i64 (lQ B nm:Nat),.bool (bf B nm).isSome])/\Ext w w':=by
 have H:=ae h;obtain⟨a,c,rfl⟩:=h.shape;obtain⟨X,hX⟩: ∃X,lQ B nm=X:=⟨_,rfl⟩
 obtain⟨Y,hY⟩: ∃Y,(bf B nm).isSome=Y:=⟨_,rfl⟩
 have hlow:=QJ (n:=nm) ha;have hmem:=NV (n:=nm) ha;have hle:=QI B nm;rw[hX] at hlow hmem hle;rw[hY] at hmem;rw[hX,hY];have HL:=ae hlow;have HM:=ae hmem;have HLE:=ae hle;have ZI: ∀args W,(callFunc 95 args).run Tryz.prog W= .ok (.enter 95 args) W:=enters_of Tryz.func95 (by kernel_rfl) rfl;clear h ha hX hY hlow hmem hle
 go_enter Tryz.func94,Tryz.ntmps94
 go_wp2_with fail
 go_loopg [9,10] B.length (fun gk s9 s10 wr=> ∃lo hi:Nat,s9= .int .i64 (lo:Int)/\s10= .int .i64 (hi:Int)/\lo<=hi/\hi<=B.length/\hi-lo<=gk/\Hid (lo<=X/\X<=hi)/\Hid (Ext w wr))
 case atStart=>exact⟨0,B.length,rfl,rfl,Nat.zero_le _,Nat.le_refl _,by omega,ae ⟨Nat.zero_le _,HLE.out⟩,ae (au.refl _ _)⟩
 case round=>
  obtain⟨lo,hi,rfl,rfl,hlh,hin,hg,HI,HE⟩:=hrel;by_cases hlt:lo<hi
  .obtain ⟨m,hm⟩: ∃m:Nat,(lo+hi) / 2=m:=⟨_,rfl⟩
   have hml:lo<=m/\m<hi:=by omega
   obtain⟨g,off,hga,_,hat⟩:=(H.out.ext HE.out).at_ (by omega);subst hga;obtain⟨xa,xc,p0,p1,p2,p3,p4,aQ⟩:=hat m (by omega);have z0:(0:Int)<=(m:Int):=by omega
   have z1:(m:Int)< (B.length:Int):=by omega
   have z3:((lo:Int)+(hi:Int)) / 2=(m:Int):=by omega
   have z2:decide ((lo:Int)< (hi:Int))=true:=dT (by omega);have z2':decide (lo<hi)=true:=dT hlt;have HO:=ae (fun W=>QL (Go.Hw.bg B m) xa xc nm W);have hx1:blt (Go.Hw.bg B m).1 nm=true->m<X:=fun e=>by
    rcases Nat.lt_or_ge m X with e2|e2
    .exact e2
    .rw [HL.out.2 m e2 (by omega)] at e;cases e
   have hx2:blt (Go.Hw.bg B m).1 nm=false->X<=m:=fun e=>by
    rcases Nat.lt_or_ge m X with e2|e2
    .rw [HL.out.1 m e2] at e;cases e
    .exact e2
   have hbn:=XN (Go.Hw.bg B m).1 nm;obtain⟨x,hx⟩: ∃x,Go.Hw.bg B m=x:=⟨_,rfl⟩
   rw[hx] at p0 p1 p2 p3 p4 HO hx1 hx2 hbn;obtain⟨r,hr⟩: ∃r,dO x.1 nm=r:=⟨_,rfl⟩
   rw[hr] at HO hbn;have ku:=ae hm;have Bh:=ae hml;by_cases hr0:r<0
   .have HX1:=ae (hx1 (hbn.1 hr0));have z4:decide (r<0)=true:=dT hr0;clear hx1 hx2 hbn hr hx hat aQ hm hml
    go_wp2_with fail
    refine(HO.out _).mono ?_;rintro e w4 ⟨rfl,hw4⟩;have bD:=ae (HE.out.trans hw4);clear hw4 HO p0 p1 p2 p3 p4
    go_wp2_with fail
    go_roundg (hi- (m+1))
    case measure=>have:=Bh.out;omega
    case rel=>exact⟨m+1,hi,by go_num,rfl,by have:=Bh.out;omega,hin,Nat.le_refl _,ae ⟨HX1.out,HI.out.2⟩,bD⟩
   .have Bc:=ae (hx2 (by
     cases hb:blt x.1 nm with
     |true=>exact absurd (hbn.2 hb) hr0
     |false=>rfl))
    have z4:decide (r<0)=false:=dF hr0;clear hx1 hx2 hbn hr hx hat aQ hm hml
    go_wp2_with fail
    refine(HO.out _).mono ?_;rintro e w4 ⟨rfl,hw4⟩;have bD:=ae (HE.out.trans hw4);clear hw4 HO p0 p1 p2 p3 p4
    go_wp2_with fail
    go_roundg (m-lo)
    case measure=>have:=Bh.out;omega
    case rel=>exact⟨lo,m,rfl,rfl,by have:=Bh.out;omega,by have:=Bh.out;omega,Nat.le_refl _,ae ⟨HI.out.1,Bc.out⟩,bD⟩
  .obtain rfl:hi=lo:=by omega
   obtain rfl:hi=X:=by have:=HI.out;omega
   have z2:decide ((hi:Int)< (hi:Int))=false:=dF (by omega);by_cases hlt2:hi<B.length
   .obtain ⟨g,off,hga,_,hat⟩:=(H.out.ext HE.out).at_ (by omega);subst hga;obtain⟨xa,xc,p0,p1,p2,p3,p4,aQ⟩:=hat hi hlt2;have z0:(0:Int)<=(hi:Int):=by omega
    have z1:(hi:Int)< (B.length:Int):=by omega
    have z5:decide ((hi:Int)< (B.length:Int))=true:=dT z1;have z5':decide (hi<B.length)=true:=dT hlt2;have HO:=ae (fun W=>QL (Go.Hw.bg B hi) xa xc nm W);have hy:decide (dO (Go.Hw.bg B hi).1 nm=0)=Y:=by
     rw[Bool.eq_iff_iff,decide_eq_true_eq,vk,<-HM.out];exact⟨fun e=>⟨hlt2,e⟩,fun e=>e.2⟩
    obtain⟨x,hx⟩: ∃x,Go.Hw.bg B hi=x:=⟨_,rfl⟩
    rw[hx] at p0 p1 p2 p3 p4 HO hy;obtain⟨r,hr⟩: ∃r,dO x.1 nm=r:=⟨_,rfl⟩
    rw[hr] at HO hy;have hy2:(r==0)=Y:=by rw[<-hy];rfl
    have HY:=ae hy;clear hr hx hat aQ hy hlt2
    go_wp2_with fail
    refine(HO.out _).mono ?_;rintro e w4 ⟨rfl,hw4⟩;have bD:=ae (HE.out.trans hw4);clear hw4 HO p0 p1 p2 p3 p4
    go_wp2_with fail
    go_ret2
    exact⟨by first|rfl|(rw[HY.out]),bD.out⟩
   .have z5:decide ((hi:Int)< (B.length:Int))=false:=dF (by omega);have z5':decide (hi<B.length)=false:=dF hlt2;obtain rfl:Y=false:=by
     rw[Bool.eq_false_iff];intro e;exact hlt2 (HM.out.2 e).1
    clear hlt2
    go_wp2_with fail
    go_ret2
    exact⟨rfl,HE.out⟩
theorem aa8 (nm:By->Bool) (B:List Bd) (k:Nat):nN nm B k=(nm (Go.Hw.bg B k).1&&nm (Go.Hw.bg B k).2.1&&(decide (k=0)||blt (Go.Hw.bg B (k-1)).1 (Go.Hw.bg B k).1)&&wf nm (Go.Hw.bg B k).2.2&&(decide ((Go.Hw.bg B k).2.2.sort=ah)||(decide ((Go.Hw.bg B k).2.2.sort=(Go.Hw.bg B k).2.1)&&!decide ((Go.Hw.bg B k).2.2.name=(Go.Hw.bg B k).1)))):=rfl
theorem aa9 {nm:By->Bool} {B:List Bd} {k:Nat} (hk:k<B.length) (h:nN nm B k=false):pW nm B=false:=by
 cases hv:pW nm B with
 |false=>rfl
 |true=>rw[(QN hv).2 k hk] at h;cases h
theorem XO {nm:By->Bool} {B:List Bd} (hl:B.length<=1000) (h: ∀j,j<B.length->nN nm B j=true):pW nm B=true:=by
 unfold pW;rw[Bool.and_eq_true,decide_eq_true_eq,List.all_eq_true];exact⟨hl,fun i hi=>h i (List.mem_range.1 hi)⟩
theorem Lc (a b:By):binOp .geq 9 (.string a) (.string b)=pure (.bool !(blt a b)):=by
 rw[<-Gz];simp[binOp,Op.stringOp]
theorem aa_ (B:List Bd) (v:Value) (w:World) (htab:cO w) (hT:gQ (fun k=>k<w.heap.size) (fun k=>k<w.heap.size) w v B) (hl:B.length<=1000000) (hs: ∀b∈B,(b.2.2.size:Int)<=1000000000000):Calls Tryz.prog 31 #[v] w fun e w'=>e= .returned (.bool (pW aB B))/\Ext w w':=by
 have HT:=ae hT;have je:=ae htab;have bT:=ae hs;obtain⟨a,cap,rfl⟩:=hT.shape;obtain⟨V,hV⟩: ∃V,pW aB B=V:=⟨_,rfl⟩
 have HVV:=ae hV.symm;rw[hV];clear hT htab hs hV;by_cases hb:1000<B.length
 .have HV:Hid (V=false):=ae (by rw[HVV.out];unfold pW;rw[dF (by omega)];rfl);have z1:(1000:Int)< (B.length:Int):=by omega
  have z1':decide ((1000:Int)< (B.length:Int))=true:=dT z1;have H8:Hid (Ext w w):=ae (au.refl _ _);clear hb
  go_enter Tryz.func31,Tryz.ntmps31
  go_wp2_with fail
  all_goals go_ret
  all_goals (rw[HV.out];exact⟨rfl,H8.out⟩)
 have z1: ¬(1000:Int)< (B.length:Int):=by omega
 have z1':decide ((1000:Int)< (B.length:Int))=false:=dF z1
 go_enter Tryz.func31,Tryz.ntmps31
 go_wp2_with fail
 clear z1 z1'
 go_loopg [10] B.length (fun gk iv wr=> ∃k:Nat,iv= .int .i64 (k:Int)/\gk=B.length-k/\k<=B.length/\Hid (∀j,j<k->nN aB B j=true)/\Hid (Ext w wr))
 case atStart=>exact⟨0,rfl,rfl,Nat.zero_le _,ae (fun j h=>absurd h (Nat.not_lt_zero _)),ae (au.refl _ _)⟩
 case round=>
  obtain⟨k,rfl,rfl,hk,HC,HE⟩:=hrel;by_cases hlt:k<B.length
  .obtain ⟨g,off,hga,_,hat⟩:=(HT.out.ext HE.out).at_ (by omega);subst hga;obtain⟨xa,xc,p0,p1,p2,p3,p4,aQ⟩:=hat k hlt;obtain⟨z0,z1,z2,z2'⟩:=bJ hlt;have hno:nN aB B k=false->V=false:=fun h=>by rw[HVV.out];exact aa9 hlt h
   have hyes:nN aB B k=true->∀j,j<k+1->nN aB B j=true:=fun h j hj=>by
    rcases Nat.lt_succ_iff_lt_or_eq.1 hj with h5|h5
    .exact HC.out j h5
    .rw [h5];exact h
   have oI:=ae hno;have yJ:=ae hyes;have hok:=aa8 aB B k;have XP:((Go.Hw.bg B k).2.2.size:Int)<=1000000000000:=bT.out _ (Gt hlt);have ZJ:0<k->∃y,(Go.Hw.bg B (k-1)).1=y/\wr.cell? ⟨g,off+(k-1)*5,none⟩=some (.string y):=fun h0=>by
    obtain⟨_,_,q0,_⟩:=hat (k-1) (by omega);exact⟨_,rfl,q0⟩
   have agM:=ae ZJ;obtain⟨x,hx⟩: ∃x,Go.Hw.bg B k=x:=⟨_,rfl⟩
   rw[hx] at p0 p1 p2 p3 p4 aQ hok XP;have oq:=(uR wr).alloc (.cells #[.string x.1,.string x.2.1,.string x.2.2.name,.string x.2.2.sort,.slice xa x.2.2.kids.length xc] 93);have vW:=ae oq;have hB4:=aj wr (.cells #[.string x.1,.string x.2.1,.string x.2.2.name,.string x.2.2.sort,.slice xa x.2.2.kids.length xc] 93);have HB4:=ae hB4;have bD:=ae (HE.out.trans oq);have lV:=ae (fun W (hW:Ext (wr.alloc (.cells #[.string x.1,.string x.2.1,.string x.2.2.name,.string x.2.2.sort,.slice xa x.2.2.kids.length xc] 93)) W)=>zT x.1 W (aJ je.out (bD.out.trans hW)));have jh:=ae (fun W (hW:Ext (wr.alloc (.cells #[.string x.1,.string x.2.1,.string x.2.2.name,.string x.2.2.sort,.slice xa x.2.2.kids.length xc] 93)) W)=>zT x.2.1 W (aJ je.out (bD.out.trans hW)));have rX:=ae (fun W (hW:Ext (wr.alloc (.cells #[.string x.1,.string x.2.1,.string x.2.2.name,.string x.2.2.sort,.slice xa x.2.2.kids.length xc] 93)) W)=>wQ x.2.2 (tV x.2.2 (.slice xa x.2.2.kids.length xc)) W (aJ je.out (bD.out.trans hW)) (bG.weaken ⟨xa,xc,rfl,((aQ.ext oq).ext hW)⟩ (fun j hj=>ax hj (bD.out.trans hW).size)) XP);dsimp only[tV] at rX;have nY:=ae hok;clear aQ hno hyes hok XP ZJ oq hat
   go_wp2_with fail
   generalize hw4:wr.alloc (.cells #[.string x.1,.string x.2.1,.string x.2.2.name,.string x.2.2.sort,.slice xa x.2.2.kids.length xc] 93)=w4 at*;have p0:=ag hB4 0 (.string x.1) rfl;have p1:=ag hB4 1 (.string x.2.1) rfl;have p2:=ag hB4 2 (.string x.2.2.name) rfl;have p3:=ag hB4 3 (.string x.2.2.sort) rfl;have p4:=ag hB4 4 (.slice xa x.2.2.kids.length xc) rfl;have L8:=fun x:XW w4=>x.ext.cell p0 (fun h=>h);have L9:=fun x:XW w4=>x.ext.cell p1 (fun h=>h);have L_:=fun x:XW w4=>x.ext.cell p2 (fun h=>h);have xp3:=fun x:XW w4=>x.ext.cell p3 (fun h=>h);have xp4:=fun x:XW w4=>x.ext.cell p4 (fun h=>h);have IZ:=uR w4;clear p0 p1 p2 p3 p4 hB4;obtain⟨n1,hn1⟩: ∃b,aB x.1=b:=⟨_,rfl⟩
   obtain⟨n2,hn2⟩: ∃b,aB x.2.1=b:=⟨_,rfl⟩
   rw[hn1] at lV nY;rw[hn2] at jh nY;clear hn1 hn2;cases n1
   .have HV:=ae (oI.out (by rw[nY.out];simp))
    go_wp2_with fail
    refine dC w4 (by assumption) (by kernel_rfl) (by kernel_rfl) ?_
    repeat (first|go_big_quiet_skip|(go_big_quiet_want;go_big_quiet_op;first|go_big_quiet_on|(apply Exists.intro;refine⟨fun x=>?_,?_⟩;(first|(go_at_call 79;with_reducible exact XW.call (lV.out x.val x.ext))|(go_at_call 79;with_reducible exact XW.call (jh.out x.val x.ext))|(go_at_call 78;exact XW.call (rX.out x.val x.ext)));go_big_quiet_on)))
    refine wpQuiet_nil ?_;rintro w8 ⟨⟨_,gB⟩,rfl⟩
    try dsimp only
    have H8:=ae (bD.out.trans gB)
    go_wp2_with fail
    all_goals go_ret
    all_goals (rw[HV.out];exact⟨rfl,H8.out⟩)
   cases n2
   .have HV:=ae (oI.out (by rw[nY.out];simp))
    go_wp2_with fail
    refine dC w4 (by assumption) (by kernel_rfl) (by kernel_rfl) ?_
    repeat (first|go_big_quiet_skip|(go_big_quiet_want;go_big_quiet_op;first|go_big_quiet_on|(apply Exists.intro;refine⟨fun x=>?_,?_⟩;(first|(go_at_call 79;with_reducible exact XW.call (lV.out x.val x.ext))|(go_at_call 79;with_reducible exact XW.call (jh.out x.val x.ext))|(go_at_call 78;exact XW.call (rX.out x.val x.ext)));go_big_quiet_on)))
    refine wpQuiet_nil ?_;rintro w8 ⟨⟨_,gB⟩,rfl⟩
    try dsimp only
    have H8:=ae (bD.out.trans gB)
    go_wp2_with fail
    all_goals go_ret
    all_goals (rw[HV.out];exact⟨rfl,H8.out⟩)
   by_cases h0:k=0
   .subst h0;have lS:Hid (nN aB B 0=(true&&true&&true&&wf aB x.2.2&&(decide (x.2.2.sort=ah)||(decide (x.2.2.sort=x.2.1)&&!decide (x.2.2.name=x.1))))):=ae (by rw[nY.out];simp);clear nY;obtain⟨f,hf⟩: ∃f,wf aB x.2.2=f:=⟨_,rfl⟩
    rw[hf] at rX lS;clear hf;cases f
    .have HV:=ae (oI.out (by rw[lS.out];simp))
     go_wp2_with fail
     refine dC w4 (by assumption) (by kernel_rfl) (by kernel_rfl) ?_
     repeat (first|go_big_quiet_skip|(go_big_quiet_want;go_big_quiet_op;first|go_big_quiet_on|(apply Exists.intro;refine⟨fun x=>?_,?_⟩;(first|(go_at_call 79;with_reducible exact XW.call (lV.out x.val x.ext))|(go_at_call 79;with_reducible exact XW.call (jh.out x.val x.ext))|(go_at_call 78;exact XW.call (rX.out x.val x.ext)));go_big_quiet_on)))
     refine wpQuiet_nil ?_;rintro w8 ⟨⟨_,gB⟩,rfl⟩
     try dsimp only
     have H8:=ae (bD.out.trans gB)
     go_wp2_with fail
     all_goals go_ret
     all_goals (rw[HV.out];exact⟨rfl,H8.out⟩)
    go_wp2_with fail
    refine dC w4 (by assumption) (by kernel_rfl) (by kernel_rfl) ?_
    repeat (first|go_big_quiet_skip|(go_big_quiet_want;go_big_quiet_op;first|go_big_quiet_on|(apply Exists.intro;refine⟨fun x=>?_,?_⟩;(first|(go_at_call 79;with_reducible exact XW.call (lV.out x.val x.ext))|(go_at_call 79;with_reducible exact XW.call (jh.out x.val x.ext))|(go_at_call 78;exact XW.call (rX.out x.val x.ext)));go_big_quiet_on)))
    refine wpQuiet_nil ?_;rintro w8 ⟨⟨_,gB⟩,rfl⟩
    try dsimp only
    have H8:=ae (bD.out.trans gB);have jK:=ae (gB.heap HB4.out (fun h=>h));clear rX lV jh HB4 bD;clear L8 L9 L_ xp3 xp4;have u0:=ag jK.out 0 (.string x.1) rfl;have u1:=ag jK.out 1 (.string x.2.1) rfl;have u2:=ag jK.out 2 (.string x.2.2.name) rfl;have u3:=ag jK.out 3 (.string x.2.2.sort) rfl;have u4:=ag jK.out 4 (.slice xa x.2.2.kids.length xc) rfl;have pY:=ae (fun W=>lJ x.2.2.name x.2.2.sort xa x.2.2.kids.length xc W);have s1:=kQ x.2.2.sort x.2.1;have s2:=kQ x.2.2.name x.1;obtain⟨d0,hd0⟩: ∃d,decide (x.2.2.sort=ah)=d:=⟨_,rfl⟩
    obtain⟨d1,hd1⟩: ∃d,decide (x.2.2.sort=x.2.1)=d:=⟨_,rfl⟩
    obtain⟨d2,hd2⟩: ∃d,decide (x.2.2.name=x.1)=d:=⟨_,rfl⟩
    rw[hd0] at pY lS;rw[hd1] at s1 lS;rw[hd2] at s2 lS;clear hd0 hd1 hd2
    go_wp2_with fail
    refine(pY.out _).mono ?_;rintro e w9 ⟨rfl,iy⟩;have H9:=ae (H8.out.trans iy);have lK:=ae (iy.heap jK.out (fun h=>h));clear iy pY u0 u1 u2 u3 u4;have u0:=ag lK.out 0 (.string x.1) rfl;have u1:=ag lK.out 1 (.string x.2.1) rfl;have u2:=ag lK.out 2 (.string x.2.2.name) rfl;have u3:=ag lK.out 3 (.string x.2.2.sort) rfl;have u4:=ag lK.out 4 (.slice xa x.2.2.kids.length xc) rfl;cases d0
    rotate_left
    .have pz:=ae (yJ.out (by rw[lS.out];simp))
     go_wp2_with fail
     go_roundg (B.length- (0+1))
     case measure=>omega
     case rel=>exact⟨0+1,by go_num,rfl,by omega,pz,H9⟩
    cases d1
    .have HV:=ae (oI.out (by rw[lS.out];simp));have H8:=H9
     go_wp2_with fail
     all_goals go_ret
     all_goals (rw[HV.out];exact⟨rfl,H8.out⟩)
    cases d2
    .have pz:=ae (yJ.out (by rw[lS.out];simp))
     go_wp2_with fail
     go_roundg (B.length- (0+1))
     case measure=>omega
     case rel=>exact⟨0+1,by go_num,rfl,by omega,pz,H9⟩
    have HV:=ae (oI.out (by rw[lS.out];simp));have H8:=H9
    go_wp2_with fail
    all_goals go_ret
    all_goals (rw[HV.out];exact⟨rfl,H8.out⟩)
   .have zk:(0:Int)< (k:Int):=by omega
    have zk':decide ((0:Int)< (k:Int))=true:=dT zk;have zk2:(0:Int)<=(k:Int)-1:=by omega
    have zk3:(k:Int)-1< (B.length:Int):=by omega
    obtain⟨m,rfl⟩: ∃m,k=m+1:=⟨k-1,by omega⟩
    obtain⟨y,hy,hyc⟩:=agM.out (by omega);rw[Nat.add_sub_cancel] at hyc hy;have zk4:((m+1:Nat):Int)-1=(m:Int):=by omega
    have y0:=fun X:XW w4=>X.ext.cell (vW.out.cell hyc (fun h=>h)) (fun h=>h);have hgq:=Lc y x.1;have lS:Hid (nN aB B (m+1)=(true&&true&&blt y x.1&&wf aB x.2.2&&(decide (x.2.2.sort=ah)||(decide (x.2.2.sort=x.2.1)&&!decide (x.2.2.name=x.1))))):=ae (by rw[nY.out,<-hy];simp);clear nY;obtain⟨g1,hg1⟩: ∃b,blt y x.1=b:=⟨_,rfl⟩
    rw[hg1] at hgq lS;clear hg1 hy hyc h0;cases g1
    .have HV:=ae (oI.out (by rw[lS.out];simp))
     go_wp2_with fail
     refine dC w4 (by assumption) (by kernel_rfl) (by kernel_rfl) ?_
     repeat (first|go_big_quiet_skip|(go_big_quiet_want;go_big_quiet_op;first|go_big_quiet_on|(apply Exists.intro;refine⟨fun x=>?_,?_⟩;(first|(go_at_call 79;with_reducible exact XW.call (lV.out x.val x.ext))|(go_at_call 79;with_reducible exact XW.call (jh.out x.val x.ext))|(go_at_call 78;exact XW.call (rX.out x.val x.ext)));go_big_quiet_on)))
     refine wpQuiet_nil ?_;rintro w8 ⟨⟨_,gB⟩,rfl⟩
     try dsimp only
     have H8:=ae (bD.out.trans gB)
     go_wp2_with fail
     all_goals go_ret
     all_goals (rw[HV.out];exact⟨rfl,H8.out⟩)
    obtain⟨f,hf⟩: ∃f,wf aB x.2.2=f:=⟨_,rfl⟩
    rw[hf] at rX lS;clear hf;cases f
    .have HV:=ae (oI.out (by rw[lS.out];simp))
     go_wp2_with fail
     refine dC w4 (by assumption) (by kernel_rfl) (by kernel_rfl) ?_
     repeat (first|go_big_quiet_skip|(go_big_quiet_want;go_big_quiet_op;first|go_big_quiet_on|(apply Exists.intro;refine⟨fun x=>?_,?_⟩;(first|(go_at_call 79;with_reducible exact XW.call (lV.out x.val x.ext))|(go_at_call 79;with_reducible exact XW.call (jh.out x.val x.ext))|(go_at_call 78;exact XW.call (rX.out x.val x.ext)));go_big_quiet_on)))
     refine wpQuiet_nil ?_;rintro w8 ⟨⟨_,gB⟩,rfl⟩
     try dsimp only
     have H8:=ae (bD.out.trans gB)
     go_wp2_with fail
     all_goals go_ret
     all_goals (rw[HV.out];exact⟨rfl,H8.out⟩)
    go_wp2_with fail
    refine dC w4 (by assumption) (by kernel_rfl) (by kernel_rfl) ?_
    repeat (first|go_big_quiet_skip|(go_big_quiet_want;go_big_quiet_op;first|go_big_quiet_on|(apply Exists.intro;refine⟨fun x=>?_,?_⟩;(first|(go_at_call 79;with_reducible exact XW.call (lV.out x.val x.ext))|(go_at_call 79;with_reducible exact XW.call (jh.out x.val x.ext))|(go_at_call 78;exact XW.call (rX.out x.val x.ext)));go_big_quiet_on)))
    refine wpQuiet_nil ?_;rintro w8 ⟨⟨_,gB⟩,rfl⟩
    try dsimp only
    have H8:=ae (bD.out.trans gB);have jK:=ae (gB.heap HB4.out (fun h=>h));clear rX lV jh HB4 bD;clear y0 hgq;clear L8 L9 L_ xp3 xp4;have u0:=ag jK.out 0 (.string x.1) rfl;have u1:=ag jK.out 1 (.string x.2.1) rfl;have u2:=ag jK.out 2 (.string x.2.2.name) rfl;have u3:=ag jK.out 3 (.string x.2.2.sort) rfl;have u4:=ag jK.out 4 (.slice xa x.2.2.kids.length xc) rfl;have pY:=ae (fun W=>lJ x.2.2.name x.2.2.sort xa x.2.2.kids.length xc W);have s1:=kQ x.2.2.sort x.2.1;have s2:=kQ x.2.2.name x.1;obtain⟨d0,hd0⟩: ∃d,decide (x.2.2.sort=ah)=d:=⟨_,rfl⟩
    obtain⟨d1,hd1⟩: ∃d,decide (x.2.2.sort=x.2.1)=d:=⟨_,rfl⟩
    obtain⟨d2,hd2⟩: ∃d,decide (x.2.2.name=x.1)=d:=⟨_,rfl⟩
    rw[hd0] at pY lS;rw[hd1] at s1 lS;rw[hd2] at s2 lS;clear hd0 hd1 hd2
    go_wp2_with fail
    refine(pY.out _).mono ?_;rintro e w9 ⟨rfl,iy⟩;have H9:=ae (H8.out.trans iy);have lK:=ae (iy.heap jK.out (fun h=>h));clear iy pY u0 u1 u2 u3 u4;have u0:=ag lK.out 0 (.string x.1) rfl;have u1:=ag lK.out 1 (.string x.2.1) rfl;have u2:=ag lK.out 2 (.string x.2.2.name) rfl;have u3:=ag lK.out 3 (.string x.2.2.sort) rfl;have u4:=ag lK.out 4 (.slice xa x.2.2.kids.length xc) rfl;cases d0
    rotate_left
    .have pz:=ae (yJ.out (by rw[lS.out];simp))
     go_wp2_with fail
     go_roundg (B.length- ((m+1)+1))
     case measure=>omega
     case rel=>exact⟨(m+1)+1,by go_num,rfl,by omega,pz,H9⟩
    cases d1
    .have HV:=ae (oI.out (by rw[lS.out];simp));have H8:=H9
     go_wp2_with fail
     all_goals go_ret
     all_goals (rw[HV.out];exact⟨rfl,H8.out⟩)
    cases d2
    .have pz:=ae (yJ.out (by rw[lS.out];simp))
     go_wp2_with fail
     go_roundg (B.length- ((m+1)+1))
     case measure=>omega
     case rel=>exact⟨(m+1)+1,by go_num,rfl,by omega,pz,H9⟩
    have HV:=ae (oI.out (by rw[lS.out];simp));have H8:=H9
    go_wp2_with fail
    all_goals go_ret
    all_goals (rw[HV.out];exact⟨rfl,H8.out⟩)
  .obtain rfl:k=B.length:=by omega
   have z2:decide ((B.length:Int)< (B.length:Int))=false:=dF (by omega);have HV:Hid (V=true):=ae (by rw[HVV.out];exact XO (by omega) HC.out);have H8:=HE
   go_wp2_with fail
   all_goals go_ret
   all_goals (rw[HV.out];exact⟨rfl,H8.out⟩)
theorem uP (L:List Tm) (k:Nat) (h:k<L.length):depths (L.take (k+1))=max (depths (L.take k)) (tg L k).depth:=by
 have:L.take (k+1)=L.take k++[tg L k]:=by
  rw[List.take_add_one]
  congr 1
  unfold tg;rw[List.getD_eq_getElem?_getD,List.getElem?_eq_getElem h];rfl
 rw[this,BG];simp[depths]
theorem BH: ∀t:Tm,t.depth<=t.size:=by
 refine Tm.ind (fun n s L ih=>?_);rw[jH,size_eq];have: ∀M:List Tm,(∀x∈M,x.depth<=x.size)->depths M<=sizes M:=by
  intro M
  induction M with
  |nil=>intro _;simp[depths]
  |cons x M ih=>
   intro h;have h1:=h x (List.mem_cons_self ..);have h2:=ih (fun y hy=>h y (List.mem_cons_of_mem _ hy));simp only[depths,sizes];omega
 have:=this L ih;simp only[Tm.kids];omega
theorem yu (M:List Tm):depths M<=sizes M:=by
 have:=BH (.mk ah ah M);rw[jH,size_eq] at this;simp only[Tm.kids] at this;omega
theorem ED: ∀(t:Tm) (v:Value) (S:Nat->Prop) (w:World),bG S w t v->t.size<=1000000->
  Calls Tryz.prog 108 #[v] w fun e w'=>e= .returned (.int .i64 (t.size:Nat))/\Ext w w':=by
 refine Tm.ind (fun n s L ih=>?_);intro v S w hT hsz;obtain⟨a,cap,rfl,hT⟩:=hT;dsimp only[tV,Tm.name,Tm.sort,Tm.kids] at hT⊢;have cZ:=ae hT;have HIH:=ae ih;have fB:sizes L+1<=1000000:=by rw[size_eq] at hsz;simp only[Tm.kids] at hsz;omega
 have kK:=ae fB;have jW:L.length<=1000000:=by have h1:=aX L;omega
 have HZ:=ae ((uR w).alloc (.cells #[.string n,.string s,.slice a L.length cap] 24));have HB:=ae (aj w (.cells #[.string n,.string s,.slice a L.length cap] 24));clear ih hT hsz fB;obtain⟨Z,jA⟩: ∃Z,(Tm.mk n s L).size=Z:=⟨_,rfl⟩
 rw[jA];have HV:Hid (Z=sizes L+1):=ae (by rw[<-jA,size_eq];rfl);clear jA
 go_enter Tryz.func108,Tryz.ntmps108
 go_wp2_with fail
 generalize w.alloc (.cells #[.string n,.string s,.slice a L.length cap] 24)=w1 at*
 go_loopg [3,4] L.length (fun gk nv iv wr=> ∃k:Nat,nv= .int .i64 ((sizes (L.take k)+1:Nat):Int)/\iv= .int .i64 (k:Int)/\gk=L.length-k/\k<=L.length/\Hid (Ext w1 wr))
 case atStart=>exact⟨0,rfl,rfl,rfl,Nat.zero_le _,ae (au.refl _ _)⟩
 case round=>
  obtain⟨k,rfl,rfl,rfl,hk,HE⟩:=hrel;have hst:=fA L k;have jf:=ae (HE.out.heap HB.out (fun h=>h));obtain⟨b0,b1,b2⟩:=af jf.out;by_cases hlt:k<L.length
  .obtain ⟨g,off,hga,_,hat⟩:=(cZ.out.ext (HZ.out.trans HE.out)).at_ (by omega);subst hga;obtain⟨xa,xc,q0,q1,q2,aQ⟩:=hat k hlt;rw[<-Nat.add_assoc] at q1 q2;obtain⟨z0,z1,z2,z2'⟩:=bJ hlt;have aW:=ae (HIH.out (tg L k) (bM L k hlt) _ S wr ⟨xa,xc,rfl,aQ⟩ (by have h1:=kK.out;have h2:=eU (bM L k hlt);omega));dsimp only[tV] at aW;have hsx:=jq L k hlt;have hsl2:=fA L (k+1);obtain⟨N,hN⟩: ∃N,sizes (L.take k)=N:=⟨_,rfl⟩
   obtain⟨x,hx⟩: ∃x,tg L k=x:=⟨_,rfl⟩
   rw[hx] at q0 q1 q2 aW hsx;rw[hN] at hsx hst⊢;have jb:=ae hsx;have hsb:=kK.out;have z5:((N+1:Nat):Int)+(x.size:Int)=((N+x.size+1:Nat):Int):=by omega
   have z6:(N+x.size+1:Nat)<=1000000:=by omega
   have HN:=ae hN;clear hat aQ hx hsx hst hsl2 hsb hN
   go_wp2_with fail
   refine aW.out.mono ?_;rintro e w4 ⟨rfl,hw4⟩;have bD:=ae (HE.out.trans hw4);clear hw4 aW b0 b1 b2 q0 q1 q2
   go_wp2_with fail
   go_roundg (L.length- (k+1))
   case measure=>omega
   case rel=>exact⟨k+1,by rw[jb.out];go_num,by go_num,rfl,by omega,bD⟩
  .obtain rfl:k=L.length:=by omega
   have z2:decide ((L.length:Int)< (L.length:Int))=false:=dF (by omega);rw[List.take_length,<-HV.out]
   go_wp2_with fail
   go_ret;exact⟨rfl,(HZ.out.trans HE.out)⟩
theorem XQ: ∀(t:Tm) (v:Value) (S:Nat->Prop) (w:World),bG S w t v->t.size<=1000000->
  Calls Tryz.prog 155 #[v] w fun e w'=>e= .returned (.int .i64 (t.depth:Nat))/\Ext w w':=by
 refine Tm.ind (fun n s L ih=>?_);intro v S w hT hsz;obtain⟨a,cap,rfl,hT⟩:=hT;dsimp only[tV,Tm.name,Tm.sort,Tm.kids] at hT⊢;have cZ:=ae hT;have HIH:=ae ih;have fB:sizes L+1<=1000000:=by rw[size_eq] at hsz;simp only[Tm.kids] at hsz;omega
 have kK:=ae fB;have jW:L.length<=1000000:=by have h1:=aX L;omega
 have HZ:=ae ((uR w).alloc (.cells #[.string n,.string s,.slice a L.length cap] 24));have HB:=ae (aj w (.cells #[.string n,.string s,.slice a L.length cap] 24));clear ih hT hsz fB;obtain⟨Z,jA⟩: ∃Z,(Tm.mk n s L).depth=Z:=⟨_,rfl⟩
 rw[jA];have HV:Hid (Z=depths L+1):=ae (by rw[<-jA,jH];rfl);clear jA
 go_enter Tryz.func155,Tryz.ntmps155
 go_wp2_with fail
 generalize w.alloc (.cells #[.string n,.string s,.slice a L.length cap] 24)=w1 at*
 go_loopg [3,4] L.length (fun gk nv iv wr=> ∃k:Nat,nv= .int .i64 ((depths (L.take k):Nat):Int)/\iv= .int .i64 (k:Int)/\gk=L.length-k/\k<=L.length/\Hid (Ext w1 wr))
 case atStart=>exact⟨0,rfl,rfl,rfl,Nat.zero_le _,ae (au.refl _ _)⟩
 case round=>
  obtain⟨k,rfl,rfl,rfl,hk,HE⟩:=hrel;have hst:=Nat.le_trans (yu _) (fA L k);have jf:=ae (HE.out.heap HB.out (fun h=>h));obtain⟨b0,b1,b2⟩:=af jf.out;by_cases hlt:k<L.length
  .obtain ⟨g,off,hga,_,hat⟩:=(cZ.out.ext (HZ.out.trans HE.out)).at_ (by omega);subst hga;obtain⟨xa,xc,q0,q1,q2,aQ⟩:=hat k hlt;rw[<-Nat.add_assoc] at q1 q2;obtain⟨z0,z1,z2,z2'⟩:=bJ hlt;have aW:=ae (HIH.out (tg L k) (bM L k hlt) _ S wr ⟨xa,xc,rfl,aQ⟩ (by have h1:=kK.out;have h2:=eU (bM L k hlt);omega));dsimp only[tV] at aW;have hsx:=uP L k hlt;obtain⟨N,hN⟩: ∃N,depths (L.take k)=N:=⟨_,rfl⟩
   obtain⟨x,hx⟩: ∃x,tg L k=x:=⟨_,rfl⟩
   rw[hx] at q0 q1 q2 aW hsx;rw[hN] at hsx hst⊢;have HN:=ae hN;by_cases hc:N<x.depth
   .have z5:decide ((N:Int)< (x.depth:Int))=true:=dT (by omega);have z5':decide (N<x.depth)=true:=dT hc;rw[Nat.max_eq_right (by omega)] at hsx;have jb:=ae hsx;clear hat aQ hx hsx hst hN hc
    go_wp2_with fail
    refine aW.out.mono ?_;rintro e w4 ⟨rfl,hw4⟩;have bD:=ae (HE.out.trans hw4);clear hw4 aW b0 b1 b2 q0 q1 q2
    go_wp2_with fail
    go_roundg (L.length- (k+1))
    case measure=>omega
    case rel=>exact⟨k+1,by rw[jb.out],by go_num,rfl,by omega,bD⟩
   .have z5:decide ((N:Int)< (x.depth:Int))=false:=dF (by omega);have z5':decide (N<x.depth)=false:=dF hc;rw[Nat.max_eq_left (by omega)] at hsx;have jb:=ae hsx;clear hat aQ hx hsx hst hN hc
    go_wp2_with fail
    refine aW.out.mono ?_;rintro e w4 ⟨rfl,hw4⟩;have bD:=ae (HE.out.trans hw4);clear hw4 aW b0 b1 b2 q0 q1 q2
    go_wp2_with fail
    go_roundg (L.length- (k+1))
    case measure=>omega
    case rel=>exact⟨k+1,by rw[jb.out],by go_num,rfl,by omega,bD⟩
  .obtain rfl:k=L.length:=by omega
   have z2:decide ((L.length:Int)< (L.length:Int))=false:=dF (by omega);have hdb:=Nat.le_trans (yu L) (Nat.le_of_succ_le kK.out);have hv:=HV.out;rw[List.take_length];obtain⟨D,hD⟩: ∃D,depths L=D:=⟨_,rfl⟩
   rw[hD] at hdb hv⊢;subst hv;clear hD
   go_wp2_with fail
   go_ret;exact⟨by first|rfl|go_num,(HZ.out.trans HE.out)⟩
theorem aa' (t:Tm) (v:Value) (w:World) (htab:cO w) (hR:bG (fun k=>k<w.heap.size) w t v) (hsz:(t.size:Int)<=1000000000000):Calls Tryz.prog 154 #[v] w fun e w'=>e= .returned (.int .i64 (ER t:Nat))/\Ext w w':=by
 have HR:=ae hR;obtain⟨a,cap,rfl,hT⟩:=hR;dsimp only[tV];have HZ:=ae ((uR w).alloc (tO t a cap));have hb:=aj w (tO t a cap);have HF:=ae (fun W (hW:Ext w W)=>UC t _ W (aJ htab hW) ((HR.out.ext hW).weaken (fun k hk=>ax hk hW.size)) hsz);dsimp only[tV] at HF;obtain⟨c0,c1,c2⟩:=af hb;clear hT hb;generalize vT t=X at*;generalize ER t=Y at*
 go_enter Tryz.func154,Tryz.ntmps154
 go_wp2_with fail
 refine(HF.out _ HZ.out).mono ?_;rintro e w4 ⟨rfl,hw4⟩;have H4:=ae (HZ.out.ext hw4);clear hw4 c0 c1 c2
 go_wp2_with fail
 go_ret;exact⟨rfl,H4.out⟩
theorem Ag {P:Program} {ops:Array Oper} {rest:List Oper} {o:Oper} {a:Act} {w w':World} {Q:Exit->Act->World->Prop} {v:Value} (hgd:o.guard=none)
  (hr:(execOp a.eval o).run P w= .ok (.value v) w') (h:wpList P ops Q rest (a.put o.dst v) w'):wpList P ops Q (o::rest) a w:=
 wpList_plain hgd fun _ hK=>by
  unfold Oper.wp;rw[hr];exact hK _ _ h
theorem xA {Bs:List Bd} {n s:By} {T:Tm} (h:bf Bs n=some T):fE Bs n s=T:=by unfold fE;rw[h];rfl
theorem F7 {Bs:List Bd} {n s:By} (h:bf Bs n=none):fE Bs n s=vr n s:=by unfold fE;rw[h];rfl
theorem NY (Bs:List Bd) (vB:Value) (bs:Nat) (n s:By) (L:List Tm) (a:Option Addr) (cap:Nat) (R S T:Nat->Prop) (w:World) (hL:L=[]) (hT:ay T w L (.slice a L.length cap)) (hB:w.heap[bs]?=some (.cells #[vB] 27 (0,0))) (h:gQ R S w vB Bs) (hS: ∀k,S k->k<w.heap.size) (Ia: ∀k,T k->k<w.heap.size) (ha:AscK (Prod.fst:Bd->By) Bs) (hl:Bs.length<=1000000):
  Calls Tryz.prog 151 #[.agg #[.string n,.string s,.slice a L.length cap],.pointer (some ⟨bs,0,none⟩)] w fun e w'=> ∃ra rc,e= .returned (tV (fE Bs n s) (.slice ra (fE Bs n s).kids.length rc))/\ay (fun k=>k<w.heap.size) w' (fE Bs n s).kids (.slice ra (fE Bs n s).kids.length rc)/\Ext w w':=by
 obtain⟨Q,hQ⟩: ∃Q,fE Bs n s=Q:=⟨_,rfl⟩
 rw[hQ];have HQ:=ae hQ;clear hQ;have hbl:bs<w.heap.size:=(Array.getElem?_eq_some_iff.1 hB).1;have hZ:=((uR w).alloc (.cells #[.string n,.string s,.slice a L.length cap] 24)).alloc zO;have HB2:=ae (ak (aj w (.cells #[.string n,.string s,.slice a L.length cap] 24)) zO);have HB3:=ae (alloc_at (w.alloc (.cells #[.string n,.string s,.slice a L.length cap] 24)) zO (n:=w.heap.size+1) (by simp));have J8:=ae (hZ.heap hB (fun h=>h));have HH:=ae h;have cZ:=ae (hT.weaken Ia);have GL:=ae hL;have gm:=ae hS;have HAS:=ae ha;have HZ:=ae hZ;have Vy:=ae (fun W (hW:Ext w W)=>ZH Bs vB n R S W (h.ext hW) ha hl);obtain⟨ba,bc,rfl⟩:=h.shape;obtain⟨x0,x1,x2⟩:=af HB2.out;have y0:=ag J8.out 0 (.slice ba Bs.length bc) rfl;obtain⟨F,hF⟩: ∃F,(bf Bs n).isSome=F:=⟨_,rfl⟩
 have HF:=ae hF;rw[hF] at Vy;clear h hB hT hL hS Ia ha hZ hF
 go_enter Tryz.func151,Tryz.ntmps151
 go_wp2_with fail
 generalize ((w.alloc (.cells #[.string n,.string s,.slice a L.length cap] 24)).alloc zO)=w1 at*;refine(Vy.out _ HZ.out).mono ?_;rintro e w4 ⟨rfl,hw4⟩;have bD:=ae (HZ.out.trans hw4);have dQ:=ae (hw4.heap HB2.out (fun h=>h));have pR:=ae (hw4.heap HB3.out (fun h=>h));have ajD:=ae (hw4.heap J8.out (fun h=>h));have y0:=ag ajD.out 0 (.slice ba Bs.length bc) rfl;have f2:=fun i=>ai pR.out i;obtain⟨d0,d1,d2⟩:=af pR.out;obtain⟨x0,x1,x2⟩:=af dQ.out;clear hw4 Vy;cases F with
 |true=>
  obtain⟨hlt,hbg,_⟩:=J7 (n:=n) HAS.out HF.out;have hq:Q=(Go.Hw.bg Bs (lQ Bs n)).2.2:=by rw[<-HQ.out];exact xA hbg
  obtain⟨g,off,hga,_,hat⟩:=(HH.out.ext bD.out).at_ (by omega);subst hga;obtain⟨ra,rc,p0,p1,p2,p3,p4,aQ⟩:=hat _ hlt;have HK:=ae (aQ.weaken gm.out);obtain⟨m,hm⟩: ∃m,lQ Bs n=m:=⟨_,rfl⟩
  rw[hm] at p0 p1 p2 p3 p4 hlt HK hq
  try rw[hm]
  have z0:(0:Int)<=(m:Int):=by omega
  have z1:(m:Int)< (Bs.length:Int):=by omega
  obtain⟨x,hx⟩: ∃x,Go.Hw.bg Bs m=x:=⟨_,rfl⟩
  rw[hx] at p0 p1 p2 p3 p4 HK hq;obtain⟨x1,x2,q⟩:=x;simp only at p0 p1 p2 p3 p4 HK hq;subst hq;clear hat aQ hbg hx hm p0 p1 HQ
  go_wp2_with fail
  have hr3:=aF pR.out (.string Q.name) (.string Q.sort) (.slice ra Q.kids.length rc);have hu:=aC w4 (w.heap.size+1) (.string Q.name) (.string Q.sort) (.slice ra Q.kids.length rc);obtain⟨e0,e1,e2⟩:=af hr3;refine bodyPost_ret (v:= .agg #[.string Q.name,.string Q.sort,.slice ra Q.kids.length rc]) (by simp[results,Tryz.results151,go_sem,e0,e1,e2]) rfl ⟨ra,rc,rfl,HK.out.kept hu (fun j hj e=>by omega),bD.out.trans' hu (fun j hj e=>by omega)⟩
 |false=>
  have hn:bf Bs n=none:=by have:=HF.out;cases hb:bf Bs n with
   |none=>rfl
   |some T=>rw[hb] at this;cases this
  obtain rfl:Q=vr n s:=by rw[<-HQ.out];exact F7 hn
  have HK:=ae (cZ.out.ext bD.out);have hll:=GL.out;subst hll;clear hn HQ
  go_wp2_with fail
  have hr3:=aF pR.out (.string n) (.string s) (.slice a 0 cap);have hu:=aC w4 (w.heap.size+1) (.string n) (.string s) (.slice a 0 cap);obtain⟨e0,e1,e2⟩:=af hr3;refine bodyPost_ret (v:= .agg #[.string n,.string s,.slice a 0 cap]) (by simp[results,Tryz.results151,go_sem,e0,e1,e2]) rfl ⟨a,cap,rfl,HK.out.kept hu (fun j hj e=>by omega),bD.out.trans' hu (fun j hj e=>by omega)⟩
theorem aba (Bs:List Bd) (vB:Value) (bs vb:Nat) (n s:By) (L:List Tm) (a:Option Addr) (cap:Nat) (R S T:Nat->Prop) (w:World) (htab:cO w) (hL:L=[]) (hT:ay T w L (.slice a L.length cap)) (hB:w.heap[bs]?=some (.cells #[vB] 27 (0,0))) (hV:w.heap[vb]?=some (.cells #[.func (.func 151) #[] #[.pointer (some ⟨bs,0,none⟩)]] 90 (0,0))) (h:gQ R S w vB Bs) (hS: ∀k,S k->k<w.heap.size) (Ia: ∀k,T k->k<w.heap.size) (ha:AscK (Prod.fst:Bd->By) Bs) (hl:Bs.length<=1000000) (hw:wf aB (fE Bs n s)=true):
  Calls Tryz.prog 153 #[.agg #[.string n,.string s,.slice a L.length cap],.pointer (some ⟨vb,0,none⟩)] w fun e w'=>e= .returned (.tuple #[.int .i64 ((fE Bs n s).size:Nat),.int .i64 ((fE Bs n s).depth:Nat)])/\Ext w w':=by
 have hE:=(uR w).alloc (.cells #[.string n,.string s,.slice a L.length cap] 24);have HE:=ae hE;have HB2:=ae (aj w (.cells #[.string n,.string s,.slice a L.length cap] 24));have Vz:=ae (NY Bs vB bs n s L a cap R S T (w.alloc (.cells #[.string n,.string s,.slice a L.length cap] 24)) hL (hT.ext hE) (hE.heap hB (fun h=>h)) (h.ext hE) (fun k hk=>ax (hS k hk) hE.size) (fun k hk=>ax (Ia k hk) hE.size) ha hl);have y0:=ag (hE.heap hV (fun h=>h)) 0 (.func (.func 151) #[] #[.pointer (some ⟨bs,0,none⟩)]) rfl;have ajE:=nT hw;have hsf:vT (fE Bs n s)=(fE Bs n s).size:=by unfold vT;rw[if_pos hw]
 have hdf:ER (fE Bs n s)=(fE Bs n s).depth:=by unfold ER;rw[if_pos hw]
 have bT:=ae (fun v W h1 h2=>LW (fE Bs n s) v W h1 h2 (by omega));have ZK:=ae (fun v W h1 h2=>aa' (fE Bs n s) v W h1 h2 (by omega));rw[hsf] at bT;rw[hdf] at ZK;have je:=ae htab;obtain⟨x0,x1,x2⟩:=af HB2.out;have ZI: ∀args W,(callFunc 151 args).run Tryz.prog W= .ok (.enter 151 args) W:=enters_of Tryz.func151 (by kernel_rfl) rfl;obtain⟨q,hq⟩: ∃q,fE Bs n s=q:=⟨_,rfl⟩
 rw[hq] at Vz bT ZK⊢;clear hE htab hL hT hB hV h hS Ia ha hw ajE hsf hdf hq
 go_enter Tryz.func153,Tryz.ntmps153
 go_wp2_with fail
 generalize w.alloc (.cells #[.string n,.string s,.slice a L.length cap] 24)=w1 at*;refine Vz.out.mono ?_;rintro e w4 ⟨ra,rc,rfl,hk,hw4⟩;have rU:=hw4.alloc (tO q ra rc);have di:=ae (HE.out.trans rU);have dW:=ae (aj w4 (tO q ra rc));have HK:=ae (hk.ext ((uR w4).alloc (tO q ra rc)));dsimp only[tV];have S9:=rU.size;clear x0 x1 x2 y0 Vz;obtain⟨x0,x1,x2⟩:=af dW.out;clear hk hw4 rU
 go_wp2_with fail
 generalize hw5:w4.alloc (tO q ra rc)=w5 at*;have uC:=ae (fun W (hW:Ext w5 W)=>bT.out (tV q (.slice ra q.kids.length rc)) W (aJ je.out (di.out.trans hW)) ⟨ra,rc,rfl,(HK.out.ext hW).weaken (fun k hk=>ax hk (Nat.le_trans S9 hW.size))⟩);have adQ:=ae (fun W (hW:Ext w5 W)=>ZK.out (tV q (.slice ra q.kids.length rc)) W (aJ je.out (di.out.trans hW)) ⟨ra,rc,rfl,(HK.out.ext hW).weaken (fun k hk=>ax hk (Nat.le_trans S9 hW.size))⟩);dsimp only[tV] at uC adQ;have IZ:=uR w5;have xx0:=fun X:XW w5=>X.ext.cell x0 (fun h=>h);have xx1:=fun X:XW w5=>X.ext.cell x1 (fun h=>h);have xx2:=fun X:XW w5=>X.ext.cell x2 (fun h=>h);clear x0 x1 x2 bT ZK S9;refine dC w5 (by assumption) (by kernel_rfl) (by kernel_rfl) ?_
 repeat (first|go_big_quiet_skip|(go_big_quiet_want;go_big_quiet_op;first|go_big_quiet_on|(apply Exists.intro;refine⟨fun x=>?_,?_⟩;(first|(go_at_call 145;exact XW.call (uC.out x.val x.ext))|(go_at_call 154;exact XW.call (adQ.out x.val x.ext)));go_big_quiet_on)))
 refine wpQuiet_nil ?_;rintro w8 ⟨⟨_,gB⟩,rfl⟩
 try dsimp only
 have bU:=ae (di.out.trans gB)
 go_wp2_with fail
 go_ret2
 exact⟨rfl,bU.out⟩
theorem adR (Bs:List Bd) (vB:Value) (bs vb:Nat) (R S0:Nat->Prop) (w0:World) (HB:Hid (w0.heap[bs]?=some (.cells #[vB] 27 (0,0)))) (HV:Hid (w0.heap[vb]?=some (.cells #[.func (.func 151) #[] #[.pointer (some ⟨bs,0,none⟩)]] 90 (0,0)))) (HBn:Hid (gQ R S0 w0 vB Bs)) (DJ:Hid (∀k,S0 k->k<w0.heap.size)) (HAS:Hid (AscK (Prod.fst:Bd->By) Bs)) (kP:Hid (Bs.length<=1000000)) (je:Hid (cO w0)):
  ∀(t:Tm) (v:Value) (S:Nat->Prop) (w:World),Ext w0 w->bG S w t v->(∀k,S k->k<w.heap.size)->t.size<=100000->tZ t->(∀f∈cu t,wf aB (fE Bs f.1 f.2)=true)->
  Calls Tryz.prog 152 #[v,.func (.func 153) #[] #[.pointer (some ⟨vb,0,none⟩)]] w fun e w'=>e= .returned (.tuple #[.int .i64 ((min (bu Bs t).size 1001:Nat):Int),.int .i64 ((min (bu Bs t).depth 61:Nat):Int)])/\Ext w w':=by
 refine Tm.ind (fun n s L ih=>?_);intro v S w hw0 hT hS hsz DI hok;obtain⟨Z,jA⟩: ∃Z,bu Bs (.mk n s L)=Z:=⟨_,rfl⟩
 rw[jA];have gY:=ae jA;clear jA;obtain⟨PS,hPS⟩: ∃P,min Z.size 1001=P:=⟨_,rfl⟩
 obtain⟨PD,hPD⟩: ∃P,min Z.depth 61=P:=⟨_,rfl⟩
 rw[hPS,hPD];have vw:=ae (And.intro hPS hPD);clear hPS hPD;obtain⟨a,cap,rfl,hT⟩:=hT;dsimp only[tV,Tm.name,Tm.sort,Tm.kids] at hT⊢;have cZ:=ae hT;have HIH:=ae ih;have gm:=ae hS;have HW0:=ae hw0;have jO:=ae hok;have xx:=ae DI;have fB:sizes L+1<=100000:=by rw[size_eq] at hsz;simp only[Tm.kids] at hsz;omega
 have kK:=ae fB;have jW:L.length<=100000:=by have h1:=aX L;omega
 have pq:=ae (fun W=>lJ n s a L.length cap W);have HZ:=ae ((uR w).alloc (.cells #[.string n,.string s,.slice a L.length cap] 24));have HB2:=ae (aj w (.cells #[.string n,.string s,.slice a L.length cap] 24));have ZI: ∀args W,(callFunc 153 args).run Tryz.prog W= .ok (.enter 153 args) W:=enters_of Tryz.func153 (by kernel_rfl) rfl;obtain⟨x0,x1,x2⟩:=af HB2.out;clear ih hT hS hsz fB hw0 hok DI;by_cases hs0:s=ah
 rotate_left
 .rw [dF hs0] at pq;obtain rfl:Z=fE Bs n s:=by rw[<-gY.out];exact nU _ hs0 L
  have DD:=ae (jO.out (n,s) (lN hs0 L));have GL:Hid (L=[]):=ae (xx.out (.mk n s L) (iZ _) hs0);have hq1:=(mF.1 DD.out).1;have hq2:=(mF.1 DD.out).2.1;have hp0:=vw.out;rw[Nat.min_eq_left (by simp only at hq1;omega),Nat.min_eq_left (by simp only at hq2;omega)] at hp0;obtain⟨hp1,hp2⟩:=hp0;obtain⟨q,hq⟩: ∃q,fE Bs n s=q:=⟨_,rfl⟩
  have J9:=ae hq;rw[hq] at hp1 hp2;subst hp1;subst hp2;clear hs0 hq hq1 hq2 vw
  go_enter Tryz.func152,Tryz.ntmps152
  go_wp2_with fail
  generalize w.alloc (.cells #[.string n,.string s,.slice a L.length cap] 24)=w1 at*;refine(pq.out _).mono ?_;rintro e w3 ⟨rfl,hw3⟩;have aT:=ae (HZ.out.trans hw3);have fG:=ae (hw3.heap HB2.out (fun h=>h));clear hw3 pq x0 x1 x2;obtain⟨x0,x1,x2⟩:=af fG.out;have jQ:=ae (aba Bs vB bs vb n s L a cap R S0 S w3 (aJ je.out (HW0.out.trans aT.out)) GL.out (cZ.out.ext aT.out) ((HW0.out.trans aT.out).heap HB.out (fun h=>h)) ((HW0.out.trans aT.out).heap HV.out (fun h=>h)) (HBn.out.ext (HW0.out.trans aT.out)) (fun k hk=>ax (DJ.out k hk) (HW0.out.trans aT.out).size) (fun k hk=>ax (gm.out k hk) aT.out.size) HAS.out kP.out DD.out);rw[J9.out] at jQ;clear DD gY
  go_wp2_with fail
  refine jQ.out.mono ?_;rintro e w6 ⟨rfl,hw6⟩;have dS:=ae (aT.out.trans hw6);clear hw6 jQ x0 x1 x2
  go_wp2_with fail
  go_ret2
  exact⟨rfl,dS.out⟩
 rw[dT hs0] at pq;obtain rfl:Z= .mk n ah (L.map (bu Bs)):=by rw[<-gY.out,hs0];exact rD _ n L
 have NG:Hid (∀x∈L,∀f∈cu x,wf aB (fE Bs f.1 f.2)=true):=ae (fun x hx f hf=>jO.out f (by
  rw[hs0,sU];exact List.mem_flatMap.2 ⟨x,hx,hf⟩))
 obtain⟨M,hM⟩: ∃M,L.map (bu Bs)=M:=⟨_,rfl⟩
 have HMM:=ae hM;have GV:Hid (PS=min (sizes M+1) 1001):=ae (by rw[<-vw.out.1,size_eq,<-hM];rfl);have HPD:Hid (PD=min (depths M+1) 61):=ae (by rw[<-vw.out.2,jH,<-hM];rfl);have Bh:Hid (M.length=L.length):=ae (by rw[<-hM,List.length_map]);clear hs0 hM
 go_enter Tryz.func152,Tryz.ntmps152
 go_wp2_with fail
 generalize w.alloc (.cells #[.string n,.string s,.slice a L.length cap] 24)=w1 at*;refine(pq.out _).mono ?_;rintro e w3 ⟨rfl,hw3⟩;have aT:=ae (HZ.out.trans hw3);have fG:=ae (hw3.heap HB2.out (fun h=>h));clear hw3 pq x0 x1 x2;obtain⟨x0,x1,x2⟩:=af fG.out
 go_wp2_with fail
 clear x0 x1 x2
 go_loopg [6,7,22] L.length (fun gk nv dv iv wr=> ∃k:Nat,nv= .int .i64 ((min (sizes (M.take k)+1) 1001:Nat):Int)/\dv= .int .i64 ((min (depths (M.take k)) 61:Nat):Int)/\iv= .int .i64 (k:Int)/\gk=L.length-k/\k<=L.length/\Hid (Ext w3 wr))
 case atStart=>exact⟨0,by simp[sizes],by simp[depths],rfl,rfl,Nat.zero_le _,ae (au.refl _ _)⟩
 case round=>
  obtain⟨k,rfl,rfl,rfl,rfl,hk,HE⟩:=hrel;by_cases hlt:k<L.length
  .obtain ⟨g,off,hga,_,hat⟩:=(cZ.out.ext (aT.out.trans HE.out)).at_ (by omega);subst hga;obtain⟨xa,xc,q0,q1,q2,aQ⟩:=hat k hlt;rw[<-Nat.add_assoc] at q1 q2;obtain⟨z0,z1,z2,z2'⟩:=bJ hlt;have aW:=ae (fun W (hW:Ext wr W)=>HIH.out (tg L k) (bM L k hlt) _ S W (HW0.out.trans ((aT.out.trans HE.out).trans hW)) ⟨xa,xc,rfl,aQ.ext hW⟩ (fun j hj=>ax (gm.out j hj) ((aT.out.trans HE.out).trans hW).size) (by have h1:=kK.out;have h2:=eU (bM L k hlt);omega) (xx.out.kid (bM L k hlt)) (NG.out _ (bM L k hlt)));dsimp only[tV] at aW;have hsx:=jq M k (by rw[Bh.out];exact hlt);have v_:=uP M k (by rw[Bh.out];exact hlt);have hzx:tg M k=bu Bs (tg L k):=by
    rw[<-HMM.out];unfold tg;rw[List.getD_eq_getElem?_getD,List.getD_eq_getElem?_getD,List.getElem?_map,List.getElem?_eq_getElem hlt];rfl
   rw[hzx] at hsx v_;obtain⟨x,hx⟩: ∃x,tg L k=x:=⟨_,rfl⟩
   rw[hx] at q0 q1 q2 aW hsx v_;obtain⟨XS,QO⟩: ∃X,(bu Bs x).size=X:=⟨_,rfl⟩
   obtain⟨XD,QP⟩: ∃X,(bu Bs x).depth=X:=⟨_,rfl⟩
   rw[QO] at aW hsx;rw[QP] at aW v_;obtain⟨N,hN⟩: ∃N,sizes (M.take k)=N:=⟨_,rfl⟩
   obtain⟨D,hD⟩: ∃D,depths (M.take k)=D:=⟨_,rfl⟩
   rw[hN] at hsx;rw[hD] at v_
   try rw[hN]
   try rw[hD]
   have jb:=ae hsx;have HDX:=ae v_;obtain⟨N1,hN1⟩: ∃X,min (N+1) 1001=X:=⟨_,rfl⟩
   obtain⟨D1,hD1⟩: ∃X,min D 61=X:=⟨_,rfl⟩
   obtain⟨X1,hX1⟩: ∃X,min XS 1001=X:=⟨_,rfl⟩
   obtain⟨E1,hE1⟩: ∃X,min XD 61=X:=⟨_,rfl⟩
   rw[hX1,hE1] at aW
   try rw[hN1]
   try rw[hD1]
   have hb1:N1<=1001:=by omega
   have hb2:X1<=1001:=by omega
   have Dn:=ae (And.intro hN1 hX1);have HDD:=ae (And.intro hD1 hE1);obtain⟨P,hP⟩: ∃P:Int,P=min ((N1:Int)+(X1:Int)) 1001:=⟨_,rfl⟩
   obtain⟨Q,hQ⟩: ∃Q:Int,Q=max (D1:Int) (E1:Int):=⟨_,rfl⟩
   have HP:=ae hP;have HQ:=ae hQ;have z7:IntKind.i64.wrap ((N1:Int)+(X1:Int))=(N1:Int)+(X1:Int):=IntWalk.i64_in _ (by omega);have rU:=ae ((uR wr).alloc (tO x xa xc));have lF:=aj wr (tO x xa xc);obtain⟨b0,b1,b2⟩:=af lF;clear hat aQ hx hsx v_ hzx QO QP hN hD hN1 hD1 hX1 hE1 hP hQ lF
   go_wp2_with fail
   refine(aW.out _ rU.out).mono ?_;rintro e w5 ⟨rfl,hw5⟩;have di:=ae (HE.out.trans (rU.out.trans hw5));clear hw5 aW b0 b1 b2 q0 q1 q2 rU
   go_wp2_with(with_reducible (refine zg (o:=⟨some 35,_,_,_,_,_⟩) ?_))
   refine Stop.go ?_;refine Ag rfl (v:= .int .i64 P) (w':=w5) ?_ ?_
   .go_simp;have:=HP.out;omega
   go_wp2_with(with_reducible (refine zg (o:=⟨some 38,_,_,_,_,_⟩) ?_))
   refine Stop.go ?_;refine Ag rfl (v:= .int .i64 Q) (w':=w5) ?_ ?_
   .go_simp;have:=HQ.out;omega
   go_wp2_with fail
   go_roundg (L.length- (k+1))
   case measure=>omega
   case rel=>exact⟨k+1,by rw[jb.out];have h1:=HP.out;have h2:=Dn.out;congr 1;omega,by rw[HDX.out];have h1:=HQ.out;have h2:=HDD.out;congr 1;omega,by go_num,rfl,by omega,di⟩
  .obtain rfl:k=L.length:=by omega
   have z2:decide ((L.length:Int)< (L.length:Int))=false:=dF (by omega);have htk:M.take L.length=M:=by rw[<-Bh.out,List.take_length]
   rw[htk];have hps:=GV.out;have U6:=HPD.out;obtain⟨D,hD⟩: ∃D,min (depths M) 61=D:=⟨_,rfl⟩
   obtain⟨N,hN⟩: ∃N,min (sizes M+1) 1001=N:=⟨_,rfl⟩
   rw[hD,hN];obtain⟨Q,hQ⟩: ∃Q:Int,Q=min ((D:Int)+1) 61:=⟨_,rfl⟩
   have HQ:=ae hQ;have NZ:Hid (PS=N):=ae (by omega);have ajF:Hid (((PD:Nat):Int)=Q):=ae (by omega);have al8:D<=61:=by omega
   clear hps U6 hQ hD hN htk
   go_wp2_with(with_reducible (refine zg (o:=⟨some 43,_,_,_,_,_⟩) ?_))
   refine Stop.go ?_;refine Ag rfl (v:= .int .i64 Q) (w':=wr) ?_ ?_
   .go_simp;have:=HQ.out;omega
   go_wp2_with fail
   go_ret2
   rw[NZ.out,ajF.out];exact⟨rfl,(aT.out.trans HE.out)⟩
end
end Go.Proofs.YtlkcjmaiahnodaaGreatDoor
