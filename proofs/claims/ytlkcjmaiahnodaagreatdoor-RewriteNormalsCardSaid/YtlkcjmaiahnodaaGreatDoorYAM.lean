/- The texts N27 N28 N29 N30 N32 N33 N34 N35 N36 N37, one behind the other. -/
import Derived.Test.YtlkcjmaiahnodaaGreatDoorYAL
import Derived.Test.YtlkcjmaiahnodaaGreatDoorYAB
import Derived.Test.YtlkcjmaiahnodaaGreatDoorYAE
import Derived.Test.YtlkcjmaiahnodaaGreatDoorYAD
set_option maxRecDepth 100000
set_option maxHeartbeats 8000000
set_option linter.unusedVariables false
set_option linter.unusedSimpArgs false
namespace Go.Proofs.YtlkcjmaiahnodaaGreatDoor
open Go.RowKit Go.Hw Go Tm
section
open Go.Sort Go.Proofs Go.ChangeMaps
def jZ (W:World) (k:Nat):Prop:= ∃cs fz,W.heap[k]?=some (.cells cs 24 fz)
theorem aP.ty {w:World} {B:Nat->Prop} {L:List Tm} {v:Value} (h:aP 24 w B L v):aI (jZ w) w L v:=by
 induction h with
 |mk B L us v Bk hl hown hb hkb hrow hdis hk ih=>
  refine .mk L us v hl ((aG.fM hown).weaken (fun k hk2=>?_)) ih;rcases hown.2 with⟨e,_⟩|⟨g,cap,cur,e,_,h3,_⟩
  .rw [e] at hk2;cases hk2
  .rw [e] at hk2;injection hk2 with hk2
   rw[<-hk2];exact⟨_,_,h3⟩
theorem jZ.ext {W W':World} {k:Nat} (h:jZ W k) (hE:Ext W W'):jZ W' k:=by
 obtain⟨cs,fz,h⟩:=h;exact⟨cs,fz,hE.heap h (fun h=>h)⟩
theorem EY {B:List Bd} {us:List Value} (h:us.length=B.length) (x:Bd) (u:Value):iQ (B++[x]) (us++[u])=iQ B us++[.string x.1,.string x.2.1,.string x.2.2.name,.string x.2.2.sort,u]:=by
 rw[IQ B [x] us [u] h];rfl
theorem XH {R S:Nat->Prop} {w:World} {B:List Bd} {us:List Value} (h:us.length=B.length) (ht: ∀i,i<B.length->aI S w (Go.Hw.bg B i).2.2.kids (ug us i)): ∀u∈us,u.oneCell'=true:=fun u hu=>by
 obtain⟨i,hi,e⟩:=List.getElem_of_mem hu;have h1:=ht i (by omega);have h2:ug us i=u:=by unfold ug;rw[List.getD_eq_getElem?_getD,List.getElem?_eq_getElem hi];exact e
 rw[h2] at h1;obtain⟨a,c,h3⟩:=h1.shape;rw[h3];rfl
theorem MR {B:List Bd} {n:By} {x:Tm} (h:bJ B n=some x): ∃i,i<B.length/\uY B n=(i:Int)/\(Go.Hw.bg B i).2.2=x:=by
 unfold uY;cases hf:B.findIdx? (fun b=>decide (b.1=n)) with
 |none=>
  rw[List.findIdx?_eq_none_iff] at hf;unfold bJ at h;have:B.find? (fun b=>decide (b.1=n))=none:=by
   rw[List.find?_eq_none];intro b hb;have:=hf b hb;simpa using this
  rw[this] at h;cases h
 |some i=>
  rw[List.findIdx?_eq_some_iff_getElem] at hf;obtain⟨hi,h1,h2⟩:=hf;refine⟨i,hi,rfl,?_⟩;have h3:B.find? (fun b=>decide (b.1=n))=some B[i]:=by
   rw[List.find?_eq_some_iff_getElem];exact⟨h1,i,hi,rfl,fun j hj=>by simpa using h2 j hj⟩
  unfold bJ at h;rw[h3] at h;unfold Go.Hw.bg;rw[List.getD_eq_getElem?_getD,List.getElem?_eq_getElem hi];injection h
theorem MS {B:List Bd} {n:By} (h:bJ B n=none):uY B n= -1:=by
 unfold uY;cases hf:B.findIdx? (fun b=>decide (b.1=n)) with
 |none=>rfl
 |some i=>
  rw[List.findIdx?_eq_some_iff_getElem] at hf;obtain⟨hi,h1,h2⟩:=hf;have h3:B.find? (fun b=>decide (b.1=n))=some B[i]:=by
   rw[List.find?_eq_some_iff_getElem];exact⟨h1,i,hi,rfl,fun j hj=>by simpa using h2 j hj⟩
  unfold bJ at h;rw[h3] at h;cases h
theorem TF {X:List Vd} {Y:Tm->Prop} {B:List Bd} (h:qP X Y B):B.length<=X.length:=by
 have h1:(B.map fun b=>(b.1,b.2.1)).Nodup:=by
  rw[List.Nodup,List.pairwise_map];exact h.dist.imp (fun hab e=>hab (Prod.mk.inj e).1)
 have h2:=h1.length_le_of_subset (fun q hq=>by
  obtain⟨b,hb,e⟩:=List.mem_map.1 hq;rw[<-e];exact h.inX b hb)
 rw[List.length_map] at h2;exact h2
theorem wM {W W':World} {v:Value} {B:List Bd} (h:iM (fun k=>k<W.heap.size) (fun k=>k<W.heap.size) W v B) (hE:Ext W W'):iM (fun k=>k<W'.heap.size) (fun k=>k<W'.heap.size) W' v B:=afk h hE
theorem MV {X:List Vd} (hX:X.length<=100000): ∀(p t:Tm) (v v' vs:Value) (B:List Bd) (w:World),bQ (fun k=>k<w.heap.size) w p v->bQ (fun k=>k<w.heap.size) w t v'->iM (fun k=>k<w.heap.size) (fun k=>k<w.heap.size) w vs B->p.size<=1000000->t.size<=100000->vH p->(∀f∈dJ p,f∈X)->qP X (fun t=>t.size<=100000) B->
  Calls Tryz.prog 67 #[v,v',vs] w fun e w'=> ∃r,e= .returned (.tuple #[r,.bool (jT p t B).isSome])/\(∀C,jT p t B=some C->iM (fun k=>k<w'.heap.size) (fun k=>k<w'.heap.size) w' r C)/\Ext w w':=by
 refine Tm.ind (fun n s L ih=>?_);intro t v v' vs B w hP hT hB hsz BI hnp SY hI;obtain⟨m,r,M⟩:=t;obtain⟨V,hV⟩: ∃V,jT (.mk n s L) (.mk m r M) B=V:=⟨_,rfl⟩
 rw[hV];have HVV:=ah hV;obtain⟨pa,pc,rfl,hP⟩:=hP;obtain⟨ta,tc,rfl,hT⟩:=hT;dsimp only[tV,Tm.name,Tm.sort,Tm.kids] at hP hT⊢;have nS:=ah hP;have Dk:=ah hT;have HB:=ah hB;have HI:=ah hI;have HIH:=ah ih;have yR:=ah hnp;have iO:=ah SY;have Ie:=ah BI;have hbl:B.length<=100000:=Nat.le_trans (TF hI) hX;have lI:=ah hbl;have j_:L.length<=1000000:=by have h1:=bG L;have h2:=hsz;rw[size_eq] at h2;exact Nat.le_trans h1 (Nat.le_of_succ_le h2)
 have OL:sizes L+1<=1000000:=by rw[size_eq] at hsz;exact hsz
 have OM:sizes M+1<=100000:=by rw[size_eq] at BI;exact BI
 have bU:=ah (And.intro OL OM);obtain⟨ba,bc,rfl⟩:=hB.shape;clear ih hP hT hB hsz BI OL OM hV hI hnp SY hbl;have HE:=ah (((uR w).alloc (.cells #[.string n,.string s,.slice pa L.length pc] 24)).alloc (.cells #[.string m,.string r,.slice ta M.length tc] 24));have Dy:=ah (aB (ay w (.cells #[.string n,.string s,.slice pa L.length pc] 24)) (.cells #[.string m,.string r,.slice ta M.length tc] 24));have TG:=ah (alloc_at (w.alloc (.cells #[.string n,.string s,.slice pa L.length pc] 24)) (.cells #[.string m,.string r,.slice ta M.length tc] 24) (n:=w.heap.size+1) (by simp));obtain⟨a0,a1,a2⟩:=ak Dy.out;obtain⟨b0,b1,b2⟩:=ak TG.out;have t1:=lg s;have t2:=lg r
 go_enter Tryz.func67,Tryz.ntmps67
 go_upto_region 1 with fail
 generalize (w.alloc (.cells #[.string n,.string s,.slice pa L.length pc] 24)).alloc (.cells #[.string m,.string r,.slice ta M.length tc] 24)=w1 at*;by_cases hs0:s=au
 .rw [dT hs0] at t1;have EZ:=ah hs0;clear hs0;by_cases hr0:r=au
  rotate_left
  .rw [dF hr0] at t2;have HV:Hid (V=none):=ah (by rw[<-HVV.out,EZ.out];exact E5 (fun h=>hr0 h.1));clear hr0
   go_wp2_with fail
   go_ret2
   rw[HV.out];exact⟨_,rfl,(fun C h=>by cases h),HE.out⟩
  rw[dT hr0] at t2;have HR0:=ah hr0;clear hr0;have t3:=lJ m n;by_cases hnm:m=n
  rotate_left
  .rw [dF hnm] at t3;have HV:Hid (V=none):=ah (by rw[<-HVV.out,EZ.out];exact E5 (fun h=>hnm h.2.1));clear hnm
   go_wp2_with fail
   go_ret2
   rw[HV.out];exact⟨_,rfl,(fun C h=>by cases h),HE.out⟩
  rw[dT hnm] at t3;by_cases hlen:M.length=L.length
  rotate_left
  .have t4:((M.length:Int) !=(L.length:Int))=true:=aa4 hlen;have HV:Hid (V=none):=ah (by rw[<-HVV.out,EZ.out];exact E5 (fun h=>hlen h.2.2));clear hnm hlen
   go_wp2_with fail
   go_ret2
   rw[HV.out];exact⟨_,rfl,(fun C h=>by cases h),HE.out⟩
  have t4:((M.length:Int) !=(L.length:Int))=false:=by simp[hlen]
  have L8:Hid (rC L M B=V):=ah (by rw[<-HVV.out,EZ.out];exact(PZ (t:= .mk m r M) ⟨HR0.out,hnm,hlen⟩).symm);have I8:=ah hlen;have xI:Hid (∀x∈L,∀f∈dJ x,f∈X):=ah (fun x hx f hf=>iO.out f (Bh (t:= .mk n s L) hx hf));have HB0:=ah (wM HB.out HE.out);clear hnm hlen HVV
  go_wp2_with fail
  clear t1 t2 t3 t4 a0 a1 a2 b0 b1 b2
  go_loopg [2,9] L.length (fun gk sv iv wr=> ∃(k:Nat) (C:List Bd),iv= .int .i64 (k:Int)/\gk=L.length-k/\k<=L.length/\Hid (iM (fun k=>k<wr.heap.size) (fun k=>k<wr.heap.size) wr sv C)/\Hid (qP X (fun t=>t.size<=100000) C)/\Hid (rC (L.drop k) (M.drop k) C=V)/\Hid (Ext w wr)/\Hid (wr.heap[w.heap.size]?=some (.cells #[.string n,.string s,.slice pa L.length pc] 24 (0,0)))/\Hid (wr.heap[w.heap.size+1]?=some (.cells #[.string m,.string r,.slice ta M.length tc] 24 (0,0))))
  case atStart=>exact⟨0,B,rfl,rfl,Nat.zero_le _,HB0,HI,L8,HE,Dy,TG⟩
  case round=>
   clear HB0 L8 HE Dy TG HB HI;obtain⟨k,C,rfl,rfl,hk,ku,HIC,jc,HE,Dy,TG⟩:=hrel;obtain⟨ca,cc,hsv⟩:=ku.out.shape;subst hsv;obtain⟨a0,a1,a2⟩:=ak Dy.out;obtain⟨b0,b1,b2⟩:=ak TG.out;by_cases hlt:k<L.length
   .have sF:k<M.length:=by have:=I8.out;omega
    obtain⟨g,off,hga,_,hat⟩:=(nS.out.ext HE.out).at_ (by omega);obtain⟨g',off',OJ,_,hat'⟩:=(Dk.out.ext HE.out).at_ (by omega);subst hga;subst OJ;obtain⟨xa,xc,q0,q1,q2,aW⟩:=hat k hlt;obtain⟨ya,yc,p0,p1,p2,pW⟩:=hat' k sF;rw[<-Nat.add_assoc] at q1 q2 p1 p2;obtain⟨z0,z1,z2,z2'⟩:=bZ hlt;have z3:(k:Int)< (M.length:Int):=by omega
    have hyz:(tg M k).size<=100000:=by have h1:=bU.out.2;have h2:=gq (bY M k sF);omega
    have bf:=ah (fun W (hW:Ext wr W)=>HIH.out (tg L k) (bY L k hlt) (tg M k) _ _ (.slice ca C.length cc) C W ⟨xa,xc,rfl,(aW.ext hW).weaken (fun j hj=>aF hj (Nat.le_trans HE.out.size hW.size))⟩ ⟨ya,yc,rfl,(pW.ext hW).weaken (fun j hj=>aF hj (Nat.le_trans HE.out.size hW.size))⟩ (wM ku.out hW) (by have h1:=bU.out.1;have h2:=gq (bY L k hlt);omega) hyz (yR.out.kid (bY L k hlt)) (xI.out _ (bY L k hlt)) HIC.out);have fO:=ah (jc.out.symm.trans (ac3 (B:=C) hlt sF));have MO:=ah (fun D (h:jT (tg L k) (tg M k) C=some D)=>(Bj (X:=X) (Y:=fun t=>t.size<=100000) (fun t x h hx=>by have:=gq hx;have h3:=size_eq t;omega) (tg L k) (tg M k) C D h (yR.out.kid (bY L k hlt)) (xI.out _ (bY L k hlt)) hyz HIC.out).1);dsimp only[tV] at bf;obtain⟨x,hx⟩: ∃x,tg L k=x:=⟨_,rfl⟩
    obtain⟨y,hy⟩: ∃y,tg M k=y:=⟨_,rfl⟩
    rw[hx] at q0 q1 q2 bf fO MO;rw[hy] at p0 p1 p2 bf fO MO;obtain⟨U,hU⟩: ∃U,jT x y C=U:=⟨_,rfl⟩
    rw[hU] at bf fO MO;have MQ:Hid (Ext wr wr):=ah (aC.refl _ _);clear hx hy hU jc ku hat hat' aW pW hyz
    go_wp2_with fail
    go_region_law (first
     |(go_simp;refine(bf.out wr.drew MQ.out.drew).mono ?_;rintro e w5 ⟨r5,rfl,hb5,hw5⟩;have dh:Hid (Ext wr w5):=ah (((uR wr).drewN' 1).trans hw5);have fC:=ah hb5;clear hb5 hw5 bf))
    all_goals
     have dA:=ah (HE.out.trans dh.out);have P5:=ah (dh.out.heap Dy.out (fun h=>h));have alh:=ah (dh.out.heap TG.out (fun h=>h));clear p0 p1 p2 q0 q1 q2 a0 a1 a2 b0 b1 b2;cases U with
     |none=>
      have HV:Hid (V=none):=ah fO.out;simp only[Option.isSome_none];clear fO
      go_wp2_with fail
      go_ret2
      rw[HV.out];exact⟨_,rfl,(fun C h=>by cases h),dA.out⟩
     |some D=>
      have ali:Hid (rC (L.drop (k+1)) (M.drop (k+1)) D=V):=ah fO.out.symm;have lG:=ah (fC.out D rfl);have HID:=ah (MO.out D rfl);simp only[Option.isSome_some];clear fO fC
      go_wp2_with fail
      go_roundg (L.length- (k+1))
      case measure=>omega
      case rel=>exact⟨k+1,D,by go_num,rfl,by omega,lG,HID,ali,dA,P5,alh⟩
   .obtain rfl:k=L.length:=by omega
    have z2:decide ((L.length:Int)< (L.length:Int))=false:=dF (by omega);have HV:Hid (V=some C):=ah (by rw[<-jc.out,List.drop_length];unfold rC;rfl);clear jc
    go_wp2_with fail
    go_ret2
    rw[HV.out];exact⟨_,rfl,(fun D h=>by injection h with h;rw[<-h];exact ku.out),HE.out⟩
 .rw [dF hs0] at t1;have jA:=ah hs0;clear hs0;by_cases hr0:r=au
  .rw [dT hr0] at t2;have P6:Hid (¬(r≠au/\r≠s)):=ah (fun h=>h.1 hr0);clear hr0
   go_upto_region 4 with fail
   clear t1 t2;have vG:=ah (Io B (.slice ba B.length bc) n _ _ w1 (wM HB.out HE.out) (by have:=lI.out;omega));obtain⟨FX,P7⟩: ∃x,uY B n=x:=⟨_,rfl⟩
   rw[P7] at vG;have gB:=ah P7;clear P7;cases hx:bJ B n with
   |some x=>
    obtain⟨i,hi,hfi,hxe⟩:=MR hx;obtain rfl:FX=(i:Int):=by rw[<-gB.out,hfi]
    have hbx:=wM HB.out HE.out;obtain⟨g,off,hga,_,hat⟩:=hbx.at_ (by omega);obtain⟨ka,kc,q0,q1,q2,q3,q4,P8⟩:=hat i hi;subst hga;rw[hxe] at q2 q3 q4 P8;have hxz:x.size<=100000:=by rw[<-hxe];exact HI.out.val _ (IV hi)
    have HV:Hid (V=if x= .mk m r M then some B else none):=ah (by rw[<-HVV.out];exact BZ jA.out P6.out hx);have jf:=ah (fun W (hW:Ext w1 W)=>yG x (.mk m r M) (.agg #[.string x.name,.string x.sort,.slice ka x.kids.length kc]) (.agg #[.string m,.string r,.slice ta M.length tc]) _ _ W ⟨ka,kc,rfl,P8.ext hW⟩ ⟨ta,tc,rfl,(Dk.out.ext HE.out).ext hW⟩ (by omega));have z0:(0:Int)<=(i:Int):=by omega
    have z1:(i:Int)< (B.length:Int):=by omega
    have z2:decide ((0:Int)<=(i:Int))=true:=dT z0;have HW1:Hid (Ext w1 w1):=ah (aC.refl _ _);have HB1:=ah hbx;clear hat q0 q1 P8 hx hfi hxe hi hbx hxz
    go_wp2_with fail
    refine vG.out.mono ?_;rintro e w2 ⟨rfl,hw2⟩;subst hw2
    go_wp2_with fail
    go_region_law (first
     |(go_simp;refine(jf.out w2.drew HW1.out.drew).mono ?_;rintro e w5 ⟨rfl,hw5⟩;have dh:Hid (Ext w2 w5):=ah (((uR w2).drewN' 1).trans hw5);clear hw5 jf))
    all_goals
     have dA:=ah (HE.out.trans dh.out);have fC:=ah (wM HB1.out dh.out);clear q2 q3 q4 a0 a1 a2 b0 b1 b2
     go_wp2_with fail
     go_ret2
     rw[HV.out];by_cases e:x= .mk m r M
     .rw [if_pos e,dT e];exact⟨_,rfl,(fun C h=>by injection h with h;rw[<-h];exact fC.out),dA.out⟩
     .rw [if_neg e,dF e];exact⟨_,rfl,(fun _ h=>by cases h),dA.out⟩
   |none=>
    obtain rfl:FX= -1:=by rw[<-gB.out,MS hx]
    have HV:Hid (V=some (B++[(n,s,.mk m r M)])):=ah (by rw[<-HVV.out];exact Gn jA.out P6.out hx);clear hx
    go_wp2_with fail
    refine vG.out.mono ?_;rintro e w2 ⟨rfl,hw2⟩;subst hw2;obtain⟨us,E8,hsl,htl⟩:=wM HB.out HE.out;have hone:=IU B us (XH (R:=fun _=>True) E8 htl);have yS:=ah (And.intro E8 (And.intro hsl (And.intro htl hone)));have xa0:=fun x:XW w2=>x.ext.cell a0 (fun h=>h);have xa1:=fun x:XW w2=>x.ext.cell a1 (fun h=>h);have xb0:=fun x:XW w2=>x.ext.cell b0 (fun h=>h);have TI:=fun x:XW w2=>x.ext.cell b1 (fun h=>h);have xb2:=fun x:XW w2=>x.ext.cell b2 (fun h=>h);obtain⟨iS,hi,hz0,hz1,hz2⟩:=info_parts Po;clear E8 hsl htl hone a0 a1 a2 b0 b1 b2
    go_wp2_with fail
    refine cu (α:=Option Addr×Nat) 11 [] 11 [(11,2),(12,2),(13,2)] [[],[],[0,1],[],[3],[],[5],[],[0,1,2,7],[0,1,2,3,4,5,6,7,8],[0,1,2,3,4,5,6,7,8,9],[0,1,2,3,4,5,6,7,8,9,10],[0,1,2,3,4,5,6,7,8,9,10,11],[0,1,2,3,4,5,6,7,8,9,10,11,12]]
     [some ⟨fun x=> .slice x.1 0 0,fun x W=>W.ownsRow w2.heap.size 93 5 (.slice x.1 0 0) 0 [],fun x W W' h hE=>bH h hE (fun _ _ h=>h)⟩,none,some ⟨fun x=> .slice x.1 B.length x.2,fun x W=>W.ownsRow w2.heap.size 93 5 (.slice x.1 B.length x.2) B.length (iQ B us),fun x W W' h hE=>bH h hE (fun _ _ h=>h)⟩,none,none,none,none,none,some ⟨fun x=> .agg #[.string m,.string r,.slice x.1 M.length x.2],fun x W=>aI (jZ W) W M (.slice x.1 M.length x.2),fun x W W' h hE=>(h.ext hE).weaken (fun k hk=>jZ.ext hk hE)⟩,none,some ⟨fun x=> .slice x.1 1 x.2,fun x W=> ∃ya yc,aG (fun _=>True) W 5 (.slice x.1 1 x.2) 1 [.string n,.string s,.string m,.string r,.slice ya M.length yc]/\aI (jZ W) W M (.slice ya M.length yc),fun x W W' ⟨ya,yc,h1,h2⟩ hE=>⟨ya,yc,aG.kept h1 hE (fun _ _ h=>h),(h2.ext hE).weaken (fun k hk=>jZ.ext hk hE)⟩⟩]
     [true,false,true,false,false,false,false,false,true,false,true] (by kernel_rfl) (by kernel_rfl) rfl (fun _ _ d _ _ h=>by cases d<;>exact h) ?_
    simp only[List.take_succ_cons,List.take_zero,eG,List.getElem?_cons_zero,List.getElem?_cons_succ];refine aO _ rfl (by go_simp) (fun W hW hG K hK=>?_) (fun K zz0 hK=>?_)
    .go_simp;exact hK (some ⟨W.heap.size,0,none⟩,0) _ ((uR W).alloc _) (World.ownsRow_lit (base:=w2.heap.size) (e:=93) (size:=5) W #[] 0 hW.size (by unfold maxLen;omega) (by simp))
    refine hK _ ?_;clear hK K;dsimp only;refine aX rfl (fun K hK=>?_);go_simp;refine hK _ ?_;clear hK K;refine aO _ rfl (by go_simp) (fun W hW hG K hK=>?_) (fun K JA hK=>?_)
    .have g0:=hG _ (List.mem_singleton.2 rfl) (by show(0:Nat)∈_;decide);refine pX _ (.tmp 39) (.tmp 40) 27 rfl w2.heap.size 93 iS (.agg #[.string ⟨#[]⟩,.string ⟨#[]⟩,.string ⟨#[]⟩,.string ⟨#[]⟩,.slice none 0 0]) 5 88 Tryz.underlying27 hi hz0 hz1 hz2 rfl (by decide) _ rfl g0 (fun k=>k<w2.heap.size) _ B.length _ rfl (aG.kept yS.out.2.1 hW (fun _ _ h=>h)) yS.out.2.2.2 (by have:=lI.out;unfold maxLen;omega) (by have:=lI.out;omega) hW.size ?_;intro v' w' pU hO4;obtain⟨p4,c4,rfl⟩:=bF hO4;exact hK (p4,c4) _ pU hO4
    refine hK _ ?_;clear hK K;dsimp only
    iterate 5(refine aX rfl (fun K hK=>?_);go_simp;refine hK _ ?_;clear hK K)
    refine aO _ rfl (by go_simp) (fun W hW hG K hK=>?_) (fun K Bl hK=>?_)
    .go_simp;refine(KQ (.mk m r M) (.agg #[.string m,.string r,.slice ta M.length tc]) (fun k=>k<w.heap.size) W ⟨ta,tc,rfl,(Dk.out.ext HE.out).ext hW⟩ (fun k hk=>aF hk (Nat.le_trans HE.out.size hW.size)) Ie.out).mono ?_;rintro e w' ⟨r',Bx,rfl,hT,hb,hE⟩;obtain⟨ya,yc,rfl⟩:=aP.shape hT;exact hK (ya,yc) _ hE (aP.ty hT)
    refine hK _ ?_;clear hK K;dsimp only;refine aX rfl (fun K hK=>?_);go_simp;refine hK _ ?_;clear hK K;refine aO _ rfl (by go_simp) (fun W hW hG K hK=>?_) (fun K P9 hK=>?_)
    .have g8:=hG _ (List.mem_append_right _ (List.mem_singleton.2 rfl)) (by show(8:Nat)∈_;decide);go_simp;have hA:=(uR W).alloc (.cells #[.string n,.string s,.string m,.string r,.slice Bl.1 M.length Bl.2] 93);exact hK (some ⟨W.heap.size,0,none⟩,1) _ hA ⟨Bl.1,Bl.2,aG.weaken (aG.fM (World.ownsRow_lit (base:=w2.heap.size) (e:=93) (size:=5) W #[.string n,.string s,.string m,.string r,.slice Bl.1 M.length Bl.2] 1 hW.size (by unfold maxLen;omega) (by simp))) (fun _ _=>trivial),(g8.ext hA).weaken (fun k hk=>jZ.ext hk hA)⟩
    refine hK _ ?_;clear hK K;dsimp only;refine iP (fun w8 hW hG=>?_);have g2:=hG _ (List.mem_append_left _ (List.mem_append_left _ (List.mem_append_right _ (List.mem_singleton.2 rfl))));have g10:=hG _ (List.mem_append_right _ (List.mem_singleton.2 rfl));dsimp only at g2 g10;obtain⟨ya,yc,gs,gt⟩:=g10;clear hG;refine eP (fun K hK=>?_);rw[if_pos (by go_simp)];refine nR _ (.tmp 41) (.tmp 49) 27 rfl w2.heap.size 93 iS (.agg #[.string ⟨#[]⟩,.string ⟨#[]⟩,.string ⟨#[]⟩,.string ⟨#[]⟩,.slice none 0 0]) 5 88 Tryz.underlying27 hi hz0 hz1 hz2 rfl (by decide) (.slice JA.1 B.length JA.2) B.length _ rfl g2 (fun _=>True) (.slice P9.1 1 P9.2) 1 _ rfl gs (fun u hu=>by simp at hu;rcases hu with h|h|h|h|h<;>(subst h;rfl)) (by have:=lI.out;unfold maxLen;omega) (by have:=lI.out;omega) hW.size ?_;intro v7 w9 bK;refine hK _ _ ?_;clear hK K;have hlt2: ∀k,(Value.slice JA.1 B.length JA.2).ownBlock=some k->w2.heap.size<=k:=fun k e=>(g2.lt k e).1;have jg:Hid (Ext w w9):=ah ((HE.out.trans hW).trans' bK.upd (fun j hj e=>by have h1:=hlt2 j e;have h2:=HE.out.size;omega));have XI:w2.heap.size<=w9.heap.size:=Nat.le_trans hW.size bK.upd.size;have o8:Hid (iM (fun k=>k<w9.heap.size) (fun k=>k<w9.heap.size) w9 v7 (B++[(n,s,.mk m r M)])):=ah (by
     refine⟨us++[.slice ya M.length yc],by rw[List.length_append,List.length_append,yS.out.1];rfl,?_,fun i hi=>?_⟩
     .rw [EY yS.out.1,List.length_append];exact aG.weaken (aG.fM bK.own) (fun k hk=>(bK.own.lt k hk).2)
     .by_cases e:i<B.length
      .have e1:Go.Hw.bg (B++[(n,s,.mk m r M)]) i=Go.Hw.bg B i:=by unfold Go.Hw.bg;rw[List.getD_eq_getElem?_getD,List.getD_eq_getElem?_getD,List.getElem?_append_left e]
       have e2:ug (us++[.slice ya M.length yc]) i=ug us i:=by unfold ug;rw[List.getD_eq_getElem?_getD,List.getD_eq_getElem?_getD,List.getElem?_append_left (by rw[yS.out.1];exact e)]
       rw[e1,e2];exact(((yS.out.2.2.1 i e).ext hW).kept bK.upd (fun k hk e=>by have h1:=hlt2 k e;omega)).weaken (fun k hk=>aF hk XI)
      .have e0:i=B.length:=by rw[List.length_append] at hi;simp at hi;omega
       have e1:Go.Hw.bg (B++[(n,s,.mk m r M)]) i=(n,s,.mk m r M):=by unfold Go.Hw.bg;rw[List.getD_eq_getElem?_getD,e0,List.getElem?_append_right (Nat.le_refl _),Nat.sub_self];rfl
       have e2:ug (us++[.slice ya M.length yc]) i= .slice ya M.length yc:=by unfold ug;rw[List.getD_eq_getElem?_getD,e0,<-yS.out.1,List.getElem?_append_right (Nat.le_refl _),Nat.sub_self];rfl
       rw[e1,e2];refine(gt.kept bK.upd (fun k hk e=>?_)).weaken (fun k hk=>?_)
       .obtain ⟨cs,fz,h1⟩:=hk;rcases g2.2 with⟨h2,_⟩|⟨g,cap,cur,h2,_,h3,_⟩
        .rw [h2] at e;cases e
        .rw [h2] at e;injection e with e
         rw[<-e,h3] at h1;injection h1 with h1
         injection h1 with _ h1
         cases h1
       .obtain ⟨cs,fz,h1⟩:=hk;exact aF (Array.getElem?_eq_some_iff.1 h1).1 bK.upd.size)
    clear bK g2 gs gt hW hlt2 XI;refine eP (fun K hK=>?_);go_simp;refine hK _ _ ?_;clear hK K;refine eP (fun K hK=>?_);go_simp;refine hK _ _ ?_;clear hK K;simp only[cO]
    go_wp2_with fail
    go_ret2
    rw[HV.out];exact⟨v7,rfl,(fun C h=>by injection h with h;rw[<-h];exact o8.out),jg.out⟩
  .rw [dF hr0] at t2;have t3:=lJ r s;by_cases hrs:r=s
   .rw [dT hrs] at t3;have P6:Hid (¬(r≠au/\r≠s)):=ah (fun h=>h.2 hrs);clear hr0 hrs
    go_upto_region 4 with fail
    clear t3;clear t1 t2;have vG:=ah (Io B (.slice ba B.length bc) n _ _ w1 (wM HB.out HE.out) (by have:=lI.out;omega));obtain⟨FX,P7⟩: ∃x,uY B n=x:=⟨_,rfl⟩
    rw[P7] at vG;have gB:=ah P7;clear P7;cases hx:bJ B n with
    |some x=>
     obtain⟨i,hi,hfi,hxe⟩:=MR hx;obtain rfl:FX=(i:Int):=by rw[<-gB.out,hfi]
     have hbx:=wM HB.out HE.out;obtain⟨g,off,hga,_,hat⟩:=hbx.at_ (by omega);obtain⟨ka,kc,q0,q1,q2,q3,q4,P8⟩:=hat i hi;subst hga;rw[hxe] at q2 q3 q4 P8;have hxz:x.size<=100000:=by rw[<-hxe];exact HI.out.val _ (IV hi)
     have HV:Hid (V=if x= .mk m r M then some B else none):=ah (by rw[<-HVV.out];exact BZ jA.out P6.out hx);have jf:=ah (fun W (hW:Ext w1 W)=>yG x (.mk m r M) (.agg #[.string x.name,.string x.sort,.slice ka x.kids.length kc]) (.agg #[.string m,.string r,.slice ta M.length tc]) _ _ W ⟨ka,kc,rfl,P8.ext hW⟩ ⟨ta,tc,rfl,(Dk.out.ext HE.out).ext hW⟩ (by omega));have z0:(0:Int)<=(i:Int):=by omega
     have z1:(i:Int)< (B.length:Int):=by omega
     have z2:decide ((0:Int)<=(i:Int))=true:=dT z0;have HW1:Hid (Ext w1 w1):=ah (aC.refl _ _);have HB1:=ah hbx;clear hat q0 q1 P8 hx hfi hxe hi hbx hxz
     go_wp2_with fail
     refine vG.out.mono ?_;rintro e w2 ⟨rfl,hw2⟩;subst hw2
     go_wp2_with fail
     go_region_law (first
      |(go_simp;refine(jf.out w2.drew HW1.out.drew).mono ?_;rintro e w5 ⟨rfl,hw5⟩;have dh:Hid (Ext w2 w5):=ah (((uR w2).drewN' 1).trans hw5);clear hw5 jf))
     all_goals
      have dA:=ah (HE.out.trans dh.out);have fC:=ah (wM HB1.out dh.out);clear q2 q3 q4 a0 a1 a2 b0 b1 b2
      go_wp2_with fail
      go_ret2
      rw[HV.out];by_cases e:x= .mk m r M
      .rw [if_pos e,dT e];exact⟨_,rfl,(fun C h=>by injection h with h;rw[<-h];exact fC.out),dA.out⟩
      .rw [if_neg e,dF e];exact⟨_,rfl,(fun _ h=>by cases h),dA.out⟩
    |none=>
     obtain rfl:FX= -1:=by rw[<-gB.out,MS hx]
     have HV:Hid (V=some (B++[(n,s,.mk m r M)])):=ah (by rw[<-HVV.out];exact Gn jA.out P6.out hx);clear hx
     go_wp2_with fail
     refine vG.out.mono ?_;rintro e w2 ⟨rfl,hw2⟩;subst hw2;obtain⟨us,E8,hsl,htl⟩:=wM HB.out HE.out;have hone:=IU B us (XH (R:=fun _=>True) E8 htl);have yS:=ah (And.intro E8 (And.intro hsl (And.intro htl hone)));have xa0:=fun x:XW w2=>x.ext.cell a0 (fun h=>h);have xa1:=fun x:XW w2=>x.ext.cell a1 (fun h=>h);have xb0:=fun x:XW w2=>x.ext.cell b0 (fun h=>h);have TI:=fun x:XW w2=>x.ext.cell b1 (fun h=>h);have xb2:=fun x:XW w2=>x.ext.cell b2 (fun h=>h);obtain⟨iS,hi,hz0,hz1,hz2⟩:=info_parts Po;clear E8 hsl htl hone a0 a1 a2 b0 b1 b2
     go_wp2_with fail
     refine cu (α:=Option Addr×Nat) 11 [] 11 [(11,2),(12,2),(13,2)] [[],[],[0,1],[],[3],[],[5],[],[0,1,2,7],[0,1,2,3,4,5,6,7,8],[0,1,2,3,4,5,6,7,8,9],[0,1,2,3,4,5,6,7,8,9,10],[0,1,2,3,4,5,6,7,8,9,10,11],[0,1,2,3,4,5,6,7,8,9,10,11,12]]
      [some ⟨fun x=> .slice x.1 0 0,fun x W=>W.ownsRow w2.heap.size 93 5 (.slice x.1 0 0) 0 [],fun x W W' h hE=>bH h hE (fun _ _ h=>h)⟩,none,some ⟨fun x=> .slice x.1 B.length x.2,fun x W=>W.ownsRow w2.heap.size 93 5 (.slice x.1 B.length x.2) B.length (iQ B us),fun x W W' h hE=>bH h hE (fun _ _ h=>h)⟩,none,none,none,none,none,some ⟨fun x=> .agg #[.string m,.string r,.slice x.1 M.length x.2],fun x W=>aI (jZ W) W M (.slice x.1 M.length x.2),fun x W W' h hE=>(h.ext hE).weaken (fun k hk=>jZ.ext hk hE)⟩,none,some ⟨fun x=> .slice x.1 1 x.2,fun x W=> ∃ya yc,aG (fun _=>True) W 5 (.slice x.1 1 x.2) 1 [.string n,.string s,.string m,.string r,.slice ya M.length yc]/\aI (jZ W) W M (.slice ya M.length yc),fun x W W' ⟨ya,yc,h1,h2⟩ hE=>⟨ya,yc,aG.kept h1 hE (fun _ _ h=>h),(h2.ext hE).weaken (fun k hk=>jZ.ext hk hE)⟩⟩]
      [true,false,true,false,false,false,false,false,true,false,true] (by kernel_rfl) (by kernel_rfl) rfl (fun _ _ d _ _ h=>by cases d<;>exact h) ?_
     simp only[List.take_succ_cons,List.take_zero,eG,List.getElem?_cons_zero,List.getElem?_cons_succ];refine aO _ rfl (by go_simp) (fun W hW hG K hK=>?_) (fun K zz0 hK=>?_)
     .go_simp;exact hK (some ⟨W.heap.size,0,none⟩,0) _ ((uR W).alloc _) (World.ownsRow_lit (base:=w2.heap.size) (e:=93) (size:=5) W #[] 0 hW.size (by unfold maxLen;omega) (by simp))
     refine hK _ ?_;clear hK K;dsimp only;refine aX rfl (fun K hK=>?_);go_simp;refine hK _ ?_;clear hK K;refine aO _ rfl (by go_simp) (fun W hW hG K hK=>?_) (fun K JA hK=>?_)
     .have g0:=hG _ (List.mem_singleton.2 rfl) (by show(0:Nat)∈_;decide);refine pX _ (.tmp 39) (.tmp 40) 27 rfl w2.heap.size 93 iS (.agg #[.string ⟨#[]⟩,.string ⟨#[]⟩,.string ⟨#[]⟩,.string ⟨#[]⟩,.slice none 0 0]) 5 88 Tryz.underlying27 hi hz0 hz1 hz2 rfl (by decide) _ rfl g0 (fun k=>k<w2.heap.size) _ B.length _ rfl (aG.kept yS.out.2.1 hW (fun _ _ h=>h)) yS.out.2.2.2 (by have:=lI.out;unfold maxLen;omega) (by have:=lI.out;omega) hW.size ?_;intro v' w' pU hO4;obtain⟨p4,c4,rfl⟩:=bF hO4;exact hK (p4,c4) _ pU hO4
     refine hK _ ?_;clear hK K;dsimp only
     iterate 5(refine aX rfl (fun K hK=>?_);go_simp;refine hK _ ?_;clear hK K)
     refine aO _ rfl (by go_simp) (fun W hW hG K hK=>?_) (fun K Bl hK=>?_)
     .go_simp;refine(KQ (.mk m r M) (.agg #[.string m,.string r,.slice ta M.length tc]) (fun k=>k<w.heap.size) W ⟨ta,tc,rfl,(Dk.out.ext HE.out).ext hW⟩ (fun k hk=>aF hk (Nat.le_trans HE.out.size hW.size)) Ie.out).mono ?_;rintro e w' ⟨r',Bx,rfl,hT,hb,hE⟩;obtain⟨ya,yc,rfl⟩:=aP.shape hT;exact hK (ya,yc) _ hE (aP.ty hT)
     refine hK _ ?_;clear hK K;dsimp only;refine aX rfl (fun K hK=>?_);go_simp;refine hK _ ?_;clear hK K;refine aO _ rfl (by go_simp) (fun W hW hG K hK=>?_) (fun K P9 hK=>?_)
     .have g8:=hG _ (List.mem_append_right _ (List.mem_singleton.2 rfl)) (by show(8:Nat)∈_;decide);go_simp;have hA:=(uR W).alloc (.cells #[.string n,.string s,.string m,.string r,.slice Bl.1 M.length Bl.2] 93);exact hK (some ⟨W.heap.size,0,none⟩,1) _ hA ⟨Bl.1,Bl.2,aG.weaken (aG.fM (World.ownsRow_lit (base:=w2.heap.size) (e:=93) (size:=5) W #[.string n,.string s,.string m,.string r,.slice Bl.1 M.length Bl.2] 1 hW.size (by unfold maxLen;omega) (by simp))) (fun _ _=>trivial),(g8.ext hA).weaken (fun k hk=>jZ.ext hk hA)⟩
     refine hK _ ?_;clear hK K;dsimp only;refine iP (fun w8 hW hG=>?_);have g2:=hG _ (List.mem_append_left _ (List.mem_append_left _ (List.mem_append_right _ (List.mem_singleton.2 rfl))));have g10:=hG _ (List.mem_append_right _ (List.mem_singleton.2 rfl));dsimp only at g2 g10;obtain⟨ya,yc,gs,gt⟩:=g10;clear hG;refine eP (fun K hK=>?_);rw[if_pos (by go_simp)];refine nR _ (.tmp 41) (.tmp 49) 27 rfl w2.heap.size 93 iS (.agg #[.string ⟨#[]⟩,.string ⟨#[]⟩,.string ⟨#[]⟩,.string ⟨#[]⟩,.slice none 0 0]) 5 88 Tryz.underlying27 hi hz0 hz1 hz2 rfl (by decide) (.slice JA.1 B.length JA.2) B.length _ rfl g2 (fun _=>True) (.slice P9.1 1 P9.2) 1 _ rfl gs (fun u hu=>by simp at hu;rcases hu with h|h|h|h|h<;>(subst h;rfl)) (by have:=lI.out;unfold maxLen;omega) (by have:=lI.out;omega) hW.size ?_;intro v7 w9 bK;refine hK _ _ ?_;clear hK K;have hlt2: ∀k,(Value.slice JA.1 B.length JA.2).ownBlock=some k->w2.heap.size<=k:=fun k e=>(g2.lt k e).1;have jg:Hid (Ext w w9):=ah ((HE.out.trans hW).trans' bK.upd (fun j hj e=>by have h1:=hlt2 j e;have h2:=HE.out.size;omega));have XI:w2.heap.size<=w9.heap.size:=Nat.le_trans hW.size bK.upd.size;have o8:Hid (iM (fun k=>k<w9.heap.size) (fun k=>k<w9.heap.size) w9 v7 (B++[(n,s,.mk m r M)])):=ah (by
      refine⟨us++[.slice ya M.length yc],by rw[List.length_append,List.length_append,yS.out.1];rfl,?_,fun i hi=>?_⟩
      .rw [EY yS.out.1,List.length_append];exact aG.weaken (aG.fM bK.own) (fun k hk=>(bK.own.lt k hk).2)
      .by_cases e:i<B.length
       .have e1:Go.Hw.bg (B++[(n,s,.mk m r M)]) i=Go.Hw.bg B i:=by unfold Go.Hw.bg;rw[List.getD_eq_getElem?_getD,List.getD_eq_getElem?_getD,List.getElem?_append_left e]
        have e2:ug (us++[.slice ya M.length yc]) i=ug us i:=by unfold ug;rw[List.getD_eq_getElem?_getD,List.getD_eq_getElem?_getD,List.getElem?_append_left (by rw[yS.out.1];exact e)]
        rw[e1,e2];exact(((yS.out.2.2.1 i e).ext hW).kept bK.upd (fun k hk e=>by have h1:=hlt2 k e;omega)).weaken (fun k hk=>aF hk XI)
       .have e0:i=B.length:=by rw[List.length_append] at hi;simp at hi;omega
        have e1:Go.Hw.bg (B++[(n,s,.mk m r M)]) i=(n,s,.mk m r M):=by unfold Go.Hw.bg;rw[List.getD_eq_getElem?_getD,e0,List.getElem?_append_right (Nat.le_refl _),Nat.sub_self];rfl
        have e2:ug (us++[.slice ya M.length yc]) i= .slice ya M.length yc:=by unfold ug;rw[List.getD_eq_getElem?_getD,e0,<-yS.out.1,List.getElem?_append_right (Nat.le_refl _),Nat.sub_self];rfl
        rw[e1,e2];refine(gt.kept bK.upd (fun k hk e=>?_)).weaken (fun k hk=>?_)
        .obtain ⟨cs,fz,h1⟩:=hk;rcases g2.2 with⟨h2,_⟩|⟨g,cap,cur,h2,_,h3,_⟩
         .rw [h2] at e;cases e
         .rw [h2] at e;injection e with e
          rw[<-e,h3] at h1;injection h1 with h1
          injection h1 with _ h1
          cases h1
        .obtain ⟨cs,fz,h1⟩:=hk;exact aF (Array.getElem?_eq_some_iff.1 h1).1 bK.upd.size)
     clear bK g2 gs gt hW hlt2 XI;refine eP (fun K hK=>?_);go_simp;refine hK _ _ ?_;clear hK K;refine eP (fun K hK=>?_);go_simp;refine hK _ _ ?_;clear hK K;simp only[cO]
     go_wp2_with fail
     go_ret2
     rw[HV.out];exact⟨v7,rfl,(fun C h=>by injection h with h;rw[<-h];exact o8.out),jg.out⟩
   .rw [dF hrs] at t3;have HV:Hid (V=none):=ah (by rw[<-HVV.out];exact B_ jA.out ⟨hr0,hrs⟩);clear hr0 hrs
    go_wp2_with fail
    go_ret2
    rw[HV.out];exact⟨_,rfl,(fun C h=>by cases h),HE.out⟩
def FwP (q:Nat) (w w':World) (j:Int):Prop:=aC (fun k=>k=q) w w'/\w'.heap[q]?=some (.cells #[.int .i64 j] 3 (0,0))
def ng (B:List Bd) (n:By):Nat:=B.findIdx fun b=>!blt b.1 n
theorem uZ {B:List Bd} {t:Nat} (h:t<B.length):Go.Hw.bg B t=B[t]:=by unfold Go.Hw.bg;rw[List.getD_eq_getElem?_getD,List.getElem?_eq_getElem h];rfl
theorem TK (B:List Bd) (n:By):ng B n<=B.length:=List.findIdx_le_length
theorem TL {B:List Bd} {n:By} (h:AscK (Prod.fst:Bd->By) B):(∀t,t<ng B n->blt (Go.Hw.bg B t).1 n=true)/\(∀t,ng B n<=t->t<B.length->blt (Go.Hw.bg B t).1 n=false):=by
 have hle:=TK B n;refine⟨fun t ht=>?_,fun t ht htl=>?_⟩
 .rw [uZ (by omega)];have:=List.not_of_lt_findIdx (show t<ng B n from ht);simpa using this
 .rw [uZ htl];have h0:ng B n<B.length:=by omega
  have h1:(!blt B[ng B n].1 n)=true:=List.findIdx_getElem (p:=fun x:Bd=>!blt x.1 n) (w:=h0);have h2:blt B[ng B n].1 n=false:=by simpa using h1
  rcases Nat.eq_or_lt_of_le ht with e|e
  .have:B[t]=B[ng B n]:=by congr 1;omega
   rw[this];exact h2
  .rw [Bool.eq_false_iff];intro h3;have:=oz (List.pairwise_iff_getElem.1 h (ng B n) t h0 htl e) h3;rw[h2] at this;cases this
theorem Qb {B:List Bd} {n:By} (h:AscK (Prod.fst:Bd->By) B):(ng B n<B.length/\(Go.Hw.bg B (ng B n)).1=n)<->(bJ B n).isSome=true:=by
 constructor
 .rintro ⟨h1,h2⟩;rw[uZ h1] at h2;have:=(TM (Qc h) (List.getElem_mem h1)).1;rw[h2] at this;rw[this];rfl
 .intro hs;obtain⟨T,hT⟩:=Option.isSome_iff_exists.1 hs;obtain⟨b,hb,h1,_⟩:=tH hT;obtain⟨p,hp,rfl⟩:=List.mem_iff_getElem.1 hb;have h2:=TL (n:=n) h;have h3:ng B n=p:=by
   rcases Nat.lt_trichotomy (ng B n) p with e|e|e
   .have h4:=h2.2 _ (Nat.le_refl _) (by omega);rw[uZ (by omega)] at h4;have:=List.pairwise_iff_getElem.1 h _ p (by omega) hp e;rw[h1] at this;rw[this] at h4;cases h4
   .exact e
   .have h4:=h2.1 p e;rw[uZ hp,h1,iD] at h4;cases h4
  rw[h3];exact⟨hp,by rw[uZ hp];exact h1⟩
theorem MW {B:List Bd} {n:By} (h:AscK (Prod.fst:Bd->By) B) (hs:(bJ B n).isSome=true):ng B n<B.length/\bJ B n=some (Go.Hw.bg B (ng B n)).2.2/\u_ B n=some (Go.Hw.bg B (ng B n)).2.1:=by
 obtain⟨h1,h2⟩:=(Qb h).2 hs;have:=TM (Qc h) (List.getElem_mem h1);rw[<-uZ h1,h2] at this;exact⟨h1,this.1,this.2⟩
theorem Zw (a b:By):(eu a b<0)<->blt a b=true:=by
 unfold eu;by_cases h:blt a b=true
 .rw [if_pos h];simp[h]
 .rw [if_neg h];split<;>simp[h]
theorem TN (x:Bd) (xa:Option Addr) (xc:Nat) (nm:By) (w:World):Calls Tryz.prog 95 #[(.agg #[.string x.1,.string x.2.1,.string x.2.2.name,.string x.2.2.sort,.slice xa x.2.2.kids.length xc]),.string nm] w fun e w'=>e= .returned (.int .i64 (eu x.1 nm))/\Ext w w':=by
 have HE:=ah ((uR w).alloc (.cells #[.string x.1,.string x.2.1,.string x.2.2.name,.string x.2.2.sort,.slice xa x.2.2.kids.length xc] 93));have hb:=ay w (.cells #[.string x.1,.string x.2.1,.string x.2.2.name,.string x.2.2.sort,.slice xa x.2.2.kids.length xc] 93);have c0:=aj hb 0 (.string x.1) rfl;have hc: ∀W,Calls Tryz.prog 99 #[.string x.1,.string nm] W fun e w'=>e= .returned (.int .i64 (eu x.1 nm))/\w'=W:=fun W=>by rw[<-TP];exact Tryz.strings_Compare x.1 nm W
 have HC:=ah hc;obtain⟨r,hr⟩: ∃r,eu x.1 nm=r:=⟨_,rfl⟩
 rw[hr] at HC⊢;clear hb hc hr
 go_enter Tryz.func95,Tryz.ntmps95
 go_wp2_with fail
 refine(HC.out _).mono ?_;rintro e w4 ⟨rfl,rfl⟩
 go_wp2_with fail
 go_ret;exact⟨rfl,HE.out⟩
theorem abv (B:List Bd) (v:Value) (nm:By) (R S:Nat->Prop) (w:World) (h:iM R S w v B) (ha:AscK (Prod.fst:Bd->By) B) (hl:B.length<=1000000):Calls Tryz.prog 94 #[v,.string nm,.func (.func 95) #[] #[]] w fun e w'=>e= .returned (.tuple #[.int .i64 (ng B nm:Nat),.bool (bJ B nm).isSome])/\Ext w w':=by
 have H:=ah h;obtain⟨a,c,rfl⟩:=h.shape;obtain⟨X,hX⟩: ∃X,ng B nm=X:=⟨_,rfl⟩
 obtain⟨Y,hY⟩: ∃Y,(bJ B nm).isSome=Y:=⟨_,rfl⟩
 have hlow:=TL (n:=nm) ha;have hmem:=Qb (n:=nm) ha;have hle:=TK B nm;rw[hX] at hlow hmem hle;rw[hY] at hmem;rw[hX,hY];have HL:=ah hlow;have HM:=ah hmem;have HLE:=ah hle;have heg: ∀args W,(callFunc 95 args).run Tryz.prog W= .ok (.enter 95 args) W:=enters_of Tryz.func95 (by kernel_rfl) rfl;clear h ha hX hY hlow hmem hle
 go_enter Tryz.func94,Tryz.ntmps94
 go_wp2_with fail
 go_loopg [9,10] B.length (fun gk s9 s10 wr=> ∃lo hi:Nat,s9= .int .i64 (lo:Int)/\s10= .int .i64 (hi:Int)/\lo<=hi/\hi<=B.length/\hi-lo<=gk/\Hid (lo<=X/\X<=hi)/\Hid (Ext w wr))
 case atStart=>exact⟨0,B.length,rfl,rfl,Nat.zero_le _,Nat.le_refl _,by omega,ah ⟨Nat.zero_le _,HLE.out⟩,ah (aC.refl _ _)⟩
 case round=>
  obtain⟨lo,hi,rfl,rfl,hlh,hin,hg,HI,HE⟩:=hrel;by_cases hlt:lo<hi
  .obtain ⟨m,hm⟩: ∃m:Nat,(lo+hi) / 2=m:=⟨_,rfl⟩
   have hml:lo<=m/\m<hi:=by omega
   obtain⟨g,off,hga,_,hat⟩:=(H.out.ext HE.out).at_ (by omega);subst hga;obtain⟨xa,xc,p0,p1,p2,p3,p4,aW⟩:=hat m (by omega);have z0:(0:Int)<=(m:Int):=by omega
   have z1:(m:Int)< (B.length:Int):=by omega
   have z3:((lo:Int)+(hi:Int)) / 2=(m:Int):=by omega
   have z2:decide ((lo:Int)< (hi:Int))=true:=dT (by omega);have z2':decide (lo<hi)=true:=dT hlt;have HO:=ah (fun W=>TN (Go.Hw.bg B m) xa xc nm W);have hx1:blt (Go.Hw.bg B m).1 nm=true->m<X:=fun e=>by
    rcases Nat.lt_or_ge m X with e2|e2
    .exact e2
    .rw [HL.out.2 m e2 (by omega)] at e;cases e
   have hx2:blt (Go.Hw.bg B m).1 nm=false->X<=m:=fun e=>by
    rcases Nat.lt_or_ge m X with e2|e2
    .rw [HL.out.1 m e2] at e;cases e
    .exact e2
   have hbn:=Zw (Go.Hw.bg B m).1 nm;obtain⟨x,hx⟩: ∃x,Go.Hw.bg B m=x:=⟨_,rfl⟩
   rw[hx] at p0 p1 p2 p3 p4 HO hx1 hx2 hbn;obtain⟨r,hr⟩: ∃r,eu x.1 nm=r:=⟨_,rfl⟩
   rw[hr] at HO hbn;have nI:=ah hm;have Dq:=ah hml;by_cases hr0:r<0
   .have HX1:=ah (hx1 (hbn.1 hr0));have z4:decide (r<0)=true:=dT hr0;clear hx1 hx2 hbn hr hx hat aW hm hml
    go_wp2_with fail
    refine(HO.out _).mono ?_;rintro e w4 ⟨rfl,hw4⟩;have bW:=ah (HE.out.trans hw4);clear hw4 HO p0 p1 p2 p3 p4
    go_wp2_with fail
    go_roundg (hi- (m+1))
    case measure=>have:=Dq.out;omega
    case rel=>exact⟨m+1,hi,by go_num,rfl,by have:=Dq.out;omega,hin,Nat.le_refl _,ah ⟨HX1.out,HI.out.2⟩,bW⟩
   .have Di:=ah (hx2 (by
     cases hb:blt x.1 nm with
     |true=>exact absurd (hbn.2 hb) hr0
     |false=>rfl))
    have z4:decide (r<0)=false:=dF hr0;clear hx1 hx2 hbn hr hx hat aW hm hml
    go_wp2_with fail
    refine(HO.out _).mono ?_;rintro e w4 ⟨rfl,hw4⟩;have bW:=ah (HE.out.trans hw4);clear hw4 HO p0 p1 p2 p3 p4
    go_wp2_with fail
    go_roundg (m-lo)
    case measure=>have:=Dq.out;omega
    case rel=>exact⟨lo,m,rfl,rfl,by have:=Dq.out;omega,by have:=Dq.out;omega,Nat.le_refl _,ah ⟨HI.out.1,Di.out⟩,bW⟩
  .obtain rfl:hi=lo:=by omega
   obtain rfl:hi=X:=by have:=HI.out;omega
   have z2:decide ((hi:Int)< (hi:Int))=false:=dF (by omega);by_cases hlt2:hi<B.length
   .obtain ⟨g,off,hga,_,hat⟩:=(H.out.ext HE.out).at_ (by omega);subst hga;obtain⟨xa,xc,p0,p1,p2,p3,p4,aW⟩:=hat hi hlt2;have z0:(0:Int)<=(hi:Int):=by omega
    have z1:(hi:Int)< (B.length:Int):=by omega
    have z5:decide ((hi:Int)< (B.length:Int))=true:=dT z1;have z5':decide (hi<B.length)=true:=dT hlt2;have HO:=ah (fun W=>TN (Go.Hw.bg B hi) xa xc nm W);have hy:decide (eu (Go.Hw.bg B hi).1 nm=0)=Y:=by
     rw[Bool.eq_iff_iff,decide_eq_true_eq,w_,<-HM.out];exact⟨fun e=>⟨hlt2,e⟩,fun e=>e.2⟩
    obtain⟨x,hx⟩: ∃x,Go.Hw.bg B hi=x:=⟨_,rfl⟩
    rw[hx] at p0 p1 p2 p3 p4 HO hy;obtain⟨r,hr⟩: ∃r,eu x.1 nm=r:=⟨_,rfl⟩
    rw[hr] at HO hy;have hy2:(r==0)=Y:=by rw[<-hy];rfl
    have HY:=ah hy;clear hr hx hat aW hy hlt2
    go_wp2_with fail
    refine(HO.out _).mono ?_;rintro e w4 ⟨rfl,hw4⟩;have bW:=ah (HE.out.trans hw4);clear hw4 HO p0 p1 p2 p3 p4
    go_wp2_with fail
    go_ret2
    exact⟨by first|rfl|(rw[HY.out]),bW.out⟩
   .have z5:decide ((hi:Int)< (B.length:Int))=false:=dF (by omega);have z5':decide (hi<B.length)=false:=dF hlt2;obtain rfl:Y=false:=by
     rw[Bool.eq_false_iff];intro e;exact hlt2 (HM.out.2 e).1
    clear hlt2
    go_wp2_with fail
    go_ret2
    exact⟨rfl,HE.out⟩
theorem ac4 (nm:By->Bool) (B:List Bd) (k:Nat):oU nm B k=(nm (Go.Hw.bg B k).1&&nm (Go.Hw.bg B k).2.1&&(decide (k=0)||blt (Go.Hw.bg B (k-1)).1 (Go.Hw.bg B k).1)&&wf nm (Go.Hw.bg B k).2.2&&(decide ((Go.Hw.bg B k).2.2.sort=au)||(decide ((Go.Hw.bg B k).2.2.sort=(Go.Hw.bg B k).2.1)&&!decide ((Go.Hw.bg B k).2.2.name=(Go.Hw.bg B k).1)))):=rfl
theorem ac5 {nm:By->Bool} {B:List Bd} {k:Nat} (hk:k<B.length) (h:oU nm B k=false):rD nm B=false:=by
 cases hv:rD nm B with
 |false=>rfl
 |true=>rw[(TQ hv).2 k hk] at h;cases h
theorem Zx {nm:By->Bool} {B:List Bd} (hl:B.length<=1000) (h: ∀j,j<B.length->oU nm B j=true):rD nm B=true:=by
 unfold rD;rw[Bool.and_eq_true,decide_eq_true_eq,List.all_eq_true];exact⟨hl,fun i hi=>h i (List.mem_range.1 hi)⟩
theorem N7 (a b:By):binOp .geq 9 (.string a) (.string b)=pure (.bool !(blt a b)):=by
 rw[<-I4];simp[binOp,Op.stringOp]
theorem ac6 (B:List Bd) (v:Value) (w:World) (htab:dN w) (hT:iM (fun k=>k<w.heap.size) (fun k=>k<w.heap.size) w v B) (hl:B.length<=1000000) (hs: ∀b∈B,(b.2.2.size:Int)<=1000000000000):Calls Tryz.prog 31 #[v] w fun e w'=>e= .returned (.bool (rD aJ B))/\Ext w w':=by
 have HT:=ah hT;have HTAB:=ah htab;have bU:=ah hs;obtain⟨a,cap,rfl⟩:=hT.shape;obtain⟨V,hV⟩: ∃V,rD aJ B=V:=⟨_,rfl⟩
 have HVV:=ah hV.symm;rw[hV];clear hT htab hs hV;by_cases hb:1000<B.length
 .have HV:Hid (V=false):=ah (by rw[HVV.out];unfold rD;rw[dF (by omega)];rfl);have z1:(1000:Int)< (B.length:Int):=by omega
  have z1':decide ((1000:Int)< (B.length:Int))=true:=dT z1;have H8:Hid (Ext w w):=ah (aC.refl _ _);clear hb
  go_enter Tryz.func31,Tryz.ntmps31
  go_wp2_with fail
  all_goals go_ret
  all_goals (rw[HV.out];exact⟨rfl,H8.out⟩)
 have z1: ¬(1000:Int)< (B.length:Int):=by omega
 have z1':decide ((1000:Int)< (B.length:Int))=false:=dF z1
 go_enter Tryz.func31,Tryz.ntmps31
 go_wp2_with fail
 clear z1 z1'
 go_loopg [10] B.length (fun gk iv wr=> ∃k:Nat,iv= .int .i64 (k:Int)/\gk=B.length-k/\k<=B.length/\Hid (∀j,j<k->oU aJ B j=true)/\Hid (Ext w wr))
 case atStart=>exact⟨0,rfl,rfl,Nat.zero_le _,ah (fun j h=>absurd h (Nat.not_lt_zero _)),ah (aC.refl _ _)⟩
 case round=>
  obtain⟨k,rfl,rfl,hk,HC,HE⟩:=hrel;by_cases hlt:k<B.length
  .obtain ⟨g,off,hga,_,hat⟩:=(HT.out.ext HE.out).at_ (by omega);subst hga;obtain⟨xa,xc,p0,p1,p2,p3,p4,aW⟩:=hat k hlt;obtain⟨z0,z1,z2,z2'⟩:=bZ hlt;have hno:oU aJ B k=false->V=false:=fun h=>by rw[HVV.out];exact ac5 hlt h
   have hyes:oU aJ B k=true->∀j,j<k+1->oU aJ B j=true:=fun h j hj=>by
    rcases Nat.lt_succ_iff_lt_or_eq.1 hj with h5|h5
    .exact HC.out j h5
    .rw [h5];exact h
   have qh:=ah hno;have Aa:=ah hyes;have hok:=ac4 aJ B k;have Zy:((Go.Hw.bg B k).2.2.size:Int)<=1000000000000:=bU.out _ (IV hlt);have abx:0<k->∃y,(Go.Hw.bg B (k-1)).1=y/\wr.cell? ⟨g,off+(k-1)*5,none⟩=some (.string y):=fun h0=>by
    obtain⟨_,_,q0,_⟩:=hat (k-1) (by omega);exact⟨_,rfl,q0⟩
   have aiI:=ah abx;obtain⟨x,hx⟩: ∃x,Go.Hw.bg B k=x:=⟨_,rfl⟩
   rw[hx] at p0 p1 p2 p3 p4 aW hok Zy;have pU:=(uR wr).alloc (.cells #[.string x.1,.string x.2.1,.string x.2.2.name,.string x.2.2.sort,.slice xa x.2.2.kids.length xc] 93);have xP:=ah pU;have hB4:=ay wr (.cells #[.string x.1,.string x.2.1,.string x.2.2.name,.string x.2.2.sort,.slice xa x.2.2.kids.length xc] 93);have HB4:=ah hB4;have bW:=ah (HE.out.trans pU);have nG:=ah (fun W (hW:Ext (wr.alloc (.cells #[.string x.1,.string x.2.1,.string x.2.2.name,.string x.2.2.sort,.slice xa x.2.2.kids.length xc] 93)) W)=>BG x.1 W (aS HTAB.out (bW.out.trans hW)));have jV:=ah (fun W (hW:Ext (wr.alloc (.cells #[.string x.1,.string x.2.1,.string x.2.2.name,.string x.2.2.sort,.slice xa x.2.2.kids.length xc] 93)) W)=>BG x.2.1 W (aS HTAB.out (bW.out.trans hW)));have uG:=ah (fun W (hW:Ext (wr.alloc (.cells #[.string x.1,.string x.2.1,.string x.2.2.name,.string x.2.2.sort,.slice xa x.2.2.kids.length xc] 93)) W)=>yw x.2.2 (tV x.2.2 (.slice xa x.2.2.kids.length xc)) W (aS HTAB.out (bW.out.trans hW)) (bQ.weaken ⟨xa,xc,rfl,((aW.ext pU).ext hW)⟩ (fun j hj=>aF hj (bW.out.trans hW).size)) Zy);dsimp only[tV] at uG;have pO:=ah hok;clear aW hno hyes hok Zy abx pU hat
   go_wp2_with fail
   generalize hw4:wr.alloc (.cells #[.string x.1,.string x.2.1,.string x.2.2.name,.string x.2.2.sort,.slice xa x.2.2.kids.length xc] 93)=w4 at*;have p0:=aj hB4 0 (.string x.1) rfl;have p1:=aj hB4 1 (.string x.2.1) rfl;have p2:=aj hB4 2 (.string x.2.2.name) rfl;have p3:=aj hB4 3 (.string x.2.2.sort) rfl;have p4:=aj hB4 4 (.slice xa x.2.2.kids.length xc) rfl;have OC:=fun x:XW w4=>x.ext.cell p0 (fun h=>h);have OD:=fun x:XW w4=>x.ext.cell p1 (fun h=>h);have OE:=fun x:XW w4=>x.ext.cell p2 (fun h=>h);have xp3:=fun x:XW w4=>x.ext.cell p3 (fun h=>h);have xp4:=fun x:XW w4=>x.ext.cell p4 (fun h=>h);have Kz:=uR w4;clear p0 p1 p2 p3 p4 hB4;obtain⟨n1,hn1⟩: ∃b,aJ x.1=b:=⟨_,rfl⟩
   obtain⟨n2,hn2⟩: ∃b,aJ x.2.1=b:=⟨_,rfl⟩
   rw[hn1] at nG pO;rw[hn2] at jV pO;clear hn1 hn2;cases n1
   .have HV:=ah (qh.out (by rw[pO.out];simp))
    go_wp2_with fail
    refine dw w4 (by assumption) (by kernel_rfl) (by kernel_rfl) ?_
    repeat (first|go_big_quiet_skip|(go_big_quiet_want;go_big_quiet_op;first|go_big_quiet_on|(apply Exists.intro;refine⟨fun x=>?_,?_⟩;(first|(go_at_call 79;with_reducible exact XW.call (nG.out x.val x.ext))|(go_at_call 79;with_reducible exact XW.call (jV.out x.val x.ext))|(go_at_call 78;exact XW.call (uG.out x.val x.ext)));go_big_quiet_on)))
    refine wpQuiet_nil ?_;rintro w8 ⟨⟨_,gu⟩,rfl⟩
    try dsimp only
    have H8:=ah (bW.out.trans gu)
    go_wp2_with fail
    all_goals go_ret
    all_goals (rw[HV.out];exact⟨rfl,H8.out⟩)
   cases n2
   .have HV:=ah (qh.out (by rw[pO.out];simp))
    go_wp2_with fail
    refine dw w4 (by assumption) (by kernel_rfl) (by kernel_rfl) ?_
    repeat (first|go_big_quiet_skip|(go_big_quiet_want;go_big_quiet_op;first|go_big_quiet_on|(apply Exists.intro;refine⟨fun x=>?_,?_⟩;(first|(go_at_call 79;with_reducible exact XW.call (nG.out x.val x.ext))|(go_at_call 79;with_reducible exact XW.call (jV.out x.val x.ext))|(go_at_call 78;exact XW.call (uG.out x.val x.ext)));go_big_quiet_on)))
    refine wpQuiet_nil ?_;rintro w8 ⟨⟨_,gu⟩,rfl⟩
    try dsimp only
    have H8:=ah (bW.out.trans gu)
    go_wp2_with fail
    all_goals go_ret
    all_goals (rw[HV.out];exact⟨rfl,H8.out⟩)
   by_cases h0:k=0
   .subst h0;have ni:Hid (oU aJ B 0=(true&&true&&true&&wf aJ x.2.2&&(decide (x.2.2.sort=au)||(decide (x.2.2.sort=x.2.1)&&!decide (x.2.2.name=x.1))))):=ah (by rw[pO.out];simp);clear pO;obtain⟨f,hf⟩: ∃f,wf aJ x.2.2=f:=⟨_,rfl⟩
    rw[hf] at uG ni;clear hf;cases f
    .have HV:=ah (qh.out (by rw[ni.out];simp))
     go_wp2_with fail
     refine dw w4 (by assumption) (by kernel_rfl) (by kernel_rfl) ?_
     repeat (first|go_big_quiet_skip|(go_big_quiet_want;go_big_quiet_op;first|go_big_quiet_on|(apply Exists.intro;refine⟨fun x=>?_,?_⟩;(first|(go_at_call 79;with_reducible exact XW.call (nG.out x.val x.ext))|(go_at_call 79;with_reducible exact XW.call (jV.out x.val x.ext))|(go_at_call 78;exact XW.call (uG.out x.val x.ext)));go_big_quiet_on)))
     refine wpQuiet_nil ?_;rintro w8 ⟨⟨_,gu⟩,rfl⟩
     try dsimp only
     have H8:=ah (bW.out.trans gu)
     go_wp2_with fail
     all_goals go_ret
     all_goals (rw[HV.out];exact⟨rfl,H8.out⟩)
    go_wp2_with fail
    refine dw w4 (by assumption) (by kernel_rfl) (by kernel_rfl) ?_
    repeat (first|go_big_quiet_skip|(go_big_quiet_want;go_big_quiet_op;first|go_big_quiet_on|(apply Exists.intro;refine⟨fun x=>?_,?_⟩;(first|(go_at_call 79;with_reducible exact XW.call (nG.out x.val x.ext))|(go_at_call 79;with_reducible exact XW.call (jV.out x.val x.ext))|(go_at_call 78;exact XW.call (uG.out x.val x.ext)));go_big_quiet_on)))
    refine wpQuiet_nil ?_;rintro w8 ⟨⟨_,gu⟩,rfl⟩
    try dsimp only
    have H8:=ah (bW.out.trans gu);have kJ:=ah (gu.heap HB4.out (fun h=>h));clear uG nG jV HB4 bW;clear OC OD OE xp3 xp4;have u0:=aj kJ.out 0 (.string x.1) rfl;have u1:=aj kJ.out 1 (.string x.2.1) rfl;have u2:=aj kJ.out 2 (.string x.2.2.name) rfl;have u3:=aj kJ.out 3 (.string x.2.2.sort) rfl;have u4:=aj kJ.out 4 (.slice xa x.2.2.kids.length xc) rfl;have rH:=ah (fun W=>mW x.2.2.name x.2.2.sort xa x.2.2.kids.length xc W);have s1:=lJ x.2.2.sort x.2.1;have s2:=lJ x.2.2.name x.1;obtain⟨d0,hd0⟩: ∃d,decide (x.2.2.sort=au)=d:=⟨_,rfl⟩
    obtain⟨d1,hd1⟩: ∃d,decide (x.2.2.sort=x.2.1)=d:=⟨_,rfl⟩
    obtain⟨d2,hd2⟩: ∃d,decide (x.2.2.name=x.1)=d:=⟨_,rfl⟩
    rw[hd0] at rH ni;rw[hd1] at s1 ni;rw[hd2] at s2 ni;clear hd0 hd1 hd2
    go_wp2_with fail
    refine(rH.out _).mono ?_;rintro e w9 ⟨rfl,jd⟩;have H9:=ah (H8.out.trans jd);have lK:=ah (jd.heap kJ.out (fun h=>h));clear jd rH u0 u1 u2 u3 u4;have u0:=aj lK.out 0 (.string x.1) rfl;have u1:=aj lK.out 1 (.string x.2.1) rfl;have u2:=aj lK.out 2 (.string x.2.2.name) rfl;have u3:=aj lK.out 3 (.string x.2.2.sort) rfl;have u4:=aj lK.out 4 (.slice xa x.2.2.kids.length xc) rfl;cases d0
    rotate_left
    .have qK:=ah (Aa.out (by rw[ni.out];simp))
     go_wp2_with fail
     go_roundg (B.length- (0+1))
     case measure=>omega
     case rel=>exact⟨0+1,by go_num,rfl,by omega,qK,H9⟩
    cases d1
    .have HV:=ah (qh.out (by rw[ni.out];simp));have H8:=H9
     go_wp2_with fail
     all_goals go_ret
     all_goals (rw[HV.out];exact⟨rfl,H8.out⟩)
    cases d2
    .have qK:=ah (Aa.out (by rw[ni.out];simp))
     go_wp2_with fail
     go_roundg (B.length- (0+1))
     case measure=>omega
     case rel=>exact⟨0+1,by go_num,rfl,by omega,qK,H9⟩
    have HV:=ah (qh.out (by rw[ni.out];simp));have H8:=H9
    go_wp2_with fail
    all_goals go_ret
    all_goals (rw[HV.out];exact⟨rfl,H8.out⟩)
   .have zk:(0:Int)< (k:Int):=by omega
    have zk':decide ((0:Int)< (k:Int))=true:=dT zk;have zk2:(0:Int)<=(k:Int)-1:=by omega
    have zk3:(k:Int)-1< (B.length:Int):=by omega
    obtain⟨m,rfl⟩: ∃m,k=m+1:=⟨k-1,by omega⟩
    obtain⟨y,hy,hyc⟩:=aiI.out (by omega);rw[Nat.add_sub_cancel] at hyc hy;have zk4:((m+1:Nat):Int)-1=(m:Int):=by omega
    have y0:=fun X:XW w4=>X.ext.cell (xP.out.cell hyc (fun h=>h)) (fun h=>h);have hgq:=N7 y x.1;have ni:Hid (oU aJ B (m+1)=(true&&true&&blt y x.1&&wf aJ x.2.2&&(decide (x.2.2.sort=au)||(decide (x.2.2.sort=x.2.1)&&!decide (x.2.2.name=x.1))))):=ah (by rw[pO.out,<-hy];simp);clear pO;obtain⟨g1,hg1⟩: ∃b,blt y x.1=b:=⟨_,rfl⟩
    rw[hg1] at hgq ni;clear hg1 hy hyc h0;cases g1
    .have HV:=ah (qh.out (by rw[ni.out];simp))
     go_wp2_with fail
     refine dw w4 (by assumption) (by kernel_rfl) (by kernel_rfl) ?_
     repeat (first|go_big_quiet_skip|(go_big_quiet_want;go_big_quiet_op;first|go_big_quiet_on|(apply Exists.intro;refine⟨fun x=>?_,?_⟩;(first|(go_at_call 79;with_reducible exact XW.call (nG.out x.val x.ext))|(go_at_call 79;with_reducible exact XW.call (jV.out x.val x.ext))|(go_at_call 78;exact XW.call (uG.out x.val x.ext)));go_big_quiet_on)))
     refine wpQuiet_nil ?_;rintro w8 ⟨⟨_,gu⟩,rfl⟩
     try dsimp only
     have H8:=ah (bW.out.trans gu)
     go_wp2_with fail
     all_goals go_ret
     all_goals (rw[HV.out];exact⟨rfl,H8.out⟩)
    obtain⟨f,hf⟩: ∃f,wf aJ x.2.2=f:=⟨_,rfl⟩
    rw[hf] at uG ni;clear hf;cases f
    .have HV:=ah (qh.out (by rw[ni.out];simp))
     go_wp2_with fail
     refine dw w4 (by assumption) (by kernel_rfl) (by kernel_rfl) ?_
     repeat (first|go_big_quiet_skip|(go_big_quiet_want;go_big_quiet_op;first|go_big_quiet_on|(apply Exists.intro;refine⟨fun x=>?_,?_⟩;(first|(go_at_call 79;with_reducible exact XW.call (nG.out x.val x.ext))|(go_at_call 79;with_reducible exact XW.call (jV.out x.val x.ext))|(go_at_call 78;exact XW.call (uG.out x.val x.ext)));go_big_quiet_on)))
     refine wpQuiet_nil ?_;rintro w8 ⟨⟨_,gu⟩,rfl⟩
     try dsimp only
     have H8:=ah (bW.out.trans gu)
     go_wp2_with fail
     all_goals go_ret
     all_goals (rw[HV.out];exact⟨rfl,H8.out⟩)
    go_wp2_with fail
    refine dw w4 (by assumption) (by kernel_rfl) (by kernel_rfl) ?_
    repeat (first|go_big_quiet_skip|(go_big_quiet_want;go_big_quiet_op;first|go_big_quiet_on|(apply Exists.intro;refine⟨fun x=>?_,?_⟩;(first|(go_at_call 79;with_reducible exact XW.call (nG.out x.val x.ext))|(go_at_call 79;with_reducible exact XW.call (jV.out x.val x.ext))|(go_at_call 78;exact XW.call (uG.out x.val x.ext)));go_big_quiet_on)))
    refine wpQuiet_nil ?_;rintro w8 ⟨⟨_,gu⟩,rfl⟩
    try dsimp only
    have H8:=ah (bW.out.trans gu);have kJ:=ah (gu.heap HB4.out (fun h=>h));clear uG nG jV HB4 bW;clear y0 hgq;clear OC OD OE xp3 xp4;have u0:=aj kJ.out 0 (.string x.1) rfl;have u1:=aj kJ.out 1 (.string x.2.1) rfl;have u2:=aj kJ.out 2 (.string x.2.2.name) rfl;have u3:=aj kJ.out 3 (.string x.2.2.sort) rfl;have u4:=aj kJ.out 4 (.slice xa x.2.2.kids.length xc) rfl;have rH:=ah (fun W=>mW x.2.2.name x.2.2.sort xa x.2.2.kids.length xc W);have s1:=lJ x.2.2.sort x.2.1;have s2:=lJ x.2.2.name x.1;obtain⟨d0,hd0⟩: ∃d,decide (x.2.2.sort=au)=d:=⟨_,rfl⟩
    obtain⟨d1,hd1⟩: ∃d,decide (x.2.2.sort=x.2.1)=d:=⟨_,rfl⟩
    obtain⟨d2,hd2⟩: ∃d,decide (x.2.2.name=x.1)=d:=⟨_,rfl⟩
    rw[hd0] at rH ni;rw[hd1] at s1 ni;rw[hd2] at s2 ni;clear hd0 hd1 hd2
    go_wp2_with fail
    refine(rH.out _).mono ?_;rintro e w9 ⟨rfl,jd⟩;have H9:=ah (H8.out.trans jd);have lK:=ah (jd.heap kJ.out (fun h=>h));clear jd rH u0 u1 u2 u3 u4;have u0:=aj lK.out 0 (.string x.1) rfl;have u1:=aj lK.out 1 (.string x.2.1) rfl;have u2:=aj lK.out 2 (.string x.2.2.name) rfl;have u3:=aj lK.out 3 (.string x.2.2.sort) rfl;have u4:=aj lK.out 4 (.slice xa x.2.2.kids.length xc) rfl;cases d0
    rotate_left
    .have qK:=ah (Aa.out (by rw[ni.out];simp))
     go_wp2_with fail
     go_roundg (B.length- ((m+1)+1))
     case measure=>omega
     case rel=>exact⟨(m+1)+1,by go_num,rfl,by omega,qK,H9⟩
    cases d1
    .have HV:=ah (qh.out (by rw[ni.out];simp));have H8:=H9
     go_wp2_with fail
     all_goals go_ret
     all_goals (rw[HV.out];exact⟨rfl,H8.out⟩)
    cases d2
    .have qK:=ah (Aa.out (by rw[ni.out];simp))
     go_wp2_with fail
     go_roundg (B.length- ((m+1)+1))
     case measure=>omega
     case rel=>exact⟨(m+1)+1,by go_num,rfl,by omega,qK,H9⟩
    have HV:=ah (qh.out (by rw[ni.out];simp));have H8:=H9
    go_wp2_with fail
    all_goals go_ret
    all_goals (rw[HV.out];exact⟨rfl,H8.out⟩)
  .obtain rfl:k=B.length:=by omega
   have z2:decide ((B.length:Int)< (B.length:Int))=false:=dF (by omega);have HV:Hid (V=true):=ah (by rw[HVV.out];exact Zx (by omega) HC.out);have H8:=HE
   go_wp2_with fail
   all_goals go_ret
   all_goals (rw[HV.out];exact⟨rfl,H8.out⟩)
theorem wO (L:List Tm) (k:Nat) (h:k<L.length):depths (L.take (k+1))=max (depths (L.take k)) (tg L k).depth:=by
 have:L.take (k+1)=L.take k++[tg L k]:=by
  rw[List.take_add_one]
  congr 1
  unfold tg;rw[List.getD_eq_getElem?_getD,List.getElem?_eq_getElem h];rfl
 rw[this,DF];simp[depths]
theorem DI: ∀t:Tm,t.depth<=t.size:=by
 refine Tm.ind (fun n s L ih=>?_);rw[kE,size_eq];have: ∀M:List Tm,(∀x∈M,x.depth<=x.size)->depths M<=sizes M:=by
  intro M
  induction M with
  |nil=>intro _;simp[depths]
  |cons x M ih=>
   intro h;have h1:=h x (List.mem_cons_self ..);have h2:=ih (fun y hy=>h y (List.mem_cons_of_mem _ hy));simp only[depths,sizes];omega
 have:=this L ih;simp only[Tm.kids];omega
theorem zI (M:List Tm):depths M<=sizes M:=by
 have:=DI (.mk au au M);rw[kE,size_eq] at this;simp only[Tm.kids] at this;omega
theorem Gp: ∀(t:Tm) (v:Value) (S:Nat->Prop) (w:World),bQ S w t v->t.size<=1000000->
  Calls Tryz.prog 108 #[v] w fun e w'=>e= .returned (.int .i64 (t.size:Nat))/\Ext w w':=by
 refine Tm.ind (fun n s L ih=>?_);intro v S w hT hsz;obtain⟨a,cap,rfl,hT⟩:=hT;dsimp only[tV,Tm.name,Tm.sort,Tm.kids] at hT⊢;have dH:=ah hT;have HIH:=ah ih;have fJ:sizes L+1<=1000000:=by rw[size_eq] at hsz;simp only[Tm.kids] at hsz;omega
 have HSL:=ah fJ;have j_:L.length<=1000000:=by have h1:=bG L;omega
 have HZ:=ah ((uR w).alloc (.cells #[.string n,.string s,.slice a L.length cap] 24));have HB:=ah (ay w (.cells #[.string n,.string s,.slice a L.length cap] 24));clear ih hT hsz fJ;obtain⟨Z,jY⟩: ∃Z,(Tm.mk n s L).size=Z:=⟨_,rfl⟩
 rw[jY];have HV:Hid (Z=sizes L+1):=ah (by rw[<-jY,size_eq];rfl);clear jY
 go_enter Tryz.func108,Tryz.ntmps108
 go_wp2_with fail
 generalize w.alloc (.cells #[.string n,.string s,.slice a L.length cap] 24)=w1 at*
 go_loopg [3,4] L.length (fun gk nv iv wr=> ∃k:Nat,nv= .int .i64 ((sizes (L.take k)+1:Nat):Int)/\iv= .int .i64 (k:Int)/\gk=L.length-k/\k<=L.length/\Hid (Ext w1 wr))
 case atStart=>exact⟨0,rfl,rfl,rfl,Nat.zero_le _,ah (aC.refl _ _)⟩
 case round=>
  obtain⟨k,rfl,rfl,rfl,hk,HE⟩:=hrel;have hst:=fF L k;have jL:=ah (HE.out.heap HB.out (fun h=>h));obtain⟨b0,b1,b2⟩:=ak jL.out;by_cases hlt:k<L.length
  .obtain ⟨g,off,hga,_,hat⟩:=(dH.out.ext (HZ.out.trans HE.out)).at_ (by omega);subst hga;obtain⟨xa,xc,q0,q1,q2,aW⟩:=hat k hlt;rw[<-Nat.add_assoc] at q1 q2;obtain⟨z0,z1,z2,z2'⟩:=bZ hlt;have bf:=ah (HIH.out (tg L k) (bY L k hlt) _ S wr ⟨xa,xc,rfl,aW⟩ (by have h1:=HSL.out;have h2:=gq (bY L k hlt);omega));dsimp only[tV] at bf;have hsx:=jy L k hlt;have hsl2:=fF L (k+1);obtain⟨N,hN⟩: ∃N,sizes (L.take k)=N:=⟨_,rfl⟩
   obtain⟨x,hx⟩: ∃x,tg L k=x:=⟨_,rfl⟩
   rw[hx] at q0 q1 q2 bf hsx;rw[hN] at hsx hst⊢;have jf:=ah hsx;have hsb:=HSL.out;have z5:((N+1:Nat):Int)+(x.size:Int)=((N+x.size+1:Nat):Int):=by omega
   have z6:(N+x.size+1:Nat)<=1000000:=by omega
   have HN:=ah hN;clear hat aW hx hsx hst hsl2 hsb hN
   go_wp2_with fail
   refine bf.out.mono ?_;rintro e w4 ⟨rfl,hw4⟩;have bW:=ah (HE.out.trans hw4);clear hw4 bf b0 b1 b2 q0 q1 q2
   go_wp2_with fail
   go_roundg (L.length- (k+1))
   case measure=>omega
   case rel=>exact⟨k+1,by rw[jf.out];go_num,by go_num,rfl,by omega,bW⟩
  .obtain rfl:k=L.length:=by omega
   have z2:decide ((L.length:Int)< (L.length:Int))=false:=dF (by omega);rw[List.take_length,<-HV.out]
   go_wp2_with fail
   go_ret;exact⟨rfl,(HZ.out.trans HE.out)⟩
theorem Zz: ∀(t:Tm) (v:Value) (S:Nat->Prop) (w:World),bQ S w t v->t.size<=1000000->
  Calls Tryz.prog 155 #[v] w fun e w'=>e= .returned (.int .i64 (t.depth:Nat))/\Ext w w':=by
 refine Tm.ind (fun n s L ih=>?_);intro v S w hT hsz;obtain⟨a,cap,rfl,hT⟩:=hT;dsimp only[tV,Tm.name,Tm.sort,Tm.kids] at hT⊢;have dH:=ah hT;have HIH:=ah ih;have fJ:sizes L+1<=1000000:=by rw[size_eq] at hsz;simp only[Tm.kids] at hsz;omega
 have HSL:=ah fJ;have j_:L.length<=1000000:=by have h1:=bG L;omega
 have HZ:=ah ((uR w).alloc (.cells #[.string n,.string s,.slice a L.length cap] 24));have HB:=ah (ay w (.cells #[.string n,.string s,.slice a L.length cap] 24));clear ih hT hsz fJ;obtain⟨Z,jY⟩: ∃Z,(Tm.mk n s L).depth=Z:=⟨_,rfl⟩
 rw[jY];have HV:Hid (Z=depths L+1):=ah (by rw[<-jY,kE];rfl);clear jY
 go_enter Tryz.func155,Tryz.ntmps155
 go_wp2_with fail
 generalize w.alloc (.cells #[.string n,.string s,.slice a L.length cap] 24)=w1 at*
 go_loopg [3,4] L.length (fun gk nv iv wr=> ∃k:Nat,nv= .int .i64 ((depths (L.take k):Nat):Int)/\iv= .int .i64 (k:Int)/\gk=L.length-k/\k<=L.length/\Hid (Ext w1 wr))
 case atStart=>exact⟨0,rfl,rfl,rfl,Nat.zero_le _,ah (aC.refl _ _)⟩
 case round=>
  obtain⟨k,rfl,rfl,rfl,hk,HE⟩:=hrel;have hst:=Nat.le_trans (zI _) (fF L k);have jL:=ah (HE.out.heap HB.out (fun h=>h));obtain⟨b0,b1,b2⟩:=ak jL.out;by_cases hlt:k<L.length
  .obtain ⟨g,off,hga,_,hat⟩:=(dH.out.ext (HZ.out.trans HE.out)).at_ (by omega);subst hga;obtain⟨xa,xc,q0,q1,q2,aW⟩:=hat k hlt;rw[<-Nat.add_assoc] at q1 q2;obtain⟨z0,z1,z2,z2'⟩:=bZ hlt;have bf:=ah (HIH.out (tg L k) (bY L k hlt) _ S wr ⟨xa,xc,rfl,aW⟩ (by have h1:=HSL.out;have h2:=gq (bY L k hlt);omega));dsimp only[tV] at bf;have hsx:=wO L k hlt;obtain⟨N,hN⟩: ∃N,depths (L.take k)=N:=⟨_,rfl⟩
   obtain⟨x,hx⟩: ∃x,tg L k=x:=⟨_,rfl⟩
   rw[hx] at q0 q1 q2 bf hsx;rw[hN] at hsx hst⊢;have HN:=ah hN;by_cases hc:N<x.depth
   .have z5:decide ((N:Int)< (x.depth:Int))=true:=dT (by omega);have z5':decide (N<x.depth)=true:=dT hc;rw[Nat.max_eq_right (by omega)] at hsx;have jf:=ah hsx;clear hat aW hx hsx hst hN hc
    go_wp2_with fail
    refine bf.out.mono ?_;rintro e w4 ⟨rfl,hw4⟩;have bW:=ah (HE.out.trans hw4);clear hw4 bf b0 b1 b2 q0 q1 q2
    go_wp2_with fail
    go_roundg (L.length- (k+1))
    case measure=>omega
    case rel=>exact⟨k+1,by rw[jf.out],by go_num,rfl,by omega,bW⟩
   .have z5:decide ((N:Int)< (x.depth:Int))=false:=dF (by omega);have z5':decide (N<x.depth)=false:=dF hc;rw[Nat.max_eq_left (by omega)] at hsx;have jf:=ah hsx;clear hat aW hx hsx hst hN hc
    go_wp2_with fail
    refine bf.out.mono ?_;rintro e w4 ⟨rfl,hw4⟩;have bW:=ah (HE.out.trans hw4);clear hw4 bf b0 b1 b2 q0 q1 q2
    go_wp2_with fail
    go_roundg (L.length- (k+1))
    case measure=>omega
    case rel=>exact⟨k+1,by rw[jf.out],by go_num,rfl,by omega,bW⟩
  .obtain rfl:k=L.length:=by omega
   have z2:decide ((L.length:Int)< (L.length:Int))=false:=dF (by omega);have hdb:=Nat.le_trans (zI L) (Nat.le_of_succ_le HSL.out);have hv:=HV.out;rw[List.take_length];obtain⟨D,hD⟩: ∃D,depths L=D:=⟨_,rfl⟩
   rw[hD] at hdb hv⊢;subst hv;clear hD
   go_wp2_with fail
   go_ret;exact⟨by first|rfl|go_num,(HZ.out.trans HE.out)⟩
theorem ac7 (t:Tm) (v:Value) (w:World) (htab:dN w) (hR:bQ (fun k=>k<w.heap.size) w t v) (hsz:(t.size:Int)<=1000000000000):Calls Tryz.prog 154 #[v] w fun e w'=>e= .returned (.int .i64 (Gz t:Nat))/\Ext w w':=by
 have HR:=ah hR;obtain⟨a,cap,rfl,hT⟩:=hR;dsimp only[tV];have HZ:=ah ((uR w).alloc (tO t a cap));have hb:=ay w (tO t a cap);have HF:=ah (fun W (hW:Ext w W)=>WL t _ W (aS htab hW) ((HR.out.ext hW).weaken (fun k hk=>aF hk hW.size)) hsz);dsimp only[tV] at HF;obtain⟨c0,c1,c2⟩:=ak hb;clear hT hb;generalize xJ t=X at*;generalize Gz t=Y at*
 go_enter Tryz.func154,Tryz.ntmps154
 go_wp2_with fail
 refine(HF.out _ HZ.out).mono ?_;rintro e w4 ⟨rfl,hw4⟩;have H4:=ah (HZ.out.ext hw4);clear hw4 c0 c1 c2
 go_wp2_with fail
 go_ret;exact⟨rfl,H4.out⟩
theorem Cb {P:Program} {ops:Array Oper} {rest:List Oper} {o:Oper} {a:Act} {w w':World} {Q:Exit->Act->World->Prop} {v:Value} (hgd:o.guard=none)
  (hr:(execOp a.eval o).run P w= .ok (.value v) w') (h:wpList P ops Q rest (a.put o.dst v) w'):wpList P ops Q (o::rest) a w:=
 wpList_plain hgd fun _ hK=>by
  unfold Oper.wp;rw[hr];exact hK _ _ h
theorem yT {Bs:List Bd} {n s:By} {T:Tm} (h:bJ Bs n=some T):gG Bs n s=T:=by unfold gG;rw[h];rfl
theorem Ip {Bs:List Bd} {n s:By} (h:bJ Bs n=none):gG Bs n s=vr n s:=by unfold gG;rw[h];rfl
theorem Qd (Bs:List Bd) (vB:Value) (bs:Nat) (n s:By) (L:List Tm) (a:Option Addr) (cap:Nat) (R S T:Nat->Prop) (w:World) (hL:L=[]) (hT:aI T w L (.slice a L.length cap)) (hB:w.heap[bs]?=some (.cells #[vB] 27 (0,0))) (h:iM R S w vB Bs) (hS: ∀k,S k->k<w.heap.size) (JB: ∀k,T k->k<w.heap.size) (ha:AscK (Prod.fst:Bd->By) Bs) (hl:Bs.length<=1000000):
  Calls Tryz.prog 151 #[.agg #[.string n,.string s,.slice a L.length cap],.pointer (some ⟨bs,0,none⟩)] w fun e w'=> ∃ra rc,e= .returned (tV (gG Bs n s) (.slice ra (gG Bs n s).kids.length rc))/\aI (fun k=>k<w.heap.size) w' (gG Bs n s).kids (.slice ra (gG Bs n s).kids.length rc)/\Ext w w':=by
 obtain⟨Q,hQ⟩: ∃Q,gG Bs n s=Q:=⟨_,rfl⟩
 rw[hQ];have HQ:=ah hQ;clear hQ;have hbl:bs<w.heap.size:=(Array.getElem?_eq_some_iff.1 hB).1;have hZ:=((uR w).alloc (.cells #[.string n,.string s,.slice a L.length cap] 24)).alloc zO;have HB2:=ah (aB (ay w (.cells #[.string n,.string s,.slice a L.length cap] 24)) zO);have HB3:=ah (alloc_at (w.alloc (.cells #[.string n,.string s,.slice a L.length cap] 24)) zO (n:=w.heap.size+1) (by simp));have MX:=ah (hZ.heap hB (fun h=>h));have HH:=ah h;have dH:=ah (hT.weaken JB);have I8:=ah hL;have iE:=ah hS;have HAS:=ah ha;have HZ:=ah hZ;have XJ:=ah (fun W (hW:Ext w W)=>abv Bs vB n R S W (h.ext hW) ha hl);obtain⟨ba,bc,rfl⟩:=h.shape;obtain⟨x0,x1,x2⟩:=ak HB2.out;have y0:=aj MX.out 0 (.slice ba Bs.length bc) rfl;obtain⟨F,hF⟩: ∃F,(bJ Bs n).isSome=F:=⟨_,rfl⟩
 have HF:=ah hF;rw[hF] at XJ;clear h hB hT hL hS JB ha hZ hF
 go_enter Tryz.func151,Tryz.ntmps151
 go_wp2_with fail
 generalize ((w.alloc (.cells #[.string n,.string s,.slice a L.length cap] 24)).alloc zO)=w1 at*;refine(XJ.out _ HZ.out).mono ?_;rintro e w4 ⟨rfl,hw4⟩;have bW:=ah (HZ.out.trans hw4);have gV:=ah (hw4.heap HB2.out (fun h=>h));have ru:=ah (hw4.heap HB3.out (fun h=>h));have alk:=ah (hw4.heap MX.out (fun h=>h));have y0:=aj alk.out 0 (.slice ba Bs.length bc) rfl;have f2:=fun i=>aA ru.out i;obtain⟨d0,d1,d2⟩:=ak ru.out;obtain⟨x0,x1,x2⟩:=ak gV.out;clear hw4 XJ;cases F with
 |true=>
  obtain⟨hlt,hbg,_⟩:=MW (n:=n) HAS.out HF.out;have hq:Q=(Go.Hw.bg Bs (ng Bs n)).2.2:=by rw[<-HQ.out];exact yT hbg
  obtain⟨g,off,hga,_,hat⟩:=(HH.out.ext bW.out).at_ (by omega);subst hga;obtain⟨ra,rc,p0,p1,p2,p3,p4,aW⟩:=hat _ hlt;have HK:=ah (aW.weaken iE.out);obtain⟨m,hm⟩: ∃m,ng Bs n=m:=⟨_,rfl⟩
  rw[hm] at p0 p1 p2 p3 p4 hlt HK hq
  try rw[hm]
  have z0:(0:Int)<=(m:Int):=by omega
  have z1:(m:Int)< (Bs.length:Int):=by omega
  obtain⟨x,hx⟩: ∃x,Go.Hw.bg Bs m=x:=⟨_,rfl⟩
  rw[hx] at p0 p1 p2 p3 p4 HK hq;obtain⟨x1,x2,q⟩:=x;simp only at p0 p1 p2 p3 p4 HK hq;subst hq;clear hat aW hbg hx hm p0 p1 HQ
  go_wp2_with fail
  have hr3:=aN ru.out (.string Q.name) (.string Q.sort) (.slice ra Q.kids.length rc);have hu:=aK w4 (w.heap.size+1) (.string Q.name) (.string Q.sort) (.slice ra Q.kids.length rc);obtain⟨e0,e1,e2⟩:=ak hr3;refine bodyPost_ret (v:= .agg #[.string Q.name,.string Q.sort,.slice ra Q.kids.length rc]) (by simp[results,Tryz.results151,go_sem,e0,e1,e2]) rfl ⟨ra,rc,rfl,HK.out.kept hu (fun j hj e=>by omega),bW.out.trans' hu (fun j hj e=>by omega)⟩
 |false=>
  have hn:bJ Bs n=none:=by have:=HF.out;cases hb:bJ Bs n with
   |none=>rfl
   |some T=>rw[hb] at this;cases this
  obtain rfl:Q=vr n s:=by rw[<-HQ.out];exact Ip hn
  have HK:=ah (dH.out.ext bW.out);have hll:=I8.out;subst hll;clear hn HQ
  go_wp2_with fail
  have hr3:=aN ru.out (.string n) (.string s) (.slice a 0 cap);have hu:=aK w4 (w.heap.size+1) (.string n) (.string s) (.slice a 0 cap);obtain⟨e0,e1,e2⟩:=ak hr3;refine bodyPost_ret (v:= .agg #[.string n,.string s,.slice a 0 cap]) (by simp[results,Tryz.results151,go_sem,e0,e1,e2]) rfl ⟨a,cap,rfl,HK.out.kept hu (fun j hj e=>by omega),bW.out.trans' hu (fun j hj e=>by omega)⟩
theorem ac8 (Bs:List Bd) (vB:Value) (bs vb:Nat) (n s:By) (L:List Tm) (a:Option Addr) (cap:Nat) (R S T:Nat->Prop) (w:World) (htab:dN w) (hL:L=[]) (hT:aI T w L (.slice a L.length cap)) (hB:w.heap[bs]?=some (.cells #[vB] 27 (0,0))) (hV:w.heap[vb]?=some (.cells #[.func (.func 151) #[] #[.pointer (some ⟨bs,0,none⟩)]] 90 (0,0))) (h:iM R S w vB Bs) (hS: ∀k,S k->k<w.heap.size) (JB: ∀k,T k->k<w.heap.size) (ha:AscK (Prod.fst:Bd->By) Bs) (hl:Bs.length<=1000000) (hw:wf aJ (gG Bs n s)=true):
  Calls Tryz.prog 153 #[.agg #[.string n,.string s,.slice a L.length cap],.pointer (some ⟨vb,0,none⟩)] w fun e w'=>e= .returned (.tuple #[.int .i64 ((gG Bs n s).size:Nat),.int .i64 ((gG Bs n s).depth:Nat)])/\Ext w w':=by
 have hE:=(uR w).alloc (.cells #[.string n,.string s,.slice a L.length cap] 24);have HE:=ah hE;have HB2:=ah (ay w (.cells #[.string n,.string s,.slice a L.length cap] 24));have XK:=ah (Qd Bs vB bs n s L a cap R S T (w.alloc (.cells #[.string n,.string s,.slice a L.length cap] 24)) hL (hT.ext hE) (hE.heap hB (fun h=>h)) (h.ext hE) (fun k hk=>aF (hS k hk) hE.size) (fun k hk=>aF (JB k hk) hE.size) ha hl);have y0:=aj (hE.heap hV (fun h=>h)) 0 (.func (.func 151) #[] #[.pointer (some ⟨bs,0,none⟩)]) rfl;have alm:=qG hw;have hsf:xJ (gG Bs n s)=(gG Bs n s).size:=by unfold xJ;rw[if_pos hw]
 have hdf:Gz (gG Bs n s)=(gG Bs n s).depth:=by unfold Gz;rw[if_pos hw]
 have bU:=ah (fun v W h1 h2=>Oz (gG Bs n s) v W h1 h2 (by omega));have HDP:=ah (fun v W h1 h2=>ac7 (gG Bs n s) v W h1 h2 (by omega));rw[hsf] at bU;rw[hdf] at HDP;have HTAB:=ah htab;obtain⟨x0,x1,x2⟩:=ak HB2.out;have heg: ∀args W,(callFunc 151 args).run Tryz.prog W= .ok (.enter 151 args) W:=enters_of Tryz.func151 (by kernel_rfl) rfl;obtain⟨q,hq⟩: ∃q,gG Bs n s=q:=⟨_,rfl⟩
 rw[hq] at XK bU HDP⊢;clear hE htab hL hT hB hV h hS JB ha hw alm hsf hdf hq
 go_enter Tryz.func153,Tryz.ntmps153
 go_wp2_with fail
 generalize w.alloc (.cells #[.string n,.string s,.slice a L.length cap] 24)=w1 at*;refine XK.out.mono ?_;rintro e w4 ⟨ra,rc,rfl,hk,hw4⟩;have uo:=hw4.alloc (tO q ra rc);have dA:=ah (HE.out.trans uo);have fC:=ah (ay w4 (tO q ra rc));have HK:=ah (hk.ext ((uR w4).alloc (tO q ra rc)));dsimp only[tV];have Vm:=uo.size;clear x0 x1 x2 y0 XK;obtain⟨x0,x1,x2⟩:=ak fC.out;clear hk hw4 uo
 go_wp2_with fail
 generalize hw5:w4.alloc (tO q ra rc)=w5 at*;have vZ:=ah (fun W (hW:Ext w5 W)=>bU.out (tV q (.slice ra q.kids.length rc)) W (aS HTAB.out (dA.out.trans hW)) ⟨ra,rc,rfl,(HK.out.ext hW).weaken (fun k hk=>aF hk (Nat.le_trans Vm hW.size))⟩);have afy:=ah (fun W (hW:Ext w5 W)=>HDP.out (tV q (.slice ra q.kids.length rc)) W (aS HTAB.out (dA.out.trans hW)) ⟨ra,rc,rfl,(HK.out.ext hW).weaken (fun k hk=>aF hk (Nat.le_trans Vm hW.size))⟩);dsimp only[tV] at vZ afy;have Kz:=uR w5;have xx0:=fun X:XW w5=>X.ext.cell x0 (fun h=>h);have xx1:=fun X:XW w5=>X.ext.cell x1 (fun h=>h);have xx2:=fun X:XW w5=>X.ext.cell x2 (fun h=>h);clear x0 x1 x2 bU HDP Vm;refine dw w5 (by assumption) (by kernel_rfl) (by kernel_rfl) ?_
 repeat (first|go_big_quiet_skip|(go_big_quiet_want;go_big_quiet_op;first|go_big_quiet_on|(apply Exists.intro;refine⟨fun x=>?_,?_⟩;(first|(go_at_call 145;exact XW.call (vZ.out x.val x.ext))|(go_at_call 154;exact XW.call (afy.out x.val x.ext)));go_big_quiet_on)))
 refine wpQuiet_nil ?_;rintro w8 ⟨⟨_,gu⟩,rfl⟩
 try dsimp only
 have dG:=ah (dA.out.trans gu)
 go_wp2_with fail
 go_ret2
 exact⟨rfl,dG.out⟩
theorem afz (Bs:List Bd) (vB:Value) (bs vb:Nat) (R S0:Nat->Prop) (w0:World) (HB:Hid (w0.heap[bs]?=some (.cells #[vB] 27 (0,0)))) (HV:Hid (w0.heap[vb]?=some (.cells #[.func (.func 151) #[] #[.pointer (some ⟨bs,0,none⟩)]] 90 (0,0)))) (HBn:Hid (iM R S0 w0 vB Bs)) (EZ:Hid (∀k,S0 k->k<w0.heap.size)) (HAS:Hid (AscK (Prod.fst:Bd->By) Bs)) (lI:Hid (Bs.length<=1000000)) (HTAB:Hid (dN w0)):
  ∀(t:Tm) (v:Value) (S:Nat->Prop) (w:World),Ext w0 w->bQ S w t v->(∀k,S k->k<w.heap.size)->t.size<=100000->vH t->(∀f∈dJ t,wf aJ (gG Bs f.1 f.2)=true)->
  Calls Tryz.prog 152 #[v,.func (.func 153) #[] #[.pointer (some ⟨vb,0,none⟩)]] w fun e w'=>e= .returned (.tuple #[.int .i64 ((min (bI Bs t).size 1001:Nat):Int),.int .i64 ((min (bI Bs t).depth 61:Nat):Int)])/\Ext w w':=by
 refine Tm.ind (fun n s L ih=>?_);intro v S w hw0 hT hS hsz hnp hok;obtain⟨Z,jY⟩: ∃Z,bI Bs (.mk n s L)=Z:=⟨_,rfl⟩
 rw[jY];have jm:=ah jY;clear jY;obtain⟨PS,hPS⟩: ∃P,min Z.size 1001=P:=⟨_,rfl⟩
 obtain⟨PD,hPD⟩: ∃P,min Z.depth 61=P:=⟨_,rfl⟩
 rw[hPS,hPD];have xk:=ah (And.intro hPS hPD);clear hPS hPD;obtain⟨a,cap,rfl,hT⟩:=hT;dsimp only[tV,Tm.name,Tm.sort,Tm.kids] at hT⊢;have dH:=ah hT;have HIH:=ah ih;have iE:=ah hS;have HW0:=ah hw0;have lM:=ah hok;have yR:=ah hnp;have fJ:sizes L+1<=100000:=by rw[size_eq] at hsz;simp only[Tm.kids] at hsz;omega
 have HSL:=ah fJ;have j_:L.length<=100000:=by have h1:=bG L;omega
 have qJ:=ah (fun W=>mW n s a L.length cap W);have HZ:=ah ((uR w).alloc (.cells #[.string n,.string s,.slice a L.length cap] 24));have HB2:=ah (ay w (.cells #[.string n,.string s,.slice a L.length cap] 24));have heg: ∀args W,(callFunc 153 args).run Tryz.prog W= .ok (.enter 153 args) W:=enters_of Tryz.func153 (by kernel_rfl) rfl;obtain⟨x0,x1,x2⟩:=ak HB2.out;clear ih hT hS hsz fJ hw0 hok hnp;by_cases hs0:s=au
 rotate_left
 .rw [dF hs0] at qJ;obtain rfl:Z=gG Bs n s:=by rw[<-jm.out];exact pz _ hs0 L
  have EX:=ah (lM.out (n,s) (m_ hs0 L));have I8:Hid (L=[]):=ah (yR.out (.mk n s L) (jJ _) hs0);have hq1:=(nX.1 EX.out).1;have hq2:=(nX.1 EX.out).2.1;have hp0:=xk.out;rw[Nat.min_eq_left (by simp only at hq1;omega),Nat.min_eq_left (by simp only at hq2;omega)] at hp0;obtain⟨hp1,hp2⟩:=hp0;obtain⟨q,hq⟩: ∃q,gG Bs n s=q:=⟨_,rfl⟩
  have MZ:=ah hq;rw[hq] at hp1 hp2;subst hp1;subst hp2;clear hs0 hq hq1 hq2 xk
  go_enter Tryz.func152,Tryz.ntmps152
  go_wp2_with fail
  generalize w.alloc (.cells #[.string n,.string s,.slice a L.length cap] 24)=w1 at*;refine(qJ.out _).mono ?_;rintro e w3 ⟨rfl,hw3⟩;have aY:=ah (HZ.out.trans hw3);have eH:=ah (hw3.heap HB2.out (fun h=>h));clear hw3 qJ x0 x1 x2;obtain⟨x0,x1,x2⟩:=ak eH.out;have kM:=ah (ac8 Bs vB bs vb n s L a cap R S0 S w3 (aS HTAB.out (HW0.out.trans aY.out)) I8.out (dH.out.ext aY.out) ((HW0.out.trans aY.out).heap HB.out (fun h=>h)) ((HW0.out.trans aY.out).heap HV.out (fun h=>h)) (HBn.out.ext (HW0.out.trans aY.out)) (fun k hk=>aF (EZ.out k hk) (HW0.out.trans aY.out).size) (fun k hk=>aF (iE.out k hk) aY.out.size) HAS.out lI.out EX.out);rw[MZ.out] at kM;clear EX jm
  go_wp2_with fail
  refine kM.out.mono ?_;rintro e w6 ⟨rfl,hw6⟩;have fV:=ah (aY.out.trans hw6);clear hw6 kM x0 x1 x2
  go_wp2_with fail
  go_ret2
  exact⟨rfl,fV.out⟩
 rw[dT hs0] at qJ;obtain rfl:Z= .mk n au (L.map (bI Bs)):=by rw[<-jm.out,hs0];exact tC _ n L
 have PU:Hid (∀x∈L,∀f∈dJ x,wf aJ (gG Bs f.1 f.2)=true):=ah (fun x hx f hf=>lM.out f (by
  rw[hs0,uX];exact List.mem_flatMap.2 ⟨x,hx,hf⟩))
 obtain⟨M,hM⟩: ∃M,L.map (bI Bs)=M:=⟨_,rfl⟩
 have HMM:=ah hM;have En:Hid (PS=min (sizes M+1) 1001):=ah (by rw[<-xk.out.1,size_eq,<-hM];rfl);have HPD:Hid (PD=min (depths M+1) 61):=ah (by rw[<-xk.out.2,kE,<-hM];rfl);have Dq:Hid (M.length=L.length):=ah (by rw[<-hM,List.length_map]);clear hs0 hM
 go_enter Tryz.func152,Tryz.ntmps152
 go_wp2_with fail
 generalize w.alloc (.cells #[.string n,.string s,.slice a L.length cap] 24)=w1 at*;refine(qJ.out _).mono ?_;rintro e w3 ⟨rfl,hw3⟩;have aY:=ah (HZ.out.trans hw3);have eH:=ah (hw3.heap HB2.out (fun h=>h));clear hw3 qJ x0 x1 x2;obtain⟨x0,x1,x2⟩:=ak eH.out
 go_wp2_with fail
 clear x0 x1 x2
 go_loopg [6,7,22] L.length (fun gk nv dv iv wr=> ∃k:Nat,nv= .int .i64 ((min (sizes (M.take k)+1) 1001:Nat):Int)/\dv= .int .i64 ((min (depths (M.take k)) 61:Nat):Int)/\iv= .int .i64 (k:Int)/\gk=L.length-k/\k<=L.length/\Hid (Ext w3 wr))
 case atStart=>exact⟨0,by simp[sizes],by simp[depths],rfl,rfl,Nat.zero_le _,ah (aC.refl _ _)⟩
 case round=>
  obtain⟨k,rfl,rfl,rfl,rfl,hk,HE⟩:=hrel;by_cases hlt:k<L.length
  .obtain ⟨g,off,hga,_,hat⟩:=(dH.out.ext (aY.out.trans HE.out)).at_ (by omega);subst hga;obtain⟨xa,xc,q0,q1,q2,aW⟩:=hat k hlt;rw[<-Nat.add_assoc] at q1 q2;obtain⟨z0,z1,z2,z2'⟩:=bZ hlt;have bf:=ah (fun W (hW:Ext wr W)=>HIH.out (tg L k) (bY L k hlt) _ S W (HW0.out.trans ((aY.out.trans HE.out).trans hW)) ⟨xa,xc,rfl,aW.ext hW⟩ (fun j hj=>aF (iE.out j hj) ((aY.out.trans HE.out).trans hW).size) (by have h1:=HSL.out;have h2:=gq (bY L k hlt);omega) (yR.out.kid (bY L k hlt)) (PU.out _ (bY L k hlt)));dsimp only[tV] at bf;have hsx:=jy M k (by rw[Dq.out];exact hlt);have xR:=wO M k (by rw[Dq.out];exact hlt);have hzx:tg M k=bI Bs (tg L k):=by
    rw[<-HMM.out];unfold tg;rw[List.getD_eq_getElem?_getD,List.getD_eq_getElem?_getD,List.getElem?_map,List.getElem?_eq_getElem hlt];rfl
   rw[hzx] at hsx xR;obtain⟨x,hx⟩: ∃x,tg L k=x:=⟨_,rfl⟩
   rw[hx] at q0 q1 q2 bf hsx xR;obtain⟨XS,TS⟩: ∃X,(bI Bs x).size=X:=⟨_,rfl⟩
   obtain⟨XD,TT⟩: ∃X,(bI Bs x).depth=X:=⟨_,rfl⟩
   rw[TS] at bf hsx;rw[TT] at bf xR;obtain⟨N,hN⟩: ∃N,sizes (M.take k)=N:=⟨_,rfl⟩
   obtain⟨D,hD⟩: ∃D,depths (M.take k)=D:=⟨_,rfl⟩
   rw[hN] at hsx;rw[hD] at xR
   try rw[hN]
   try rw[hD]
   have jf:=ah hsx;have HDX:=ah xR;obtain⟨N1,hN1⟩: ∃X,min (N+1) 1001=X:=⟨_,rfl⟩
   obtain⟨D1,hD1⟩: ∃X,min D 61=X:=⟨_,rfl⟩
   obtain⟨X1,hX1⟩: ∃X,min XS 1001=X:=⟨_,rfl⟩
   obtain⟨E1,hE1⟩: ∃X,min XD 61=X:=⟨_,rfl⟩
   rw[hX1,hE1] at bf
   try rw[hN1]
   try rw[hD1]
   have hb1:N1<=1001:=by omega
   have hb2:X1<=1001:=by omega
   have Jp:=ah (And.intro hN1 hX1);have HDD:=ah (And.intro hD1 hE1);obtain⟨P,hP⟩: ∃P:Int,P=min ((N1:Int)+(X1:Int)) 1001:=⟨_,rfl⟩
   obtain⟨Q,hQ⟩: ∃Q:Int,Q=max (D1:Int) (E1:Int):=⟨_,rfl⟩
   have HP:=ah hP;have HQ:=ah hQ;have z7:IntKind.i64.wrap ((N1:Int)+(X1:Int))=(N1:Int)+(X1:Int):=IntWalk.i64_in _ (by omega);have uo:=ah ((uR wr).alloc (tO x xa xc));have mO:=ay wr (tO x xa xc);obtain⟨b0,b1,b2⟩:=ak mO;clear hat aW hx hsx xR hzx TS TT hN hD hN1 hD1 hX1 hE1 hP hQ mO
   go_wp2_with fail
   refine(bf.out _ uo.out).mono ?_;rintro e w5 ⟨rfl,hw5⟩;have dA:=ah (HE.out.trans (uo.out.trans hw5));clear hw5 bf b0 b1 b2 q0 q1 q2 uo
   go_wp2_with(with_reducible (refine AP (o:=⟨some 35,_,_,_,_,_⟩) ?_))
   refine Stop.go ?_;refine Cb rfl (v:= .int .i64 P) (w':=w5) ?_ ?_
   .go_simp;have:=HP.out;omega
   go_wp2_with(with_reducible (refine AP (o:=⟨some 38,_,_,_,_,_⟩) ?_))
   refine Stop.go ?_;refine Cb rfl (v:= .int .i64 Q) (w':=w5) ?_ ?_
   .go_simp;have:=HQ.out;omega
   go_wp2_with fail
   go_roundg (L.length- (k+1))
   case measure=>omega
   case rel=>exact⟨k+1,by rw[jf.out];have h1:=HP.out;have h2:=Jp.out;congr 1;omega,by rw[HDX.out];have h1:=HQ.out;have h2:=HDD.out;congr 1;omega,by go_num,rfl,by omega,dA⟩
  .obtain rfl:k=L.length:=by omega
   have z2:decide ((L.length:Int)< (L.length:Int))=false:=dF (by omega);have htk:M.take L.length=M:=by rw[<-Dq.out,List.take_length]
   rw[htk];have hps:=En.out;have Xk:=HPD.out;obtain⟨D,hD⟩: ∃D,min (depths M) 61=D:=⟨_,rfl⟩
   obtain⟨N,hN⟩: ∃N,min (sizes M+1) 1001=N:=⟨_,rfl⟩
   rw[hD,hN];obtain⟨Q,hQ⟩: ∃Q:Int,Q=min ((D:Int)+1) 61:=⟨_,rfl⟩
   have HQ:=ah hQ;have Qe:Hid (PS=N):=ah (by omega);have aln:Hid (((PD:Nat):Int)=Q):=ah (by omega);have anT:D<=61:=by omega
   clear hps Xk hQ hD hN htk
   go_wp2_with(with_reducible (refine AP (o:=⟨some 43,_,_,_,_,_⟩) ?_))
   refine Stop.go ?_;refine Cb rfl (v:= .int .i64 Q) (w':=wr) ?_ ?_
   .go_simp;have:=HQ.out;omega
   go_wp2_with fail
   go_ret2
   rw[Qe.out,aln.out];exact⟨rfl,(aY.out.trans HE.out)⟩
end
end Go.Proofs.YtlkcjmaiahnodaaGreatDoor
