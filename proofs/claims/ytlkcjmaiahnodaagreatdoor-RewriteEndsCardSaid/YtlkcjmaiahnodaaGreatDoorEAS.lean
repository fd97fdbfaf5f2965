/- The texts Y2 Y3 Y4 I83 Y5 N84 N64 N65, one behind the other. -/
import Derived.Test.YtlkcjmaiahnodaaGreatDoorEAR
import Derived.Test.YtlkcjmaiahnodaaGreatDoorEAE
import Derived.Test.YtlkcjmaiahnodaaGreatDoorEAG
import Derived.Test.YtlkcjmaiahnodaaGreatDoorEAF
import Derived.Test.YtlkcjmaiahnodaaGreatDoorEAH
import Derived.Test.YtlkcjmaiahnodaaGreatDoorEAO
import Derived.Test.YtlkcjmaiahnodaaGreatDoorEAP
import Derived.Test.YtlkcjmaiahnodaaGreatDoorEAL
set_option maxRecDepth 100000
set_option maxHeartbeats 8000000
set_option linter.unusedVariables false
set_option linter.unusedSimpArgs false
namespace Go.Proofs.YtlkcjmaiahnodaaGreatDoor
open Go.RowKit Go.Hw Go Tm
theorem FY: ∀(k:Nat) (l:List Dc) (us:List Value),(mf l us).take (k*3)=mf (l.take k) us
 |0,l,us=>by simp[mf]
 |k+1,[],us=>by simp[mf]
 |k+1,d::l,us=>by
  rw[show(k+1)*3=k*3+1+1+1 by omega];simp only[mf,List.take_succ_cons,FY k l us.tail]
theorem adm {l:List Dc} {k i:Nat} (h:i<k):dg (l.take k) i=dg l i:=by
 unfold dg;rw[List.getD_eq_getElem?_getD,List.getElem?_take_of_lt h,<-List.getD_eq_getElem?_getD]
theorem tY.to {S:Nat->Prop} {w:World} {a:Option Addr} {n cap:Nat} {l:List Dc} (h:tY S w (.slice a n cap) l) {k:Nat} (hk:k<=l.length):tY S w (.slice a k cap) (l.take k):=by
 obtain⟨us,h1,h2⟩:=h;have h3:=h1.to rfl k hk;rw[FY] at h3;have hl:(l.take k).length=k:=by rw[List.length_take,Nat.min_eq_left hk]
 refine⟨us,by rw[hl];exact h3,fun i hi=>?_⟩;rw[hl] at hi;rw[adm hi];exact h2 i (by omega)
theorem aao {l:List Dc} {k:Nat} (hk:k<l.length):((l.take k).any fun x=>decide (x.1=(dg l k).1))=!decide (bD l (dg l k).1=k):=by
 rw[Bool.eq_iff_iff,List.any_eq_true,Bool.not_eq_true',decide_eq_false_iff_not];constructor
 .rintro ⟨x,hx,h⟩ e;obtain⟨j,hj,rfl⟩:=List.mem_iff_getElem.1 hx;have hj2:j<k:=by rw[List.length_take] at hj;omega
  have h2:=List.not_of_lt_findIdx (p:=fun d:Dc=>decide (d.1=(dg l k).1)) (xs:=l) (i:=j) (by have:(l.findIdx fun d=>decide (d.1=(dg l k).1))=k:=e;rw[this];exact hj2);rw[List.getElem_take] at h;rw[h] at h2;cases h2
 .intro h;refine Classical.byContradiction fun h2=>h (QI hk (fun j hj e=>h2 ⟨dg l j,?_,dT e⟩) rfl);rw[uX (by omega)];exact List.mem_iff_getElem.2 ⟨j,by rw[List.length_take];omega,by rw[List.getElem_take]⟩
theorem adn (g:Sg) (v:Value) (S:Nat->Prop) (w:World) (hG:u_ S w g v) (htab:bT w) (hl1:g.1.length<=1000000) (hl2:g.2.length<=1000000) (hl3: ∀d∈g.2,d.2.1.length<=1000000):Calls Tryz.prog 123 #[v] w fun e w'=>e= .returned (.bool (h_ ax g))/\Ext w w':=by
 have HG:=ae hG;obtain⟨sa,sc,oa,oc,rfl,hS1,hD⟩:=hG;have fB:=ae htab;have HL3:=ae hl3;have mG:=ae hS1;have HD:=ae hD;have HZ:=ae ((uR w).alloc (.cells #[.slice sa g.1.length sc,.slice oa g.2.length oc] 74));have HB:=ae (ai w (.cells #[.slice sa g.1.length sc,.slice oa g.2.length oc] 74));obtain⟨c0,c1⟩:=aP HB.out;have hsc:g.1.length<=sc:=az.CZ hS1 rfl;have hoc:g.2.length<=oc:=by obtain⟨us,h1,_⟩:=hD;exact az.CZ h1 rfl
 obtain⟨V,hV⟩: ∃V,h_ ax g=V:=⟨_,rfl⟩
 have HVV:=ae hV.symm;rw[hV];clear hS1 hD hV htab hl3;by_cases hb1:40<g.1.length
 .have HV:Hid (V=false):=ae (by rw[HVV.out];unfold h_;rw[dF (by omega)];rfl);have z1:(40:Int)< (g.1.length:Int):=by omega
  have z1':decide ((40:Int)< (g.1.length:Int))=true:=dT z1
  go_enter Tryz.func123,Tryz.ntmps123
  go_wp2_with fail
  all_goals go_ret
  all_goals (rw[HV.out];exact⟨rfl,HZ.out⟩)
 have z1: ¬(40:Int)< (g.1.length:Int):=by omega
 have z1':decide ((40:Int)< (g.1.length:Int))=false:=dF z1;by_cases hb2:100<g.2.length
 .have HV:Hid (V=false):=ae (by rw[HVV.out];unfold h_;rw[dF (p:=g.2.length<=100) (by omega)];simp);have z2:(100:Int)< (g.2.length:Int):=by omega
  have z2':decide ((100:Int)< (g.2.length:Int))=true:=dT z2
  go_enter Tryz.func123,Tryz.ntmps123
  go_wp2_with fail
  all_goals go_ret
  all_goals (rw[HV.out];exact⟨rfl,HZ.out⟩)
 have z2: ¬(100:Int)< (g.2.length:Int):=by omega
 have z2':decide ((100:Int)< (g.2.length:Int))=false:=dF z2;obtain⟨b0,hb0⟩: ∃b0,w.heap.size=b0:=⟨_,rfl⟩
 try rw[hb0] at HB
 go_enter Tryz.func123,Tryz.ntmps123
 go_wp2_with fail
 clear z1 z1' z2 z2' c0 c1;generalize w.alloc (.cells #[.slice sa g.1.length sc,.slice oa g.2.length oc] 74)=w1 at*
 try rw[hb0]
 clear hb0
 go_loopg [21] g.1.length (fun gk iv wr=> ∃k:Nat,iv= .int .i64 (k:Int)/\gk=g.1.length-k/\k<=g.1.length/\Hid (∀j,j<k->ax (g.1.getD j ah)=true/\g.1.getD j ah∉g.1.take j)/\Hid (Ext w1 wr))
 case atStart=>exact⟨0,rfl,rfl,Nat.zero_le _,ae (fun j h=>absurd h (Nat.not_lt_zero _)),ae (aj.refl _ _)⟩
 case round=>
  obtain⟨k,rfl,rfl,hk,HC,HE⟩:=hrel;have lQ:=ae (HE.out.heap HB.out (fun h=>h));obtain⟨c0,c1⟩:=aP lQ.out;by_cases hlt:k<g.1.length
  .have HRk:=ae ((lD.ext mG.out (HZ.out.trans HE.out)).to (k:=k) (by omega));have hcap:k<=sc:=Nat.le_trans hk hsc;obtain⟨gg,off,hga,_,hat⟩:=lD.at_ (lD.ext mG.out (HZ.out.trans HE.out)) (by omega);subst hga;have q0:=hat k hlt;obtain⟨z0,z1,z2,z2'⟩:=bz hlt;have z3:(k:Int)<=(g.1.length:Int):=by omega
   clear hat;obtain⟨x,hx⟩: ∃x,bg g.1 k=x:=⟨_,rfl⟩
   have HX:=ae hx;rw[hx] at q0;clear hx;have um:=ae (uF x wr (aC fB.out (HZ.out.trans HE.out)));have BR:=ae (fun W (hW:Ext wr W)=>Tv (g.1.take k) x _ S W (lD.ext HRk.out hW) (by rw[List.length_take];omega));have htl:(g.1.take k).length=k:=by rw[List.length_take];omega
   have HST:Hid (ax x=false\/x∈g.1.take k->V=false):=ae (fun h=>by rw[HVV.out];exact KD hlt (by rw[show g.1.getD k ah=x from HX.out];exact h));have zN:Hid (ax x=true->x∉g.1.take k->∀j,j<k+1->ax (g.1.getD j ah)=true/\g.1.getD j ah∉g.1.take j):=ae (fun h1 h2 j hj=>by
    rcases Nat.lt_succ_iff_lt_or_eq.1 hj with h5|h5
    .exact HC.out j h5
    .rw [h5,show g.1.getD k ah=x from HX.out];exact⟨h1,h2⟩)
   obtain⟨b1,hb1⟩: ∃b,ax x=b:=⟨_,rfl⟩
   rw[hb1] at um HST zN;obtain⟨b2,hb2⟩: ∃b,decide (x∈g.1.take k)=b:=⟨_,rfl⟩
   rw[hb2] at BR;have HB2:=ae hb2;have HEZ:=ae (HZ.out.trans HE.out);clear hb1 hb2
   go_wp2_with fail
   refine um.out.mono ?_;rintro e w4 ⟨rfl,hw4⟩;have aiI:=ae (BR.out w4 hw4);have H4:=ae (HEZ.out.trans hw4);have wL:=ae (HE.out.trans hw4);have HB4:=ae (hw4.heap lQ.out (fun h=>h));clear hw4 q0 c0 c1 um BR;have c0:=af HB4.out 0 (.slice (some ⟨gg,off,none⟩) g.1.length sc) rfl;cases b1
   .have HV:=ae (HST.out (.inl rfl))
    go_wp2_with fail
    all_goals go_ret
    all_goals (rw[HV.out];exact⟨rfl,H4.out⟩)
   .go_wp2_with fail
    try rw[htl] at aiI
    refine aiI.out.mono ?_;rintro e w5 ⟨rfl,hw5⟩;have H5:=ae (H4.out.trans hw5);have fP:=ae (wL.out.trans hw5);clear hw5 c0;cases b2
    .have HN:=ae (zN.out (by simp) (of_decide_eq_false HB2.out));clear zN HST
     go_wp2_with fail
     go_roundg (g.1.length- (k+1))
     case measure=>omega
     case rel=>exact⟨k+1,by go_num,rfl,by omega,HN,fP⟩
    .have HV:=ae (HST.out (.inr (of_decide_eq_true HB2.out)))
     go_wp2_with fail
     all_goals go_ret
     all_goals (rw[HV.out];exact⟨rfl,H5.out⟩)
  .obtain rfl:k=g.1.length:=by omega
   have z2:decide ((g.1.length:Int)< (g.1.length:Int))=false:=dF (by omega);have yw:=HC;have H1:=ae (HZ.out.trans HE.out);clear HC HE HB
   go_wp2_with fail
   clear z2 c0 c1;obtain⟨wa,lJ⟩: ∃wa,wa=wr:=⟨_,rfl⟩
   have HR0:Hid (Ext wa wr):=ae (by rw[lJ];exact aj.refl _ _);rw[<-lJ] at H1 lQ;clear lJ
   go_loopg [42] g.2.length (fun gk iv wr=> ∃k:Nat,iv= .int .i64 (k:Int)/\gk=g.2.length-k/\k<=g.2.length/\Hid (∀j,j<k->okD ax g j=true)/\Hid (Ext wa wr))
   case atStart=>exact⟨0,rfl,rfl,Nat.zero_le _,ae (fun j h=>absurd h (Nat.not_lt_zero _)),HR0⟩
   case round=>
    clear HR0;obtain⟨k,rfl,rfl,hk,HC,HE⟩:=hrel;have HB2:=ae (HE.out.heap lQ.out (fun h=>h));obtain⟨c0,c1⟩:=aP HB2.out;by_cases hlt:k<g.2.length
    .have HDk:=ae (tY.to (HD.out.ext (H1.out.trans HE.out)) (k:=k) (by omega));have hcap:k<=oc:=Nat.le_trans hk hoc;have htl:(g.2.take k).length=k:=by rw[List.length_take];omega
     have mF:=ae (aao hlt);have hdm:(dg g.2 k).2.1.length<=1000000:=HL3.out _ (by rw[uX hlt];exact List.getElem_mem hlt);obtain⟨gg,off,hga,_,hat⟩:=(HD.out.ext (H1.out.trans HE.out)).at_ (by omega);subst hga;obtain⟨xa,xc,q0,q1,q2,hAr⟩:=hat k hlt;obtain⟨z0,z1,z2,z2'⟩:=bz hlt;have z3:(k:Int)<=(g.2.length:Int):=by omega
     have fK:Hid (okD ax g k=(ax (dg g.2 k).1&&(decide (bD g.2 (dg g.2 k).1=k)&&(decide ((dg g.2 k).2.1.length<=6)&&(decide ((dg g.2 k).2.2∈g.1)&&(dg g.2 k).2.1.all fun s=>decide (s∈g.1)))))):=ae rfl;have qK:Hid (okD ax g k=true->∀j,j<k+1->okD ax g j=true):=ae (fun h j hj=>by
      rcases Nat.lt_succ_iff_lt_or_eq.1 hj with h5|h5
      .exact HC.out j h5
      .rw [h5];exact h)
     have vW:Hid (okD ax g k=false->V=false):=ae (fun h=>by rw[HVV.out];exact Vu hlt h);obtain⟨⟨dn,da,dr⟩,hdd⟩: ∃d,dg g.2 k=d:=⟨_,rfl⟩
     rw[hdd] at q0 q1 q2 fK hAr mF hdm;dsimp only at q0 q1 q2 fK hAr mF hdm;have hQ:=(uR wr).alloc (.cells #[.string dn,.slice xa da.length xc,.string dr] 77);have HQ:=ae (H1.out.trans (HE.out.trans hQ));have HAQ:=ae (az.kept hAr hQ (fun _ _ h=>h));have dR:=ae (HE.out.trans hQ);have jk:=ae (ai wr (.cells #[.string dn,.slice xa da.length xc,.string dr] 77));have nZ:=ae (hQ.heap HB2.out (fun h=>h));have HDQ:=ae (HDk.out.ext hQ);clear hat hdd hAr hQ HC HDk;obtain⟨d0,d1,d2⟩:=ag jk.out;have e0:=af nZ.out 0 (.slice sa g.1.length sc) rfl;have um:=ae (uF dn (wr.alloc (.cells #[.string dn,.slice xa da.length xc,.string dr] 77)) (aC fB.out HQ.out));obtain⟨nd,hnd⟩: ∃nd,wr.heap.size=nd:=⟨_,rfl⟩
     try rw[hnd] at jk d0 d1 d2
     go_wp2_with fail
     clear c0 c1 q0 q1 q2 e0 d0 d1 d2;generalize wr.alloc (.cells #[.string dn,.slice xa da.length xc,.string dr] 77)=w4 at*
     try rw[hnd]
     clear hnd;have H4:=HQ;have GZ:=jk;have Ju:=nZ;obtain⟨c0,c1⟩:=aP Ju.out;obtain⟨d0,d1,d2⟩:=ag GZ.out;refine um.out.mono ?_;rintro e w5 ⟨rfl,hw5⟩;have H5:=ae (H4.out.trans hw5);have fP:=ae hw5;have yV:=ae (hw5.heap Ju.out (fun h=>h));have Jq:=ae (hw5.heap GZ.out (fun h=>h));clear hw5 c0 c1 d0 d1 d2 um;obtain⟨c0,c1⟩:=aP yV.out;obtain⟨d0,d1,d2⟩:=ag Jq.out;obtain⟨b1,hb1⟩: ∃b,ax dn=b:=⟨_,rfl⟩
     rw[hb1] at fK⊢;clear hb1;cases b1
     .have HV:=ae (vW.out (by rw[fK.out];rfl))
      go_wp2_with fail
      all_goals go_ret
      all_goals (rw[HV.out];exact⟨rfl,H5.out⟩)
     by_cases hd6:6<da.length
     .have HV:=ae (vW.out (by rw[fK.out,dF (p:=da.length<=6) (by omega)];simp));have y3:(6:Int)< (da.length:Int):=by omega
      have Vy:decide ((6:Int)< (da.length:Int))=true:=dT y3;clear hd6
      go_wp2_with fail
      all_goals go_ret
      all_goals (rw[HV.out];exact⟨rfl,H5.out⟩)
     have y3: ¬(6:Int)< (da.length:Int):=by omega
     have Vy:decide ((6:Int)< (da.length:Int))=false:=dF y3;have C_:Hid (okD ax g k=(decide (bD g.2 dn=k)&&(decide (dr∈g.1)&&da.all fun s=>decide (s∈g.1)))):=ae (by rw[fK.out,dT (p:=da.length<=6) (by omega)];simp);have Iy:=ae (fun(s:By) W (hW:Ext w5 W)=>ajg g.1 s b0 sa (some ⟨gg,off,none⟩) sc g.2.length oc S W (hW.heap yV.out (fun h=>h)) (lD.ext mG.out (H5.out.trans hW)) hl1);have tu:=ae (Iy.out dr w5 (aj.refl _ _));have dY:=ae (fun W (hW:Ext w5 W)=>aal (fun s=>!decide (s∈g.1)) da _ S b0 W (az.kept HAQ.out (fP.out.trans hW) (fun _ _ h=>h)) hdm (fun s _ W2 hW2=>(Iy.out s W2 (hW.trans hW2))));clear fK hd6 Iy Ju GZ
     go_wp2_with fail
     refine tu.out.mono ?_;rintro e w6 ⟨rfl,hw6⟩;have H6:=ae (H5.out.trans hw6);have zQ:=ae (fP.out.trans hw6);have pI:=ae (dY.out w6 hw6);have Df:=ae (hw6.heap yV.out (fun h=>h));have Jr:=ae (hw6.heap Jq.out (fun h=>h));clear hw6 c0 c1 d0 d1 d2 tu dY y3 Vy yV Jq;obtain⟨c0,c1⟩:=aP Df.out;obtain⟨d0,d1,d2⟩:=ag Jr.out;by_cases hm:dr∈g.1
     case neg=>
      have HV:=ae (vW.out (by rw[C_.out,dF hm];simp));rw[dF hm];clear hm
      go_wp2_with fail
      all_goals go_ret
      all_goals (rw[HV.out];exact⟨rfl,H6.out⟩)
     have F7:Hid (okD ax g k=(decide (bD g.2 dn=k)&&!da.any fun s=>!decide (s∈g.1))):=ae (by
      rw[C_.out,dT hm,Bool.true_and]
      congr 1
      rw[List.any_eq_not_all_not];simp)
     rw[dT hm];clear hm C_
     go_wp2_with fail
     refine pI.out.mono ?_;rintro e w7 ⟨rfl,hw7⟩;have H7:=ae (H6.out.trans hw7);have xK:=ae (zQ.out.trans hw7);have Jt:=ae (hw7.heap Df.out (fun h=>h));have Js:=ae (hw7.heap Jr.out (fun h=>h));clear hw7 c0 c1 d0 d1 d2 pI Df Jr;obtain⟨c0,c1⟩:=aP Jt.out;obtain⟨d0,d1,d2⟩:=ag Js.out;obtain⟨b3,hb3⟩: ∃b,(da.any fun s=>!decide (s∈g.1))=b:=⟨_,rfl⟩
     rw[hb3] at F7⊢;clear hb3;cases b3
     case true=>
      have HV:=ae (vW.out (by rw[F7.out];simp))
      go_wp2_with fail
      all_goals go_ret
      all_goals (rw[HV.out];exact⟨rfl,H7.out⟩)
     have U2:Hid (okD ax g k=decide (bD g.2 dn=k)):=ae (by rw[F7.out];simp);have IU:=ae (aan (fun x=>decide (x.1=dn)) (g.2.take k) _ S nd w7 (HDQ.out.ext xK.out) (by rw[htl];omega) (fun x _ ya yc W hW _=>aiH x dn nd ya yc W (hW.cell d0 (fun h=>h))));rw[mF.out] at IU;clear F7 mF
     go_wp2_with fail
     try rw[htl] at IU
     refine IU.out.mono ?_;rintro e w8 ⟨rfl,hw8⟩;have H8:=ae (H7.out.trans hw8);have Wl:=ae (dR.out.trans (xK.out.trans hw8));clear hw8 c0 c1 d0 d1 d2 IU Jt Js;obtain⟨b4,hb4⟩: ∃b,decide (bD g.2 dn=k)=b:=⟨_,rfl⟩
     rw[hb4] at U2⊢;clear hb4;cases b4
     .have HV:=ae (vW.out U2.out)
      go_wp2_with fail
      all_goals go_ret
      all_goals (rw[HV.out];exact⟨rfl,H8.out⟩)
     .have HN:=ae (qK.out U2.out);clear vW qK U2
      go_wp2_with fail
      go_roundg (g.2.length- (k+1))
      case measure=>omega
      case rel=>exact⟨k+1,by go_num,rfl,by omega,HN,Wl⟩
    .obtain rfl:k=g.2.length:=by omega
     have z2:decide ((g.2.length:Int)< (g.2.length:Int))=false:=dF (by omega);have HV:Hid (V=true):=ae (by rw[HVV.out];exact QK (by omega) (by omega) yw.out HC.out);have H9:=ae (H1.out.trans HE.out)
     go_wp2_with fail
     all_goals go_ret
     all_goals (rw[HV.out];exact⟨rfl,H9.out⟩)
def nU (g:Sg) (s:By):Dc×Bool:=if bD g.2 s<g.2.length then(dg g.2 (bD g.2 s),true) else((ah,[],ah),false)
theorem Ji (g:Sg) (s:By) (v:Value) (S:Nat->Prop) (w:World) (hG:u_ S w g v) (hS: ∀k,S k->k<w.heap.size) (hl:g.2.length<=1000000):
  Calls Tryz.prog 189 #[v,.string s] w fun e w'=> ∃xa xc,e= .returned (.tuple #[.agg #[.string (nU g s).1.1,.slice xa (nU g s).1.2.1.length xc,.string (nU g s).1.2.2],.bool (nU g s).2])/\zB S w' (.slice xa (nU g s).1.2.1.length xc) (nU g s).1.2.1/\Ext w w':=by
 obtain⟨sa,sc,oa,oc,rfl,hS1,hD⟩:=hG;have HD:=ae hD;have BQ:=ae hS;have hZ:=(((uR w).alloc (.cells #[.slice sa g.1.length sc,.slice oa g.2.length oc] 74)).alloc (.cells #[.string s] 9)).alloc (.cells #[.string ⟨#[]⟩,.slice none 0 0,.string ⟨#[]⟩] 77);have HZ:=ae hZ;have HB0:=ae (ak (ak (ai w (.cells #[.slice sa g.1.length sc,.slice oa g.2.length oc] 74)) (.cells #[.string s] 9)) (.cells #[.string ⟨#[]⟩,.slice none 0 0,.string ⟨#[]⟩] 77));have HB1:=ae (ak (alloc_at (w.alloc (.cells #[.slice sa g.1.length sc,.slice oa g.2.length oc] 74)) (.cells #[.string s] 9) (n:=w.heap.size+1) (by simp)) (.cells #[.string ⟨#[]⟩,.slice none 0 0,.string ⟨#[]⟩] 77));have HB2:=ae (alloc_at ((w.alloc (.cells #[.slice sa g.1.length sc,.slice oa g.2.length oc] 74)).alloc (.cells #[.string s] 9)) (.cells #[.string ⟨#[]⟩,.slice none 0 0,.string ⟨#[]⟩] 77) (n:=w.heap.size+2) (by simp));have Cb:Hid (nU g s=if bD g.2 s<g.2.length then(dg g.2 (bD g.2 s),true) else((ah,[],ah),false)):=ae rfl;have a_:=ae (XY (fun d=>decide (d.1=s)) g.2 _ S (w.heap.size+1) (((w.alloc (.cells #[.slice sa g.1.length sc,.slice oa g.2.length oc] 74)).alloc (.cells #[.string s] 9)).alloc (.cells #[.string ⟨#[]⟩,.slice none 0 0,.string ⟨#[]⟩] 77)) (hD.ext hZ) hl (fun x _ ya yc W hW _=>adl x s _ ya yc W (af (hW.heap HB1.out (fun h=>h)) 0 (.string s) rfl)));have c1:=af HB0.out 1 (.slice oa g.2.length oc) rfl;rw[<-aiG] at a_;obtain⟨D,hDv⟩: ∃D,nU g s=D:=⟨_,rfl⟩
 rw[hDv] at Cb⊢;clear hS1 hD hZ hS hDv;by_cases hd:bD g.2 s<g.2.length
 .have hdi:kL g.2 s=(bD g.2 s:Int):=by unfold kL;rw[if_pos hd]
  rw[hdi] at a_;rw[if_pos hd] at Cb;obtain⟨k,hkk⟩: ∃k,bD g.2 s=k:=⟨_,rfl⟩
  rw[hkk] at hd Cb a_;have z0: ¬(k:Int)<0:=by omega
  have z0b:decide ((k:Int)<0)=false:=dF z0;have z0':(0:Int)<=(k:Int):=by omega
  have z1:(k:Int)< (g.2.length:Int):=by omega
  clear hdi hkk HB1
  go_enter Tryz.func189,Tryz.ntmps189
  go_wp2_with fail
  refine a_.out.mono ?_;rintro e w4 ⟨rfl,hw4⟩;have H4:=ae (HZ.out.trans hw4);have JZ:=ae (hw4.heap HB0.out (fun h=>h));have dO:=ae (hw4.heap HB2.out (fun h=>h));obtain⟨gg,off,hga,_,hat⟩:=(HD.out.ext H4.out).at_ (by omega);subst hga;obtain⟨xa,xc,q0,q1,q2,hAr⟩:=hat k hd;have Vx:=ae hAr;have h4s:=hw4.size;clear hw4 c1 a_ hat HB0 HB2 hAr;have c1:=af JZ.out 1 (.slice (some ⟨gg,off,none⟩) g.2.length oc) rfl;have f2:=fun i=>au dO.out i;obtain⟨t0,t1,t2⟩:=ag dO.out;obtain⟨x,hx⟩: ∃x,dg g.2 k=x:=⟨_,rfl⟩
  rw[hx] at q0 q1 q2 Cb Vx;obtain⟨x1,x2,x3⟩:=x;dsimp only at q0 q1 q2 Vx;clear hx
  go_wp2_with fail
  have hr3:=aJ dO.out (.string x1) (.slice xa x2.length xc) (.string x3);have hu:=aI w4 (w.heap.size+2) (.string x1) (.slice xa x2.length xc) (.string x3);obtain⟨e0,e1,e2⟩:=ag hr3;refine bodyPost_ret (v:= .tuple #[.agg #[.string x1,.slice xa x2.length xc,.string x3],.bool true]) (by simp[results,Tryz.results189,go_sem,e0,e1,e2]) rfl ?_;have hue:=H4.out.trans' hu (fun j hj e=>by omega);rw[Cb.out];exact⟨xa,xc,rfl,az.kept Vx.out hu (fun j hj e=>by have:=BQ.out j hj;omega),hue⟩
 .have hdi:kL g.2 s= -1:=by unfold kL;rw[if_neg hd]
  rw[hdi] at a_;rw[if_neg hd] at Cb;clear hdi hd HB1
  go_enter Tryz.func189,Tryz.ntmps189
  go_wp2_with fail
  refine a_.out.mono ?_;rintro e w4 ⟨rfl,hw4⟩;have H4:=ae (HZ.out.trans hw4);have dO:=ae (hw4.heap HB2.out (fun h=>h));have h4s:=hw4.size;clear hw4 c1 a_ HB0 HB2;have f2:=fun i=>au dO.out i;obtain⟨t0,t1,t2⟩:=ag dO.out
  go_wp2_with fail
  have hr3:=aJ dO.out (.string ⟨#[]⟩) (.slice none 0 0) (.string ⟨#[]⟩);have hu:=aI w4 (w.heap.size+2) (.string ⟨#[]⟩) (.slice none 0 0) (.string ⟨#[]⟩);obtain⟨e0,e1,e2⟩:=ag hr3;refine bodyPost_ret (v:= .tuple #[.agg #[.string ⟨#[]⟩,.slice none 0 0,.string ⟨#[]⟩],.bool false]) (by simp[results,Tryz.results189,go_sem,e0,e1,e2]) rfl ?_;have hue:=H4.out.trans' hu (fun j hj e=>by omega);rw[Cb.out];exact⟨none,0,rfl,az.nil _ _ _,hue⟩
def Bz (g:Sg) (t:Tm):By×Bool:=if t.sort≠ah then(t.sort,true) else((nU g t.name).1.2.2,(nU g t.name).2)
theorem XZ (g:Sg) (t:Tm) (v u:Value) (S T:Nat->Prop) (w:World) (hG:u_ S w g v) (hS: ∀k,S k->k<w.heap.size) (hT:bC T w t u) (hl:g.2.length<=1000000):
  Calls Tryz.prog 131 #[v,u] w fun e w'=>e= .returned (.tuple #[.string (Bz g t).1,.bool (Bz g t).2])/\Ext w w':=by
 have IB:=ae (fun s W (hW:Ext w W)=>Ji g s v S W (hG.ext hW) (fun k hk=>ay (hS k hk) hW.size) hl);obtain⟨sa,sc,oa,oc,rfl,_,_⟩:=hG;obtain⟨a,cap,rfl,hT⟩:=hT;obtain⟨nm,so,L⟩:=t;dsimp only[tV,Tm.name,Tm.sort,Tm.kids];have HZ:=ae (((uR w).alloc (.cells #[.slice sa g.1.length sc,.slice oa g.2.length oc] 74)).alloc (.cells #[.string nm,.string so,.slice a L.length cap] 24));have HB1:=ae (ak (ai w (.cells #[.slice sa g.1.length sc,.slice oa g.2.length oc] 74)) (.cells #[.string nm,.string so,.slice a L.length cap] 24));have HB2:=ae (alloc_at (w.alloc (.cells #[.slice sa g.1.length sc,.slice oa g.2.length oc] 74)) (.cells #[.string nm,.string so,.slice a L.length cap] 24) (n:=w.heap.size+1) (by simp));obtain⟨c0,c1⟩:=aP HB1.out;obtain⟨t0,t1⟩:=aP HB2.out;have HU:Hid (Bz g (.mk nm so L)=if so≠ah then(so,true) else((nU g nm).1.2.2,(nU g nm).2)):=ae rfl;obtain⟨V,hV⟩: ∃V,Bz g (.mk nm so L)=V:=⟨_,rfl⟩
 rw[hV] at HU⊢;clear hT hV;by_cases hs0:so.size=0
 .have hse:=eU _ hs0;subst hse;have dY:Hid (V=((nU g nm).1.2.2,(nU g nm).2)):=ae (by rw[HU.out,if_neg (by simp[ah])]);have bI:=ae (IB.out nm _ HZ.out);clear HU IB hs0;obtain⟨⟨⟨d1,d2,d3⟩,db⟩,hd⟩: ∃d,nU g nm=d:=⟨_,rfl⟩
  rw[hd] at dY bI;dsimp only at dY bI;clear hd
  go_enter Tryz.func131,Tryz.ntmps131
  go_wp2_with fail
  refine bI.out.mono ?_;rintro e w4 ⟨xa,xc,rfl,_,hw4⟩;have H4:=ae (HZ.out.trans (hw4.alloc (.cells #[.string d1,.slice xa d2.length xc,.string d3] 77)));have HB4:=ae (ai w4 (.cells #[.string d1,.slice xa d2.length xc,.string d3] 77));have q2:=af HB4.out 2 (.string d3) rfl;clear hw4 c0 c1 t0 t1 bI HB1 HB2
  go_wp2_with fail
  go_ret2
  rw[dY.out];exact⟨rfl,H4.out⟩
 .obtain ⟨n1,n2,n3,n4⟩:=dJ so (by omega);have dY:Hid (V=(so,true)):=ae (by rw[HU.out,if_pos (by rintro rfl;exact hs0 rfl)]);clear HU IB hs0
  go_enter Tryz.func131,Tryz.ntmps131
  go_wp2_with fail
  go_ret2
  rw[dY.out];exact⟨rfl,HZ.out⟩
theorem Qi (g:Sg) (t:Tm):(Bz g t).1=eu g t:=by
 unfold Bz eu nU;by_cases h:t.sort≠ah
 .rw [if_pos h,if_pos h]
 .rw [if_neg h,if_neg h];by_cases h2:bD g.2 t.name<g.2.length
  .rw [if_pos h2,if_pos h2]
  .rw [if_neg h2,if_neg h2]
theorem aap {g:Sg} (hr:wY g) (t:Tm):(Bz g t).2=!decide (eu g t=ah):=by
 unfold Bz eu nU;by_cases h:t.sort≠ah
 .rw [if_pos h,if_pos h,dF h];rfl
 .rw [if_neg h,if_neg h];by_cases h2:bD g.2 t.name<g.2.length
  .rw [if_pos h2,if_pos h2];rw[dF (hr _ (by rw[uX h2];exact List.getElem_mem h2))];rfl
  .rw [if_neg h2,if_neg h2];simp
theorem aaq {g:Sg} {L:List Tm} {A:List By} {k:Nat} (hk:k<L.length) (h1:eu g (tg L k)≠ah) (h2:eu g (tg L k)≠A.getD k ah):lV g L A=true:=by
 unfold lV;rw[List.any_eq_true];exact⟨k,List.mem_range.2 hk,by rw[dF h1,dF h2];rfl⟩
theorem aar {g:Sg} {L:List Tm} {A:List By} (h: ∀k,k<L.length->eu g (tg L k)=ah\/eu g (tg L k)=A.getD k ah):lV g L A=false:=by
 unfold lV;rw[List.any_eq_false];intro k hk;rcases h k (List.mem_range.1 hk) with h1|h1
 .rw [dT h1];simp
 .rw [dT h1];simp
theorem aas (g:Sg) (t:Tm) (v u:Value) (S T:Nat->Prop) (w:World) (hG:u_ S w g v) (hS: ∀k,S k->k<w.heap.size) (hT:bC T w t u) (hr:wY g) (hl1:g.1.length<=1000000) (hl:g.2.length<=1000000) (hl3: ∀d∈g.2,d.2.1.length<=1000000):
  Calls Tryz.prog 130 #[v,u] w fun e w'=>e= .returned (.int .i64 (yR g t))/\Ext w w':=by
 have IB:=ae (fun s W (hW:Ext w W)=>Ji g s v S W (hG.ext hW) (fun k hk=>ay (hS k hk) hW.size) hl);have wH:=ae (fun x y W (hW:Ext w W) (hx:bC T W x y)=>XZ g x v y S T W (hG.ext hW) (fun k hk=>ay (hS k hk) hW.size) hx hl);have HRO:=ae hr;obtain⟨sa,sc,oa,oc,rfl,hS1,_⟩:=hG;obtain⟨a,cap,rfl,hT⟩:=hT;obtain⟨nm,so,L⟩:=t;dsimp only[tV,Tm.name,Tm.sort,Tm.kids] at hT⊢;have mG:=ae hS1;have cO:=ae hT;have HZ:=ae (((uR w).alloc (.cells #[.slice sa g.1.length sc,.slice oa g.2.length oc] 74)).alloc (.cells #[.string nm,.string so,.slice a L.length cap] 24));have HB1:=ae (ak (ai w (.cells #[.slice sa g.1.length sc,.slice oa g.2.length oc] 74)) (.cells #[.string nm,.string so,.slice a L.length cap] 24));have HB2:=ae (alloc_at (w.alloc (.cells #[.slice sa g.1.length sc,.slice oa g.2.length oc] 74)) (.cells #[.string nm,.string so,.slice a L.length cap] 24) (n:=w.heap.size+1) (by simp));obtain⟨c0,c1⟩:=aP HB1.out;obtain⟨t0,t1,t2⟩:=ag HB2.out;have HU:=ae (ab5 g nm so L);obtain⟨V,hV⟩: ∃V,yR g (.mk nm so L)=V:=⟨_,rfl⟩
 rw[hV] at HU⊢;clear hT hV hS1 hr;by_cases hs0:so.size=0
 case neg=>
  obtain⟨n1,n2,n3,n4⟩:=dJ so (by omega);have dY:Hid (V=if so∈g.1 then 0 else 9):=ae (by rw[HU.out,if_pos (by rintro rfl;exact hs0 rfl)]);have BR:=ae (Tv g.1 so _ S ((w.alloc (.cells #[.slice sa g.1.length sc,.slice oa g.2.length oc] 74)).alloc (.cells #[.string nm,.string so,.slice a L.length cap] 24)) (lD.ext mG.out HZ.out) hl1);clear HU IB hs0 wH HRO;by_cases hm:so∈g.1
  .have HV:Hid (V=0):=ae (by rw[dY.out,if_pos hm]);rw[dT hm] at BR;clear hm dY
   go_enter Tryz.func130,Tryz.ntmps130
   go_wp2_with fail
   refine BR.out.mono ?_;rintro e w4 ⟨rfl,hw4⟩;have H4:=ae (HZ.out.trans hw4);clear hw4 c0 c1 t0 t1 t2
   go_wp2_with fail
   go_ret;rw[HV.out];exact⟨rfl,H4.out⟩
  .have HV:Hid (V=9):=ae (by rw[dY.out,if_neg hm]);rw[dF hm] at BR;clear hm dY
   go_enter Tryz.func130,Tryz.ntmps130
   go_wp2_with fail
   refine BR.out.mono ?_;rintro e w4 ⟨rfl,hw4⟩;have H4:=ae (HZ.out.trans hw4);clear hw4 c0 c1 t0 t1 t2
   go_wp2_with fail
   go_ret;rw[HV.out];exact⟨rfl,H4.out⟩
 have hse:=eU _ hs0;subst hse;have dY:Hid (V=if ¬bD g.2 nm<g.2.length then 9 else if L.length≠(dg g.2 (bD g.2 nm)).2.1.length then 3 else if lV g L (dg g.2 (bD g.2 nm)).2.1=true then 11 else 0):=ae (by rw[HU.out,if_neg (by simp[ah])]);have bI:=ae (IB.out nm _ HZ.out);clear HU IB hs0;have Cb:Hid (nU g nm=if bD g.2 nm<g.2.length then(dg g.2 (bD g.2 nm),true) else((ah,[],ah),false)):=ae rfl;by_cases hd:bD g.2 nm<g.2.length
 case neg=>
  have HV:Hid (V=9):=ae (by rw[dY.out,if_pos hd]);have hdf:=Cb.out;rw[if_neg hd] at hdf;rw[hdf] at bI;dsimp only at bI;clear hd hdf Cb dY wH
  go_enter Tryz.func130,Tryz.ntmps130
  go_wp2_with fail
  refine bI.out.mono ?_;rintro e w4 ⟨xa,xc,rfl,_,hw4⟩;have H4:=ae (HZ.out.trans (hw4.alloc (.cells #[.string ah,.slice xa ([]:List By).length xc,.string ah] 77)));clear hw4 c0 c1 t0 t1 t2 bI HB1 HB2
  go_wp2_with fail
  go_ret;rw[HV.out];exact⟨rfl,H4.out⟩
 have vk:Hid (V=if L.length≠(dg g.2 (bD g.2 nm)).2.1.length then 3 else if lV g L (dg g.2 (bD g.2 nm)).2.1=true then 11 else 0):=ae (by rw[dY.out,if_neg (fun h=>h hd)]);have hdf:=Cb.out;rw[if_pos hd] at hdf;rw[hdf] at bI;obtain⟨⟨d1,d2,d3⟩,hdd⟩: ∃d,dg g.2 (bD g.2 nm)=d:=⟨_,rfl⟩
 have hdm:=hl3 _ (show dg g.2 (bD g.2 nm)∈g.2 by rw[uX hd];exact List.getElem_mem hd);rw[hdd] at bI vk hdm;dsimp only at bI vk hdm;clear hd hdf Cb dY hdd hl3
 go_enter Tryz.func130,Tryz.ntmps130
 go_wp2_with fail
 refine bI.out.mono ?_;rintro e w4 ⟨xa,xc,rfl,hA,hw4⟩;have U3:=hw4.alloc (.cells #[.string d1,.slice xa d2.length xc,.string d3] 77);have H4:=ae (HZ.out.trans U3);have kZ:=ae (U3.heap HB1.out (fun h=>h));have dO:=ae (U3.heap HB2.out (fun h=>h));have GZ:=ae (ai w4 (.cells #[.string d1,.slice xa d2.length xc,.string d3] 77));have HA4:=ae (az.kept hA ((uR w4).alloc (.cells #[.string d1,.slice xa d2.length xc,.string d3] 77)) (fun _ _ h=>h));clear hw4 U3 c0 c1 t0 t1 t2 bI HB1 HB2 hA;have t2:=af dO.out 2 (.slice a L.length cap) rfl;have d1c:=af GZ.out 1 (.slice xa d2.length xc) rfl;by_cases hln:L.length=d2.length
 case neg=>
  have HV:Hid (V=3):=ae (by rw[vk.out,if_pos hln]);have y1:((L.length:Int)==(d2.length:Int))=false:=beq_eq_false_iff_ne.2 (by omega);have y2:((L.length:Int) !=(d2.length:Int))=true:=by simp[y1,bne]
  clear wH hln
  go_wp2_with fail
  go_ret;rw[HV.out];exact⟨rfl,H4.out⟩
 have uk:Hid (V=if lV g L d2=true then 11 else 0):=ae (by rw[vk.out,if_neg (fun h=>h hln)]);have y1:((L.length:Int)==(d2.length:Int))=true:=by rw[hln];simp
 have y2:((L.length:Int) !=(d2.length:Int))=false:=by simp[y1,bne]
 have Hu:=ae hln;have hLm:L.length<=1000000:=by omega
 clear hln vk
 go_wp2_with fail
 clear y1 y2 t2 d1c;generalize w4.alloc (.cells #[.string d1,.slice xa d2.length xc,.string d3] 77)=w5 at*;obtain⟨nd,hnd⟩: ∃nd,w4.heap.size=nd:=⟨_,rfl⟩
 try rw[hnd] at GZ
 try rw[hnd]
 clear hnd
 go_loopg [41] L.length (fun gk iv wr=> ∃k:Nat,iv= .int .i64 (k:Int)/\gk=L.length-k/\k<=L.length/\Hid (∀j,j<k->eu g (tg L j)=ah\/eu g (tg L j)=d2.getD j ah)/\Hid (Ext w5 wr))
 case atStart=>exact⟨0,rfl,rfl,Nat.zero_le _,ae (fun j h=>absurd h (Nat.not_lt_zero _)),ae (aj.refl _ _)⟩
 case round=>
  obtain⟨k,rfl,rfl,hk,HC,HE⟩:=hrel;have aiJ:=ae (HE.out.heap kZ.out (fun h=>h));have anj:=ae (HE.out.heap GZ.out (fun h=>h));by_cases hlt:k<L.length
  .have hk2:k<d2.length:=by rw[<-Hu.out];exact hlt
   obtain⟨gg,off,hga,_,hat⟩:=(cO.out.ext (H4.out.trans HE.out)).at_ (by omega);subst hga;obtain⟨ya,yc,q0,q1,q2,aY⟩:=hat k hlt;rw[<-Nat.add_assoc] at q1 q2;obtain⟨g2,lU,qJ,_,oO⟩:=az.uZ (d:=ah) (az.kept HA4.out HE.out (fun _ _ h=>h)) (by omega);subst qJ;have r0:=oO k hk2;obtain⟨z0,z1,z2,z2'⟩:=bz hlt;have u1:(k:Int)< (d2.length:Int):=by omega
   have HOWN:=ae (fun W (hW:Ext wr W)=>wH.out (tg L k) (tV (tg L k) (.slice ya (tg L k).kids.length yc)) W ((H4.out.trans HE.out).trans hW) ⟨ya,yc,rfl,aY.ext hW⟩);have oW:=ae (Qi g (tg L k));have HP2:=ae (aap HRO.out (tg L k));have G8:Hid (eu g (tg L k)≠ah->eu g (tg L k)≠d2.getD k ah->V=11):=ae (fun h1 h2=>by rw[uk.out,if_pos (aaq hlt h1 h2)]);have MC:Hid ((eu g (tg L k)=ah\/eu g (tg L k)=d2.getD k ah)->∀j,j<k+1->eu g (tg L j)=ah\/eu g (tg L j)=d2.getD j ah):=ae (fun h j hj=>by
    rcases Nat.lt_succ_iff_lt_or_eq.1 hj with h5|h5
    .exact HC.out j h5
    .rw [h5];exact h)
   obtain⟨x,hx⟩: ∃x,tg L k=x:=⟨_,rfl⟩
   rw[hx] at q0 q1 q2 HOWN oW HP2 G8 MC;obtain⟨y,hy⟩: ∃y,d2.getD k ah=y:=⟨_,rfl⟩
   rw[hy] at r0 G8 MC;dsimp only[tV] at HOWN;obtain⟨P,hP⟩: ∃P,Bz g x=P:=⟨_,rfl⟩
   rw[hP] at HOWN oW HP2;obtain⟨o1,o2⟩:=P;dsimp only at HOWN oW HP2;rw[<-oW.out] at HP2 G8 MC;have HEX:=ae (HE.out.trans ((uR wr).alloc (tO x ya yc)));have je:=ae (ai wr (tO x ya yc));have X0:=ae ((uR wr).alloc (tO x ya yc));have c0:=af (X0.out.heap aiJ.out (fun h=>h)) 0 (.slice sa g.1.length sc) rfl;have c1:=af (X0.out.heap aiJ.out (fun h=>h)) 1 (.slice oa g.2.length oc) rfl;obtain⟨x0,x1,x2⟩:=ag je.out;have r0':=X0.out.cell r0 (fun h=>h);have TB:=ae (HOWN.out _ X0.out);have ank:=ae (X0.out.heap anj.out (fun h=>h));clear hat oO aY hx hy hP HOWN HC oW r0
   go_wp2_with fail
   clear q0 q1 q2;generalize wr.alloc (tO x ya yc)=w6 at*;refine TB.out.mono ?_;rintro e w7 ⟨rfl,hw7⟩;have H7:=ae (HEX.out.trans hw7);have H70:=ae (H4.out.trans H7.out);have r1:=hw7.cell r0' (fun h=>h);have d1c:=af (hw7.heap ank.out (fun h=>h)) 1 (.slice (some ⟨g2,lU,none⟩) d2.length xc) rfl;clear hw7 c0 c1 x0 x1 x2 r0' TB;cases o2
   .have hn:o1=ah:=by have:=HP2.out;simpa using this.symm
    have HN:=ae (MC.out (.inl hn));clear hn MC G8 HP2
    go_wp2_with fail
    go_roundg (L.length- (k+1))
    case measure=>omega
    case rel=>exact⟨k+1,by go_num,rfl,by omega,HN,H7⟩
   .have hn:o1≠ah:=by have:=HP2.out;simpa using this
    by_cases he:o1=y
    .have HN:=ae (MC.out (.inr he));subst he;clear hn MC G8 HP2
     go_wp2_with fail
     go_roundg (L.length- (k+1))
     case measure=>omega
     case rel=>exact⟨k+1,by go_num,rfl,by omega,HN,H7⟩
    .have HV:=ae (G8.out hn he);have t9:=xy he;clear hn he MC G8 HP2
     go_wp2_with fail
     go_ret;rw[HV.out];exact⟨rfl,H70.out⟩
  .obtain rfl:k=L.length:=by omega
   have z2:decide ((L.length:Int)< (L.length:Int))=false:=dF (by omega);have HV:Hid (V=0):=ae (by rw[uk.out,if_neg (by rw[aar HC.out];decide)]);have H9:=ae (H4.out.trans HE.out)
   go_wp2_with fail
   go_ret;rw[HV.out];exact⟨rfl,H9.out⟩
section
open Go.Shelf
attribute [local go_sem] Oper.semAt_some
theorem Cc {α:Type} {J:List α->World->Prop} {B:Nat} (h:AbidesFrom B J) {pre:List α} {W:World} (o:Obj) (hj:J pre W):J pre (W.alloc o):=h pre W _ none hj (World.grownBy_alloc W o none) (fun r e=>by cases e)
structure g_ (S:Nat->Prop) (w0:World) where
 t:Tm
 a:Option Addr
 cap:Nat
 d:Nat
 ok:aA S w0 t.kids (.slice a t.kids.length cap)
def g_.encs {S:Nat->Prop} {w0:World} (x:g_ S w0):Array Value:= #[tV x.t (.slice x.a x.t.kids.length x.cap),.int .i64 (x.d:Int)]
def g_.pr {S:Nat->Prop} {w0:World} (x:g_ S w0):Tm×Nat:=(x.t,x.d)
theorem X3 (F:Fence) (hd:F.depth=none) (hf: ∀k,F.fn k) (hro:F.round=none) (l Bv n₁ N B0:Nat) (G S:Nat->Prop) (hS: ∀k,S k->¬G k) (Cj: ¬G Bv) (hG: ∀k,G k->k<n₁) (w0:World) (J Jx:List (g_ S w0)->World->Prop) (hJ:AbidesFrom B0 J)
  (hY: ∀m pre x W,J pre W->pre.length<N->YieldAt F m Tryz.prog l x.encs W fun e W'=>(e= .returned (.bool true)/\J (pre++[x]) W'/\dQ G W W')\/(e= .returned (.bool false)/\Jx (pre++[x]) W')):
  ∀(t:Tm) (n:Nat) (a:Option Addr) (cap d:Nat) (pre:List (g_ S w0)) (W:World),aA S w0 t.kids (.slice a t.kids.length cap)->dQ G w0 W->W.heap[Bv]?=some (.cells #[(.func (.func 187) #[] #[.pointer (some ⟨Bv,0,none⟩)])] 219 (0,0))->J pre W->n₁<=W.heap.size->pre.length+t.size<=N->((d+t.size:Nat):Int)<=4611686018427387904->
   CallsIn F n Tryz.prog 187 #[tV t (.slice a t.kids.length cap),.int .i64 (d:Int),.func (.yield l) #[] #[],.pointer (some ⟨Bv,0,none⟩)] W fun e W'=>
    (e= .returned (.bool true)/\∃xs:List (g_ S w0),xs.map g_.pr=bH d t/\J (pre++xs) W'/\dQ G W W')\/(e= .returned (.bool false)/\∃q:List (g_ S w0),q.map g_.pr <+:bH d t/\Jx (pre++q) W'):=by
 have hdd: ∀k:Nat,(F.depth.isSome=true->1<=k):=fun k h=>by rw[hd] at h;cases h
 refine Tm.ind (fun nm so L ih=>?_);intro n a cap d pre W hR hk0 hV hJ0 hn1 hN hdb;have hsz:=size_eq (.mk nm so L);dsimp only[tV,Tm.name,Tm.sort,Tm.kids] at hR hsz⊢;rw[hsz] at hN hdb;have hb:=ai W (.cells #[.string nm,.string so,.slice a L.length cap] 24);obtain⟨c0,c1,c2⟩:=ag hb;have hU0:dQ G W (W.alloc (.cells #[.string nm,.string so,.slice a L.length cap] 24)):=dQ.oz ((aj.refl _ W).alloc _);have hGB: ¬G W.heap.size:=fun h=>by have:=hG _ h;omega
 obtain⟨fn,tmps,assign,body,hy,hR1⟩:=hY (n-1) pre ⟨.mk nm so L,a,cap,d,hR⟩ (W.alloc (.cells #[.string nm,.string so,.slice a L.length cap] 24)) (Cc hJ _ hJ0) (by omega);dsimp only[g_.encs,tV,Tm.name,Tm.sort,Tm.kids] at hy;refine callsIn_of_wp Tryz.func187 rfl (hf 187) ?_ hro;simp only[Tryz.ntmps187,List.size_toArray,List.length_cons,List.length_nil,Nat.reduceAdd,Nat.reduceSub,Array.replicate_succ,Array.replicate_zero,List.push_toArray,List.append_toArray,List.nil_append,List.cons_append]
 gi_wp2
 refine hR1.mono ?_;clear hR1;rintro e W1 (⟨rfl,hJ1,hk1⟩|⟨rfl,hx1⟩)
 .have hb1:=hk1.cells _ _ _ _ hGB hb;have d2:=af hb1 2 (.slice a L.length cap) rfl
  gi_wp2
  gi_loopg [18] (L.length) (fun gk iv wr=> ∃(k:Nat) (xs:List (g_ S w0)),iv= .int .i64 (k:Int)/\gk=L.length-k/\k<=L.length/\xs.map g_.pr=bG (d+1) (L.take k)/\J (pre++[⟨.mk nm so L,a,cap,d,hR⟩]++xs) wr/\dQ G W wr)
  case atStart=>exact⟨0,[],rfl,rfl,Nat.zero_le _,rfl,by simpa using hJ1,hU0.trans hk1⟩
  case round=>
   obtain⟨k,xs,rfl,rfl,hk,hxs,U8,hkr⟩:=hrel;by_cases hlt:k<L.length
   .obtain ⟨g,off,rfl,hSg,hat⟩:=hR.at_ (by omega);obtain⟨a',cap',q0,q1,q2,aY⟩:=hat k hlt;have hkw:=hk0.trans hkr;have q0:=hkw.cell (hS _ hSg) rfl q0;have q1:=hkw.cell (hS _ hSg) rfl q1;have q2:=hkw.cell (hS _ hSg) rfl q2;have z0:(0:Int)<=(k:Int):=by omega
    have z1:(k:Int)< (L.length:Int):=by omega
    have z2:decide ((k:Int)< (L.length:Int))=true:=dT z1;have hv:=hkr.cells _ _ _ _ Cj hV;have hmem:tg L k∈L:=by unfold tg;rw[List.getD_eq_getElem?_getD,List.getElem?_eq_getElem hlt];exact List.getElem_mem hlt
    have hsz2:sizes (L.take k)+(tg L k).size<=sizes L:=by
     have h1:L=L.take k++tg L k::L.drop (k+1):=by
      unfold tg;rw[List.getD_eq_getElem?_getD,List.getElem?_eq_getElem hlt];simp
     have h2:=congrArg sizes h1;rw[lM] at h2;simp only[sizes] at h2;omega
    have hxl:xs.length=sizes (L.take k):=by have:=congrArg List.length hxs;rw[List.length_map,EP] at this;exact this
    obtain⟨x,hx⟩: ∃x,tg L k=x:=⟨_,rfl⟩
    rw[hx] at q0 q1 q2 aY hmem hsz2;rw[<-Nat.add_assoc] at q1 q2;have hb4:=ai wr (tO x a' cap');obtain⟨e0,e1,e2⟩:=ag hb4;have e3:=af (ak hv (tO x a' cap')) 0 (.func (.func 187) #[] #[.pointer (some ⟨Bv,0,none⟩)]) rfl;have hk4:dQ G wr (wr.alloc (tO x a' cap')):=dQ.oz ((aj.refl _ wr).alloc _);have hlen:(L.length:Int)<=4611686018427387904:=by have:=bf L;omega
    have ihk:=ih x hmem (n-1) a' cap' (d+1) _ _ aY (hkw.trans hk4) (ak hv (tO x a' cap')) (Cc hJ _ U8) (by have h1:=hkr.size;have h2:=hk4.size;omega) (by simp only[List.length_append,List.length_singleton];omega) (by omega);have hw1:IntKind.i64.wrap ((d:Int)+1)=(d:Int)+1:=IntWalk.i64_in _ (by omega);have hw2:wrap64 ((d:Int)+1)=(d:Int)+1:=IntWalk.wrap64_in _ (by omega);rw[show(((d+1:Nat)):Int)=(d:Int)+1 by omega] at ihk;dsimp only[tV] at ihk
    gi_wp2_with (gi_at_call 187;refine ihk.mono ?_;clear ihk;rintro e W4 (⟨rfl,ys,hys,hJ4,hk5⟩|⟨rfl,q,hq,hx4⟩))
    .gi_roundg (L.length- (k+1))
     case measure=>omega
     case rel=>
      refine⟨k+1,xs++ys,by go_num,rfl,by omega,?_,by rw[<-List.append_assoc];exact hJ4,(hkr.trans hk4).trans hk5⟩;rw[List.map_append,hxs,hys,List.take_add_one,o5];have:L[k]?.toList=[x]:=by rw[<-hx];unfold tg;rw[List.getD_eq_getElem?_getD,List.getElem?_eq_getElem hlt];rfl
      rw[this];simp[bG]
    .go_ret;refine .inr ⟨rfl,⟨.mk nm so L,some ⟨g,off,none⟩,cap,d,hR⟩::(xs++q),?_,by simpa using hx4⟩;obtain⟨r,hr⟩:=hq;refine⟨r++bG (d+1) (L.drop (k+1)),?_⟩;rw[iw];simp only[Tm.kids,List.map_cons,List.map_append,hxs,List.cons_append,List.append_assoc];rw[<-List.append_assoc (List.map g_.pr q) r,hr];have h1:L=L.take k++x::L.drop (k+1):=by
      rw[<-hx];unfold tg;rw[List.getD_eq_getElem?_getD,List.getElem?_eq_getElem hlt];simp
     have h2:=congrArg (bG (d+1)) h1;rw[o5] at h2;simp only[bG] at h2;rw[h2];rfl
   .obtain rfl:k=L.length:=by omega
    gi_wp2
    go_ret;refine .inl ⟨rfl,⟨.mk nm so L,a,cap,d,hR⟩::xs,?_,by simpa using U8,hkr⟩;rw[List.map_cons,hxs,List.take_length,iw];rfl
 .gi_wp2
  go_ret;exact .inr ⟨rfl,[⟨.mk nm so L,a,cap,d,hR⟩],⟨bG (d+1) L,by rw[iw];rfl⟩,hx1⟩
theorem U4 (F:Fence) (hd:F.depth=none) (n:Nat) (hf: ∀k,F.fn k) (hro:F.round=none) (l Bv Bt n₁ B0:Nat) (G S:Nat->Prop) (hS: ∀k,S k->¬G k) (Cj: ¬G Bv) (hG: ∀k,G k->k<n₁) (w0:World) (J Jx:List (g_ S w0)->World->Prop) (hJ:AbidesFrom B0 J)
  (t:Tm) (a:Option Addr) (cap:Nat)
  (hY: ∀pre x W,J pre W->pre.length<t.size->YieldAt F (n-1) Tryz.prog l x.encs W fun e W'=>(e= .returned (.bool true)/\J (pre++[x]) W'/\dQ G W W')\/(e= .returned (.bool false)/\Jx (pre++[x]) W'))
  (W:World) (hR:aA S w0 t.kids (.slice a t.kids.length cap)) (hk0:dQ G w0 W) (hV:W.heap[Bv]?=some (.cells #[(.func (.func 187) #[] #[.pointer (some ⟨Bv,0,none⟩)])] 219 (0,0))) (hT:W.heap[Bt]?=some (tO t a cap)) (h0:J [] W) (hnW:n₁<=W.heap.size) (hsz:((1+t.size:Nat):Int)<=4611686018427387904):
  CallsIn F n Tryz.prog 188 #[.func (.yield l) #[] #[],.pointer (some ⟨Bv,0,none⟩),.pointer (some ⟨Bt,0,none⟩)] W fun e W'=>(∃v,e= .returned v)/\((∃xs:List (g_ S w0),xs.map g_.pr=bH 1 t/\J xs W')\/(∃pre:List (g_ S w0),pre.map g_.pr <+:bH 1 t/\Jx pre W')):=by
 have hdd: ∀k:Nat,(F.depth.isSome=true->1<=k):=fun k h=>by rw[hd] at h;cases h
 have hp:=X3 F hd hf hro l Bv n₁ t.size B0 G S hS Cj hG w0 J Jx hJ (fun m pre x W hj hl=>YieldAt.anyDepth hd m (hY pre x W hj hl)) t (n-1) a cap 1 [] W hR hk0 hV h0 hnW (by simp) hsz;obtain⟨c0,c1,c2⟩:=ag hT;have v0:=af hV 0 (.func (.func 187) #[] #[.pointer (some ⟨Bv,0,none⟩)]) rfl;dsimp only[tV] at hp;refine callsIn_of_wp Tryz.func188 rfl (hf 188) ?_ hro;simp only[Tryz.ntmps188,List.size_toArray,List.length_cons,List.length_nil,Nat.reduceAdd,Nat.reduceSub,Array.replicate_succ,Array.replicate_zero,List.push_toArray,List.append_toArray,List.nil_append,List.cons_append]
 gi_wp2_with (gi_at_call 187;refine hp.mono ?_;clear hp;rintro e W1 (⟨rfl,xs,hxs,hJ1,_⟩|⟨rfl,q,hq,hx⟩))
 .go_end0
  exact⟨⟨_,rfl⟩,.inl ⟨xs,hxs,by simpa using hJ1⟩⟩
 .go_end0
  exact⟨⟨_,rfl⟩,.inr ⟨q,hq,by simpa using hx⟩⟩
theorem Qj (F:Fence) (hd:F.depth=none) (n:Nat) (hf: ∀k,F.fn k) (hro:F.round=none) (Bv Bt:Nat) (G S:Nat->Prop) (w:World) (hS: ∀k,S k->¬G k) (Cj: ¬G Bv) (hG: ∀k,G k->k<w.heap.size) (hSw: ∀k,S k->k<w.heap.size) (t:Tm) (a:Option Addr) (cap:Nat)
  (hR:aA S w t.kids (.slice a t.kids.length cap)) (hV:w.heap[Bv]?=some (.cells #[(.func (.func 187) #[] #[.pointer (some ⟨Bv,0,none⟩)])] 219 (0,0))) (hT:w.heap[Bt]?=some (tO t a cap)) (hsz:((1+t.size:Nat):Int)<=4611686018427387904):
  SeqStopsK F n Tryz.prog 188 #[.pointer (some ⟨Bv,0,none⟩),.pointer (some ⟨Bt,0,none⟩)] g_.encs (dQ G) (fun xs:List (g_ S w)=>xs.map g_.pr=bH 1 t) (fun pre=>pre.map g_.pr <+:bH 1 t) t.size w:=fun l J Jx W hW hJ _ hY h0=>
 have hE:Ext w W:=⟨hW.os,hW.tape,hW.output,hW.size,fun k hk _=>hW.block k hk⟩
 U4 F hd n hf hro l Bv Bt w.heap.size W.heap.size G S hS Cj hG w J Jx hJ t a cap hY W hR (dQ.oz hE) (hE.heap hV (fun h=>h)) (hE.heap hT (fun h=>h)) h0 hW.size hsz
end
def gB (g:Sg) (t:Tm):By×Int:=if h_ ax g=false\/wf ax t=false then(ah,1) else if b_ g t≠0 then(ah,b_ g t) else(eu g t,0)
def Dh (g:Sg) (t:Tm):Bool:=decide ((gB g t).2=0)
theorem TA {g:Sg} {t:Tm}:Dh g t=true<->h_ ax g=true/\wf ax t=true/\b_ g t=0:=by
 unfold Dh gB;rw[decide_eq_true_eq];cases h_ ax g
 .simp
 .cases wf ax t
  .simp
  .by_cases h:b_ g t=0
   .simp [h]
   .simp [h]
theorem QL (g:Sg) (t:Tm) (v u:Value) (S T:Nat->Prop) (w:World) (hG:u_ S w g v) (hT:bC T w t u) (hl1:g.1.length<=1000000) (hl2:g.2.length<=1000000):Calls Tryz.prog 125 #[v,u] w fun e w'=>e= .returned (.tuple #[.string (gB g t).1,.int .i64 (gB g t).2])/\Ext w w':=by
 have BG:=ae (fun W (hW:Ext w W)=>Vw g v S W (hG.ext hW) hl1 hl2);have HRF:=ae (fun W (hW:Ext w W)=>CJ t u T W (hT.ext hW));have Di:=ae (fun(hw:wf ax t=true) W (hW:Ext w W)=>acm g t v u S T W (hG.ext hW) (hT.ext hW) hl2 hl1 (by have:=jY hw;omega));have HOW:=ae (fun W (hW:Ext w W)=>aaG g t v u S T W (hG.ext hW) (hT.ext hW) hl2);have E5:Hid (h_ ax g=false\/wf ax t=false->gB g t=(ah,1)):=ae (fun h=>by unfold gB;rw[if_pos h]);have mG:Hid (h_ ax g=true->wf ax t=true->gB g t=if b_ g t≠0 then(ah,b_ g t) else(eu g t,0)):=ae (fun h h2=>by unfold gB;rw[if_neg (by rw[h,h2];simp)]);obtain⟨sa,sc,oa,oc,rfl,_,_⟩:=hG;obtain⟨a,cap,rfl,_⟩:=hT;have HZ:=ae (((uR w).alloc (.cells #[.slice sa g.1.length sc,.slice oa g.2.length oc] 74)).alloc (tO t a cap));have nZ:=ae (ak (ai w (.cells #[.slice sa g.1.length sc,.slice oa g.2.length oc] 74)) (tO t a cap));have Hr:=ae (alloc_at (w.alloc (.cells #[.slice sa g.1.length sc,.slice oa g.2.length oc] 74)) (tO t a cap) (n:=w.heap.size+1) (by simp));dsimp only[tV] at HRF Di HOW⊢;obtain⟨V,hV⟩: ∃V,gB g t=V:=⟨_,rfl⟩
 rw[hV] at E5 mG⊢;obtain⟨B1,hB1⟩: ∃b,h_ ax g=b:=⟨_,rfl⟩
 rw[hB1] at BG E5 mG;obtain⟨B2,hB2⟩: ∃b,wf ax t=b:=⟨_,rfl⟩
 rw[hB2] at HRF Di E5 mG;clear hV hB1 hB2;obtain⟨c0,c1⟩:=aP nZ.out;obtain⟨t0,t1,t2⟩:=ag Hr.out
 go_enter Tryz.func125,Tryz.ntmps125
 go_wp2_with fail
 refine(BG.out _ HZ.out).mono ?_;rintro e w4 ⟨rfl,hw4⟩;have H4:=ae (HZ.out.trans hw4);have Ju:=ae (hw4.heap nZ.out (fun h=>h));have ad6:=ae (hw4.heap Hr.out (fun h=>h));clear hw4 c0 c1 t0 t1 t2;obtain⟨c0,c1⟩:=aP Ju.out;obtain⟨t0,t1,t2⟩:=ag ad6.out;cases B1
 .have HV:=ae (E5.out (.inl (by simp)))
  go_wp2_with fail
  all_goals go_ret2
  all_goals (rw[HV.out];exact⟨rfl,H4.out⟩)
 go_wp2_with fail
 refine(HRF.out _ H4.out).mono ?_;rintro e w5 ⟨rfl,hw5⟩;have H5:=ae (H4.out.trans hw5);have yV:=ae (hw5.heap Ju.out (fun h=>h));have ad7:=ae (hw5.heap ad6.out (fun h=>h));clear hw5 c0 c1 t0 t1 t2;obtain⟨c0,c1⟩:=aP yV.out;obtain⟨t0,t1,t2⟩:=ag ad7.out;cases B2
 .have HV:=ae (E5.out (.inr (by simp)))
  go_wp2_with fail
  all_goals go_ret2
  all_goals (rw[HV.out];exact⟨rfl,H5.out⟩)
 have HS2:=ae (mG.out (by simp) (by simp));have Yp:=ae (Di.out (by simp) _ H5.out);clear E5 mG Di BG HRF;obtain⟨X,hX⟩: ∃X,b_ g t=X:=⟨_,rfl⟩
 rw[hX] at Yp HS2;clear hX
 go_wp2_with fail
 refine Yp.out.mono ?_;rintro e w6 ⟨rfl,hw6⟩;have H6:=ae (H5.out.trans hw6);have Df:=ae (hw6.heap yV.out (fun h=>h));have al1:=ae (hw6.heap ad7.out (fun h=>h));clear hw6 c0 c1 t0 t1 t2;obtain⟨c0,c1⟩:=aP Df.out;obtain⟨t0,t1,t2⟩:=ag al1.out;clear Yp;by_cases hx:X=0
 case neg=>
  have HV:Hid (V=(ah,X)):=ae (by rw[HS2.out,if_pos hx]);have y1:(X==0)=false:=beq_eq_false_iff_ne.2 hx;have y2:(X !=0)=true:=by simp[hx]
  go_wp2_with fail
  all_goals go_ret2
  all_goals (rw[HV.out];exact⟨rfl,H6.out⟩)
 subst hx;have HV:Hid (V=(eu g t,0)):=ae (by rw[HS2.out,if_neg (by simp)]);have TB:=ae (HOW.out _ H6.out);generalize eu g t=Y at*
 go_wp2_with fail
 refine TB.out.mono ?_;rintro e w7 ⟨rfl,hw7⟩;have H7:=ae (H6.out.trans hw7);clear hw7 c0 c1 t0 t1 t2
 go_wp2_with fail
 all_goals go_ret2
 all_goals (rw[HV.out];exact⟨rfl,H7.out⟩)
theorem Yq (g:Sg) (t:Tm) (v u:Value) (S T:Nat->Prop) (w:World) (hG:u_ S w g v) (hT:bC T w t u) (hl1:g.1.length<=1000000) (hl2:g.2.length<=1000000):Calls Tryz.prog 56 #[v,u] w fun e w'=>e= .returned (.bool (Dh g t))/\Ext w w':=by
 have HST:=ae (fun W (hW:Ext w W)=>QL g t v u S T W (hG.ext hW) (hT.ext hW) hl1 hl2);obtain⟨sa,sc,oa,oc,rfl,_,_⟩:=hG;obtain⟨a,cap,rfl,_⟩:=hT;have HZ:=ae (((uR w).alloc (.cells #[.slice sa g.1.length sc,.slice oa g.2.length oc] 74)).alloc (tO t a cap));have nZ:=ae (ak (ai w (.cells #[.slice sa g.1.length sc,.slice oa g.2.length oc] 74)) (tO t a cap));have Hr:=ae (alloc_at (w.alloc (.cells #[.slice sa g.1.length sc,.slice oa g.2.length oc] 74)) (tO t a cap) (n:=w.heap.size+1) (by simp));dsimp only[tV] at HST⊢;have HV:Hid (Dh g t=decide ((gB g t).2=0)):=ae rfl;rw[HV.out];generalize gB g t=F at*;have hb:(F.2==0)=decide (F.2=0):=by rw[Bool.eq_iff_iff,beq_iff_eq,decide_eq_true_eq]
 have jq:=ae hb;clear hb HV;obtain⟨c0,c1⟩:=aP nZ.out;obtain⟨t0,t1,t2⟩:=ag Hr.out
 go_enter Tryz.func56,Tryz.ntmps56
 go_wp2_with fail
 refine(HST.out _ HZ.out).mono ?_;rintro e w4 ⟨rfl,hw4⟩;have H4:=ae (HZ.out.trans hw4);clear hw4 c0 c1 t0 t1 t2
 go_wp2_with fail
 go_ret;exact⟨rfl,H4.out⟩
section
open Go.Shelf
attribute [local go_sem] Oper.semAt_some
theorem X4 {g:Sg} {l:List Tm} {x:Tm} (h:ja g l=0):ja g (l++[x])=yR g x:=by
 rw[GN,if_neg (fun h2=>h2 h),ja];by_cases h3:yR g x=0
 .rw [if_neg (fun h4=>h4 h3),h3];rfl
 .rw [if_pos h3]
theorem ado {S:Nat->Prop} {w0:World} {xs:List (g_ S w0)} {t:Tm} (h:xs.map g_.pr=bH 1 t):xs.map g_.t=aV t:=by
 have h1:=congrArg (List.map (·.1)) h;rw[List.map_map] at h1;unfold aV;rw[mQ t 0 1,<-h1];rfl
theorem adp {g:Sg} {S:Nat->Prop} {w0:World} {pre:List (g_ S w0)} {t:Tm} (h:pre.map g_.pr <+:bH 1 t) (h2:ja g (pre.map g_.t)≠0):En g t=ja g (pre.map g_.t):=by
 obtain⟨r,hr⟩:=h;have h1:=congrArg (List.map (·.1)) hr;rw[List.map_append,List.map_map] at h1;unfold En aV;rw[mQ t 0 1,<-h1,GN,if_pos (by exact h2)];rfl
theorem PX {g:Sg} (h:h_ ax g=true):wY g:=by
 unfold h_ at h;rw[Bool.and_eq_true,Bool.and_eq_true,Bool.and_eq_true] at h;obtain⟨_,_,h1,h2⟩:=h;have h3:=((L8 ax g.1).1 h1).2.1;intro o ho e;obtain⟨j,hj,rfl⟩:=List.mem_iff_getElem.1 ho;have h4:=List.all_eq_true.1 h2 j (List.mem_range.2 hj);unfold okD at h4;rw[Bool.and_eq_true,Bool.and_eq_true,Bool.and_eq_true,Bool.and_eq_true] at h4;have h5:=of_decide_eq_true h4.2.2.2.1;rw[uX hj,e] at h5;have h6:=h3 _ h5;rw[Gi ah rfl] at h6;cases h6
theorem ac8 (g:Sg) (t:Tm) (v u:Value) (S:Nat->Prop) (w:World) (hG:u_ S w g v) (hS: ∀k,S k->k<w.heap.size) (hR:bC (fun k=>k<w.heap.size) w t u) (htab:bT w) (hsz:(t.size:Int)<=1000000000000) (hl1:g.1.length<=1000000) (hl2:g.2.length<=1000000) (hl3: ∀d∈g.2,d.2.1.length<=1000000):
  Calls Tryz.prog 57 #[v,u] w fun e w'=>e= .returned (.tuple #[.string (gB g t).1,.int .i64 (gB g t).2])/\Ext w w':=by
 have BG:=ae (fun W (hW:Ext w W)=>adn g v S W (hG.ext hW) (aC htab hW) hl1 hl2 hl3);have lH:=ae (fun W (hW:Ext w W)=>r_ t u W (aC htab hW) ((hR.ext hW).weaken (fun k hk=>ay hk hW.size)) hsz);have Di:=ae (fun(hr:wY g) x y T W (hW:Ext w W) (hx:bC T W x y)=>aas g x v y S T W (hG.ext hW) (fun k hk=>ay (hS k hk) hW.size) hx hr hl1 hl2 hl3);have HOW:=ae (fun W (hW:Ext w W)=>XZ g t v u S _ W (hG.ext hW) (fun k hk=>ay (hS k hk) hW.size) (hR.ext hW) hl2);obtain⟨sa,sc,oa,oc,rfl,_,_⟩:=hG;obtain⟨a,cap,rfl,hT⟩:=hR;dsimp only[tV] at BG lH Di HOW⊢;obtain⟨V,hV⟩: ∃V,gB g t=V:=⟨_,rfl⟩
 have HVV:Hid (V=if h_ ax g=false\/wf ax t=false then(ah,1) else if b_ g t≠0 then(ah,b_ g t) else(eu g t,0)):=ae (by rw[<-hV];rfl);rw[hV];clear hV;have ES:Ext w ((((w.alloc (.cells #[.slice sa g.1.length sc,.slice oa g.2.length oc] 74)).alloc (tO t a cap)).alloc (.cells #[.string ⟨#[]⟩] 9)).alloc (.cells #[.int .i64 0] 28)):=((((uR w).alloc _).alloc _).alloc _).alloc _;have hs3:((((w.alloc (.cells #[.slice sa g.1.length sc,.slice oa g.2.length oc] 74)).alloc (tO t a cap)).alloc (.cells #[.string ⟨#[]⟩] 9)).alloc (.cells #[.int .i64 0] 28)).heap.size=w.heap.size+4:=by simp
 have hb0:((((w.alloc (.cells #[.slice sa g.1.length sc,.slice oa g.2.length oc] 74)).alloc (tO t a cap)).alloc (.cells #[.string ⟨#[]⟩] 9)).alloc (.cells #[.int .i64 0] 28)).heap[w.heap.size]?=some (.cells #[.slice sa g.1.length sc,.slice oa g.2.length oc] 74 (0,0)):=ak (ak (ak (ai _ _) _) _) _;have hb1:((((w.alloc (.cells #[.slice sa g.1.length sc,.slice oa g.2.length oc] 74)).alloc (tO t a cap)).alloc (.cells #[.string ⟨#[]⟩] 9)).alloc (.cells #[.int .i64 0] 28)).heap[w.heap.size+1]?=some (tO t a cap):=ak (ak (alloc_at _ _ (by simp)) _) _;have aiL:Boxed ((((w.alloc (.cells #[.slice sa g.1.length sc,.slice oa g.2.length oc] 74)).alloc (tO t a cap)).alloc (.cells #[.string ⟨#[]⟩] 9)).alloc (.cells #[.int .i64 0] 28)) (w.heap.size+1+1) 9 (.string ⟨#[]⟩):=ak (alloc_at _ _ (by simp)) _;have aiM:Boxed ((((w.alloc (.cells #[.slice sa g.1.length sc,.slice oa g.2.length oc] 74)).alloc (tO t a cap)).alloc (.cells #[.string ⟨#[]⟩] 9)).alloc (.cells #[.int .i64 0] 28)) (w.heap.size+1+1+1) 28 (.int .i64 0):=alloc_at _ _ (by simp);refine(callsIn_wide (n:=9)).1 ?_;have hro:Fence.wide.round=none:=rfl;have hd:Fence.wide.depth=none:=rfl;have hf: ∀k,Fence.wide.fn k:=fun _=>trivial;have h1:1<=9:=by omega
 refine callsIn_of_wp_marks Tryz.func57 rfl trivial ?_ hro;obtain⟨c0,c1⟩:=aP hb0;obtain⟨t0,t1,t2⟩:=ag hb1;simp only[Tryz.ntmps57,List.size_toArray,List.length_cons,List.length_nil,Nat.reduceAdd,Nat.reduceSub,Array.replicate_succ,Array.replicate_zero,List.push_toArray,List.append_toArray,List.nil_append,List.cons_append]
 gi_wp2
 generalize ((((w.alloc (.cells #[.slice sa g.1.length sc,.slice oa g.2.length oc] 74)).alloc (tO t a cap)).alloc (.cells #[.string ⟨#[]⟩] 9)).alloc (.cells #[.int .i64 0] 28))=w3 at*;generalize hB3:w.heap.size+1+1+1=B3 at*;generalize hB2:w.heap.size+1+1=B2 at*;generalize hB1:w.heap.size+1=B1 at*;generalize hB0:w.heap.size=B0 at*;refine(callsIn_wide.2 (BG.out _ ES)).mono ?_;rintro e w4 ⟨rfl,lF⟩;have aat:=lF.heap hb0 (fun h=>h);have Jm:=lF.heap hb1 (fun h=>h);have xB:Boxed w4 B2 9 (.string ⟨#[]⟩):=lF.heap aiL (fun h=>h);have vU:Boxed w4 B3 28 (.int .i64 0):=lF.heap aiM (fun h=>h);have hE:=ES.ext lF;have Nb:=lF.size;clear c0 c1 t0 t1 t2;obtain⟨c0,c1⟩:=aP aat;obtain⟨t0,t1,t2⟩:=ag Jm;have r2:=xB.cell;have r3:=vU.cell;have s2:=xB.frozen;have s3:=vU.frozen;clear lF ES hb0 hb1 aiL aiM;cases hvs:h_ ax g
 .have HV:Hid (V=(ah,1)):=ae (by rw[HVV.out,if_pos (.inl hvs)])
  gi_wp2
  have i2:Boxed (w4.setCell ⟨B2,0,none⟩ (.string ⟨#[]⟩)) B2 9 (.string ⟨#[]⟩):=setBlock xB 0 _;have i3:Boxed (w4.setCell ⟨B2,0,none⟩ (.string ⟨#[]⟩)) B3 28 (.int .i64 0):=Boxed.other vU (by omega) _;have Vm:Boxed ((w4.setCell ⟨B2,0,none⟩ (.string ⟨#[]⟩)).setCell ⟨B3,0,none⟩ (.int .i64 1)) B2 9 (.string ⟨#[]⟩):=Boxed.other i2 (by omega) _;have He:Boxed ((w4.setCell ⟨B2,0,none⟩ (.string ⟨#[]⟩)).setCell ⟨B3,0,none⟩ (.int .i64 1)) B3 28 (.int .i64 1):=setBlock i3 0 _;have q2:=Vm.cell;have q3:=He.cell;exact⟨.tuple #[.string ⟨#[]⟩,.int .i64 1],by simp[results,Tryz.f57,go_sem,q2,q3],by rw[HV.out];rfl,(hE.iD (show w.heap.size<=B2 by omega) _).iD (show w.heap.size<=B3 by omega) _⟩
 gi_wp2
 refine(callsIn_wide.2 (lH.out _ hE)).mono ?_;rintro e w5 ⟨rfl,nV⟩;have aau:=nV.heap aat (fun h=>h);have aav:=nV.heap Jm (fun h=>h);have Qk:Boxed w5 B2 9 (.string ⟨#[]⟩):=nV.heap xB (fun h=>h);have J8:Boxed w5 B3 28 (.int .i64 0):=nV.heap vU (fun h=>h);have hEb:=hE.ext nV;have hsz5:=nV.size;clear c0 c1 t0 t1 t2 r2 r3 s2 s3 aat Jm xB vU hE nV;obtain⟨c0,c1⟩:=aP aau;obtain⟨t0,t1,t2⟩:=ag aav;have r2:=Qk.cell;have r3:=J8.cell;have s2:=Qk.frozen;have s3:=J8.frozen;cases hwf:wf ax t
 .have HV:Hid (V=(ah,1)):=ae (by rw[HVV.out,if_pos (.inr hwf)])
  gi_wp2
  have i2:Boxed (w5.setCell ⟨B2,0,none⟩ (.string ⟨#[]⟩)) B2 9 (.string ⟨#[]⟩):=setBlock Qk 0 _;have i3:Boxed (w5.setCell ⟨B2,0,none⟩ (.string ⟨#[]⟩)) B3 28 (.int .i64 0):=Boxed.other J8 (by omega) _;have Vm:Boxed ((w5.setCell ⟨B2,0,none⟩ (.string ⟨#[]⟩)).setCell ⟨B3,0,none⟩ (.int .i64 1)) B2 9 (.string ⟨#[]⟩):=Boxed.other i2 (by omega) _;have He:Boxed ((w5.setCell ⟨B2,0,none⟩ (.string ⟨#[]⟩)).setCell ⟨B3,0,none⟩ (.int .i64 1)) B3 28 (.int .i64 1):=setBlock i3 0 _;have q2:=Vm.cell;have q3:=He.cell;exact⟨.tuple #[.string ⟨#[]⟩,.int .i64 1],by simp[results,Tryz.f57,go_sem,q2,q3],by rw[HV.out];rfl,(hEb.iD (show w.heap.size<=B2 by omega) _).iD (show w.heap.size<=B3 by omega) _⟩
 have jb:Hid (V=if b_ g t≠0 then(ah,b_ g t) else(eu g t,0)):=ae (by rw[HVV.out,if_neg (by rw[hvs,hwf];simp)]);have anm:=PX hvs;have yB:=ae (XE g t (zI hwf))
 gi_wp2
 refine(callsIn_wide.2 (Eu t (.slice a t.kids.length cap) w5 ⟨_,_,_,rfl⟩)).mono ?_;rintro e w6 ⟨rfl,zJ,hs6,hb6,hv6⟩;have aiO:=zJ.heap aau (fun h=>h);have hb16:=zJ.heap aav (fun h=>h);have ano:Boxed w6 B2 9 (.string ⟨#[]⟩):=zJ.heap Qk (fun h=>h);have anp:Boxed w6 B3 28 (.int .i64 0):=zJ.heap J8 (fun h=>h);have hEE:=hEb.ext zJ;have Hf:=J8.lt;clear c0 c1 t0 t1 t2 r2 r3 s2 s3 aau aav Qk J8 hEb zJ;obtain⟨Z,hZ⟩: ∃Z,w5.heap.size=Z:=⟨_,rfl⟩
 rw[hZ] at hs6 hb6 hv6 hsz5 Hf⊢
 gi_wp2
 refine wpIn_rangeFunc_ownH hro h1 (gf:=188) (lb:= #[.pointer (some ⟨Z+1,0,none⟩),.pointer (some ⟨Z,0,none⟩)]) rfl trivial (enters_of Tryz.func188 (by kernel_rfl) rfl)
  (Qj Fence.wide hd (9-1) hf hro (Z+1) Z (fun k=>k=B2\/k=B3) (fun k=>k<B0) w6 (by omega) (by omega) (by omega) (by omega) t a cap (hB0▸hT.ext hEE) hv6 hb6 (by omega)) (fun h k=>dQ.trans h k) (fun W l o o' _ hl hc _=>dQ.putObj W l o o' hl hc) (Below.refl _ _) (fun _=>rfl)
  (fun pre W=>(ja g (pre.map g_.t)=0/\Boxed W B2 9 (.string ⟨#[]⟩))/\(Boxed W B3 28 (.int .i64 0)/\Below B2 w6 W))
  (fun c pre W=>((c= .ret/\ja g (pre.map g_.t)≠0)/\Boxed W B2 9 (.string ⟨#[]⟩))/\(Boxed W B3 28 (.int .i64 (ja g (pre.map g_.t)))/\Below B2 w6 W))
  (OwnFrom.and (OwnFrom.and (ownFrom_pure _ _) (Own.from (boxed_own B2 9 (fun _=>Value.string ⟨#[]⟩)) _)) (OwnFrom.and (Own.from (boxed_own B3 28 (fun _=>Value.int .i64 0)) _) (ownFrom_below (by omega) (by omega))))
  (fun c=>OwnFrom.and (OwnFrom.and (ownFrom_pure _ _) (Own.from (boxed_own B2 9 (fun _=>Value.string ⟨#[]⟩)) _)) (OwnFrom.and (Own.from (boxed_own B3 28 (fun pre:List (g_ (fun k=>k<B0) w6)=>Value.int .i64 (ja g (pre.map g_.t)))) _) (ownFrom_below (by omega) (by omega))))
  ⟨⟨rfl,ano⟩,anp,Below.refl _ _⟩
  (fun x a' W=> ∃Bx,W.heap[Bx]?=some (.cells #[.string x.t.name,.string x.t.sort,.slice x.a x.t.kids.length x.cap] 24 (0,0))/\a'={tmps:= #[(.agg #[.slice sa g.1.length sc,.slice oa g.2.length oc]),(.agg #[.string t.name,.string t.sort,.slice a t.kids.length cap]),.pointer (some ⟨B0,0,none⟩),.pointer (some ⟨B1,0,none⟩),.pointer (some ⟨B2,0,none⟩),.pointer (some ⟨B3,0,none⟩),.pointer (some ⟨Bx,0,none⟩),undef,undef,undef,(.agg #[.slice sa g.1.length sc,.slice oa g.2.length oc]),.bool true,.bool false,.bool false,(.agg #[.string t.name,.string t.sort,.slice a t.kids.length cap]),.bool true,.bool false,.bool false,(.agg #[.string t.name,.string t.sort,.slice a t.kids.length cap]),(.func (.func 188) #[] #[.pointer (some ⟨Z+1,0,none⟩),.pointer (some ⟨Z,0,none⟩)]),(.agg #[.string x.t.name,.string x.t.sort,.slice x.a x.t.kids.length x.cap]),.int .i64 (x.d:Int),undef,undef,undef,undef,undef,undef,undef,undef,undef,undef,undef,undef,undef],defers:=[]})
  (fun x a' _ X Y row hs hg hr=>by
   obtain⟨Bx,e2,e3⟩:=hs;refine⟨Bx,(aj.jI hg).heap e2 (fun e=>?_),e3⟩;obtain⟨o,ho,hc⟩:=(hr Bx e.symm).2;rw[e2] at ho;cases ho;cases hc) ?assign ?body ?done ?stop
 case assign=>
  rintro l pre x W K ⟨⟨i0,i1⟩,i2,i3⟩ hK;dsimp only[g_.encs,tV];have hbx:=ai W (.cells #[.string x.t.name,.string x.t.sort,.slice x.a x.t.kids.length x.cap] 24)
  gi_wp2
  exact hK _ _ (iy _ ((aj.refl _ W).alloc _)) (dQ.oz ((aj.refl _ W).alloc _)) ⟨⟨i0,i1.alloc _⟩,i2.alloc _,i3.alloc (by have:=i3.size;omega) _⟩ ⟨W.heap.size,hbx,rfl⟩
 case body=>
  rintro l pre x a' W hl hrec ⟨⟨i0,i1⟩,i2,i3⟩ ⟨Bx,hbx,rfl⟩ hlt;have Ku:Ext w W:=oI (n:=B0) ((hB0▸Ext.below hEE).trans (i3.mono (by omega))) (by omega);have X5:aj (fun k=>B2<=k) w6 W:=⟨i3.os,i3.tape,i3.output,i3.size,fun k hk hf=>i3.block k (by omega)⟩
  have aaw:=X5.heap aiO (by omega);obtain⟨x0,x1,x2⟩:=ag hbx;obtain⟨c0,c1⟩:=aP aaw;have HN:=ae (Di.out anm x.t (tV x.t (.slice x.a x.t.kids.length x.cap)) (fun k=>k<B0) W Ku ⟨x.a,x.cap,rfl,x.ok.kept X5 (fun k hk e=>by omega)⟩);have gU:=ae (X4 (x:=x.t) i0);have HI0:=ae i0;dsimp only[tV] at HN;clear hrec i0;obtain⟨E,hE⟩: ∃E,yR g x.t=E:=⟨_,rfl⟩
  rw[hE] at HN gU;clear hE
  gi_wp2
  refine(CallsIn.inRound l (callsIn_wide.2 HN.out)).mono ?_;rintro e W2 ⟨rfl,hW2⟩;have j1:Boxed W2 B2 9 (.string ⟨#[]⟩):=hW2.heap i1 (fun h=>h);have j2:Boxed W2 B3 28 (.int .i64 0):=hW2.heap i2 (fun h=>h);have j3:Below B2 w6 W2:=i3.trans ⟨hW2.os,hW2.tape,hW2.output,hW2.size,fun k hk=>hW2.block k (by have:=i3.size;omega) (fun h=>h)⟩;clear x0 x1 x2 c0 c1 HN;have hmap:(pre++[x]).map g_.t=pre.map g_.t++[x.t]:=by rw[List.map_append];rfl
  by_cases he:E=0
  .have y1:(E==0)=true:=by rw[he];rfl
   have y2:(E !=0)=false:=by rw[he];rfl
   have U5:Hid (ja g ((pre++[x]).map g_.t)=0):=ae (by rw[hmap,gU.out,he]);clear he gU
   gi_wp2
   exact⟨iy _ hW2,dQ.oz hW2,⟨U5.out,j1⟩,j2,j3⟩
  .have y1:(E==0)=false:=beq_eq_false_iff_ne.2 he;have y2:(E !=0)=true:=bne_iff_ne.2 he;have U5:Hid (ja g ((pre++[x]).map g_.t)=E):=ae (by rw[hmap,gU.out]);have zU:=ae he;have r2:=j1.cell;have r3:=j2.cell;have s2:=j1.frozen;have s3:=j2.frozen;clear he gU
   gi_wp2
   have st:=((aj.refl (fun k=>k=B2\/k=B3) W2).setCell (p:=⟨B2,0,none⟩) (.inl (.inl rfl)) (.string ⟨#[]⟩)).setCell (p:=⟨B3,0,none⟩) (.inl (.inr rfl)) (.int .i64 E);have u1:Boxed (W2.setCell ⟨B2,0,none⟩ (.string ⟨#[]⟩)) B2 9 (.string ⟨#[]⟩):=setBlock j1 0 _;have u2:Boxed (W2.setCell ⟨B2,0,none⟩ (.string ⟨#[]⟩)) B3 28 (.int .i64 0):=Boxed.other j2 (by omega) _;refine⟨(iy _ hW2).trans (gy _ st (fun k o e ho=>?_)),⟨⟨rfl,by rw[U5.out];exact zU.out⟩,Boxed.other u1 (by omega) _⟩,by rw[U5.out];exact setBlock u2 0 _,(j3.setCell (p:=⟨B2,0,none⟩) (Nat.le_refl _) _).setCell (p:=⟨B3,0,none⟩) (by show B2<=B3;omega) _⟩;rcases e with e|e
   .subst e;rw[show W2.heap[k]?=_ from j1] at ho;cases ho;rfl
   .subst e;rw[show W2.heap[k]?=_ from j2] at ho;cases ho;rfl
 case done=>
  rintro D xs W hD hS' ⟨⟨i0,i1⟩,i2,i3⟩ hK;have Ku:Ext w W:=oI (n:=B0) ((hB0▸Ext.below hEE).trans (i3.mono (by omega))) (by omega);have X5:aj (fun k=>B2<=k) w6 W:=⟨i3.os,i3.tape,i3.output,i3.size,fun k hk hf=>i3.block k (by omega)⟩
  have aaw:=X5.heap aiO (by omega);have anq:=X5.heap hb16 (by omega);obtain⟨c0,c1⟩:=aP aaw;obtain⟨t0,t1,t2⟩:=ag anq;have hw0:b_ g t=0:=by rw[<-yB.out];unfold En;rw[<-ado hS'];exact i0
  have HV:Hid (V=(eu g t,0)):=ae (by rw[jb.out,if_neg (fun h=>h hw0)]);have HO:=ae (HOW.out W Ku);rw[Qi] at HO;clear hw0 i0 hS'
  gi_wp2
  refine(callsIn_wide.2 HO.out).mono ?_;rintro e W2 ⟨rfl,hW2⟩;have j1:Boxed W2 B2 9 (.string ⟨#[]⟩):=hW2.heap i1 (fun h=>h);have j2:Boxed W2 B3 28 (.int .i64 0):=hW2.heap i2 (fun h=>h);have hK2:=hW2.heap hK (fun h=>h);have hE2:=Ku.trans hW2;have r2:=j1.cell;have r3:=j2.cell;have s2:=j1.frozen;have s3:=j2.frozen;obtain⟨o1,ho1⟩: ∃o,eu g t=o:=⟨_,rfl⟩
  rw[ho1] at HV⊢;clear c0 c1 t0 t1 t2 HO ho1
  gi_wp2
  have st:=((aj.refl (fun k=>k=B2\/k=B3) W2).setCell (p:=⟨B2,0,none⟩) (.inl (.inl rfl)) (.string o1)).setCell (p:=⟨B3,0,none⟩) (.inl (.inr rfl)) (.int .i64 0);have hK':=(gy 0 st (fun k o e ho=>by
   rcases e with e|e
   .subst e;rw[show W2.heap[k]?=_ from j1] at ho;cases ho;rfl
   .subst e;rw[show W2.heap[k]?=_ from j2] at ho;cases ho;rfl)).same D _ (Nat.zero_le _) hK2 rfl
  have u1:Boxed (W2.setCell ⟨B2,0,none⟩ (.string o1)) B2 9 (.string o1):=setBlock j1 0 _;have u2:Boxed (W2.setCell ⟨B2,0,none⟩ (.string o1)) B3 28 (.int .i64 0):=Boxed.other j2 (by omega) _;have u3:Boxed ((W2.setCell ⟨B2,0,none⟩ (.string o1)).setCell ⟨B3,0,none⟩ (.int .i64 0)) B2 9 (.string o1):=Boxed.other u1 (by omega) _;have u4:Boxed ((W2.setCell ⟨B2,0,none⟩ (.string o1)).setCell ⟨B3,0,none⟩ (.int .i64 0)) B3 28 (.int .i64 0):=setBlock u2 0 _;refine⟨by simp,.inl ⟨_,_,rfl,run_takeDeferred hK',?_⟩⟩;have hc2:=cell_kept u3.cell (grownBy_putObj' _ D (.deferred none)) (fun r e=>by cases e;exact⟨_,hK',rfl⟩);have hc3:=cell_kept u4.cell (grownBy_putObj' _ D (.deferred none)) (fun r e=>by cases e;exact⟨_,hK',rfl⟩);refine⟨.tuple #[.string o1,.int .i64 0],by simp[results,Tryz.f57,go_sem,hc2,hc3],by rw[HV.out],?_⟩;have hEX:Ext w ((W2.setCell ⟨B2,0,none⟩ (.string o1)).setCell ⟨B3,0,none⟩ (.int .i64 0)):=(hE2.iD (show w.heap.size<=B2 by omega) _).iD (show w.heap.size<=B3 by omega) _;exact hEX.trans' (aj.jI (grownBy_putObj' _ D (.deferred none))) (fun i hi e=>by cases e;omega)
 case stop=>
  rintro D c pre W hD hSp ⟨⟨⟨rfl,hbad⟩,i1⟩,i2,i3⟩ hK;have Ku:Ext w W:=oI (n:=B0) ((hB0▸Ext.below hEE).trans (i3.mono (by omega))) (by omega);have hwr:=adp hSp hbad;rw[yB.out] at hwr;have HV:Hid (V=(ah,ja g (pre.map g_.t))):=ae (by rw[jb.out,hwr,if_pos hbad]);generalize ja g (pre.map g_.t)=E at*;clear hwr hbad hSp
  gi_wp2
  refine⟨by simp,.inl ⟨_,_,rfl,run_takeDeferred hK,?_⟩⟩;have hc2:=cell_kept i1.cell (grownBy_putObj' _ D (.deferred none)) (fun r e=>by cases e;exact⟨_,hK,rfl⟩);have hc3:=cell_kept i2.cell (grownBy_putObj' _ D (.deferred none)) (fun r e=>by cases e;exact⟨_,hK,rfl⟩);refine⟨.tuple #[.string ⟨#[]⟩,.int .i64 E],by simp[results,Tryz.f57,go_sem,hc2,hc3],by rw[HV.out];rfl,?_⟩;exact Ku.trans' (aj.jI (grownBy_putObj' _ D (.deferred none))) (fun i hi e=>by cases e;omega)
end
section
open Go.Sort Go.Proofs Go.ChangeMaps
def Jc (g:Sg) (r:Rl):Bool:=decide ((gB g r.1).2=0/\(gB g r.2).2=0/\(gB g r.1).1=(gB g r.2).1)
def SC (g:Sg) (l:List Rl):Bool:=h_ ax g&&bY l&&l.all (Jc g)
theorem UU (g:Sg) (l:List Rl) (v lv:Value) (S:Nat->Prop) (w:World) (hG:u_ S w g v) (hS: ∀k,S k->k<w.heap.size) (hL:jc (fun k=>k<w.heap.size) w l lv) (htab:bT w) (hll:l.length<=1000000) (hls: ∀r∈l,r.1.size<=100000/\r.2.size<=100000) (hl1:g.1.length<=1000000) (hl2:g.2.length<=1000000):
  Calls Tryz.prog 52 #[v,lv] w fun e w'=>e= .returned (.bool (SC g l))/\Ext w w':=by
 have HSG:=ae (fun W (hW:Ext w W)=>Vw g v S W (hG.ext hW) hl1 hl2);have oH:=ae (fun W (hW:Ext w W)=>Uj l lv (fun k=>k<w.heap.size) W (hL.ext hW) hll);have pq:=ae (fun(x:Tm) (u:Value) (hx:x.size<=100000) W (hW:Ext w W) (hR:bC (fun k=>k<W.heap.size) W x u)=>QL g x v u S (fun k=>k<W.heap.size) W (hG.ext hW) hR hl1 hl2);have wR:=ae hL;have FK:=ae hls;obtain⟨sa,sc,oa,oc,rfl,_,_⟩:=hG;obtain⟨la,lc,rfl⟩:=hL.shape;obtain⟨Z,hZ⟩: ∃Z,SC g l=Z:=⟨_,rfl⟩
 rw[hZ];unfold SC at hZ;obtain⟨A,hA⟩: ∃b,h_ ax g=b:=⟨_,rfl⟩
 obtain⟨B,hB⟩: ∃b,bY l=b:=⟨_,rfl⟩
 rw[hA] at HSG hZ;rw[hB] at oH hZ;have iH:=ae hZ.symm;have cZ:=ae ((uR w).alloc (.cells #[.slice sa g.1.length sc,.slice oa g.2.length oc] 74));have HB0:=ae (ai w (.cells #[.slice sa g.1.length sc,.slice oa g.2.length oc] 74));clear hZ hA hB hL hls htab;obtain⟨x0,x1⟩:=aP HB0.out
 go_enter Tryz.func52,Tryz.ntmps52
 go_wp2_with fail
 generalize w.alloc (.cells #[.slice sa g.1.length sc,.slice oa g.2.length oc] 74)=w1 at*;refine(HSG.out _ cZ.out).mono ?_;rintro e w2 ⟨rfl,hw⟩;have HE2:=ae (cZ.out.trans hw);have HB2:=ae (hw.heap HB0.out (fun h=>h));clear hw HSG cZ HB0 x0 x1;cases A with
 |false=>
  obtain rfl:Z=false:=iH.out;clear iH oH pq
  go_wp2_with fail
  go_ret;exact⟨rfl,HE2.out⟩
 |true=>
  go_wp2_with fail
  refine(oH.out _ HE2.out).mono ?_;rintro e w3 ⟨rfl,hw⟩;have aS:=ae (HE2.out.trans hw);have HB3:=ae (hw.heap HB2.out (fun h=>h));clear hw oH HE2 HB2;cases B with
  |false=>
   obtain rfl:Z=false:=iH.out;clear iH pq
   go_wp2_with fail
   go_ret;exact⟨rfl,aS.out⟩
  |true=>
   have Ac:Hid (Z=l.all (Jc g)):=ae iH.out;clear iH
   go_wp2_with fail
   go_loopg [5] l.length (fun gk iv wr=> ∃k:Nat,iv= .int .i64 (k:Int)/\gk=l.length-k/\k<=l.length/\Hid (Ext w wr)/\Hid (wr.heap[w.heap.size]?=some (.cells #[.slice sa g.1.length sc,.slice oa g.2.length oc] 74 (0,0)))/\Hid (∀j,j<k->Jc g (Go.Hw.rg l j)=true))
   case atStart=>exact⟨0,rfl,rfl,Nat.zero_le _,aS,HB3,ae (fun j h=>absurd h (Nat.not_lt_zero _))⟩
   case round=>
    clear aS HB3;obtain⟨k,rfl,rfl,hk,HE,HB,HM⟩:=hrel;by_cases hlt:k<l.length
    rotate_left
    .obtain rfl:k=l.length:=by omega
     have z2:decide ((l.length:Int)< (l.length:Int))=false:=dF (by omega);obtain rfl:Z=true:=by
      rw[Ac.out,List.all_eq_true];intro r hr;obtain⟨j,hj,e⟩:=List.getElem_of_mem hr;have h:=HM.out j hj;rw[show Go.Hw.rg l j=r by unfold Go.Hw.rg;rw[List.getD_eq_getElem?_getD,List.getElem?_eq_getElem hj];exact e] at h;exact h
     clear Ac HM hlt
     go_wp2_with fail
     go_ret;exact⟨rfl,HE.out⟩
    obtain⟨g2,lU,hga,_,hat⟩:=(wR.out.ext HE.out).at_ (by omega);subst hga;obtain⟨xa,xc,ya,yc,q0,q1,q2,q3,q4,q5,hx,hy⟩:=hat k hlt;obtain⟨z0,z1,z2,z2'⟩:=bz hlt;have hsz:=FK.out _ (oD hlt);have HBAD:Hid (Jc g (Go.Hw.rg l k)=false->l.all (Jc g)=false):=ae (fun h=>by
     rw[List.all_eq_false];exact⟨_,oD hlt,by rw[h];decide⟩)
    have jr:Hid (Jc g (Go.Hw.rg l k)=true->∀j,j<k+1->Jc g (Go.Hw.rg l j)=true):=ae (fun h j hj=>by
     rcases Nat.lt_succ_iff_lt_or_eq.1 hj with h2|h2
     .exact HM.out j h2
     .rw [h2];exact h)
    obtain⟨⟨x,y⟩,hxy⟩: ∃r,Go.Hw.rg l k=r:=⟨_,rfl⟩
    rw[hxy] at q0 q1 q2 q3 q4 q5 hx hy hsz HBAD jr;unfold Jc at HBAD jr;dsimp only at q0 q1 q2 q3 q4 q5 hx hy hsz HBAD jr;have oW:=ae (fun W (hW:Ext wr W)=>pq.out x (.agg #[.string x.name,.string x.sort,.slice xa x.kids.length xc]) hsz.1 W (HE.out.trans hW) ⟨xa,xc,rfl,(hx.ext hW).weaken (fun k hk=>ay hk (HE.out.trans hW).size)⟩);have HP2:=ae (fun W (hW:Ext wr W)=>pq.out y (.agg #[.string y.name,.string y.sort,.slice ya y.kids.length yc]) hsz.2 W (HE.out.trans hW) ⟨ya,yc,rfl,(hy.ext hW).weaken (fun k hk=>ay hk (HE.out.trans hW).size)⟩);obtain⟨⟨s1,e1⟩,hs1⟩: ∃z,gB g x=z:=⟨_,rfl⟩
    obtain⟨⟨s2,e2⟩,hs2⟩: ∃z,gB g y=z:=⟨_,rfl⟩
    rw[hs1] at oW HBAD jr;rw[hs2] at HP2 HBAD jr;dsimp only at oW HP2 HBAD jr;clear hat hx hy hsz hxy hs1 hs2 HM;obtain⟨hy0,hy1⟩:=aP HB.out;have x0:=fun x:XW wr=>x.ext.cell q0 (fun h=>h);have x1:=fun x:XW wr=>x.ext.cell q1 (fun h=>h);have x2:=fun x:XW wr=>x.ext.cell q2 (fun h=>h);have y0:=fun x:XW wr=>x.ext.cell hy0 (fun h=>h);have y1:=fun x:XW wr=>x.ext.cell hy1 (fun h=>h);have hq0:Ext wr wr:=aj.refl _ _
    go_upto_region 6 with fail
    refine aW wr (by assumption) (by kernel_rfl) (by kernel_rfl) ?_
    repeat (first|go_big_quiet_skip|(go_big_quiet_want;go_big_quiet_op;first|go_big_quiet_on|(apply Exists.intro;refine⟨fun x=>?_,?_⟩;((go_at_call 125;with_reducible exact XW.call (oW.out x.val x.ext)));go_big_quiet_on)))
    refine wpQuiet_nil ?_;rintro w3 ⟨⟨_,ZW⟩,rfl⟩
    try dsimp only
    have LV:=ae ZW;have HB3:=ae (ZW.heap HB.out (fun h=>h));clear ZW x0 x1 x2 y0 y1;have v3:=fun x:XW w3=>x.ext.cell (LV.out.cell q3 (fun h=>h)) (fun h=>h);have v4:=fun x:XW w3=>x.ext.cell (LV.out.cell q4 (fun h=>h)) (fun h=>h);have v5:=fun x:XW w3=>x.ext.cell (LV.out.cell q5 (fun h=>h)) (fun h=>h);have y0:=fun x:XW w3=>x.ext.cell (LV.out.cell hy0 (fun h=>h)) (fun h=>h);have y1:=fun x:XW w3=>x.ext.cell (LV.out.cell hy1 (fun h=>h)) (fun h=>h);clear q0 q1 q2 q3 q4 q5 hy0 hy1;have hq3:Ext w3 w3:=aj.refl _ _
    go_upto_region 7 with fail
    refine aW w3 (by assumption) (by kernel_rfl) (by kernel_rfl) ?_
    repeat (first|go_big_quiet_skip|(go_big_quiet_want;go_big_quiet_op;first|go_big_quiet_on|(apply Exists.intro;refine⟨fun x=>?_,?_⟩;((go_at_call 125;with_reducible exact XW.call (HP2.out x.val (LV.out.trans x.ext))));go_big_quiet_on)))
    refine wpQuiet_nil ?_;rintro w4 ⟨⟨_,ZX⟩,rfl⟩
    try dsimp only
    have pK:=ae (HE.out.trans (LV.out.trans ZX));have HBE:=ae (ZX.heap HB3.out (fun h=>h));clear ZX v3 v4 v5 y0 y1 oW HP2 pq HE LV HB3 HB;by_cases h1:e1=0
    rotate_left
    .have a1:(e1==0)=false:=beq_eq_false_iff_ne.2 h1;have a2:decide (e1=0)=false:=dF h1;have a3:(e1 !=0)=true:=bne_iff_ne.2 h1;obtain rfl:Z=false:=by rw[Ac.out];exact HBAD.out (dF (fun h=>h1 h.1))
     clear Ac HBAD jr h1
     go_wp2_with fail
     go_ret;exact⟨rfl,pK.out⟩
    subst h1;by_cases h2:e2=0
    rotate_left
    .have a1:(e2==0)=false:=beq_eq_false_iff_ne.2 h2;have a2:decide (e2=0)=false:=dF h2;have a3:(e2 !=0)=true:=bne_iff_ne.2 h2;obtain rfl:Z=false:=by rw[Ac.out];exact HBAD.out (dF (fun h=>h2 h.2.1))
     clear Ac HBAD jr h2
     go_wp2_with fail
     go_ret;exact⟨rfl,pK.out⟩
    subst h2;have c1:=nK s1 s2;by_cases h3:s1=s2
    rotate_left
    .rw [dF h3] at c1;have c2:(ByteArray.toList s1 !=ByteArray.toList s2)=true:=by rw[bne,c1];rfl
     have c3:decide (ByteArray.toList s1=ByteArray.toList s2)=false:=dF (beq_eq_false_iff_ne.1 c1);have c4: ¬ByteArray.toList s1=ByteArray.toList s2:=beq_eq_false_iff_ne.1 c1;obtain rfl:Z=false:=by rw[Ac.out];exact HBAD.out (dF (fun h=>h3 h.2.2))
     clear Ac HBAD jr h3
     go_wp2_with fail
     all_goals
      go_ret;exact⟨rfl,pK.out⟩
    subst h3;have KG:=ae (jr.out (dT ⟨rfl,rfl,rfl⟩));clear HBAD jr c1
    go_wp2_with fail
    go_roundg (l.length- (k+1))
    case measure=>omega
    case rel=>exact⟨k+1,by go_num,rfl,by omega,pK,HBE,KG⟩
def II (base:Nat) (z:Tm) (b:Bool):PG.dK ((Option Addr×Nat)×Nat×(Nat->Prop)):=⟨fun x=> .tuple #[tV z (.slice x.1.1 z.kids.length x.1.2),.bool b],fun x W=>aA x.2.2 W z.kids (.slice x.1.1 z.kids.length x.1.2)/\∀j,x.2.2 j->base<=j/\j<W.heap.size,fun x W W' h hE=>⟨h.1.ext hE,fun j hj=>⟨(h.2 j hj).1,ay (h.2 j hj).2 hE.size⟩⟩,fun x j=>x.2.2 j,fun x W k h e=>(h.2 k e).2⟩
def yQ (base:Nat) (c:Obj):PG.dK ((Option Addr×Nat)×Nat×(Nat->Prop)):=⟨fun x=> .pointer (some ⟨x.2.1,0,none⟩),fun x W=>base<=x.2.1/\W.heap[x.2.1]?=some c,fun x W W' h hE=>⟨h.1,hE.heap h.2 (fun h=>h)⟩,fun x j=>j=x.2.1,fun x W k h e=>by rw[e];exact(Array.getElem?_eq_some_iff.1 h.2).1⟩
end
end Go.Proofs.YtlkcjmaiahnodaaGreatDoor
