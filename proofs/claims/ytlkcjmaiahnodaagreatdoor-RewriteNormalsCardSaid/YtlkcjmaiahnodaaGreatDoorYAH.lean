/- The texts I92 I93 I39 I18 I19 I40 I41 I42 I94 I71 I72 I73 N8 I43, one behind the other. -/
import Derived.Test.YtlkcjmaiahnodaaGreatDoorYAG
import Derived.Test.YtlkcjmaiahnodaaGreatDoorYAC
import Derived.Test.YtlkcjmaiahnodaaGreatDoorYAF
import Derived.Deep.DeepCutAuto
set_option maxRecDepth 100000
set_option maxHeartbeats 8000000
set_option linter.unusedVariables false
set_option linter.unusedSimpArgs false
namespace Go.Proofs.YtlkcjmaiahnodaaGreatDoor
open Go.RowKit Go.Hw Go Tm
section
def rM (S:Nat->Prop) (w:World) (b:Nat) (σ:Sb):Prop:= ∃l:List (By×Value),eF (fun s:By=>Value.string s) w b l/\(∀n,σ n=none->jU l n=none)/\∀n t,σ n=some t->∃v,jU l n=some v/\bQ S w t v/\t.size<=100000
section
variable {S F:Nat->Prop} {w w' w1 w2:World} {b:Nat} {σ:Sb}
theorem rM.kept (h:rM S w b σ) (hu:aC F w w') (hb: ¬F b) (hF: ∀k,S k->¬F k):rM S w' b σ:=by
 obtain⟨l,h1,h2,h3⟩:=h;exact⟨l,h1.kept hu hb,h2,fun n t e=>by
  obtain⟨v,g1,g2,g3⟩:=h3 n t e;exact⟨v,g1,g2.kept hu hF,g3⟩⟩
theorem rM.ext (h:rM S w b σ) (hu:Ext w w'):rM S w' b σ:=h.kept hu (fun h=>h) (fun _ _ h=>h)
theorem rM.made (S:Nat->Prop) (w:World):rM S (w.alloc (.map #[] 0)) w.heap.size sb0:=⟨[],eF.made _ w,fun _ _=>rfl,fun n t h=>by cases h⟩
theorem rM.put {l:List (By×Value)} {n:By} {t:Tm} {v:Value} (h:(∀n,σ n=none->jU l n=none)/\∀n t,σ n=some t->∃v,jU l n=some v/\bQ S w t v/\t.size<=100000)
  (h1:aC (fun k=>k=b) w w1) (h2:aC (fun k=>k=b) w1 w2) (hm:eF (fun s:By=>Value.string s) w2 b (pF l n v)) (hS: ¬S b) (ht:bQ S w t v) (hs:t.size<=100000):rM S w2 b (σ.put n t):=by
 have hu:=h1.trans h2;have hF: ∀k,S k->¬k=b:=fun k hk e=>hS (e▸hk);refine⟨_,hm,fun m hm=>?_,fun m x hx=>?_⟩
 .rw [L6];unfold Sb.put at hm;by_cases e:m=n
  .rw [if_pos e] at hm;cases hm
  .rw [if_neg e] at hm⊢;exact h.1 m hm
 .rw [L6];unfold Sb.put at hx;by_cases e:m=n
  .rw [if_pos e] at hx⊢;injection hx with hx
   subst hx;exact⟨v,rfl,ht.kept hu hF,hs⟩
  .rw [if_neg e] at hx⊢;obtain⟨v',g1,g2,g3⟩:=h.2 m x hx;exact⟨v',g1,g2.kept hu hF,g3⟩
end
theorem aa4 {a b:Nat} (h: ¬a=b):((a:Int) !=(b:Int))=true:=by simp;exact fun e=>h (Int.ofNat.inj e)
theorem match_x: ∀(p t:Tm) (v v':Value) (S T:Nat->Prop) (σ:Sb) (b:Nat) (w:World),bQ S w p v->bQ T w t v'->rM T w b σ->¬S b->¬T b->p.size<=1000000->t.size<=100000->
  Calls Tryz.prog 173 #[v,v',.map (some b)] w fun e w'=>e= .returned (.bool (kG p t σ).isSome)/\aC (fun k=>k=b) w w'/\∀τ,kG p t σ=some τ->rM T w' b τ:=by
 refine Tm.ind (fun n s L ih=>?_);intro t v v' S T σ b w hP hT hB hS hTb hsz BI;obtain⟨m,r,M⟩:=t;obtain⟨pa,pc,rfl,hP⟩:=hP;obtain⟨ta,tc,rfl,hT⟩:=hT;dsimp only[tV,Tm.name,Tm.sort,Tm.kids] at hP hT⊢;have nS:=ah hP;have Dk:=ah hT;have lG:=ah hB;have HNS:=ah hS;have HNT:=ah hTb;have Ie:=ah BI;have HIH:=ah ih;have Dl:Hid (¬w.heap.size+1=b):=ah (by obtain⟨l,h1,_⟩:=hB;have:=h1.lt;omega);have j_:L.length<=1000000:=by have h1:=bG L;have h2:=hsz;rw[size_eq] at h2;exact Nat.le_trans h1 (Nat.le_of_succ_le h2)
 have xM:=ah j_;have OL:sizes L+1<=1000000:=by rw[size_eq] at hsz;exact hsz
 have OM:sizes M+1<=100000:=by rw[size_eq] at BI;exact BI
 have bU:=ah (And.intro OL OM);have sQ:=ah (fun(x:Tm) (vx:Value) (hx:bQ T w x vx) (hsx:x.size<=100000) W (hW:Ext w W)=>acN x (.mk m r M) vx (.agg #[.string m,.string r,.slice ta M.length tc]) T T W (hx.ext hW) ⟨ta,tc,rfl,hT.ext hW⟩ (by omega));obtain⟨V,hV⟩: ∃V,kG (.mk n s L) (.mk m r M) σ=V:=⟨_,rfl⟩
 rw[hV];have HVV:=ah hV;clear ih hP hT hB hS hTb hsz BI j_ OL OM hV;have HZ:=ah (((uR w).alloc (.cells #[.string n,.string s,.slice pa L.length pc] 24)).alloc (.cells #[.string m,.string r,.slice ta M.length tc] 24));have HA:=ah (aB (ay w (.cells #[.string n,.string s,.slice pa L.length pc] 24)) (.cells #[.string m,.string r,.slice ta M.length tc] 24));have HB:=ah (alloc_at (w.alloc (.cells #[.string n,.string s,.slice pa L.length pc] 24)) (.cells #[.string m,.string r,.slice ta M.length tc] 24) (n:=w.heap.size+1) (by simp));obtain⟨a0,a1,a2⟩:=ak HA.out;obtain⟨b0,b1,b2⟩:=ak HB.out;by_cases hs0:s.size=0
 .have hse:=jv _ hs0;subst hse;clear hs0 sQ;by_cases hr0:r.size=0
  .have hre:=jv _ hr0;subst hre;clear hr0;by_cases hnm:m=n
   .have t1:(m.toList==n.toList)=true:=by rw[hnm];simp
    by_cases hlen:M.length=L.length
    .have t2:((M.length:Int) !=(L.length:Int))=false:=by simp[hlen]
     have L8:Hid (oG L M σ=V):=ah (by rw[<-HVV.out];exact(KC (t:= .mk m au M) ⟨rfl,hnm,hlen⟩).symm);have I8:=ah hlen;have dP:Hid (aC (fun k=>k=b) w ((w.alloc (.cells #[.string n,.string ⟨#[]⟩,.slice pa L.length pc] 24)).alloc (.cells #[.string m,.string ⟨#[]⟩,.slice ta M.length tc] 24))):=ah (HZ.out.mono (fun _ _ h=>h.elim));have HB0:=ah (lG.out.ext HZ.out);clear hnm hlen HVV lG
     go_enter Tryz.func173,Tryz.ntmps173
     go_wp2_with fail
     clear t1 t2 a0 a1 a2 b0 b1 b2 HA HZ
     go_loopg [61] L.length (fun gk iv wr=> ∃(k:Nat) (τ:Sb),iv= .int .i64 (k:Int)/\gk=L.length-k/\k<=L.length/\Hid (rM T wr b τ)/\Hid (oG (L.drop k) (M.drop k) τ=V)/\Hid (aC (fun k=>k=b) w wr)/\Hid (wr.heap[w.heap.size+1]?=some (.cells #[.string m,.string ⟨#[]⟩,.slice ta M.length tc] 24 (0,0))))
     case atStart=>exact⟨0,σ,rfl,rfl,Nat.zero_le _,HB0,L8,dP,HB⟩
     case round=>
      clear HB0 L8 dP HB;obtain⟨k,τ,rfl,rfl,hk,lG,jc,HE,jS⟩:=hrel;by_cases hlt:k<L.length
      .have sF:k<M.length:=by have:=I8.out;omega
       obtain⟨g,off,hga,_,hat⟩:=(nS.out.kept HE.out (fun k hk e=>HNS.out (e▸hk))).at_ (by omega);obtain⟨g',off',OJ,_,hat'⟩:=(Dk.out.kept HE.out (fun k hk e=>HNT.out (e▸hk))).at_ (by omega);subst hga;subst OJ;obtain⟨xa,xc,q0,q1,q2,aW⟩:=hat k hlt;obtain⟨ya,yc,p0,p1,p2,pW⟩:=hat' k sF;obtain⟨z0,z1,z2,z2'⟩:=bZ hlt;have z3:(k:Int)< (M.length:Int):=by omega
       have bf:=ah (fun W (hW:Ext wr W)=>HIH.out (tg L k) (bY L k hlt) (tg M k) _ _ S T τ b W ⟨xa,xc,rfl,aW.ext hW⟩ ⟨ya,yc,rfl,pW.ext hW⟩ (lG.out.ext hW) HNS.out HNT.out (by have h1:=bU.out.1;have h2:=gq (bY L k hlt);omega) (by have h1:=bU.out.2;have h2:=gq (bY M k sF);omega));have fO:=ah (jc.out.symm.trans (Y_ (σ:=τ) hlt sF));dsimp only[tV] at bf;obtain⟨x,hx⟩: ∃x,tg L k=x:=⟨_,rfl⟩
       obtain⟨y,hy⟩: ∃y,tg M k=y:=⟨_,rfl⟩
       rw[hx] at q0 q1 q2 bf fO;rw[hy] at p0 p1 p2 bf fO;obtain⟨U,hU⟩: ∃U,kG x y τ=U:=⟨_,rfl⟩
       rw[hU] at bf fO;clear hx hy hU jc lG hat hat' aW pW;rw[<-Nat.add_assoc] at q1 q2 p1 p2;have hQ:=(uR wr).alloc (tO x xa xc);have p0:=hQ.cell p0 (fun h=>h);have p1:=hQ.cell p1 (fun h=>h);have p2:=hQ.cell p2 (fun h=>h);have HQ:=ah hQ;have WV:=ay wr (tO x xa xc);obtain⟨e0,e1,e2⟩:=ak WV;have hBQ:=hQ.heap jS.out (fun h=>h);have b2:=aj hBQ 2 (.slice (some ⟨g',off',none⟩) M.length tc) rfl;have zA:=ah hBQ;clear hQ WV hBQ
       go_wp2_with fail
       generalize wr.alloc (tO x xa xc)=wq at*
       go_still_tail 7,(by kernel_rfl)
       change wpList _ _ _ _ _ wq.drew
       go_wp2_with fail
       refine(bf.out _ (HQ.out.drewN' 1)).mono ?_;rintro e w8 ⟨rfl,hw8,hb8⟩;have dG:Hid (aC (fun k=>k=b) w w8):=ah ((HE.out.ext (HQ.out.drewN' 1)).trans' hw8 (fun _ _ e=>e));have akP:=ah (hw8.heap zA.out (fun e=>Dl.out e));have kJ:=ah hb8;clear hw8 hb8 bf HQ zA p0 p1 p2 q0 q1 q2 e0 e1 e2 b2;cases U with
       |none=>
        have iO:Hid (V=none):=ah fO.out;simp only[Option.isSome_none];clear fO
        go_wp2_with fail
        go_ret;rw[iO.out];exact⟨rfl,dG.out,fun _ h=>by cases h⟩
       |some υ=>
        have iO:Hid (oG (L.drop (k+1)) (M.drop (k+1)) υ=V):=ah fO.out.symm;have I9:=ah (kJ.out υ rfl);have j_:=xM.out;simp only[Option.isSome_some];clear fO kJ
        go_wp2_with fail
        go_roundg (L.length- (k+1))
        case measure=>omega
        case rel=>exact⟨k+1,υ,by go_num,rfl,by omega,I9,iO,dG,akP⟩
      .obtain rfl:k=L.length:=by omega
       have z2:decide ((L.length:Int)< (L.length:Int))=false:=dF (by omega);have iO:Hid (V=some τ):=ah (by rw[<-jc.out,List.drop_length];rfl);clear jc
       go_wp2_with fail
       go_ret;rw[iO.out];exact⟨rfl,HE.out,fun υ h=>by injection h with h;rw[<-h];exact lG.out⟩
    .have t2:=aa4 hlen;have HV:Hid (V=none):=ah (by rw[<-HVV.out];exact AQ (fun h=>hlen h.2.2));clear hlen hnm
     go_enter Tryz.func173,Tryz.ntmps173
     go_wp2_with fail
     go_ret;rw[HV.out];exact⟨rfl,HZ.out.mono (fun _ _ h=>h.elim),fun _ h=>by cases h⟩
   .have t1:(m.toList==n.toList)=false:=WC hnm;have HV:Hid (V=none):=ah (by rw[<-HVV.out];exact AQ (fun h=>hnm h.2.1));clear hnm
    go_enter Tryz.func173,Tryz.ntmps173
    go_wp2_with fail
    go_ret;rw[HV.out];exact⟨rfl,HZ.out.mono (fun _ _ h=>h.elim),fun _ h=>by cases h⟩
  .have HV:Hid (V=none):=ah (by rw[<-HVV.out];exact AQ (fun h=>hr0 (by rw[show r=au from h.1];rfl)));obtain⟨r1,r2,r3,r4⟩:=iq r (by omega)
   go_enter Tryz.func173,Tryz.ntmps173
   go_wp2_with fail
   go_ret;rw[HV.out];exact⟨rfl,HZ.out.mono (fun _ _ h=>h.elim),fun _ h=>by cases h⟩
 .have jA:Hid (s≠au):=ah (fun e=>hs0 (by rw[e];rfl));obtain⟨s1,s2,s3,s4⟩:=iq s (by omega);obtain⟨l,hm,hn,hsm⟩:=lG.out;cases hx:σ n with
  |some x=>
   obtain⟨vx,hf,hxT,hxs⟩:=hsm n x hx;have HV:Hid (V=if x= .mk m r M then some σ else none):=ah (by rw[<-HVV.out];exact Em jA.out hx);have hl:=eF.get (P:=Tryz.prog) (t:=208) (qp Tryz.underlying9) Tryz.underlying208 (z:= .agg #[.string ⟨#[]⟩,.string ⟨#[]⟩,.slice none 0 0]) (Tryz.zeroValue24 ((w.alloc (.cells #[.string n,.string s,.slice pa L.length pc] 24)).alloc (.cells #[.string m,.string r,.slice ta M.length tc] 24))) (hm.ext HZ.out) n true;simp only[if_true] at hl;rw[hf] at hl;have jf:=ah (sQ.out x vx hxT hxs);obtain⟨xa,xc,rfl,_⟩:=hxT;dsimp only[tV] at jf hl;simp only[Option.getD_some,Option.isSome_some] at hl;have HZ3:=ah (HZ.out.alloc (tO x xa xc));have hb3:=aB HB.out (tO x xa xc);have hx3:=alloc_at ((w.alloc (.cells #[.string n,.string s,.slice pa L.length pc] 24)).alloc (.cells #[.string m,.string r,.slice ta M.length tc] 24)) (tO x xa xc) (n:=w.heap.size+2) (by simp);obtain⟨x0,x1,x2⟩:=ak hx3;obtain⟨c0,c1,c2⟩:=ak hb3;clear hm hn hsm hf hx hb3 hx3 sQ HIH HVV hxs
   go_enter Tryz.func173,Tryz.ntmps173
   go_wp2_with fail
   refine(jf.out _ HZ3.out).mono ?_;rintro e w8 ⟨rfl,hw8⟩;have dG:=ah (HZ3.out.trans hw8);clear hw8 hl x0 x1 x2 c0 c1 c2 a0 a1 a2 b0 b1 b2 jf
   go_wp2_with fail
   go_ret;rw[HV.out];by_cases e:x= .mk m r M
   .rw [if_pos e,dT e];exact⟨rfl,dG.out.mono (fun _ _ h=>h.elim),fun τ h=>by injection h with h;rw[<-h];exact lG.out.ext dG.out⟩
   .rw [if_neg e,dF e];exact⟨rfl,dG.out.mono (fun _ _ h=>h.elim),fun _ h=>by cases h⟩
  |none=>
   have hf:=hn n hx;have hl:=eF.get (P:=Tryz.prog) (t:=208) (qp Tryz.underlying9) Tryz.underlying208 (z:= .agg #[.string ⟨#[]⟩,.string ⟨#[]⟩,.slice none 0 0]) (Tryz.zeroValue24 ((w.alloc (.cells #[.string n,.string s,.slice pa L.length pc] 24)).alloc (.cells #[.string m,.string r,.slice ta M.length tc] 24))) (hm.ext HZ.out) n true;simp only[if_true] at hl;rw[hf] at hl;simp only[Option.getD_none,Option.isSome_none] at hl;have HN:=ah hx;have aef:=ah (And.intro hn hsm);have HZ3:=ah (HZ.out.alloc zO);have L9:=ah ((hm.ext HZ.out).ext ((uR ((w.alloc (.cells #[.string n,.string s,.slice pa L.length pc] 24)).alloc (.cells #[.string m,.string r,.slice ta M.length tc] 24))).alloc zO));have ha3:=aB HA.out zO;have hb3:=aB HB.out zO;obtain⟨d0,d1⟩:=bT ha3;obtain⟨c0,c1,c2⟩:=ak hb3;clear hm hn hsm hf hx ha3 hb3 sQ HIH lG;by_cases hr0:r.size=0
   .have hre:=jv _ hr0;subst hre;clear hr0;have HRR:Hid ((⟨#[]⟩:By)=au):=ah rfl;have HV:Hid (V=some (σ.put n (.mk m ⟨#[]⟩ M))):=ah (by rw[<-HVV.out,BJ jA.out HN.out];exact if_neg (by rintro⟨h1,h2⟩;first|exact h1 HRR.out|exact h2 HRR.out));obtain⟨W4,hput,hmp,hu⟩:=eF.put (P:=Tryz.prog) (t:=208) (qp Tryz.underlying9) Tryz.underlying208 L9.out n (.agg #[.string m,.string ⟨#[]⟩,.slice ta M.length tc])
    try dsimp only at hput
    have Dn:Hid (aC (fun k=>k=b) w W4):=ah ((HZ3.out.mono (fun _ _ h=>h.elim)).trans hu);have lG:Hid (rM T W4 b (σ.put n (.mk m ⟨#[]⟩ M))):=ah (rM.put aef.out (HZ3.out.mono (fun _ _ h=>h.elim)) hu hmp HNT.out ⟨ta,tc,rfl,Dk.out⟩ Ie.out);clear hmp hu
    go_enter Tryz.func173,Tryz.ntmps173
    go_wp2_with fail
    go_ret;rw[HV.out];exact⟨rfl,Dn.out,fun τ h=>by injection h with h;rw[<-h];exact lG.out⟩
   .obtain ⟨r1,r2,r3,r4⟩:=iq r (by omega);by_cases hrs:r=s
    .have t1:(r.toList==s.toList)=true:=by rw[hrs];simp
     have HRR:=ah hrs;clear hrs;have HV:Hid (V=some (σ.put n (.mk m r M))):=ah (by rw[<-HVV.out,BJ jA.out HN.out];exact if_neg (by rintro⟨h1,h2⟩;first|exact h1 HRR.out|exact h2 HRR.out));obtain⟨W4,hput,hmp,hu⟩:=eF.put (P:=Tryz.prog) (t:=208) (qp Tryz.underlying9) Tryz.underlying208 L9.out n (.agg #[.string m,.string r,.slice ta M.length tc])
     try dsimp only at hput
     have Dn:Hid (aC (fun k=>k=b) w W4):=ah ((HZ3.out.mono (fun _ _ h=>h.elim)).trans hu);have lG:Hid (rM T W4 b (σ.put n (.mk m r M))):=ah (rM.put aef.out (HZ3.out.mono (fun _ _ h=>h.elim)) hu hmp HNT.out ⟨ta,tc,rfl,Dk.out⟩ Ie.out);clear hmp hu
     go_enter Tryz.func173,Tryz.ntmps173
     go_wp2_with fail
     go_ret;rw[HV.out];exact⟨rfl,Dn.out,fun τ h=>by injection h with h;rw[<-h];exact lG.out⟩
    .have t1:(r.toList==s.toList)=false:=WC hrs;have HV:Hid (V=none):=ah (by rw[<-HVV.out,BJ jA.out HN.out];exact if_pos ⟨fun e=>hr0 (by rw[show r=au from e];rfl),hrs⟩);clear hrs
     go_enter Tryz.func173,Tryz.ntmps173
     go_wp2_with fail
     go_ret;rw[HV.out];exact⟨rfl,HZ3.out.mono (fun _ _ h=>h.elim),fun _ h=>by cases h⟩
end
theorem aeg (σ:Sb) (L:List Tm) (k:Nat) (h:k<L.length):tg (L.map (kH σ)) k=kH σ (tg L k):=by
 unfold tg;rw[List.getD_eq_getElem?_getD,List.getD_eq_getElem?_getD,List.getElem?_map,List.getElem?_eq_getElem h];rfl
theorem aeh: ∀(t:Tm) (v:Value) (S T:Nat->Prop) (σ:Sb) (b:Nat) (w:World),bQ S w t v->rM T w b σ->(∀k,S k->k<w.heap.size)->(∀k,T k->k<w.heap.size)->t.size<=100000->
  Calls Tryz.prog 174 #[v,.map (some b)] w fun e w'=> ∃r B,e= .returned (tV (kH σ t) r)/\aP 24 w' B (kH σ t).kids r/\(∀j,B j->w.heap.size<=j/\j<w'.heap.size)/\Ext w w':=by
 refine Tm.ind (fun nm so L ih=>?_);intro v S T σ b w hT hB hS hS2 hsz;obtain⟨a,cap,rfl,hT⟩:=hT;dsimp only[Tm.name,Tm.sort,Tm.kids] at hT;change Calls Tryz.prog 174 #[.agg #[.string nm,.string so,.slice a L.length cap],.map (some b)] w (fun e w'=> ∃r B,e= .returned (tV (kH σ (.mk nm so L)) r)/\aP 24 w' B (kH σ (.mk nm so L)).kids r/\(∀j,B j->w.heap.size<=j/\j<w'.heap.size)/\Ext w w');have dH:=ah hT;have HIH:=ah ih;have lG:=ah hB;have HST:=ah (And.intro hS hS2);have fJ:sizes L+1<=100000:=by rw[size_eq] at hsz;simp only[Tm.kids] at hsz;omega
 have HSL:=ah fJ;have j_:L.length<=100000:=by have h1:=bG L;omega
 clear ih hT hB hS hS2 hsz fJ;by_cases hs0:so.size=0
 .have hse:=jv _ hs0;subst hse;have uG:Hid (kH σ (.mk nm ⟨#[]⟩ L)= .mk nm ⟨#[]⟩ (L.map (kH σ))):=ah (SK σ nm L);rw[uG.out];dsimp only[tV,Tm.name,Tm.sort,Tm.kids];obtain⟨LM,hLM⟩: ∃LM,L.map (kH σ)=LM:=⟨_,rfl⟩
  have iW:Hid (L.map (kH σ)=LM/\LM.length=L.length):=ah ⟨hLM,by rw[<-hLM,List.length_map]⟩;rw[hLM];have hx3:=(((uR w).alloc (.cells #[.string nm,.string ⟨#[]⟩,.slice a L.length cap] 24)).alloc zO).alloc (.cells #[.string nm,.string ⟨#[]⟩,.slice none 0 0] 24);have hb1:=aB (ay w (.cells #[.string nm,.string ⟨#[]⟩,.slice a L.length cap] 24)) zO;obtain⟨p0,p1⟩:=bT hb1;have p2:=aj (aB hb1 (.cells #[.string nm,.string ⟨#[]⟩,.slice none 0 0] 24)) 2 (.slice a L.length cap) rfl;have hb2:=aB (alloc_at (w.alloc (.cells #[.string nm,.string ⟨#[]⟩,.slice a L.length cap] 24)) zO (n:=w.heap.size+1) (by simp)) (.cells #[.string nm,.string ⟨#[]⟩,.slice none 0 0] 24);have hb3:=alloc_at ((w.alloc (.cells #[.string nm,.string ⟨#[]⟩,.slice a L.length cap] 24)).alloc zO) (.cells #[.string nm,.string ⟨#[]⟩,.slice none 0 0] 24) (n:=w.heap.size+1+1) (by simp);have hz0:(((w.alloc (.cells #[.string nm,.string ⟨#[]⟩,.slice a L.length cap] 24)).alloc zO).alloc (.cells #[.string nm,.string ⟨#[]⟩,.slice none 0 0] 24)).heap.size=w.heap.size+3:=by simp
  have HB2:=ah hb2;have HB3:=ah hb3;have dP:=ah hx3;have HZ0:=ah hz0;clear hb1 hb2 hb3 hx3 hz0 hLM hs0 uG
  go_enter Tryz.func174,Tryz.ntmps174
  go_wp2_with fail
  clear p0 p1 p2;generalize (((w.alloc (.cells #[.string nm,.string ⟨#[]⟩,.slice a L.length cap] 24)).alloc zO).alloc (.cells #[.string nm,.string ⟨#[]⟩,.slice none 0 0] 24))=W0 at*;obtain⟨n3,hn3⟩: ∃n3,w.heap.size+1+1=n3:=⟨_,rfl⟩
  rw[hn3] at HB3⊢;have fH:=ah hn3;clear hn3;have kL:Hid (n_ 24 (w.heap.size+3) W0 LM (.slice none 0 0) [] (fun _ _=>False) 0):=ah ⟨rfl,⟨rfl,.inl ⟨rfl,rfl⟩⟩,fun i hi=>absurd hi (Nat.not_lt_zero _),fun i j hi=>absurd hi (Nat.not_lt_zero _),fun i i' j hi=>absurd hi (Nat.not_lt_zero _)⟩;have uz:Hid (w.heap.size+3<=W0.heap.size):=ah (by rw[HZ0.out];exact Nat.le_refl _);clear HZ0
  go_loopg [22] L.length (fun gk iv wr=> ∃(k:Nat) (lv:Value) (us:List Value) (Bk:Nat->Nat->Prop),iv= .int .i64 (k:Int)/\gk=L.length-k/\k<=L.length/\Hid (n_ 24 (w.heap.size+3) wr LM lv us Bk k)/\Hid (wr.heap[w.heap.size+1]?=some zO)/\Hid (wr.heap[n3]?=some (.cells #[.string nm,.string ⟨#[]⟩,lv] 24 (0,0)))/\Hid (Ext w wr)/\Hid (w.heap.size+3<=wr.heap.size))
  case atStart=>exact⟨0,_,_,_,rfl,rfl,Nat.zero_le _,kL,HB2,HB3,dP,uz⟩
  case round=>
   clear kL HB2 HB3 dP uz;obtain⟨k,lv,us,Bk,rfl,rfl,hk,HJ,HB2,HB3,HE,bU⟩:=hrel;obtain⟨la,lc,hlv⟩:=bF HJ.out.own;subst hlv;by_cases hlt:k<L.length
   .obtain ⟨g,off,hga,_,hat⟩:=(dH.out.ext HE.out).at_ (by omega);subst hga;obtain⟨xa,xc,q0,q1,q2,aW⟩:=hat k hlt;rw[<-Nat.add_assoc] at q1 q2;obtain⟨z0,z1,z2,z2'⟩:=bZ hlt;have bf:=ah (fun W (hW:Ext (wr.alloc (.cells #[.string (tg L k).name,.string (tg L k).sort,.slice xa (tg L k).kids.length xc] 24)) W)=>HIH.out (tg L k) (bY L k hlt) _ S T σ b W ⟨xa,xc,rfl,(aW.ext ((uR wr).alloc _)).ext hW⟩ ((lG.out.ext HE.out).ext (((uR wr).alloc (.cells #[.string (tg L k).name,.string (tg L k).sort,.slice xa (tg L k).kids.length xc] 24)).trans hW)) (fun j hj=>aF (HST.out.1 j hj) (Nat.le_trans HE.out.size (Nat.le_trans ((uR wr).alloc (.cells #[.string (tg L k).name,.string (tg L k).sort,.slice xa (tg L k).kids.length xc] 24)).size hW.size))) (fun j hj=>aF (HST.out.2 j hj) (Nat.le_trans HE.out.size (Nat.le_trans ((uR wr).alloc (.cells #[.string (tg L k).name,.string (tg L k).sort,.slice xa (tg L k).kids.length xc] 24)).size hW.size))) (by have h1:=HSL.out;have h2:=jy L k hlt;have h3:=fF L (k+1);omega));have HX0:=ah (aeg σ L k hlt);dsimp only[tV] at bf;obtain⟨x,hx⟩: ∃x,tg L k=x:=⟨_,rfl⟩
    rw[hx] at q0 q1 q2 bf HX0;obtain⟨y,hy⟩: ∃y,kH σ x=y:=⟨_,rfl⟩
    rw[hy] at bf HX0;have HX:Hid (tg LM k=y):=ah (by rw[<-iW.out.1];exact HX0.out);clear hy HX0;have hQ:=(uR wr).alloc (tO x xa xc);have mO:=ay wr (tO x xa xc);obtain⟨b0,b1,b2⟩:=ak mO;have lF:=aB HB3.out (tO x xa xc);have c2:=aj lF 2 (.slice la k lc) rfl;have zA:=ah lF;have HQ:=ah hQ;have yD:=ah (aB HB2.out (tO x xa xc));have Ed:=ah (HJ.out.own.alloc (tO x xa xc));have iV:Hid (¬(Value.slice la k lc).ownBlock=some n3):=ah (fun e=>by have h1:=(HJ.out.own.lt n3 e).1;have:=fH.out;omega);have HK:Hid (k<=100000):=ah (by omega);obtain⟨iT,hi,hz0,hz1,hz2⟩:=info_parts um;clear hat aW hx hQ mO lF
    go_wp2_with fail
    generalize wr.alloc (tO x xa xc)=wq at*;have Ee:Hid (Ext wq wq):=ah (aC.refl _ _);have sW:Hid (w.heap.size+3<=wq.heap.size):=ah (Nat.le_trans bU.out HQ.out.size);clear q0 q1 q2
    go_region_law (first
  |(refine dY _ (.tmp 27) (.tmp 31) 22 rfl (w.heap.size+3) 24 iT (.agg #[.string ⟨#[]⟩,.string ⟨#[]⟩,.slice none 0 0]) 3 56 Tryz.underlying22 hi hz0 hz1 hz2 rfl (by decide) _ _ _ rfl yE.out _ 1 1 [.string y.name,.string y.sort,.slice ya y.kids.length yc] rfl rfl oD.out kF.out Za.out.1 Za.out.2.1 Za.out.2.2 ?_;intro v7 w7 bK;obtain⟨a7,c7,hv7⟩:=bF bK.own;subst hv7;have fK:=bK.upd.heap (aB fC.out (tO y ya yc)) iV.out;have f7:=fun i=>aA fK i;have c2:=aj fK 2 (.slice la k lc) rfl;have eU:=ah fK;have jO:=ah bK;clear bK fK)
  |(go_simp;refine(bf.out wq.drew Ee.out.drew).mono ?_;rintro e w5 ⟨r,Bx,rfl,kV,hb5,hw5⟩;obtain⟨ya,yc,jP⟩:=aP.shape kV;subst jP;have dh:Hid (Ext wq w5):=ah (((uR wq).drewN' 1).trans hw5);have o7:=ah kV;have sG:Hid (∀j,Bx j->wq.heap.size<=j/\j<w5.heap.size):=ah hb5;have fC:=ah (dh.out.heap zA.out (fun h=>h));have yE:Hid ((w5.alloc (tO y ya yc)).ownsRow (w.heap.size+3) 24 3 (.slice la k lc) k (dI (LM.take k) us)):=ah ((bH Ed.out dh.out (fun _ _ h=>h)).alloc _);have oD:Hid (∀(j:Nat) (u:Value),[Value.string y.name,.string y.sort,.slice ya y.kids.length yc][j]?=some u->(w5.alloc (tO y ya yc)).cell? ((⟨w5.heap.size,0,none⟩:Addr).add j)=some u):=ah (zU w5 _ _ _ 24);have kF:Hid (∀u∈[Value.string y.name,.string y.sort,.slice ya y.kids.length yc],u.oneCell'=true):=ah (fun u hu=>by simp at hu;rcases hu with h|h|h<;>(subst h;rfl));have Za:Hid (k+1<=maxLen/\(k+1)*56<=140737488355328/\w.heap.size+3<=(w5.alloc (tO y ya yc)).heap.size):=ah ⟨by unfold maxLen;have:=HK.out;omega,by have:=HK.out;omega,by have h1:=dh.out.size;have h2:=sW.out;simp;omega⟩;have c5:=dh.out.cell c2 (fun h=>h);have c6:=((uR w5).alloc (tO y ya yc)).cell c5 (fun h=>h);clear kV hb5 hw5))
    all_goals
     go_wp2_with fail
     have ig:=ah ((aC.refl (fun j=>j=n3) w7).setCell (p:=⟨n3,2,none⟩) (.inl rfl) (.slice a7 (k+1) c7));have dB:Hid (aC (fun j=>(Value.slice la k lc).ownBlock=some j\/j=n3) wq (w7.setCell ⟨n3,2,none⟩ (.slice a7 (k+1) c7))):=ah (((((dh.out.alloc (tO y ya yc)).mono (fun _ _ x=>x.elim)).trans (jO.out.upd.mono (fun _ _ e=> .inl e)))).trans (ig.out.mono (fun _ _ e=> .inr e)));have uF:=ah (HJ.out.grow (by rw[iW.out.2];exact hlt) HX.out (by have:=fH.out;omega) bU.out HQ.out dh.out o7.out sG.out ((uR w5).alloc (tO y ya yc)) jO.out ig.out);have dG:Hid (Ext w (w7.setCell ⟨n3,2,none⟩ (.slice a7 (k+1) c7))):=ah ((HE.out.trans HQ.out).trans' dB.out (fun j hj e=>by
      rcases e with e|e
      .have h1:=(HJ.out.own.lt j e).1;omega
      .have:=fH.out;omega))
     have mY:=ah (dB.out.heap yD.out (fun e=>by
      rcases e with e|e
      .have h1:=(HJ.out.own.lt _ e).1;omega
      .have:=fH.out;omega))
     have jC:=setBlock eU.out 2 (.slice a7 (k+1) c7);have lY:Hid ((w7.setCell ⟨n3,2,none⟩ (.slice a7 (k+1) c7)).heap[n3]?=some (.cells #[.string nm,.string ⟨#[]⟩,.slice a7 (k+1) c7] 24 (0,0))):=ah (by simpa using jC);have jX:Hid (w.heap.size+3<=(w7.setCell ⟨n3,2,none⟩ (.slice a7 (k+1) c7)).heap.size):=ah (Nat.le_trans sW.out dB.out.size);clear jC c2 f7
     go_roundg (L.length- (k+1))
     case measure=>omega
     case rel=>exact⟨k+1,_,_,_,by go_num,rfl,by omega,uF,mY,lY,dG,jX⟩
   .obtain rfl:k=L.length:=by omega
    have z2:decide ((L.length:Int)< (L.length:Int))=false:=dF (by omega);obtain⟨c0,c1,c2⟩:=ak HB3.out;have f2:=fun i=>aA HB2.out i;obtain⟨d0,d1,d2⟩:=ak HB2.out
    go_wp2_with fail
    have hr:=aN HB2.out (.string nm) (.string ⟨#[]⟩) (.slice la L.length lc);have hu:=aK wr (w.heap.size+1) (.string nm) (.string ⟨#[]⟩) (.slice la L.length lc);obtain⟨e0,e1,e2⟩:=ak hr;refine bodyPost_ret (v:= .agg #[.string nm,.string ⟨#[]⟩,.slice la L.length lc]) (by simp[results,Tryz.results172,go_sem,e0,e1,e2]) rfl ⟨.slice la L.length lc,_,rfl,(show n_ 24 (w.heap.size+3) wr LM _ us Bk LM.length by rw[iW.out.2];exact HJ.out).fin.kept hu (fun j hj e=>by have h1:=hj.1;omega),fun j hj=>⟨by have h1:=hj.1;omega,aF hj.2 hu.size⟩,HE.out.trans' hu (fun j hj e=>by omega)⟩
 .obtain ⟨s1,s2,s3,s4⟩:=iq so (by omega);have jA:Hid (so≠au):=ah (fun e=>hs0 (by rw[e];rfl));obtain⟨l,hm,hn,hsm⟩:=lG.out;have hl:=eF.get (P:=Tryz.prog) (t:=208) (qp Tryz.underlying9) Tryz.underlying208 (z:=(.agg #[.string ⟨#[]⟩,.string ⟨#[]⟩,.slice none 0 0])) (Tryz.zeroValue24 ((w.alloc (.cells #[.string nm,.string so,.slice a L.length cap] 24)).alloc zO)) (hm.ext (((uR w).alloc (.cells #[.string nm,.string so,.slice a L.length cap] 24)).alloc zO)) nm false;simp only[Bool.false_eq_true,if_false] at hl;obtain⟨x,hx⟩: ∃x,(σ nm).getD default=x:=⟨_,rfl⟩
  have hfx: ∃xv,(jU l nm).getD (.agg #[.string ⟨#[]⟩,.string ⟨#[]⟩,.slice none 0 0])=xv/\bQ T w x xv/\x.size<=100000:=by
   cases h:σ nm with
   |none=>
    rw[h] at hx;rw[hn nm h,<-hx];exact⟨_,rfl,⟨none,0,rfl,((aP.nil 25 w (fun _=>False)).read).weaken (fun _ h=>h.elim)⟩,by decide⟩
   |some y=>
    rw[h] at hx;obtain⟨v',g1,g2,g3⟩:=hsm nm y h;rw[g1,<-hx];exact⟨v',rfl,g2,g3⟩
  obtain⟨xv,e1,hxT,hxs⟩:=hfx;rw[e1] at hl;have HC:=ah (fun W (hW:Ext w W)=>Ei x xv T W (hxT.ext hW) (fun k hk=>aF (HST.out.2 k hk) hW.size) hxs);obtain⟨xa,xc,rfl,_⟩:=hxT;dsimp only[tV] at HC hl;rw[OO σ jA.out,hx];dsimp only[tV];have HZ:=ah (((uR w).alloc (.cells #[.string nm,.string so,.slice a L.length cap] 24)).alloc zO);have hb1:=aB (ay w (.cells #[.string nm,.string so,.slice a L.length cap] 24)) zO;have hb2:=alloc_at (w.alloc (.cells #[.string nm,.string so,.slice a L.length cap] 24)) zO (n:=w.heap.size+1) (by simp);obtain⟨p0,p1⟩:=bT hb1;have HB2:=ah hb2;clear hb1 hb2 hm hn hsm hx e1 hxs HIH lG dH hs0
  go_enter Tryz.func174,Tryz.ntmps174
  go_wp2_with fail
  refine(HC.out _ HZ.out).mono ?_;rintro e w5 ⟨r,B,rfl,kV,hb5,hw5⟩;obtain⟨ya,yc,jP⟩:=aP.shape kV;subst jP;have dh:=ah (HZ.out.trans hw5);have o7:=ah kV;have sG:Hid (∀j,B j->w.heap.size+2<=j/\j<w5.heap.size):=ah (fun j hj=>by have h1:=hb5 j hj;simp at h1;omega);have fC:=ah (hw5.heap HB2.out (fun h=>h));have f5:=fun i=>aA fC.out i;clear kV hb5 hw5 hl p0 p1 HC HB2;obtain⟨d0,d1,d2⟩:=ak fC.out
  go_wp2_with fail
  have hr:=aN fC.out (.string x.name) (.string x.sort) (.slice ya x.kids.length yc);have hu:=aK w5 (w.heap.size+1) (.string x.name) (.string x.sort) (.slice ya x.kids.length yc);obtain⟨e0,e1,e2⟩:=ak hr;refine bodyPost_ret (v:= .agg #[.string x.name,.string x.sort,.slice ya x.kids.length yc]) (by simp[results,Tryz.results174,go_sem,e0,e1,e2]) rfl ⟨.slice ya x.kids.length yc,_,rfl,o7.out.kept hu (fun j hj e=>by have h1:=sG.out j hj;omega),fun j hj=>⟨by have h1:=sG.out j hj;omega,aF (sG.out j hj).2 hu.size⟩,dh.out.trans' hu (fun j hj e=>by omega)⟩
section
section
variable {n0 m:Nat} {r:By->Nat} {X Y:List Nt} {w6 wr wq wb w8:World} {tv tv':Value} {i j g:Nat} {us:List Value} {tab:List (List Bool)} {Q:Nat->Prop} {row:List Bool}
end
end
theorem qG {t:Tm} (h:wf aJ t=true):t.size<=1000:=(D5 (zo h)).1
theorem AB {t:Tm} (h:wf aJ t=true):vH t:=D6 (zo h)
theorem aaZ {s:By} (h:aJ s=true):akN s/\s.size<=40:=by
 unfold aJ at h;rw[Bool.and_eq_true,Bool.and_eq_true,Bool.and_eq_true,decide_eq_true_eq,List.all_eq_true] at h;refine⟨⟨fun hm=>?_,fun hm=>?_⟩,h.1.2⟩
 .have:=h.2.2.1 _ hm;revert this;decide
 .have:=h.2.2.1 _ hm;revert this;decide
def ApP (o:Option Tm) (n0:Nat) (w':World) (v:Value):Prop:= ∃r B,v= .tuple #[tV (o.getD default) r,.bool o.isSome]/\aP 24 w' B (o.getD default).kids r/\∀j,B j->n0<=j/\j<w'.heap.size
theorem acO (x y t:Tm) (v v':Value) (xa ya:Option Addr) (xc yc:Nat) (S T:Nat->Prop) (w:World) (hx:aI S w x.kids (.slice xa x.kids.length xc)) (hy:aI S w y.kids (.slice ya y.kids.length yc)) (hv:v= .agg #[.string x.name,.string x.sort,.slice xa x.kids.length xc,.string y.name,.string y.sort,.slice ya y.kids.length yc]) (ht:bQ T w t v')
  (hS: ∀k,S k->k<w.heap.size) (hT: ∀k,T k->k<w.heap.size) (hsx:x.size<=100000) (hsy:y.size<=100000) (hst:t.size<=100000):
  Calls Tryz.prog 119 #[v,v'] w fun e w'=> ∃r,e= .returned r/\ApP (pG (x,y) t) w.heap.size w' r/\Ext w w':=by
 subst hv;obtain⟨ta,tc,rfl,ht⟩:=ht;have HX:=ah hx;have HY:=ah hy;have HT:=ah ht;have HS:=ah (And.intro hS hT);have bU:=ah (And.intro hsx (And.intro hsy hst));have hz0:=((((uR w).alloc (.cells #[.string x.name,.string x.sort,.slice xa x.kids.length xc,.string y.name,.string y.sort,.slice ya y.kids.length yc] 146)).alloc (tO t ta tc)).alloc zO)
 have hb0:=aB (aB (aB (ay w (.cells #[.string x.name,.string x.sort,.slice xa x.kids.length xc,.string y.name,.string y.sort,.slice ya y.kids.length yc] 146)) (tO t ta tc)) zO) (.map #[] 0);have hb1:=aB (aB (alloc_at (w.alloc (.cells #[.string x.name,.string x.sort,.slice xa x.kids.length xc,.string y.name,.string y.sort,.slice ya y.kids.length yc] 146)) (tO t ta tc) (n:=w.heap.size+1) (by simp)) zO) (.map #[] 0);have hb2:=aB (alloc_at ((w.alloc (.cells #[.string x.name,.string x.sort,.slice xa x.kids.length xc,.string y.name,.string y.sort,.slice ya y.kids.length yc] 146)).alloc (tO t ta tc)) zO (n:=w.heap.size+2) (by simp)) (.map #[] 0);have hmd:=rM.made T (((w.alloc (.cells #[.string x.name,.string x.sort,.slice xa x.kids.length xc,.string y.name,.string y.sort,.slice ya y.kids.length yc] 146)).alloc (tO t ta tc)).alloc zO);have hsz:(((w.alloc (.cells #[.string x.name,.string x.sort,.slice xa x.kids.length xc,.string y.name,.string y.sort,.slice ya y.kids.length yc] 146)).alloc (tO t ta tc)).alloc zO).heap.size=w.heap.size+3:=by simp
 rw[hsz] at hmd;have HZ:=ah (hz0.alloc (.map #[] 0));have HB0:=ah hb0;have HB1:=ah hb1;have HB2:=ah hb2;have HMD:=ah hmd;have HM:=ah (fun W (hW:Ext w W) (hb:rM T W (w.heap.size+3) sb0)=>match_x x t (.agg #[.string x.name,.string x.sort,.slice xa x.kids.length xc]) (.agg #[.string t.name,.string t.sort,.slice ta t.kids.length tc]) S T sb0 (w.heap.size+3) W ⟨xa,xc,rfl,hx.ext hW⟩ ⟨ta,tc,rfl,ht.ext hW⟩ hb (fun h=>by have:=hS _ h;omega) (fun h=>by have:=hT _ h;omega) (by omega) hst);have HF:=ah (fun τ W (hW:Ext w W) (hb:rM T W (w.heap.size+3) τ)=>aeh y (.agg #[.string y.name,.string y.sort,.slice ya y.kids.length yc]) S T τ (w.heap.size+3) W ⟨ya,yc,rfl,hy.ext hW⟩ hb (fun k hk=>aF (hS k hk) hW.size) (fun k hk=>aF (hT k hk) hW.size) hsy);have HU:Hid (pG (x,y) t=(kG x t sb0).map fun σ=>kH σ y):=ah rfl;dsimp only[tV] at HF⊢;obtain⟨a0,a1,a2⟩:=ak hb0;obtain⟨b0,b1,b2⟩:=ak hb1;clear hx hy ht hS hT hsx hsy hst hz0 hb0 hb1 hb2 hmd hsz;have hmm:= @run_makeMap Tryz.prog
 go_enter Tryz.func119,Tryz.ntmps119
 go_wp2_with fail
 clear hmm;refine(HM.out _ HZ.out HMD.out).mono ?_;rintro e w5 ⟨rfl,hw5,hbd⟩;have dA:Hid (Ext w w5):=ah (HZ.out.trans' hw5 (fun j hj e=>by omega));have I_:=ah (hw5.heap HB0.out (by omega));have SL:=ah (hw5.heap HB2.out (by omega));have lG:=ah hbd;obtain⟨M,hM⟩: ∃M,kG x t sb0=M:=⟨_,rfl⟩
 rw[hM] at lG HU⊢;clear hw5 hbd hM a0 a1 a2 b0 b1 b2 HM HMD HB0 HB1 HB2 HZ;cases M with
 |none=>
  have HV:Hid (pG (x,y) t=none):=ah HU.out;simp only[Option.isSome_none];clear HU HF lG;have f5:=fun i=>aA SL.out i;obtain⟨d0,d1,d2⟩:=ak SL.out
  go_wp2_with fail
  have hr:=aN SL.out (.string ⟨#[]⟩) (.string ⟨#[]⟩) (.slice none 0 0);have hu:=aK w5 (w.heap.size+2) (.string ⟨#[]⟩) (.string ⟨#[]⟩) (.slice none 0 0);obtain⟨e0,e1,e2⟩:=ak hr;refine bodyPost_ret (v:= .tuple #[.agg #[.string ⟨#[]⟩,.string ⟨#[]⟩,.slice none 0 0],.bool false]) (by simp[results,Tryz.results119,go_sem,e0,e1,e2]) rfl ⟨_,rfl,by rw[HV.out];exact⟨.slice none 0 0,fun _=>False,rfl,aP.nil _ _ _,fun _ h=>h.elim⟩,dA.out.trans' hu (fun j hj e=>by omega)⟩
 |some τ=>
  have HV:Hid (pG (x,y) t=some (kH τ y)):=ah HU.out;simp only[Option.isSome_some];have gB:=ah (fun W (hW:Ext w5 W)=>HF.out τ W (dA.out.trans hW) ((lG.out τ rfl).ext hW));obtain⟨z,hz⟩: ∃z,kH τ y=z:=⟨_,rfl⟩
  rw[hz] at gB HV;have akQ:=ah (lG.out τ rfl);clear HU HF lG hz;have a3:=aj I_.out 3 (.string y.name) rfl;have a4:=aj I_.out 4 (.string y.sort) rfl;have a5:=aj I_.out 5 (.slice ya y.kids.length yc) rfl
  go_wp2_with fail
  refine(gB.out _ (aC.refl _ _)).mono ?_;rintro e w6 ⟨r,B,rfl,uH,hb6,hw6⟩;obtain⟨za,zc,jP⟩:=aP.shape uH;subst jP;have fV:=ah (dA.out.trans hw6);have wS:=ah uH;have jS:Hid (∀j,B j->w5.heap.size<=j/\j<w6.heap.size):=ah hb6;have nO:Hid (w.heap.size+3<=w5.heap.size):=ah (by
   have h1:=SL.out;obtain⟨l,h2,_⟩:=akQ.out;have:=h2.lt;omega)
  have OQ:=ah (hw6.heap SL.out (fun h=>h));clear uH hb6 hw6 gB a3 a4 a5 SL;have f6:=fun i=>aA OQ.out i;obtain⟨d0,d1,d2⟩:=ak OQ.out
  go_wp2_with fail
  have hr:=aN OQ.out (.string z.name) (.string z.sort) (.slice za z.kids.length zc);have hu:=aK w6 (w.heap.size+2) (.string z.name) (.string z.sort) (.slice za z.kids.length zc);obtain⟨e0,e1,e2⟩:=ak hr;refine bodyPost_ret (v:= .tuple #[.agg #[.string z.name,.string z.sort,.slice za z.kids.length zc],.bool true]) (by simp[results,Tryz.results119,go_sem,e0,e1,e2]) rfl ⟨_,rfl,by rw[HV.out];exact⟨.slice za z.kids.length zc,B,rfl,wS.out.kept hu (fun j hj e=>by have h1:=jS.out j hj;have h2:=nO.out;omega),fun j hj=>⟨by have h1:=jS.out j hj;have h2:=nO.out;omega,aF (jS.out j hj).2 hu.size⟩⟩,fV.out.trans' hu (fun j hj e=>by omega)⟩
def g_:Tm->List Int->Option Tm
 |t,[]=>some t
 |t,i::p=>if i<0\/(t.kids.length:Int)<=i then none else g_ (tg t.kids i.toNat) p
theorem wR (t:Tm) (i:Int) (p:List Int):g_ t (i::p)=if i<0\/(t.kids.length:Int)<=i then none else g_ (tg t.kids i.toNat) p:=by rw[g_]
theorem qW.snoc {w:World} {i:Nat}: ∀{p:List Nat} {a a' a'':Nat×Nat},qW w p a a'->qW w [i] a' a''->qW w (p++[i]) a a''
 |[],a,a',a'',h,h2=>by
  have h:a'=a:=h;rw[<-h];exact h2
 |j::p,a,a',a'',h,h2=>by
  obtain⟨g,off,n,c,h3,h4⟩:=h;exact⟨g,off,n,c,h3,qW.snoc h4 h2⟩
theorem KA: ∀{p:List Int} {t x:Tm},g_ t p=some x->qM t (p.map Int.toNat)/\vV t (p.map Int.toNat)=x
 |[],t,x,h=>by
  injection h with h
  exact⟨trivial,h⟩
 |i::p,t,x,h=>by
  rw[wR] at h;by_cases h1:i<0\/(t.kids.length:Int)<=i
  .rw [if_pos h1] at h;cases h
  .rw [if_neg h1] at h;obtain⟨h2,h3⟩:=KA h;exact⟨⟨by omega,h2⟩,h3⟩
def LU (S:Nat->Prop) (w:World) (a:Nat×Nat) (t:Tm):Prop:= ∃xa xc,w.cell? ⟨a.1,a.2,none⟩=some (.string t.name)/\w.cell? ⟨a.1,a.2+1,none⟩=some (.string t.sort)/\w.cell? ⟨a.1,a.2+2,none⟩=some (.slice xa t.kids.length xc)/\aI S w t.kids (.slice xa t.kids.length xc)
def AtP (S:Nat->Prop) (w:World) (t:Tm) (p:List Int) (a:Nat×Nat) (e:Ending):Prop:=
 (g_ t p=none/\e= .returned (.pointer none))\/∃x a',g_ t p=some x/\e= .returned (.pointer (some ⟨a'.1,a'.2,none⟩))/\qW w (p.map Int.toNat) a a'/\LU S w a' x
theorem AtP.no {S:Nat->Prop} {w:World} {t:Tm} {p:List Int} {a:Nat×Nat} (h:g_ t p=none):AtP S w t p a (.returned (.pointer none)):= .inl ⟨h,rfl⟩
theorem AtP.yes {S:Nat->Prop} {w:World} {t x:Tm} {p:List Int} {a a':Nat×Nat} (h:g_ t p=some x) (h2:qW w (p.map Int.toNat) a a') (h3:LU S w a' x):AtP S w t p a (.returned (.pointer (some ⟨a'.1,a'.2,none⟩))):= .inr ⟨x,a',h,rfl,h2,h3⟩
theorem akO (t:Tm) (p:List Int) (pv:Value) (a:Nat×Nat) (S T:Nat->Prop) (w:World) (hA:LU S w a t) (hP:aG T w 1 pv p.length (p.map (Value.int .i64))) (hl:p.length<=1000000):
  Calls Tryz.prog 171 #[.pointer (some ⟨a.1,a.2,none⟩),pv] w fun e w'=>AtP S w t p a e/\w=w':=by
 obtain⟨pa,pc,rfl⟩:=aG.shape hP;have HP:=ah hP;have HA:=ah hA;obtain⟨b,o⟩:=a;clear hP hA
 go_enter Tryz.func171,Tryz.ntmps171
 go_wp2_with fail
 go_loopg [0,9] p.length (fun gk qv iv wr=> ∃(k:Nat) (c:Nat×Nat) (x:Tm),qv= .pointer (some ⟨c.1,c.2,none⟩)/\iv= .int .i64 (k:Int)/\gk=p.length-k/\k<=p.length/\Hid (g_ t p=g_ x (p.drop k))/\Hid (qW w ((p.take k).map Int.toNat) (b,o) c)/\Hid (LU S w c x)/\w=wr)
 case atStart=>exact⟨0,(b,o),t,rfl,rfl,rfl,Nat.zero_le _,ah rfl,ah rfl,HA,rfl⟩
 case round=>
  clear HA;obtain⟨k,⟨cb,co⟩,x,rfl,rfl,rfl,hk,HS,HD,HX,rfl⟩:=hrel;by_cases hlt:k<p.length
  .obtain ⟨g,off,hga,_,hat⟩:=aG.Ef (d:=(0:Int)) HP.out (by omega);subst hga;have q0:=hat k hlt;obtain⟨z0,z1,z2,z2'⟩:=bZ hlt;have hd:p.drop k=p.getD k 0::p.drop (k+1):=by
    rw[List.drop_eq_getElem_cons hlt,List.getD_eq_getElem?_getD,List.getElem?_eq_getElem hlt];rfl
   have htk:p.take (k+1)=p.take k++[p.getD k 0]:=by
    rw[List.take_add_one,List.getD_eq_getElem?_getD,List.getElem?_eq_getElem hlt];rfl
   have hs:=HS.out;rw[hd,wR] at hs;have HS2:=ah hs;have rJ:=ah htk;obtain⟨i,hi⟩: ∃i,p.getD k 0=i:=⟨_,rfl⟩
   rw[hi] at q0 HS2 rJ;clear hat hd htk hs hi HS;obtain⟨xa,xc,x0,x1,x2,hx⟩:=HX.out;dsimp only at x0 x1 x2;by_cases hi0:i<0
   .have HV:Hid (g_ t p=none):=ah (by rw[HS2.out,if_pos (.inl hi0)]);have y1:decide (i<0)=true:=dT hi0;clear x0 x1 x2 hx
    go_wp2_with fail
    all_goals go_ret
    all_goals exact⟨AtP.no HV.out,rfl⟩
   have y1:decide (i<0)=false:=dF hi0;by_cases hi1:(x.kids.length:Int)<=i
   .have HV:Hid (g_ t p=none):=ah (by rw[HS2.out,if_pos (.inr hi1)]);have y2:decide ((x.kids.length:Int)<=i)=true:=dT hi1;clear x0 x1 hx
    go_wp2_with fail
    all_goals go_ret
    all_goals exact⟨AtP.no HV.out,rfl⟩
   have y2:decide ((x.kids.length:Int)<=i)=false:=dF hi1;have HV:Hid (g_ t p=g_ (tg x.kids i.toNat) (p.drop (k+1))):=ah (by rw[HS2.out,if_neg (by omega)]);obtain⟨j,rfl⟩: ∃j:Nat,i=(j:Int):=⟨i.toNat,by omega⟩
   have hjn:((j:Int)).toNat=j:=by omega
   rw[hjn] at HV;have hj:j<x.kids.length:=by omega
   obtain⟨g2,off2,BH,_,yF⟩:=hx.at_ (by omega);subst BH;obtain⟨ya,yc,r0,r1,r2,hy⟩:=yF j hj;have HD2:Hid (qW w ((p.take (k+1)).map Int.toNat) (b,o) (g2,off2+j*3)):=ah (by
    rw[rJ.out,List.map_append];refine qW.snoc HD.out ⟨g2,off2,x.kids.length,xc,x2,?_⟩;rw[hjn];rfl)
   have Di:Hid (LU S w (g2,off2+j*3) (tg x.kids j)):=ah ⟨ya,yc,r0,by rw[Nat.add_assoc];exact r1,by rw[Nat.add_assoc];exact r2,hy⟩;have u0:(0:Int)<=(j:Int):=by omega
   have u1:(j:Int)< (x.kids.length:Int):=by omega
   clear x0 x1 hx yF r0 r1 r2 hy HS2 rJ HD HX hi0 hi1 hjn
   go_wp2_with fail
   go_roundg (p.length- (k+1))
   case measure=>omega
   case rel=>exact⟨k+1,(g2,off2+j*3),tg x.kids j,rfl,by go_num,rfl,by omega,HV,HD2,Di,rfl⟩
  .obtain rfl:k=p.length:=by omega
   have z2:decide ((p.length:Int)< (p.length:Int))=false:=dF (by omega);have HV:Hid (g_ t p=some x):=ah (by rw[HS.out,List.drop_length];rfl);have hdd:=HD.out;rw[List.take_length] at hdd;have HDD:=ah hdd;clear hdd
   go_wp2_with fail
   go_ret;exact⟨AtP.yes (a':=(cb,co)) HV.out HDD.out HX.out,rfl⟩
abbrev cZ:Tm:= .mk au au []
def Dj (t:Tm) (p:List Int):Tm×Int:=if wf aJ t=false then(cZ,1) else match g_ t p with
 |none=>(cZ,2)
 |some x=>(x,0)
theorem LV: ∀(p:List Nat) (t:Tm),qM t p->(vV t p).size<=t.size
 |[],t,_=>Nat.le_refl _
 |i::p,t,h=>by
  have h1:=LV p _ h.2;have h2:=vW (bY t.kids i h.1);show(vV (tg t.kids i) p).size<=_;omega
theorem LW (z:Tm): ∀(L:List Tm) (i:Nat),i<L.length->sizes (L.set i z)+(tg L i).size=sizes L+z.size
 |a::L,0,_=>by
  show sizes (z::L)+a.size=sizes (a::L)+z.size;simp only[sizes];omega
 |a::L,i+1,h=>by
  have ih:=LW z L i (by simpa using h);show sizes (a::L.set i z)+(tg L i).size=sizes (a::L)+z.size;simp only[sizes];omega
theorem I5 (y:Tm): ∀(p:List Nat) (t:Tm),qM t p->(putAt t p y).size<=t.size+y.size
 |[],t,_=>by
  have e:putAt t [] y=y:=by cases t;rfl
  rw[e];omega
 |i::p,t,h=>by
  obtain⟨nm,so,L⟩:=t;have h1:=I5 y p (tg L i) h.2;have h2:=LW (putAt (tg L i) p y) L i h.1;have e:putAt (.mk nm so L) (i::p) y= .mk nm so (L.set i (putAt (tg L i) p y)):=rfl;rw[e,size_eq,size_eq];simp only[Tm.kids];omega
theorem yw (t:Tm) (v:Value) (w:World) (htab:dN w) (hR:bQ (fun k=>k<w.heap.size) w t v) (hsz:(t.size:Int)<=1000000000000):Calls Tryz.prog 78 #[v] w fun e w'=>e= .returned (.bool (wf aJ t))/\Ext w w':=by
 have HR:=ah hR;obtain⟨a,cap,rfl,hT⟩:=hR;have hb:=ay w (tO t a cap);have HZ:=ah ((uR w).alloc (tO t a cap));have HS:=ah (fun W (hW:Ext w W)=>Oz t _ W (aS htab hW) ((HR.out.ext hW).weaken (fun k hk=>aF hk hW.size)) hsz);dsimp only[tV] at HS⊢;obtain⟨c0,c1,c2⟩:=ak hb;have hpos:=size_pos t;have hz:decide (0<xJ t)=wf aJ t:=by
  unfold xJ;by_cases h:wf aJ t=true
  .rw [if_pos h,h,dT (by omega)]
  .rw [if_neg h,Bool.eq_false_iff.2 h];rfl
 have HV:=ah hz;obtain⟨X,hX⟩: ∃X,xJ t=X:=⟨_,rfl⟩
 rw[hX] at HS HV;clear hz hX hT hb
 go_enter Tryz.func78,Tryz.ntmps78
 go_wp2_with fail
 refine(HS.out _ HZ.out).mono ?_;rintro e w4 ⟨rfl,hw4⟩;have H4:=ah (HZ.out.ext hw4);clear hw4 c0 c1 c2;by_cases h0:0<X
 .have t0:(0:Int)< (X:Int):=by omega
  have t1:decide ((0:Int)< (X:Int))=true:=dT t0;have nZ:Hid (wf aJ t=true):=ah (by rw[<-HV.out];exact dT h0)
  go_wp2_with fail
  go_ret;rw[nZ.out];exact⟨rfl,H4.out⟩
 .have t0: ¬(0:Int)< (X:Int):=by omega
  have t1:decide ((0:Int)< (X:Int))=false:=dF t0;have nZ:Hid (wf aJ t=false):=ah (by rw[<-HV.out];exact dF h0)
  go_wp2_with fail
  go_ret;rw[nZ.out];exact⟨rfl,H4.out⟩
theorem EJ: ∀(t:Tm) (v:Value) (S:Nat->Prop) (w:World),bQ S w t v->(∀k,S k->k<w.heap.size)->t.size<=100000->
  Calls Tryz.prog 96 #[v] w fun e w'=> ∃r B,e= .returned (tV t r)/\aP 24 w' B t.kids r/\(∀j,B j->w.heap.size<=j/\j<w'.heap.size)/\Ext w w':=by
 refine Tm.ind (fun nm so L ih=>?_);intro v S w hT hS hsz;obtain⟨a,cap,rfl,hT⟩:=hT;dsimp only[tV,Tm.name,Tm.sort,Tm.kids] at hT⊢;have dH:=ah hT;have HIH:=ah ih;have iE:=ah hS;have fJ:sizes L+1<=100000:=by rw[size_eq] at hsz;simp only[Tm.kids] at hsz;omega
 have HSL:=ah fJ;have j_:L.length<=100000:=by have h1:=bG L;omega
 have hx3:=(((uR w).alloc (.cells #[.string nm,.string so,.slice a L.length cap] 24)).alloc zO).alloc (.cells #[.string nm,.string so,.slice none 0 0] 24);have hb2:=aB (alloc_at (w.alloc (.cells #[.string nm,.string so,.slice a L.length cap] 24)) zO (n:=w.heap.size+1) (by simp)) (.cells #[.string nm,.string so,.slice none 0 0] 24);have hb3:=alloc_at ((w.alloc (.cells #[.string nm,.string so,.slice a L.length cap] 24)).alloc zO) (.cells #[.string nm,.string so,.slice none 0 0] 24) (n:=w.heap.size+1+1) (by simp);have hz0:(((w.alloc (.cells #[.string nm,.string so,.slice a L.length cap] 24)).alloc zO).alloc (.cells #[.string nm,.string so,.slice none 0 0] 24)).heap.size=w.heap.size+3:=by simp
 have HB2:=ah hb2;have HB3:=ah hb3;have dP:=ah hx3;have HZ0:=ah hz0;clear ih hT hS hsz fJ;clear hb2 hb3 hx3 hz0
 go_enter Tryz.func96,Tryz.ntmps96
 go_wp2_with fail
 generalize (((w.alloc (.cells #[.string nm,.string so,.slice a L.length cap] 24)).alloc zO).alloc (.cells #[.string nm,.string so,.slice none 0 0] 24))=W0 at*;obtain⟨n3,hn3⟩: ∃n3,w.heap.size+1+1=n3:=⟨_,rfl⟩
 rw[hn3] at HB3⊢;have fH:=ah hn3;clear hn3;have kL:Hid (n_ 24 (w.heap.size+3) W0 L (.slice none 0 0) [] (fun _ _=>False) 0):=ah ⟨rfl,⟨rfl,.inl ⟨rfl,rfl⟩⟩,fun i hi=>absurd hi (Nat.not_lt_zero _),fun i j hi=>absurd hi (Nat.not_lt_zero _),fun i i' j hi=>absurd hi (Nat.not_lt_zero _)⟩;have uz:Hid (w.heap.size+3<=W0.heap.size):=ah (by rw[HZ0.out];exact Nat.le_refl _);clear HZ0
 go_loopg [14] L.length (fun gk iv wr=> ∃(k:Nat) (lv:Value) (us:List Value) (Bk:Nat->Nat->Prop),iv= .int .i64 (k:Int)/\gk=L.length-k/\k<=L.length/\Hid (n_ 24 (w.heap.size+3) wr L lv us Bk k)/\Hid (wr.heap[w.heap.size+1]?=some zO)/\Hid (wr.heap[n3]?=some (.cells #[.string nm,.string so,lv] 24 (0,0)))/\Hid (Ext w wr)/\Hid (w.heap.size+3<=wr.heap.size))
 case atStart=>exact⟨0,_,_,_,rfl,rfl,Nat.zero_le _,kL,HB2,HB3,dP,uz⟩
 case round=>
  clear kL HB2 HB3 dP uz;obtain⟨k,lv,us,Bk,rfl,rfl,hk,HJ,HB2,HB3,HE,bU⟩:=hrel;obtain⟨la,lc,hlv⟩:=bF HJ.out.own;subst hlv;by_cases hlt:k<L.length
  .obtain ⟨g,off,hga,_,hat⟩:=(dH.out.ext HE.out).at_ (by omega);subst hga;obtain⟨xa,xc,q0,q1,q2,aW⟩:=hat k hlt;rw[<-Nat.add_assoc] at q1 q2;obtain⟨z0,z1,z2,z2'⟩:=bZ hlt;have bf:=ah (fun W (hW:Ext (wr.alloc (.cells #[.string (tg L k).name,.string (tg L k).sort,.slice xa (tg L k).kids.length xc] 24)) W)=>HIH.out (tg L k) (bY L k hlt) _ S W ⟨xa,xc,rfl,(aW.ext ((uR wr).alloc _)).ext hW⟩ (fun j hj=>aF (iE.out j hj) (Nat.le_trans HE.out.size (Nat.le_trans ((uR wr).alloc (.cells #[.string (tg L k).name,.string (tg L k).sort,.slice xa (tg L k).kids.length xc] 24)).size hW.size))) (by have h1:=HSL.out;have h2:=jy L k hlt;have h3:=fF L (k+1);omega));dsimp only[tV] at bf;obtain⟨x,hx⟩: ∃x,tg L k=x:=⟨_,rfl⟩
   have HX:=ah hx;rw[hx] at q0 q1 q2 bf;have hQ:=(uR wr).alloc (tO x xa xc);have mO:=ay wr (tO x xa xc);obtain⟨b0,b1,b2⟩:=ak mO;have lF:=aB HB3.out (tO x xa xc);have c2:=aj lF 2 (.slice la k lc) rfl;have zA:=ah lF;have HQ:=ah hQ;have yD:=ah (aB HB2.out (tO x xa xc));have Ed:=ah (HJ.out.own.alloc (tO x xa xc));have iV:Hid (¬(Value.slice la k lc).ownBlock=some n3):=ah (fun e=>by have h1:=(HJ.out.own.lt n3 e).1;have:=fH.out;omega);have HK:Hid (k<=100000):=ah (by omega);obtain⟨iT,hi,hz0,hz1,hz2⟩:=info_parts um;clear hat aW hx hQ mO lF
   go_wp2_with fail
   generalize wr.alloc (tO x xa xc)=wq at*;have Ee:Hid (Ext wq wq):=ah (aC.refl _ _);have sW:Hid (w.heap.size+3<=wq.heap.size):=ah (Nat.le_trans bU.out HQ.out.size);clear q0 q1 q2
   go_region_law (first
 |(refine dY _ (.tmp 19) (.tmp 22) 22 rfl (w.heap.size+3) 24 iT (.agg #[.string ⟨#[]⟩,.string ⟨#[]⟩,.slice none 0 0]) 3 56 Tryz.underlying22 hi hz0 hz1 hz2 rfl (by decide) _ _ _ rfl yE.out _ 1 1 [.string x.name,.string x.sort,.slice ya x.kids.length yc] rfl rfl oD.out kF.out iW.out.1 iW.out.2.1 iW.out.2.2 ?_;intro v7 w7 bK;obtain⟨a7,c7,hv7⟩:=bF bK.own;subst hv7;have fK:=bK.upd.heap (aB fC.out (tO x ya yc)) iV.out;have f7:=fun i=>aA fK i;have c2:=aj fK 2 (.slice la k lc) rfl;have eU:=ah fK;have jO:=ah bK;clear bK fK)
 |(go_simp;refine(bf.out wq.drew Ee.out.drew).mono ?_;rintro e w5 ⟨r,Bx,rfl,kV,hb5,hw5⟩;obtain⟨ya,yc,jP⟩:=aP.shape kV;subst jP;have dh:Hid (Ext wq w5):=ah (((uR wq).drewN' 1).trans hw5);have o7:=ah kV;have sG:Hid (∀j,Bx j->wq.heap.size<=j/\j<w5.heap.size):=ah hb5;have fC:=ah (dh.out.heap zA.out (fun h=>h));have yE:Hid ((w5.alloc (tO x ya yc)).ownsRow (w.heap.size+3) 24 3 (.slice la k lc) k (dI (L.take k) us)):=ah ((bH Ed.out dh.out (fun _ _ h=>h)).alloc _);have oD:Hid (∀(j:Nat) (u:Value),[Value.string x.name,.string x.sort,.slice ya x.kids.length yc][j]?=some u->(w5.alloc (tO x ya yc)).cell? ((⟨w5.heap.size,0,none⟩:Addr).add j)=some u):=ah (zU w5 _ _ _ 24);have kF:Hid (∀u∈[Value.string x.name,.string x.sort,.slice ya x.kids.length yc],u.oneCell'=true):=ah (fun u hu=>by simp at hu;rcases hu with h|h|h<;>(subst h;rfl));have iW:Hid (k+1<=maxLen/\(k+1)*56<=140737488355328/\w.heap.size+3<=(w5.alloc (tO x ya yc)).heap.size):=ah ⟨by unfold maxLen;have:=HK.out;omega,by have:=HK.out;omega,by have h1:=dh.out.size;have h2:=sW.out;simp;omega⟩;have c5:=dh.out.cell c2 (fun h=>h);have c6:=((uR w5).alloc (tO x ya yc)).cell c5 (fun h=>h);clear kV hb5 hw5))
   all_goals
    go_wp2_with fail
    have ig:=ah ((aC.refl (fun j=>j=n3) w7).setCell (p:=⟨n3,2,none⟩) (.inl rfl) (.slice a7 (k+1) c7));have dB:Hid (aC (fun j=>(Value.slice la k lc).ownBlock=some j\/j=n3) wq (w7.setCell ⟨n3,2,none⟩ (.slice a7 (k+1) c7))):=ah (((((dh.out.alloc (tO x ya yc)).mono (fun _ _ x=>x.elim)).trans (jO.out.upd.mono (fun _ _ e=> .inl e)))).trans (ig.out.mono (fun _ _ e=> .inr e)));have uF:=ah (HJ.out.grow hlt HX.out (by have:=fH.out;omega) bU.out HQ.out dh.out o7.out sG.out ((uR w5).alloc (tO x ya yc)) jO.out ig.out);have dG:Hid (Ext w (w7.setCell ⟨n3,2,none⟩ (.slice a7 (k+1) c7))):=ah ((HE.out.trans HQ.out).trans' dB.out (fun j hj e=>by
     rcases e with e|e
     .have h1:=(HJ.out.own.lt j e).1;omega
     .have:=fH.out;omega))
    have mY:=ah (dB.out.heap yD.out (fun e=>by
     rcases e with e|e
     .have h1:=(HJ.out.own.lt _ e).1;omega
     .have:=fH.out;omega))
    have jC:=setBlock eU.out 2 (.slice a7 (k+1) c7);have lY:Hid ((w7.setCell ⟨n3,2,none⟩ (.slice a7 (k+1) c7)).heap[n3]?=some (.cells #[.string nm,.string so,.slice a7 (k+1) c7] 24 (0,0))):=ah (by simpa using jC);have jX:Hid (w.heap.size+3<=(w7.setCell ⟨n3,2,none⟩ (.slice a7 (k+1) c7)).heap.size):=ah (Nat.le_trans sW.out dB.out.size);clear jC c2 f7
    go_roundg (L.length- (k+1))
    case measure=>omega
    case rel=>exact⟨k+1,_,_,_,by go_num,rfl,by omega,uF,mY,lY,dG,jX⟩
  .obtain rfl:k=L.length:=by omega
   have z2:decide ((L.length:Int)< (L.length:Int))=false:=dF (by omega);obtain⟨c0,c1,c2⟩:=ak HB3.out;have f2:=fun i=>aA HB2.out i;obtain⟨d0,d1,d2⟩:=ak HB2.out
   go_wp2_with fail
   have hr:=aN HB2.out (.string nm) (.string so) (.slice la L.length lc);have hu:=aK wr (w.heap.size+1) (.string nm) (.string so) (.slice la L.length lc);obtain⟨e0,e1,e2⟩:=ak hr;refine bodyPost_ret (v:= .agg #[.string nm,.string so,.slice la L.length lc]) (by simp[results,Tryz.results172,go_sem,e0,e1,e2]) rfl ⟨.slice la L.length lc,_,rfl,HJ.out.fin.kept hu (fun j hj e=>by have h1:=hj.1;omega),fun j hj=>⟨by have h1:=hj.1;omega,aF hj.2 hu.size⟩,HE.out.trans' hu (fun j hj e=>by omega)⟩
theorem zy {w w':World} (h:Below w.heap.size w w'):Ext w w':=⟨h.os,h.tape,h.output,h.size,fun k hk _=>h.block k hk⟩
end Go.Proofs.YtlkcjmaiahnodaaGreatDoor
