/- The texts I92 I93 I39 I18 I19 I40 I41 I42 I94 I71 I72 I73 N8 I43, one behind the other. -/
import Derived.Test.YtlkcjmaiahnodaaGreatDoorEAG
import Derived.Test.YtlkcjmaiahnodaaGreatDoorEAD
import Derived.Test.YtlkcjmaiahnodaaGreatDoorEAC
import Derived.Test.YtlkcjmaiahnodaaGreatDoorEAF
import Derived.Deep.DeepCutAuto
set_option maxRecDepth 100000
set_option maxHeartbeats 8000000
set_option linter.unusedVariables false
set_option linter.unusedSimpArgs false
namespace Go.Proofs.YtlkcjmaiahnodaaGreatDoor
open Go.RowKit Go.Hw Go Tm
section
def qm (S:Nat->Prop) (w:World) (b:Nat) (σ:Sb):Prop:= ∃l:List (By×Value),dN (fun s:By=>Value.string s) w b l/\(∀n,σ n=none->jv l n=none)/\∀n t,σ n=some t->∃v,jv l n=some v/\bC S w t v/\t.size<=100000
section
variable {S F:Nat->Prop} {w w' w1 w2:World} {b:Nat} {σ:Sb}
theorem qm.kept (h:qm S w b σ) (hu:aj F w w') (hb: ¬F b) (hF: ∀k,S k->¬F k):qm S w' b σ:=by
 obtain⟨l,h1,h2,h3⟩:=h;exact⟨l,h1.kept hu hb,h2,fun n t e=>by
  obtain⟨v,g1,g2,g3⟩:=h3 n t e;exact⟨v,g1,g2.kept hu hF,g3⟩⟩
theorem qm.ext (h:qm S w b σ) (hu:Ext w w'):qm S w' b σ:=h.kept hu (fun h=>h) (fun _ _ h=>h)
theorem qm.made (S:Nat->Prop) (w:World):qm S (w.alloc (.map #[] 0)) w.heap.size sb0:=⟨[],dN.made _ w,fun _ _=>rfl,fun n t h=>by cases h⟩
theorem qm.put {l:List (By×Value)} {n:By} {t:Tm} {v:Value} (h:(∀n,σ n=none->jv l n=none)/\∀n t,σ n=some t->∃v,jv l n=some v/\bC S w t v/\t.size<=100000)
  (h1:aj (fun k=>k=b) w w1) (h2:aj (fun k=>k=b) w1 w2) (hm:dN (fun s:By=>Value.string s) w2 b (nO l n v)) (hS: ¬S b) (ht:bC S w t v) (hs:t.size<=100000):qm S w2 b (σ.put n t):=by
 have hu:=h1.trans h2;have hF: ∀k,S k->¬k=b:=fun k hk e=>hS (e▸hk);refine⟨_,hm,fun m hm=>?_,fun m x hx=>?_⟩
 .rw [KF];unfold Sb.put at hm;by_cases e:m=n
  .rw [if_pos e] at hm;cases hm
  .rw [if_neg e] at hm⊢;exact h.1 m hm
 .rw [KF];unfold Sb.put at hx;by_cases e:m=n
  .rw [if_pos e] at hx⊢;injection hx with hx
   subst hx;exact⟨v,rfl,ht.kept hu hF,hs⟩
  .rw [if_neg e] at hx⊢;obtain⟨v',g1,g2,g3⟩:=h.2 m x hx;exact⟨v',g1,g2.kept hu hF,g3⟩
end
theorem aiR {a b:Nat} (h: ¬a=b):((a:Int) !=(b:Int))=true:=by simp;exact fun e=>h (Int.ofNat.inj e)
theorem aco: ∀(p t:Tm) (v v':Value) (S T:Nat->Prop) (σ:Sb) (b:Nat) (w:World),bC S w p v->bC T w t v'->qm T w b σ->¬S b->¬T b->p.size<=1000000->t.size<=100000->
  Calls Tryz.prog 173 #[v,v',.map (some b)] w fun e w'=>e= .returned (.bool (jJ p t σ).isSome)/\aj (fun k=>k=b) w w'/\∀τ,jJ p t σ=some τ->qm T w' b τ:=by
 refine Tm.ind (fun n s L ih=>?_);intro t v v' S T σ b w hP hT hB hS hTb hsz TC;obtain⟨m,r,M⟩:=t;obtain⟨pa,pc,rfl,hP⟩:=hP;obtain⟨ta,tc,rfl,hT⟩:=hT;dsimp only[tV,Tm.name,Tm.sort,Tm.kids] at hP hT⊢;have pG:=ae hP;have QP:=ae hT;have jk:=ae hB;have HNS:=ae hS;have HNT:=ae hTb;have ad_:=ae TC;have HIH:=ae ih;have Dj:Hid (¬w.heap.size+1=b):=ae (by obtain⟨l,h1,_⟩:=hB;have:=h1.lt;omega);have mr:L.length<=1000000:=by have h1:=bf L;have h2:=hsz;rw[size_eq] at h2;exact Nat.le_trans h1 (Nat.le_of_succ_le h2)
 have xM:=ae mr;have aea:sizes L+1<=1000000:=by rw[size_eq] at hsz;exact hsz
 have aeb:sizes M+1<=100000:=by rw[size_eq] at TC;exact TC
 have dw:=ae (And.intro aea aeb);have rX:=ae (fun(x:Tm) (vx:Value) (hx:bC T w x vx) (hsx:x.size<=100000) W (hW:Ext w W)=>acn x (.mk m r M) vx (.agg #[.string m,.string r,.slice ta M.length tc]) T T W (hx.ext hW) ⟨ta,tc,rfl,hT.ext hW⟩ (by omega));obtain⟨V,hV⟩: ∃V,jJ (.mk n s L) (.mk m r M) σ=V:=⟨_,rfl⟩
 rw[hV];have HVV:=ae hV;clear ih hP hT hB hS hTb hsz TC mr aea aeb hV;have HZ:=ae (((uR w).alloc (.cells #[.string n,.string s,.slice pa L.length pc] 24)).alloc (.cells #[.string m,.string r,.slice ta M.length tc] 24));have HA:=ae (ak (ai w (.cells #[.string n,.string s,.slice pa L.length pc] 24)) (.cells #[.string m,.string r,.slice ta M.length tc] 24));have HB:=ae (alloc_at (w.alloc (.cells #[.string n,.string s,.slice pa L.length pc] 24)) (.cells #[.string m,.string r,.slice ta M.length tc] 24) (n:=w.heap.size+1) (by simp));obtain⟨a0,a1,a2⟩:=ag HA.out;obtain⟨b0,b1,b2⟩:=ag HB.out;by_cases hs0:s.size=0
 .have hse:=eU _ hs0;subst hse;clear hs0 rX;by_cases hr0:r.size=0
  .have hre:=eU _ hr0;subst hre;clear hr0;by_cases hnm:m=n
   .have t1:(m.toList==n.toList)=true:=by rw[hnm];simp
    by_cases hlen:M.length=L.length
    .have t2:((M.length:Int) !=(L.length:Int))=false:=by simp[hlen]
     have VC:Hid (mX L M σ=V):=ae (by rw[<-HVV.out];exact(Jv (t:= .mk m ah M) ⟨rfl,hnm,hlen⟩).symm);have Hu:=ae hlen;have cZ:Hid (aj (fun k=>k=b) w ((w.alloc (.cells #[.string n,.string ⟨#[]⟩,.slice pa L.length pc] 24)).alloc (.cells #[.string m,.string ⟨#[]⟩,.slice ta M.length tc] 24))):=ae (HZ.out.mono (fun _ _ h=>h.elim));have HB0:=ae (jk.out.ext HZ.out);clear hnm hlen HVV jk
     go_enter Tryz.func173,Tryz.ntmps173
     go_wp2_with fail
     clear t1 t2 a0 a1 a2 b0 b1 b2 HA HZ
     go_loopg [61] L.length (fun gk iv wr=> ∃(k:Nat) (τ:Sb),iv= .int .i64 (k:Int)/\gk=L.length-k/\k<=L.length/\Hid (qm T wr b τ)/\Hid (mX (L.drop k) (M.drop k) τ=V)/\Hid (aj (fun k=>k=b) w wr)/\Hid (wr.heap[w.heap.size+1]?=some (.cells #[.string m,.string ⟨#[]⟩,.slice ta M.length tc] 24 (0,0))))
     case atStart=>exact⟨0,σ,rfl,rfl,Nat.zero_le _,HB0,VC,cZ,HB⟩
     case round=>
      clear HB0 VC cZ HB;obtain⟨k,τ,rfl,rfl,hk,jk,lN,HE,je⟩:=hrel;by_cases hlt:k<L.length
      .have xC:k<M.length:=by have:=Hu.out;omega
       obtain⟨g,off,hga,_,hat⟩:=(pG.out.kept HE.out (fun k hk e=>HNS.out (e▸hk))).at_ (by omega);obtain⟨g',off',Yr,_,hat'⟩:=(QP.out.kept HE.out (fun k hk e=>HNT.out (e▸hk))).at_ (by omega);subst hga;subst Yr;obtain⟨xa,xc,q0,q1,q2,aY⟩:=hat k hlt;obtain⟨ya,yc,p0,p1,p2,su⟩:=hat' k xC;obtain⟨z0,z1,z2,z2'⟩:=bz hlt;have z3:(k:Int)< (M.length:Int):=by omega
       have a_:=ae (fun W (hW:Ext wr W)=>HIH.out (tg L k) (ed L k hlt) (tg M k) _ _ S T τ b W ⟨xa,xc,rfl,aY.ext hW⟩ ⟨ya,yc,rfl,su.ext hW⟩ (jk.out.ext hW) HNS.out HNT.out (by have h1:=dw.out.1;have h2:=ku (ed L k hlt);omega) (by have h1:=dw.out.2;have h2:=ku (ed M k xC);omega));have jE:=ae (lN.out.symm.trans (Yt (σ:=τ) hlt xC));dsimp only[tV] at a_;obtain⟨x,hx⟩: ∃x,tg L k=x:=⟨_,rfl⟩
       obtain⟨y,hy⟩: ∃y,tg M k=y:=⟨_,rfl⟩
       rw[hx] at q0 q1 q2 a_ jE;rw[hy] at p0 p1 p2 a_ jE;obtain⟨U,hU⟩: ∃U,jJ x y τ=U:=⟨_,rfl⟩
       rw[hU] at a_ jE;clear hx hy hU lN jk hat hat' aY su;rw[<-Nat.add_assoc] at q1 q2 p1 p2;have hQ:=(uR wr).alloc (tO x xa xc);have p0:=hQ.cell p0 (fun h=>h);have p1:=hQ.cell p1 (fun h=>h);have p2:=hQ.cell p2 (fun h=>h);have HQ:=ae hQ;have VD:=ai wr (tO x xa xc);obtain⟨e0,e1,e2⟩:=ag VD;have hBQ:=hQ.heap je.out (fun h=>h);have b2:=af hBQ 2 (.slice (some ⟨g',off',none⟩) M.length tc) rfl;have yA:=ae hBQ;clear hQ VD hBQ
       go_wp2_with fail
       generalize wr.alloc (tO x xa xc)=wq at*
       go_still_tail 7,(by kernel_rfl)
       change wpList _ _ _ _ _ wq.drew
       go_wp2_with fail
       refine(a_.out _ (HQ.out.drewN' 1)).mono ?_;rintro e w8 ⟨rfl,hw8,hb8⟩;have bV:Hid (aj (fun k=>k=b) w w8):=ae ((HE.out.ext (HQ.out.drewN' 1)).trans' hw8 (fun _ _ e=>e));have al2:=ae (hw8.heap yA.out (fun e=>Dj.out e));have kE:=ae hb8;clear hw8 hb8 a_ HQ yA p0 p1 p2 q0 q1 q2 e0 e1 e2 b2;cases U with
       |none=>
        have jw:Hid (V=none):=ae jE.out;simp only[Option.isSome_none];clear jE
        go_wp2_with fail
        go_ret;rw[jw.out];exact⟨rfl,bV.out,fun _ h=>by cases h⟩
       |some υ=>
        have jw:Hid (mX (L.drop (k+1)) (M.drop (k+1)) υ=V):=ae jE.out.symm;have Hy:=ae (kE.out υ rfl);have mr:=xM.out;simp only[Option.isSome_some];clear jE kE
        go_wp2_with fail
        go_roundg (L.length- (k+1))
        case measure=>omega
        case rel=>exact⟨k+1,υ,by go_num,rfl,by omega,Hy,jw,bV,al2⟩
      .obtain rfl:k=L.length:=by omega
       have z2:decide ((L.length:Int)< (L.length:Int))=false:=dF (by omega);have jw:Hid (V=some τ):=ae (by rw[<-lN.out,List.drop_length];rfl);clear lN
       go_wp2_with fail
       go_ret;rw[jw.out];exact⟨rfl,HE.out,fun υ h=>by injection h with h;rw[<-h];exact jk.out⟩
    .have t2:=aiR hlen;have HV:Hid (V=none):=ae (by rw[<-HVV.out];exact zV (fun h=>hlen h.2.2));clear hlen hnm
     go_enter Tryz.func173,Tryz.ntmps173
     go_wp2_with fail
     go_ret;rw[HV.out];exact⟨rfl,HZ.out.mono (fun _ _ h=>h.elim),fun _ h=>by cases h⟩
   .have t1:(m.toList==n.toList)=false:=xy hnm;have HV:Hid (V=none):=ae (by rw[<-HVV.out];exact zV (fun h=>hnm h.2.1));clear hnm
    go_enter Tryz.func173,Tryz.ntmps173
    go_wp2_with fail
    go_ret;rw[HV.out];exact⟨rfl,HZ.out.mono (fun _ _ h=>h.elim),fun _ h=>by cases h⟩
  .have HV:Hid (V=none):=ae (by rw[<-HVV.out];exact zV (fun h=>hr0 (by rw[show r=ah from h.1];rfl)));obtain⟨r1,r2,r3,r4⟩:=dJ r (by omega)
   go_enter Tryz.func173,Tryz.ntmps173
   go_wp2_with fail
   go_ret;rw[HV.out];exact⟨rfl,HZ.out.mono (fun _ _ h=>h.elim),fun _ h=>by cases h⟩
 .have gU:Hid (s≠ah):=ae (fun e=>hs0 (by rw[e];rfl));obtain⟨s1,s2,s3,s4⟩:=dJ s (by omega);obtain⟨l,hm,hn,hsm⟩:=jk.out;cases hx:σ n with
  |some x=>
   obtain⟨vx,hf,hxT,hxs⟩:=hsm n x hx;have HV:Hid (V=if x= .mk m r M then some σ else none):=ae (by rw[<-HVV.out];exact Dk gU.out hx);have hl:=dN.get (P:=Tryz.prog) (t:=208) (oJ Tryz.underlying9) Tryz.underlying208 (z:= .agg #[.string ⟨#[]⟩,.string ⟨#[]⟩,.slice none 0 0]) (Tryz.zeroValue24 ((w.alloc (.cells #[.string n,.string s,.slice pa L.length pc] 24)).alloc (.cells #[.string m,.string r,.slice ta M.length tc] 24))) (hm.ext HZ.out) n true;simp only[if_true] at hl;rw[hf] at hl;have ry:=ae (rX.out x vx hxT hxs);obtain⟨xa,xc,rfl,_⟩:=hxT;dsimp only[tV] at ry hl;simp only[Option.getD_some,Option.isSome_some] at hl;have HZ3:=ae (HZ.out.alloc (tO x xa xc));have hb3:=ak HB.out (tO x xa xc);have hx3:=alloc_at ((w.alloc (.cells #[.string n,.string s,.slice pa L.length pc] 24)).alloc (.cells #[.string m,.string r,.slice ta M.length tc] 24)) (tO x xa xc) (n:=w.heap.size+2) (by simp);obtain⟨x0,x1,x2⟩:=ag hx3;obtain⟨c0,c1,c2⟩:=ag hb3;clear hm hn hsm hf hx hb3 hx3 rX HIH HVV hxs
   go_enter Tryz.func173,Tryz.ntmps173
   go_wp2_with fail
   refine(ry.out _ HZ3.out).mono ?_;rintro e w8 ⟨rfl,hw8⟩;have bV:=ae (HZ3.out.trans hw8);clear hw8 hl x0 x1 x2 c0 c1 c2 a0 a1 a2 b0 b1 b2 ry
   go_wp2_with fail
   go_ret;rw[HV.out];by_cases e:x= .mk m r M
   .rw [if_pos e,dT e];exact⟨rfl,bV.out.mono (fun _ _ h=>h.elim),fun τ h=>by injection h with h;rw[<-h];exact jk.out.ext bV.out⟩
   .rw [if_neg e,dF e];exact⟨rfl,bV.out.mono (fun _ _ h=>h.elim),fun _ h=>by cases h⟩
  |none=>
   have hf:=hn n hx;have hl:=dN.get (P:=Tryz.prog) (t:=208) (oJ Tryz.underlying9) Tryz.underlying208 (z:= .agg #[.string ⟨#[]⟩,.string ⟨#[]⟩,.slice none 0 0]) (Tryz.zeroValue24 ((w.alloc (.cells #[.string n,.string s,.slice pa L.length pc] 24)).alloc (.cells #[.string m,.string r,.slice ta M.length tc] 24))) (hm.ext HZ.out) n true;simp only[if_true] at hl;rw[hf] at hl;simp only[Option.getD_none,Option.isSome_none] at hl;have HN:=ae hx;have aed:=ae (And.intro hn hsm);have HZ3:=ae (HZ.out.alloc zO);have KG:=ae ((hm.ext HZ.out).ext ((uR ((w.alloc (.cells #[.string n,.string s,.slice pa L.length pc] 24)).alloc (.cells #[.string m,.string r,.slice ta M.length tc] 24))).alloc zO));have ha3:=ak HA.out zO;have hb3:=ak HB.out zO;obtain⟨d0,d1⟩:=aP ha3;obtain⟨c0,c1,c2⟩:=ag hb3;clear hm hn hsm hf hx ha3 hb3 rX HIH jk;by_cases hr0:r.size=0
   .have hre:=eU _ hr0;subst hre;clear hr0;have HRR:Hid ((⟨#[]⟩:By)=ah):=ae rfl;have HV:Hid (V=some (σ.put n (.mk m ⟨#[]⟩ M))):=ae (by rw[<-HVV.out,Aw gU.out HN.out];exact if_neg (by rintro⟨h1,h2⟩;first|exact h1 HRR.out|exact h2 HRR.out));obtain⟨W4,hput,hmp,hu⟩:=dN.put (P:=Tryz.prog) (t:=208) (oJ Tryz.underlying9) Tryz.underlying208 KG.out n (.agg #[.string m,.string ⟨#[]⟩,.slice ta M.length tc])
    try dsimp only at hput
    have uk:Hid (aj (fun k=>k=b) w W4):=ae ((HZ3.out.mono (fun _ _ h=>h.elim)).trans hu);have jk:Hid (qm T W4 b (σ.put n (.mk m ⟨#[]⟩ M))):=ae (qm.put aed.out (HZ3.out.mono (fun _ _ h=>h.elim)) hu hmp HNT.out ⟨ta,tc,rfl,QP.out⟩ ad_.out);clear hmp hu
    go_enter Tryz.func173,Tryz.ntmps173
    go_wp2_with fail
    go_ret;rw[HV.out];exact⟨rfl,uk.out,fun τ h=>by injection h with h;rw[<-h];exact jk.out⟩
   .obtain ⟨r1,r2,r3,r4⟩:=dJ r (by omega);by_cases hrs:r=s
    .have t1:(r.toList==s.toList)=true:=by rw[hrs];simp
     have HRR:=ae hrs;clear hrs;have HV:Hid (V=some (σ.put n (.mk m r M))):=ae (by rw[<-HVV.out,Aw gU.out HN.out];exact if_neg (by rintro⟨h1,h2⟩;first|exact h1 HRR.out|exact h2 HRR.out));obtain⟨W4,hput,hmp,hu⟩:=dN.put (P:=Tryz.prog) (t:=208) (oJ Tryz.underlying9) Tryz.underlying208 KG.out n (.agg #[.string m,.string r,.slice ta M.length tc])
     try dsimp only at hput
     have uk:Hid (aj (fun k=>k=b) w W4):=ae ((HZ3.out.mono (fun _ _ h=>h.elim)).trans hu);have jk:Hid (qm T W4 b (σ.put n (.mk m r M))):=ae (qm.put aed.out (HZ3.out.mono (fun _ _ h=>h.elim)) hu hmp HNT.out ⟨ta,tc,rfl,QP.out⟩ ad_.out);clear hmp hu
     go_enter Tryz.func173,Tryz.ntmps173
     go_wp2_with fail
     go_ret;rw[HV.out];exact⟨rfl,uk.out,fun τ h=>by injection h with h;rw[<-h];exact jk.out⟩
    .have t1:(r.toList==s.toList)=false:=xy hrs;have HV:Hid (V=none):=ae (by rw[<-HVV.out,Aw gU.out HN.out];exact if_pos ⟨fun e=>hr0 (by rw[show r=ah from e];rfl),hrs⟩);clear hrs
     go_enter Tryz.func173,Tryz.ntmps173
     go_wp2_with fail
     go_ret;rw[HV.out];exact⟨rfl,HZ3.out.mono (fun _ _ h=>h.elim),fun _ h=>by cases h⟩
end
theorem aee (σ:Sb) (L:List Tm) (k:Nat) (h:k<L.length):tg (L.map (jK σ)) k=jK σ (tg L k):=by
 unfold tg;rw[List.getD_eq_getElem?_getD,List.getD_eq_getElem?_getD,List.getElem?_map,List.getElem?_eq_getElem h];rfl
theorem aef: ∀(t:Tm) (v:Value) (S T:Nat->Prop) (σ:Sb) (b:Nat) (w:World),bC S w t v->qm T w b σ->(∀k,S k->k<w.heap.size)->(∀k,T k->k<w.heap.size)->t.size<=100000->
  Calls Tryz.prog 174 #[v,.map (some b)] w fun e w'=> ∃r B,e= .returned (tV (jK σ t) r)/\aG 24 w' B (jK σ t).kids r/\(∀j,B j->w.heap.size<=j/\j<w'.heap.size)/\Ext w w':=by
 refine Tm.ind (fun nm so L ih=>?_);intro v S T σ b w hT hB hS hS2 hsz;obtain⟨a,cap,rfl,hT⟩:=hT;dsimp only[Tm.name,Tm.sort,Tm.kids] at hT;change Calls Tryz.prog 174 #[.agg #[.string nm,.string so,.slice a L.length cap],.map (some b)] w (fun e w'=> ∃r B,e= .returned (tV (jK σ (.mk nm so L)) r)/\aG 24 w' B (jK σ (.mk nm so L)).kids r/\(∀j,B j->w.heap.size<=j/\j<w'.heap.size)/\Ext w w');have cO:=ae hT;have HIH:=ae ih;have jk:=ae hB;have HST:=ae (And.intro hS hS2);have iU:sizes L+1<=100000:=by rw[size_eq] at hsz;simp only[Tm.kids] at hsz;omega
 have oM:=ae iU;have mr:L.length<=100000:=by have h1:=bf L;omega
 clear ih hT hB hS hS2 hsz iU;by_cases hs0:so.size=0
 .have hse:=eU _ hs0;subst hse;have sG:Hid (jK σ (.mk nm ⟨#[]⟩ L)= .mk nm ⟨#[]⟩ (L.map (jK σ))):=ae (QQ σ nm L);rw[sG.out];dsimp only[tV,Tm.name,Tm.sort,Tm.kids];obtain⟨LM,hLM⟩: ∃LM,L.map (jK σ)=LM:=⟨_,rfl⟩
  have jA:Hid (L.map (jK σ)=LM/\LM.length=L.length):=ae ⟨hLM,by rw[<-hLM,List.length_map]⟩;rw[hLM];have hx3:=(((uR w).alloc (.cells #[.string nm,.string ⟨#[]⟩,.slice a L.length cap] 24)).alloc zO).alloc (.cells #[.string nm,.string ⟨#[]⟩,.slice none 0 0] 24);have hb1:=ak (ai w (.cells #[.string nm,.string ⟨#[]⟩,.slice a L.length cap] 24)) zO;obtain⟨p0,p1⟩:=aP hb1;have p2:=af (ak hb1 (.cells #[.string nm,.string ⟨#[]⟩,.slice none 0 0] 24)) 2 (.slice a L.length cap) rfl;have hb2:=ak (alloc_at (w.alloc (.cells #[.string nm,.string ⟨#[]⟩,.slice a L.length cap] 24)) zO (n:=w.heap.size+1) (by simp)) (.cells #[.string nm,.string ⟨#[]⟩,.slice none 0 0] 24);have hb3:=alloc_at ((w.alloc (.cells #[.string nm,.string ⟨#[]⟩,.slice a L.length cap] 24)).alloc zO) (.cells #[.string nm,.string ⟨#[]⟩,.slice none 0 0] 24) (n:=w.heap.size+1+1) (by simp);have hz0:(((w.alloc (.cells #[.string nm,.string ⟨#[]⟩,.slice a L.length cap] 24)).alloc zO).alloc (.cells #[.string nm,.string ⟨#[]⟩,.slice none 0 0] 24)).heap.size=w.heap.size+3:=by simp
  have HB2:=ae hb2;have HB3:=ae hb3;have cZ:=ae hx3;have HZ0:=ae hz0;clear hb1 hb2 hb3 hx3 hz0 hLM hs0 sG
  go_enter Tryz.func174,Tryz.ntmps174
  go_wp2_with fail
  clear p0 p1 p2;generalize (((w.alloc (.cells #[.string nm,.string ⟨#[]⟩,.slice a L.length cap] 24)).alloc zO).alloc (.cells #[.string nm,.string ⟨#[]⟩,.slice none 0 0] 24))=W0 at*;obtain⟨n3,hn3⟩: ∃n3,w.heap.size+1+1=n3:=⟨_,rfl⟩
  rw[hn3] at HB3⊢;have gz:=ae hn3;clear hn3;have nX:Hid (ru 24 (w.heap.size+3) W0 LM (.slice none 0 0) [] (fun _ _=>False) 0):=ae ⟨rfl,⟨rfl,.inl ⟨rfl,rfl⟩⟩,fun i hi=>absurd hi (Nat.not_lt_zero _),fun i j hi=>absurd hi (Nat.not_lt_zero _),fun i i' j hi=>absurd hi (Nat.not_lt_zero _)⟩;have sF:Hid (w.heap.size+3<=W0.heap.size):=ae (by rw[HZ0.out];exact Nat.le_refl _);clear HZ0
  go_loopg [22] L.length (fun gk iv wr=> ∃(k:Nat) (lv:Value) (us:List Value) (Bk:Nat->Nat->Prop),iv= .int .i64 (k:Int)/\gk=L.length-k/\k<=L.length/\Hid (ru 24 (w.heap.size+3) wr LM lv us Bk k)/\Hid (wr.heap[w.heap.size+1]?=some zO)/\Hid (wr.heap[n3]?=some (.cells #[.string nm,.string ⟨#[]⟩,lv] 24 (0,0)))/\Hid (Ext w wr)/\Hid (w.heap.size+3<=wr.heap.size))
  case atStart=>exact⟨0,_,_,_,rfl,rfl,Nat.zero_le _,nX,HB2,HB3,cZ,sF⟩
  case round=>
   clear nX HB2 HB3 cZ sF;obtain⟨k,lv,us,Bk,rfl,rfl,hk,HJ,HB2,HB3,HE,dw⟩:=hrel;obtain⟨la,lc,hlv⟩:=bJ HJ.out.own;subst hlv;by_cases hlt:k<L.length
   .obtain ⟨g,off,hga,_,hat⟩:=(cO.out.ext HE.out).at_ (by omega);subst hga;obtain⟨xa,xc,q0,q1,q2,aY⟩:=hat k hlt;rw[<-Nat.add_assoc] at q1 q2;obtain⟨z0,z1,z2,z2'⟩:=bz hlt;have a_:=ae (fun W (hW:Ext (wr.alloc (.cells #[.string (tg L k).name,.string (tg L k).sort,.slice xa (tg L k).kids.length xc] 24)) W)=>HIH.out (tg L k) (ed L k hlt) _ S T σ b W ⟨xa,xc,rfl,(aY.ext ((uR wr).alloc _)).ext hW⟩ ((jk.out.ext HE.out).ext (((uR wr).alloc (.cells #[.string (tg L k).name,.string (tg L k).sort,.slice xa (tg L k).kids.length xc] 24)).trans hW)) (fun j hj=>ay (HST.out.1 j hj) (Nat.le_trans HE.out.size (Nat.le_trans ((uR wr).alloc (.cells #[.string (tg L k).name,.string (tg L k).sort,.slice xa (tg L k).kids.length xc] 24)).size hW.size))) (fun j hj=>ay (HST.out.2 j hj) (Nat.le_trans HE.out.size (Nat.le_trans ((uR wr).alloc (.cells #[.string (tg L k).name,.string (tg L k).sort,.slice xa (tg L k).kids.length xc] 24)).size hW.size))) (by have h1:=oM.out;have h2:=kR L k hlt;have h3:=jd L (k+1);omega));have HX0:=ae (aee σ L k hlt);dsimp only[tV] at a_;obtain⟨x,hx⟩: ∃x,tg L k=x:=⟨_,rfl⟩
    rw[hx] at q0 q1 q2 a_ HX0;obtain⟨y,hy⟩: ∃y,jK σ x=y:=⟨_,rfl⟩
    rw[hy] at a_ HX0;have HX:Hid (tg LM k=y):=ae (by rw[<-jA.out.1];exact HX0.out);clear hy HX0;have hQ:=(uR wr).alloc (tO x xa xc);have kT:=ai wr (tO x xa xc);obtain⟨b0,b1,b2⟩:=ag kT;have kz:=ak HB3.out (tO x xa xc);have c2:=af kz 2 (.slice la k lc) rfl;have yA:=ae kz;have HQ:=ae hQ;have xG:=ae (ak HB2.out (tO x xa xc));have CV:=ae (HJ.out.own.alloc (tO x xa xc));have jD:Hid (¬(Value.slice la k lc).ownBlock=some n3):=ae (fun e=>by have h1:=(HJ.out.own.lt n3 e).1;have:=gz.out;omega);have HK:Hid (k<=100000):=ae (by omega);obtain⟨iT,hi,hz0,hz1,hz2⟩:=info_parts Ar;clear hat aY hx hQ kT kz
    go_wp2_with fail
    generalize wr.alloc (tO x xa xc)=wq at*;have yB:Hid (Ext wq wq):=ae (aj.refl _ _);have ui:Hid (w.heap.size+3<=wq.heap.size):=ae (Nat.le_trans dw.out HQ.out.size);clear q0 q1 q2
    go_region_law (first
  |(refine dP _ (.tmp 27) (.tmp 31) 22 rfl (w.heap.size+3) 24 iT (.agg #[.string ⟨#[]⟩,.string ⟨#[]⟩,.slice none 0 0]) 3 56 Tryz.underlying22 hi hz0 hz1 hz2 rfl (by decide) _ _ _ rfl xH.out _ 1 1 [.string y.name,.string y.sort,.slice ya y.kids.length yc] rfl rfl oN.out mW.out Yu.out.1 Yu.out.2.1 Yu.out.2.2 ?_;intro v7 w7 dE;obtain⟨a7,c7,hv7⟩:=bJ dE.own;subst hv7;have iL:=dE.upd.heap (ak fE.out (tO y ya yc)) jD.out;have f7:=fun i=>au iL i;have c2:=af iL 2 (.slice la k lc) rfl;have eP:=ae iL;have mD:=ae dE;clear dE iL)
  |(go_simp;refine(a_.out wq.drew yB.out.drew).mono ?_;rintro e w5 ⟨r,Bx,rfl,jV,hb5,hw5⟩;obtain⟨ya,yc,jB⟩:=aG.shape jV;subst jB;have dS:Hid (Ext wq w5):=ae (((uR wq).drewN' 1).trans hw5);have ql:=ae jV;have qH:Hid (∀j,Bx j->wq.heap.size<=j/\j<w5.heap.size):=ae hb5;have fE:=ae (dS.out.heap yA.out (fun h=>h));have xH:Hid ((w5.alloc (tO y ya yc)).ownsRow (w.heap.size+3) 24 3 (.slice la k lc) k (dC (LM.take k) us)):=ae ((df CV.out dS.out (fun _ _ h=>h)).alloc _);have oN:Hid (∀(j:Nat) (u:Value),[Value.string y.name,.string y.sort,.slice ya y.kids.length yc][j]?=some u->(w5.alloc (tO y ya yc)).cell? ((⟨w5.heap.size,0,none⟩:Addr).add j)=some u):=ae (F5 w5 _ _ _ 24);have mW:Hid (∀u∈[Value.string y.name,.string y.sort,.slice ya y.kids.length yc],u.oneCell'=true):=ae (fun u hu=>by simp at hu;rcases hu with h|h|h<;>(subst h;rfl));have Yu:Hid (k+1<=maxLen/\(k+1)*56<=140737488355328/\w.heap.size+3<=(w5.alloc (tO y ya yc)).heap.size):=ae ⟨by unfold maxLen;have:=HK.out;omega,by have:=HK.out;omega,by have h1:=dS.out.size;have h2:=ui.out;simp;omega⟩;have c5:=dS.out.cell c2 (fun h=>h);have c6:=((uR w5).alloc (tO y ya yc)).cell c5 (fun h=>h);clear jV hb5 hw5))
    all_goals
     go_wp2_with fail
     have ji:=ae ((aj.refl (fun j=>j=n3) w7).setCell (p:=⟨n3,2,none⟩) (.inl rfl) (.slice a7 (k+1) c7));have dG:Hid (aj (fun j=>(Value.slice la k lc).ownBlock=some j\/j=n3) wq (w7.setCell ⟨n3,2,none⟩ (.slice a7 (k+1) c7))):=ae (((((dS.out.alloc (tO y ya yc)).mono (fun _ _ x=>x.elim)).trans (mD.out.upd.mono (fun _ _ e=> .inl e)))).trans (ji.out.mono (fun _ _ e=> .inr e)));have zL:=ae (HJ.out.grow (by rw[jA.out.2];exact hlt) HX.out (by have:=gz.out;omega) dw.out HQ.out dS.out ql.out qH.out ((uR w5).alloc (tO y ya yc)) mD.out ji.out);have bV:Hid (Ext w (w7.setCell ⟨n3,2,none⟩ (.slice a7 (k+1) c7))):=ae ((HE.out.trans HQ.out).trans' dG.out (fun j hj e=>by
      rcases e with e|e
      .have h1:=(HJ.out.own.lt j e).1;omega
      .have:=gz.out;omega))
     have uH:=ae (dG.out.heap xG.out (fun e=>by
      rcases e with e|e
      .have h1:=(HJ.out.own.lt _ e).1;omega
      .have:=gz.out;omega))
     have lT:=setBlock eP.out 2 (.slice a7 (k+1) c7);have uI:Hid ((w7.setCell ⟨n3,2,none⟩ (.slice a7 (k+1) c7)).heap[n3]?=some (.cells #[.string nm,.string ⟨#[]⟩,.slice a7 (k+1) c7] 24 (0,0))):=ae (by simpa using lT);have pF:Hid (w.heap.size+3<=(w7.setCell ⟨n3,2,none⟩ (.slice a7 (k+1) c7)).heap.size):=ae (Nat.le_trans ui.out dG.out.size);clear lT c2 f7
     go_roundg (L.length- (k+1))
     case measure=>omega
     case rel=>exact⟨k+1,_,_,_,by go_num,rfl,by omega,zL,uH,uI,bV,pF⟩
   .obtain rfl:k=L.length:=by omega
    have z2:decide ((L.length:Int)< (L.length:Int))=false:=dF (by omega);obtain⟨c0,c1,c2⟩:=ag HB3.out;have f2:=fun i=>au HB2.out i;obtain⟨d0,d1,d2⟩:=ag HB2.out
    go_wp2_with fail
    have hr:=aJ HB2.out (.string nm) (.string ⟨#[]⟩) (.slice la L.length lc);have hu:=aI wr (w.heap.size+1) (.string nm) (.string ⟨#[]⟩) (.slice la L.length lc);obtain⟨e0,e1,e2⟩:=ag hr;refine bodyPost_ret (v:= .agg #[.string nm,.string ⟨#[]⟩,.slice la L.length lc]) (by simp[results,Tryz.results172,go_sem,e0,e1,e2]) rfl ⟨.slice la L.length lc,_,rfl,(show ru 24 (w.heap.size+3) wr LM _ us Bk LM.length by rw[jA.out.2];exact HJ.out).fin.kept hu (fun j hj e=>by have h1:=hj.1;omega),fun j hj=>⟨by have h1:=hj.1;omega,ay hj.2 hu.size⟩,HE.out.trans' hu (fun j hj e=>by omega)⟩
 .obtain ⟨s1,s2,s3,s4⟩:=dJ so (by omega);have gU:Hid (so≠ah):=ae (fun e=>hs0 (by rw[e];rfl));obtain⟨l,hm,hn,hsm⟩:=jk.out;have hl:=dN.get (P:=Tryz.prog) (t:=208) (oJ Tryz.underlying9) Tryz.underlying208 (z:=(.agg #[.string ⟨#[]⟩,.string ⟨#[]⟩,.slice none 0 0])) (Tryz.zeroValue24 ((w.alloc (.cells #[.string nm,.string so,.slice a L.length cap] 24)).alloc zO)) (hm.ext (((uR w).alloc (.cells #[.string nm,.string so,.slice a L.length cap] 24)).alloc zO)) nm false;simp only[Bool.false_eq_true,if_false] at hl;obtain⟨x,hx⟩: ∃x,(σ nm).getD default=x:=⟨_,rfl⟩
  have hfx: ∃xv,(jv l nm).getD (.agg #[.string ⟨#[]⟩,.string ⟨#[]⟩,.slice none 0 0])=xv/\bC T w x xv/\x.size<=100000:=by
   cases h:σ nm with
   |none=>
    rw[h] at hx;rw[hn nm h,<-hx];exact⟨_,rfl,⟨none,0,rfl,((aG.nil 25 w (fun _=>False)).read).weaken (fun _ h=>h.elim)⟩,by decide⟩
   |some y=>
    rw[h] at hx;obtain⟨v',g1,g2,g3⟩:=hsm nm y h;rw[g1,<-hx];exact⟨v',rfl,g2,g3⟩
  obtain⟨xv,e1,hxT,hxs⟩:=hfx;rw[e1] at hl;have HC:=ae (fun W (hW:Ext w W)=>yF x xv T W (hxT.ext hW) (fun k hk=>ay (HST.out.2 k hk) hW.size) hxs);obtain⟨xa,xc,rfl,_⟩:=hxT;dsimp only[tV] at HC hl;rw[NK σ gU.out,hx];dsimp only[tV];have HZ:=ae (((uR w).alloc (.cells #[.string nm,.string so,.slice a L.length cap] 24)).alloc zO);have hb1:=ak (ai w (.cells #[.string nm,.string so,.slice a L.length cap] 24)) zO;have hb2:=alloc_at (w.alloc (.cells #[.string nm,.string so,.slice a L.length cap] 24)) zO (n:=w.heap.size+1) (by simp);obtain⟨p0,p1⟩:=aP hb1;have HB2:=ae hb2;clear hb1 hb2 hm hn hsm hx e1 hxs HIH jk cO hs0
  go_enter Tryz.func174,Tryz.ntmps174
  go_wp2_with fail
  refine(HC.out _ HZ.out).mono ?_;rintro e w5 ⟨r,B,rfl,jV,hb5,hw5⟩;obtain⟨ya,yc,jB⟩:=aG.shape jV;subst jB;have dS:=ae (HZ.out.trans hw5);have ql:=ae jV;have qH:Hid (∀j,B j->w.heap.size+2<=j/\j<w5.heap.size):=ae (fun j hj=>by have h1:=hb5 j hj;simp at h1;omega);have fE:=ae (hw5.heap HB2.out (fun h=>h));have f5:=fun i=>au fE.out i;clear jV hb5 hw5 hl p0 p1 HC HB2;obtain⟨d0,d1,d2⟩:=ag fE.out
  go_wp2_with fail
  have hr:=aJ fE.out (.string x.name) (.string x.sort) (.slice ya x.kids.length yc);have hu:=aI w5 (w.heap.size+1) (.string x.name) (.string x.sort) (.slice ya x.kids.length yc);obtain⟨e0,e1,e2⟩:=ag hr;refine bodyPost_ret (v:= .agg #[.string x.name,.string x.sort,.slice ya x.kids.length yc]) (by simp[results,Tryz.results174,go_sem,e0,e1,e2]) rfl ⟨.slice ya x.kids.length yc,_,rfl,ql.out.kept hu (fun j hj e=>by have h1:=qH.out j hj;omega),fun j hj=>⟨by have h1:=qH.out j hj;omega,ay (qH.out j hj).2 hu.size⟩,dS.out.trans' hu (fun j hj e=>by omega)⟩
theorem jY {t:Tm} (h:wf ax t=true):t.size<=1000:=(CE (uY h)).1
theorem zI {t:Tm} (h:wf ax t=true):uh t:=CG (uY h)
theorem aaF {s:By} (h:ax s=true):alX s/\s.size<=40:=by
 unfold ax at h;rw[Bool.and_eq_true,Bool.and_eq_true,Bool.and_eq_true,decide_eq_true_eq,List.all_eq_true] at h;refine⟨⟨fun hm=>?_,fun hm=>?_⟩,h.1.2⟩
 .have:=h.2.2.1 _ hm;revert this;decide
 .have:=h.2.2.1 _ hm;revert this;decide
def ApP (o:Option Tm) (n0:Nat) (w':World) (v:Value):Prop:= ∃r B,v= .tuple #[tV (o.getD default) r,.bool o.isSome]/\aG 24 w' B (o.getD default).kids r/\∀j,B j->n0<=j/\j<w'.heap.size
theorem QR (x y t:Tm) (v v':Value) (xa ya:Option Addr) (xc yc:Nat) (S T:Nat->Prop) (w:World) (hx:aA S w x.kids (.slice xa x.kids.length xc)) (hy:aA S w y.kids (.slice ya y.kids.length yc)) (hv:v= .agg #[.string x.name,.string x.sort,.slice xa x.kids.length xc,.string y.name,.string y.sort,.slice ya y.kids.length yc]) (ht:bC T w t v')
  (hS: ∀k,S k->k<w.heap.size) (hT: ∀k,T k->k<w.heap.size) (hsx:x.size<=100000) (hsy:y.size<=100000) (hst:t.size<=100000):
  Calls Tryz.prog 119 #[v,v'] w fun e w'=> ∃r,e= .returned r/\ApP (jL (x,y) t) w.heap.size w' r/\Ext w w':=by
 subst hv;obtain⟨ta,tc,rfl,ht⟩:=ht;have HX:=ae hx;have HY:=ae hy;have HT:=ae ht;have HS:=ae (And.intro hS hT);have dw:=ae (And.intro hsx (And.intro hsy hst));have hz0:=((((uR w).alloc (.cells #[.string x.name,.string x.sort,.slice xa x.kids.length xc,.string y.name,.string y.sort,.slice ya y.kids.length yc] 146)).alloc (tO t ta tc)).alloc zO)
 have hb0:=ak (ak (ak (ai w (.cells #[.string x.name,.string x.sort,.slice xa x.kids.length xc,.string y.name,.string y.sort,.slice ya y.kids.length yc] 146)) (tO t ta tc)) zO) (.map #[] 0);have hb1:=ak (ak (alloc_at (w.alloc (.cells #[.string x.name,.string x.sort,.slice xa x.kids.length xc,.string y.name,.string y.sort,.slice ya y.kids.length yc] 146)) (tO t ta tc) (n:=w.heap.size+1) (by simp)) zO) (.map #[] 0);have hb2:=ak (alloc_at ((w.alloc (.cells #[.string x.name,.string x.sort,.slice xa x.kids.length xc,.string y.name,.string y.sort,.slice ya y.kids.length yc] 146)).alloc (tO t ta tc)) zO (n:=w.heap.size+2) (by simp)) (.map #[] 0);have hmd:=qm.made T (((w.alloc (.cells #[.string x.name,.string x.sort,.slice xa x.kids.length xc,.string y.name,.string y.sort,.slice ya y.kids.length yc] 146)).alloc (tO t ta tc)).alloc zO);have hsz:(((w.alloc (.cells #[.string x.name,.string x.sort,.slice xa x.kids.length xc,.string y.name,.string y.sort,.slice ya y.kids.length yc] 146)).alloc (tO t ta tc)).alloc zO).heap.size=w.heap.size+3:=by simp
 rw[hsz] at hmd;have HZ:=ae (hz0.alloc (.map #[] 0));have HB0:=ae hb0;have HB1:=ae hb1;have HB2:=ae hb2;have HMD:=ae hmd;have HM:=ae (fun W (hW:Ext w W) (hb:qm T W (w.heap.size+3) sb0)=>aco x t (.agg #[.string x.name,.string x.sort,.slice xa x.kids.length xc]) (.agg #[.string t.name,.string t.sort,.slice ta t.kids.length tc]) S T sb0 (w.heap.size+3) W ⟨xa,xc,rfl,hx.ext hW⟩ ⟨ta,tc,rfl,ht.ext hW⟩ hb (fun h=>by have:=hS _ h;omega) (fun h=>by have:=hT _ h;omega) (by omega) hst);have HF:=ae (fun τ W (hW:Ext w W) (hb:qm T W (w.heap.size+3) τ)=>aef y (.agg #[.string y.name,.string y.sort,.slice ya y.kids.length yc]) S T τ (w.heap.size+3) W ⟨ya,yc,rfl,hy.ext hW⟩ hb (fun k hk=>ay (hS k hk) hW.size) (fun k hk=>ay (hT k hk) hW.size) hsy);have HU:Hid (jL (x,y) t=(jJ x t sb0).map fun σ=>jK σ y):=ae rfl;dsimp only[tV] at HF⊢;obtain⟨a0,a1,a2⟩:=ag hb0;obtain⟨b0,b1,b2⟩:=ag hb1;clear hx hy ht hS hT hsx hsy hst hz0 hb0 hb1 hb2 hmd hsz;have hmm:= @run_makeMap Tryz.prog
 go_enter Tryz.func119,Tryz.ntmps119
 go_wp2_with fail
 clear hmm;refine(HM.out _ HZ.out HMD.out).mono ?_;rintro e w5 ⟨rfl,hw5,hbd⟩;have dX:Hid (Ext w w5):=ae (HZ.out.trans' hw5 (fun j hj e=>by omega));have Hz:=ae (hw5.heap HB0.out (by omega));have QS:=ae (hw5.heap HB2.out (by omega));have jk:=ae hbd;obtain⟨M,hM⟩: ∃M,jJ x t sb0=M:=⟨_,rfl⟩
 rw[hM] at jk HU⊢;clear hw5 hbd hM a0 a1 a2 b0 b1 b2 HM HMD HB0 HB1 HB2 HZ;cases M with
 |none=>
  have HV:Hid (jL (x,y) t=none):=ae HU.out;simp only[Option.isSome_none];clear HU HF jk;have f5:=fun i=>au QS.out i;obtain⟨d0,d1,d2⟩:=ag QS.out
  go_wp2_with fail
  have hr:=aJ QS.out (.string ⟨#[]⟩) (.string ⟨#[]⟩) (.slice none 0 0);have hu:=aI w5 (w.heap.size+2) (.string ⟨#[]⟩) (.string ⟨#[]⟩) (.slice none 0 0);obtain⟨e0,e1,e2⟩:=ag hr;refine bodyPost_ret (v:= .tuple #[.agg #[.string ⟨#[]⟩,.string ⟨#[]⟩,.slice none 0 0],.bool false]) (by simp[results,Tryz.results119,go_sem,e0,e1,e2]) rfl ⟨_,rfl,by rw[HV.out];exact⟨.slice none 0 0,fun _=>False,rfl,aG.nil _ _ _,fun _ h=>h.elim⟩,dX.out.trans' hu (fun j hj e=>by omega)⟩
 |some τ=>
  have HV:Hid (jL (x,y) t=some (jK τ y)):=ae HU.out;simp only[Option.isSome_some];have bI:=ae (fun W (hW:Ext w5 W)=>HF.out τ W (dX.out.trans hW) ((jk.out τ rfl).ext hW));obtain⟨z,hz⟩: ∃z,jK τ y=z:=⟨_,rfl⟩
  rw[hz] at bI HV;have al3:=ae (jk.out τ rfl);clear HU HF jk hz;have a3:=af Hz.out 3 (.string y.name) rfl;have a4:=af Hz.out 4 (.string y.sort) rfl;have a5:=af Hz.out 5 (.slice ya y.kids.length yc) rfl
  go_wp2_with fail
  refine(bI.out _ (aj.refl _ _)).mono ?_;rintro e w6 ⟨r,B,rfl,xN,hb6,hw6⟩;obtain⟨za,zc,jB⟩:=aG.shape xN;subst jB;have eQ:=ae (dX.out.trans hw6);have H_:=ae xN;have je:Hid (∀j,B j->w5.heap.size<=j/\j<w6.heap.size):=ae hb6;have qi:Hid (w.heap.size+3<=w5.heap.size):=ae (by
   have h1:=QS.out;obtain⟨l,h2,_⟩:=al3.out;have:=h2.lt;omega)
  have NL:=ae (hw6.heap QS.out (fun h=>h));clear xN hb6 hw6 bI a3 a4 a5 QS;have f6:=fun i=>au NL.out i;obtain⟨d0,d1,d2⟩:=ag NL.out
  go_wp2_with fail
  have hr:=aJ NL.out (.string z.name) (.string z.sort) (.slice za z.kids.length zc);have hu:=aI w6 (w.heap.size+2) (.string z.name) (.string z.sort) (.slice za z.kids.length zc);obtain⟨e0,e1,e2⟩:=ag hr;refine bodyPost_ret (v:= .tuple #[.agg #[.string z.name,.string z.sort,.slice za z.kids.length zc],.bool true]) (by simp[results,Tryz.results119,go_sem,e0,e1,e2]) rfl ⟨_,rfl,by rw[HV.out];exact⟨.slice za z.kids.length zc,B,rfl,H_.out.kept hu (fun j hj e=>by have h1:=je.out j hj;have h2:=qi.out;omega),fun j hj=>⟨by have h1:=je.out j hj;have h2:=qi.out;omega,ay (je.out j hj).2 hu.size⟩⟩,eQ.out.trans' hu (fun j hj e=>by omega)⟩
def jh:Tm->List Int->Option Tm
 |t,[]=>some t
 |t,i::p=>if i<0\/(t.kids.length:Int)<=i then none else jh (tg t.kids i.toNat) p
theorem yC (t:Tm) (i:Int) (p:List Int):jh t (i::p)=if i<0\/(t.kids.length:Int)<=i then none else jh (tg t.kids i.toNat) p:=by rw[jh]
theorem pR.snoc {w:World} {i:Nat}: ∀{p:List Nat} {a a' a'':Nat×Nat},pR w p a a'->pR w [i] a' a''->pR w (p++[i]) a a''
 |[],a,a',a'',h,h2=>by
  have h:a'=a:=h;rw[<-h];exact h2
 |j::p,a,a',a'',h,h2=>by
  obtain⟨g,off,n,c,h3,h4⟩:=h;exact⟨g,off,n,c,h3,pR.snoc h4 h2⟩
theorem Jo: ∀{p:List Int} {t x:Tm},jh t p=some x->uj t (p.map Int.toNat)/\uJ t (p.map Int.toNat)=x
 |[],t,x,h=>by
  injection h with h
  exact⟨trivial,h⟩
 |i::p,t,x,h=>by
  rw[yC] at h;by_cases h1:i<0\/(t.kids.length:Int)<=i
  .rw [if_pos h1] at h;cases h
  .rw [if_neg h1] at h;obtain⟨h2,h3⟩:=Jo h;exact⟨⟨by omega,h2⟩,h3⟩
def Kw (S:Nat->Prop) (w:World) (a:Nat×Nat) (t:Tm):Prop:= ∃xa xc,w.cell? ⟨a.1,a.2,none⟩=some (.string t.name)/\w.cell? ⟨a.1,a.2+1,none⟩=some (.string t.sort)/\w.cell? ⟨a.1,a.2+2,none⟩=some (.slice xa t.kids.length xc)/\aA S w t.kids (.slice xa t.kids.length xc)
def AtP (S:Nat->Prop) (w:World) (t:Tm) (p:List Int) (a:Nat×Nat) (e:Ending):Prop:=
 (jh t p=none/\e= .returned (.pointer none))\/∃x a',jh t p=some x/\e= .returned (.pointer (some ⟨a'.1,a'.2,none⟩))/\pR w (p.map Int.toNat) a a'/\Kw S w a' x
theorem AtP.no {S:Nat->Prop} {w:World} {t:Tm} {p:List Int} {a:Nat×Nat} (h:jh t p=none):AtP S w t p a (.returned (.pointer none)):= .inl ⟨h,rfl⟩
theorem AtP.yes {S:Nat->Prop} {w:World} {t x:Tm} {p:List Int} {a a':Nat×Nat} (h:jh t p=some x) (h2:pR w (p.map Int.toNat) a a') (h3:Kw S w a' x):AtP S w t p a (.returned (.pointer (some ⟨a'.1,a'.2,none⟩))):= .inr ⟨x,a',h,rfl,h2,h3⟩
theorem adU (t:Tm) (p:List Int) (pv:Value) (a:Nat×Nat) (S T:Nat->Prop) (w:World) (hA:Kw S w a t) (hP:az T w 1 pv p.length (p.map (Value.int .i64))) (hl:p.length<=1000000):
  Calls Tryz.prog 171 #[.pointer (some ⟨a.1,a.2,none⟩),pv] w fun e w'=>AtP S w t p a e/\w=w':=by
 obtain⟨pa,pc,rfl⟩:=az.shape hP;have HP:=ae hP;have HA:=ae hA;obtain⟨b,o⟩:=a;clear hP hA
 go_enter Tryz.func171,Tryz.ntmps171
 go_wp2_with fail
 go_loopg [0,9] p.length (fun gk qv iv wr=> ∃(k:Nat) (c:Nat×Nat) (x:Tm),qv= .pointer (some ⟨c.1,c.2,none⟩)/\iv= .int .i64 (k:Int)/\gk=p.length-k/\k<=p.length/\Hid (jh t p=jh x (p.drop k))/\Hid (pR w ((p.take k).map Int.toNat) (b,o) c)/\Hid (Kw S w c x)/\w=wr)
 case atStart=>exact⟨0,(b,o),t,rfl,rfl,rfl,Nat.zero_le _,ae rfl,ae rfl,HA,rfl⟩
 case round=>
  clear HA;obtain⟨k,⟨cb,co⟩,x,rfl,rfl,rfl,hk,HS,HD,HX,rfl⟩:=hrel;by_cases hlt:k<p.length
  .obtain ⟨g,off,hga,_,hat⟩:=az.uZ (d:=(0:Int)) HP.out (by omega);subst hga;have q0:=hat k hlt;obtain⟨z0,z1,z2,z2'⟩:=bz hlt;have hd:p.drop k=p.getD k 0::p.drop (k+1):=by
    rw[List.drop_eq_getElem_cons hlt,List.getD_eq_getElem?_getD,List.getElem?_eq_getElem hlt];rfl
   have htk:p.take (k+1)=p.take k++[p.getD k 0]:=by
    rw[List.take_add_one,List.getD_eq_getElem?_getD,List.getElem?_eq_getElem hlt];rfl
   have hs:=HS.out;rw[hd,yC] at hs;have HS2:=ae hs;have mF:=ae htk;obtain⟨i,hi⟩: ∃i,p.getD k 0=i:=⟨_,rfl⟩
   rw[hi] at q0 HS2 mF;clear hat hd htk hs hi HS;obtain⟨xa,xc,x0,x1,x2,hx⟩:=HX.out;dsimp only at x0 x1 x2;by_cases hi0:i<0
   .have HV:Hid (jh t p=none):=ae (by rw[HS2.out,if_pos (.inl hi0)]);have y1:decide (i<0)=true:=dT hi0;clear x0 x1 x2 hx
    go_wp2_with fail
    all_goals go_ret
    all_goals exact⟨AtP.no HV.out,rfl⟩
   have y1:decide (i<0)=false:=dF hi0;by_cases hi1:(x.kids.length:Int)<=i
   .have HV:Hid (jh t p=none):=ae (by rw[HS2.out,if_pos (.inr hi1)]);have y2:decide ((x.kids.length:Int)<=i)=true:=dT hi1;clear x0 x1 hx
    go_wp2_with fail
    all_goals go_ret
    all_goals exact⟨AtP.no HV.out,rfl⟩
   have y2:decide ((x.kids.length:Int)<=i)=false:=dF hi1;have HV:Hid (jh t p=jh (tg x.kids i.toNat) (p.drop (k+1))):=ae (by rw[HS2.out,if_neg (by omega)]);obtain⟨j,rfl⟩: ∃j:Nat,i=(j:Int):=⟨i.toNat,by omega⟩
   have hjn:((j:Int)).toNat=j:=by omega
   rw[hjn] at HV;have hj:j<x.kids.length:=by omega
   obtain⟨g2,lU,qJ,_,oO⟩:=hx.at_ (by omega);subst qJ;obtain⟨ya,yc,r0,r1,r2,hy⟩:=oO j hj;have HD2:Hid (pR w ((p.take (k+1)).map Int.toNat) (b,o) (g2,lU+j*3)):=ae (by
    rw[mF.out,List.map_append];refine pR.snoc HD.out ⟨g2,lU,x.kids.length,xc,x2,?_⟩;rw[hjn];rfl)
   have BF:Hid (Kw S w (g2,lU+j*3) (tg x.kids j)):=ae ⟨ya,yc,r0,by rw[Nat.add_assoc];exact r1,by rw[Nat.add_assoc];exact r2,hy⟩;have u0:(0:Int)<=(j:Int):=by omega
   have u1:(j:Int)< (x.kids.length:Int):=by omega
   clear x0 x1 hx oO r0 r1 r2 hy HS2 mF HD HX hi0 hi1 hjn
   go_wp2_with fail
   go_roundg (p.length- (k+1))
   case measure=>omega
   case rel=>exact⟨k+1,(g2,lU+j*3),tg x.kids j,rfl,by go_num,rfl,by omega,HV,HD2,BF,rfl⟩
  .obtain rfl:k=p.length:=by omega
   have z2:decide ((p.length:Int)< (p.length:Int))=false:=dF (by omega);have HV:Hid (jh t p=some x):=ae (by rw[HS.out,List.drop_length];rfl);have hdd:=HD.out;rw[List.take_length] at hdd;have HDD:=ae hdd;clear hdd
   go_wp2_with fail
   go_ret;exact⟨AtP.yes (a':=(cb,co)) HV.out HDD.out HX.out,rfl⟩
abbrev bP:Tm:= .mk ah ah []
def nY (t:Tm) (p:List Int):Tm×Int:=if wf ax t=false then(bP,1) else match jh t p with
 |none=>(bP,2)
 |some x=>(x,0)
theorem CW: ∀(p:List Nat) (t:Tm),uj t p->(uJ t p).size<=t.size
 |[],t,_=>Nat.le_refl _
 |i::p,t,h=>by
  have h1:=CW p _ h.2;have h2:=xI (ed t.kids i h.1);show(uJ (tg t.kids i) p).size<=_;omega
theorem alY (t:Tm) (p:List Int) (tv pv:Value) (S T:Nat->Prop) (w:World) (hT:bC S w t tv) (hS: ∀k,S k->k<w.heap.size) (hP:az T w 1 pv p.length (p.map (Value.int .i64))) (htab:bT w) (hsz:t.size<=100000) (hl:p.length<=1000000):
  Calls Tryz.prog 118 #[tv,pv] w fun e w'=> ∃r,e= .returned (.tuple #[tV (nY t p).1 r,.int .i64 (nY t p).2])/\aA (fun k=>w.heap.size<=k/\k<w'.heap.size) w' (nY t p).1.kids r/\Ext w w':=by
 obtain⟨pa,pc,rfl⟩:=az.shape hP;have HP:=ae hP;obtain⟨a,cap,rfl,hT⟩:=hT;have HT:=ae hT;have HE2:=ae (((uR w).alloc (tO t a cap)).alloc zO);have HB1:=ae (ak (ai w (tO t a cap)) zO);have HB2:=ae (alloc_at (w.alloc (tO t a cap)) zO (n:=w.heap.size+1) (by simp));have hz2:((w.alloc (tO t a cap)).alloc zO).heap.size=w.heap.size+2:=by simp
 have HZ2:=ae hz2;have lH:=ae (fun W (hW:Ext w W)=>r_ t _ W (aC htab hW) ⟨a,cap,rfl,(hT.ext hW).weaken (fun k hk=>ay (hS k hk) hW.size)⟩ (by omega));have jf:=ae hS;have Ho:Hid (wf ax t=false->nY t p=(bP,1)):=ae (fun h=>by unfold nY;rw[if_pos h]);have nJ:Hid (wf ax t=true->jh t p=none->nY t p=(bP,2)):=ae (fun h h2=>by unfold nY;rw[if_neg (by rw[h];simp),h2]);have HF2:Hid (wf ax t=true->∀x,jh t p=some x->nY t p=(x,0)):=ae (fun h x h2=>by unfold nY;rw[if_neg (by rw[h];simp),h2]);obtain⟨F,hF⟩: ∃F,nY t p=F:=⟨_,rfl⟩
 rw[hF] at Ho nJ HF2⊢;dsimp only[tV] at lH⊢;obtain⟨WB,Vp⟩: ∃b,wf ax t=b:=⟨_,rfl⟩
 rw[Vp] at lH Ho nJ HF2;clear hP hT hS htab hF Vp hz2;obtain⟨k0,k1,k2⟩:=ag HB1.out
 go_enter Tryz.func118,Tryz.ntmps118
 go_wp2_with fail
 refine(lH.out _ HE2.out).mono ?_;rintro e w4 ⟨rfl,hw4⟩;have H4:Hid (Ext w w4):=ae (HE2.out.trans hw4);have kZ:=ae (hw4.heap HB1.out (fun h=>h));have dO:=ae (hw4.heap HB2.out (fun h=>h));have HZ4:Hid (w.heap.size+2<=w4.heap.size):=ae (by rw[<-HZ2.out];exact hw4.size);clear hw4 k0 k1 k2 lH HB1 HB2 HE2;cases WB
 .have HV:=ae (Ho.out (by simp));have f2:=fun i=>au dO.out i;obtain⟨d0,d1,d2⟩:=ag dO.out
  go_wp2_with fail
  have hr:=aJ dO.out (.string ⟨#[]⟩) (.string ⟨#[]⟩) (.slice none 0 0);have hu:=aI w4 (w.heap.size+1) (.string ⟨#[]⟩) (.string ⟨#[]⟩) (.slice none 0 0);obtain⟨e0,e1,e2⟩:=ag hr;refine bodyPost_ret (v:= .tuple #[.agg #[.string ⟨#[]⟩,.string ⟨#[]⟩,.slice none 0 0],.int .i64 1]) (by simp[results,Tryz.results118,go_sem,e0,e1,e2]) rfl ⟨.slice none 0 0,by rw[HV.out];rfl,by rw[HV.out];exact aA.nil _ _,H4.out.trans' hu (fun j hj e=>by omega)⟩
 have HAT:=ae (adU t p (.slice pa p.length pc) (w.heap.size,0) S T w4 ⟨a,cap,af kZ.out 0 _ rfl,af kZ.out 1 _ rfl,af kZ.out 2 _ rfl,HT.out.ext H4.out⟩ (az.kept HP.out H4.out (fun _ _ h=>h)) hl)
 go_wp2_with fail
 refine HAT.out.mono ?_;rintro e w5 ⟨hat,rfl⟩;rcases hat with⟨hs,rfl⟩|⟨x,a',hs,rfl,_,xa,xc,x0,x1,x2,hx⟩
 .have HV:=ae (nJ.out (by simp) hs);have f2:=fun i=>au dO.out i;obtain⟨d0,d1,d2⟩:=ag dO.out
  go_wp2_with fail
  have hr:=aJ dO.out (.string ⟨#[]⟩) (.string ⟨#[]⟩) (.slice none 0 0);have hu:=aI w4 (w.heap.size+1) (.string ⟨#[]⟩) (.string ⟨#[]⟩) (.slice none 0 0);obtain⟨e0,e1,e2⟩:=ag hr;refine bodyPost_ret (v:= .tuple #[.agg #[.string ⟨#[]⟩,.string ⟨#[]⟩,.slice none 0 0],.int .i64 2]) (by simp[results,Tryz.results118,go_sem,e0,e1,e2]) rfl ⟨.slice none 0 0,by rw[HV.out];rfl,by rw[HV.out];exact aA.nil _ _,H4.out.trans' hu (fun j hj e=>by omega)⟩
 .have HV:=ae (HF2.out (by simp) x hs);have hso:=Jo hs;have hxs:x.size<=100000:=by
   have h1:=CW _ t hso.1;rw[hso.2] at h1;omega
  have HC:=ae (Ny x _ S w4 ⟨xa,xc,rfl,hx⟩ (fun k hk=>ay (jf.out k hk) H4.out.size) hxs);dsimp only[tV] at HC;obtain⟨ab,ao⟩:=a';dsimp only at x0 x1 x2;clear hs hso hxs hx Ho nJ HF2 HAT
  go_wp2_with fail
  refine HC.out.mono ?_;rintro e w6 ⟨r,B,rfl,CX,Nz,hw6⟩;have H6:=ae (H4.out.trans hw6);have F6:=ae (hw6.heap dO.out (fun h=>h));have HO6:=ae CX;have jq:Hid (∀j,B j->w.heap.size+2<=j/\j<w6.heap.size):=ae (fun j hj=>⟨Nat.le_trans HZ4.out (Nz j hj).1,(Nz j hj).2⟩);obtain⟨ra,rc,BD⟩:=aG.shape CX;subst BD;clear CX Nz hw6 x0 x1 x2 HC;have f2:=fun i=>au F6.out i;obtain⟨d0,d1,d2⟩:=ag F6.out
  go_wp2_with fail
  have hr:=aJ F6.out (.string x.name) (.string x.sort) (.slice ra x.kids.length rc);have hu:=aI w6 (w.heap.size+1) (.string x.name) (.string x.sort) (.slice ra x.kids.length rc);obtain⟨e0,e1,e2⟩:=ag hr;refine bodyPost_ret (v:= .tuple #[.agg #[.string x.name,.string x.sort,.slice ra x.kids.length rc],.int .i64 0]) (by simp[results,Tryz.results118,go_sem,e0,e1,e2]) rfl ⟨.slice ra x.kids.length rc,by rw[HV.out],?_,H6.out.trans' hu (fun j hj e=>by omega)⟩;rw[HV.out];exact((HO6.out.kept hu (fun j hj e=>by have:=(jq.out j hj).1;omega)).read).weaken (fun j hj=>⟨by have:=(jq.out j hj).1;omega,ay (jq.out j hj).2 hu.size⟩)
theorem Ky (z:Tm): ∀(L:List Tm) (i:Nat),i<L.length->sizes (L.set i z)+(tg L i).size=sizes L+z.size
 |a::L,0,_=>by
  show sizes (z::L)+a.size=sizes (a::L)+z.size;simp only[sizes];omega
 |a::L,i+1,h=>by
  have ih:=Ky z L i (by simpa using h);show sizes (a::L.set i z)+(tg L i).size=sizes (a::L)+z.size;simp only[sizes];omega
theorem Hq (y:Tm): ∀(p:List Nat) (t:Tm),uj t p->(putAt t p y).size<=t.size+y.size
 |[],t,_=>by
  have e:putAt t [] y=y:=by cases t;rfl
  rw[e];omega
 |i::p,t,h=>by
  obtain⟨nm,so,L⟩:=t;have h1:=Hq y p (tg L i) h.2;have h2:=Ky (putAt (tg L i) p y) L i h.1;have e:putAt (.mk nm so L) (i::p) y= .mk nm so (L.set i (putAt (tg L i) p y)):=rfl;rw[e,size_eq,size_eq];simp only[Tm.kids];omega
theorem xn (t:Tm) (v:Value) (w:World) (htab:bT w) (hR:bC (fun k=>k<w.heap.size) w t v) (hsz:(t.size:Int)<=1000000000000):Calls Tryz.prog 78 #[v] w fun e w'=>e= .returned (.bool (wf ax t))/\Ext w w':=by
 have HR:=ae hR;obtain⟨a,cap,rfl,hT⟩:=hR;have hb:=ai w (tO t a cap);have HZ:=ae ((uR w).alloc (tO t a cap));have HS:=ae (fun W (hW:Ext w W)=>Nc t _ W (aC htab hW) ((HR.out.ext hW).weaken (fun k hk=>ay hk hW.size)) hsz);dsimp only[tV] at HS⊢;obtain⟨c0,c1,c2⟩:=ag hb;have hpos:=size_pos t;have hz:decide (0<wG t)=wf ax t:=by
  unfold wG;by_cases h:wf ax t=true
  .rw [if_pos h,h,dT (by omega)]
  .rw [if_neg h,Bool.eq_false_iff.2 h];rfl
 have HV:=ae hz;obtain⟨X,hX⟩: ∃X,wG t=X:=⟨_,rfl⟩
 rw[hX] at HS HV;clear hz hX hT hb
 go_enter Tryz.func78,Tryz.ntmps78
 go_wp2_with fail
 refine(HS.out _ HZ.out).mono ?_;rintro e w4 ⟨rfl,hw4⟩;have H4:=ae (HZ.out.ext hw4);clear hw4 c0 c1 c2;by_cases h0:0<X
 .have t0:(0:Int)< (X:Int):=by omega
  have t1:decide ((0:Int)< (X:Int))=true:=dT t0;have jb:Hid (wf ax t=true):=ae (by rw[<-HV.out];exact dT h0)
  go_wp2_with fail
  go_ret;rw[jb.out];exact⟨rfl,H4.out⟩
 .have t0: ¬(0:Int)< (X:Int):=by omega
  have t1:decide ((0:Int)< (X:Int))=false:=dF t0;have jb:Hid (wf ax t=false):=ae (by rw[<-HV.out];exact dF h0)
  go_wp2_with fail
  go_ret;rw[jb.out];exact⟨rfl,H4.out⟩
theorem DI: ∀(t:Tm) (v:Value) (S:Nat->Prop) (w:World),bC S w t v->(∀k,S k->k<w.heap.size)->t.size<=100000->
  Calls Tryz.prog 96 #[v] w fun e w'=> ∃r B,e= .returned (tV t r)/\aG 24 w' B t.kids r/\(∀j,B j->w.heap.size<=j/\j<w'.heap.size)/\Ext w w':=by
 refine Tm.ind (fun nm so L ih=>?_);intro v S w hT hS hsz;obtain⟨a,cap,rfl,hT⟩:=hT;dsimp only[tV,Tm.name,Tm.sort,Tm.kids] at hT⊢;have cO:=ae hT;have HIH:=ae ih;have jf:=ae hS;have iU:sizes L+1<=100000:=by rw[size_eq] at hsz;simp only[Tm.kids] at hsz;omega
 have oM:=ae iU;have mr:L.length<=100000:=by have h1:=bf L;omega
 have hx3:=(((uR w).alloc (.cells #[.string nm,.string so,.slice a L.length cap] 24)).alloc zO).alloc (.cells #[.string nm,.string so,.slice none 0 0] 24);have hb2:=ak (alloc_at (w.alloc (.cells #[.string nm,.string so,.slice a L.length cap] 24)) zO (n:=w.heap.size+1) (by simp)) (.cells #[.string nm,.string so,.slice none 0 0] 24);have hb3:=alloc_at ((w.alloc (.cells #[.string nm,.string so,.slice a L.length cap] 24)).alloc zO) (.cells #[.string nm,.string so,.slice none 0 0] 24) (n:=w.heap.size+1+1) (by simp);have hz0:(((w.alloc (.cells #[.string nm,.string so,.slice a L.length cap] 24)).alloc zO).alloc (.cells #[.string nm,.string so,.slice none 0 0] 24)).heap.size=w.heap.size+3:=by simp
 have HB2:=ae hb2;have HB3:=ae hb3;have cZ:=ae hx3;have HZ0:=ae hz0;clear ih hT hS hsz iU;clear hb2 hb3 hx3 hz0
 go_enter Tryz.func96,Tryz.ntmps96
 go_wp2_with fail
 generalize (((w.alloc (.cells #[.string nm,.string so,.slice a L.length cap] 24)).alloc zO).alloc (.cells #[.string nm,.string so,.slice none 0 0] 24))=W0 at*;obtain⟨n3,hn3⟩: ∃n3,w.heap.size+1+1=n3:=⟨_,rfl⟩
 rw[hn3] at HB3⊢;have gz:=ae hn3;clear hn3;have nX:Hid (ru 24 (w.heap.size+3) W0 L (.slice none 0 0) [] (fun _ _=>False) 0):=ae ⟨rfl,⟨rfl,.inl ⟨rfl,rfl⟩⟩,fun i hi=>absurd hi (Nat.not_lt_zero _),fun i j hi=>absurd hi (Nat.not_lt_zero _),fun i i' j hi=>absurd hi (Nat.not_lt_zero _)⟩;have sF:Hid (w.heap.size+3<=W0.heap.size):=ae (by rw[HZ0.out];exact Nat.le_refl _);clear HZ0
 go_loopg [14] L.length (fun gk iv wr=> ∃(k:Nat) (lv:Value) (us:List Value) (Bk:Nat->Nat->Prop),iv= .int .i64 (k:Int)/\gk=L.length-k/\k<=L.length/\Hid (ru 24 (w.heap.size+3) wr L lv us Bk k)/\Hid (wr.heap[w.heap.size+1]?=some zO)/\Hid (wr.heap[n3]?=some (.cells #[.string nm,.string so,lv] 24 (0,0)))/\Hid (Ext w wr)/\Hid (w.heap.size+3<=wr.heap.size))
 case atStart=>exact⟨0,_,_,_,rfl,rfl,Nat.zero_le _,nX,HB2,HB3,cZ,sF⟩
 case round=>
  clear nX HB2 HB3 cZ sF;obtain⟨k,lv,us,Bk,rfl,rfl,hk,HJ,HB2,HB3,HE,dw⟩:=hrel;obtain⟨la,lc,hlv⟩:=bJ HJ.out.own;subst hlv;by_cases hlt:k<L.length
  .obtain ⟨g,off,hga,_,hat⟩:=(cO.out.ext HE.out).at_ (by omega);subst hga;obtain⟨xa,xc,q0,q1,q2,aY⟩:=hat k hlt;rw[<-Nat.add_assoc] at q1 q2;obtain⟨z0,z1,z2,z2'⟩:=bz hlt;have a_:=ae (fun W (hW:Ext (wr.alloc (.cells #[.string (tg L k).name,.string (tg L k).sort,.slice xa (tg L k).kids.length xc] 24)) W)=>HIH.out (tg L k) (ed L k hlt) _ S W ⟨xa,xc,rfl,(aY.ext ((uR wr).alloc _)).ext hW⟩ (fun j hj=>ay (jf.out j hj) (Nat.le_trans HE.out.size (Nat.le_trans ((uR wr).alloc (.cells #[.string (tg L k).name,.string (tg L k).sort,.slice xa (tg L k).kids.length xc] 24)).size hW.size))) (by have h1:=oM.out;have h2:=kR L k hlt;have h3:=jd L (k+1);omega));dsimp only[tV] at a_;obtain⟨x,hx⟩: ∃x,tg L k=x:=⟨_,rfl⟩
   have HX:=ae hx;rw[hx] at q0 q1 q2 a_;have hQ:=(uR wr).alloc (tO x xa xc);have kT:=ai wr (tO x xa xc);obtain⟨b0,b1,b2⟩:=ag kT;have kz:=ak HB3.out (tO x xa xc);have c2:=af kz 2 (.slice la k lc) rfl;have yA:=ae kz;have HQ:=ae hQ;have xG:=ae (ak HB2.out (tO x xa xc));have CV:=ae (HJ.out.own.alloc (tO x xa xc));have jD:Hid (¬(Value.slice la k lc).ownBlock=some n3):=ae (fun e=>by have h1:=(HJ.out.own.lt n3 e).1;have:=gz.out;omega);have HK:Hid (k<=100000):=ae (by omega);obtain⟨iT,hi,hz0,hz1,hz2⟩:=info_parts Ar;clear hat aY hx hQ kT kz
   go_wp2_with fail
   generalize wr.alloc (tO x xa xc)=wq at*;have yB:Hid (Ext wq wq):=ae (aj.refl _ _);have ui:Hid (w.heap.size+3<=wq.heap.size):=ae (Nat.le_trans dw.out HQ.out.size);clear q0 q1 q2
   go_region_law (first
 |(refine dP _ (.tmp 19) (.tmp 22) 22 rfl (w.heap.size+3) 24 iT (.agg #[.string ⟨#[]⟩,.string ⟨#[]⟩,.slice none 0 0]) 3 56 Tryz.underlying22 hi hz0 hz1 hz2 rfl (by decide) _ _ _ rfl xH.out _ 1 1 [.string x.name,.string x.sort,.slice ya x.kids.length yc] rfl rfl oN.out mW.out jA.out.1 jA.out.2.1 jA.out.2.2 ?_;intro v7 w7 dE;obtain⟨a7,c7,hv7⟩:=bJ dE.own;subst hv7;have iL:=dE.upd.heap (ak fE.out (tO x ya yc)) jD.out;have f7:=fun i=>au iL i;have c2:=af iL 2 (.slice la k lc) rfl;have eP:=ae iL;have mD:=ae dE;clear dE iL)
 |(go_simp;refine(a_.out wq.drew yB.out.drew).mono ?_;rintro e w5 ⟨r,Bx,rfl,jV,hb5,hw5⟩;obtain⟨ya,yc,jB⟩:=aG.shape jV;subst jB;have dS:Hid (Ext wq w5):=ae (((uR wq).drewN' 1).trans hw5);have ql:=ae jV;have qH:Hid (∀j,Bx j->wq.heap.size<=j/\j<w5.heap.size):=ae hb5;have fE:=ae (dS.out.heap yA.out (fun h=>h));have xH:Hid ((w5.alloc (tO x ya yc)).ownsRow (w.heap.size+3) 24 3 (.slice la k lc) k (dC (L.take k) us)):=ae ((df CV.out dS.out (fun _ _ h=>h)).alloc _);have oN:Hid (∀(j:Nat) (u:Value),[Value.string x.name,.string x.sort,.slice ya x.kids.length yc][j]?=some u->(w5.alloc (tO x ya yc)).cell? ((⟨w5.heap.size,0,none⟩:Addr).add j)=some u):=ae (F5 w5 _ _ _ 24);have mW:Hid (∀u∈[Value.string x.name,.string x.sort,.slice ya x.kids.length yc],u.oneCell'=true):=ae (fun u hu=>by simp at hu;rcases hu with h|h|h<;>(subst h;rfl));have jA:Hid (k+1<=maxLen/\(k+1)*56<=140737488355328/\w.heap.size+3<=(w5.alloc (tO x ya yc)).heap.size):=ae ⟨by unfold maxLen;have:=HK.out;omega,by have:=HK.out;omega,by have h1:=dS.out.size;have h2:=ui.out;simp;omega⟩;have c5:=dS.out.cell c2 (fun h=>h);have c6:=((uR w5).alloc (tO x ya yc)).cell c5 (fun h=>h);clear jV hb5 hw5))
   all_goals
    go_wp2_with fail
    have ji:=ae ((aj.refl (fun j=>j=n3) w7).setCell (p:=⟨n3,2,none⟩) (.inl rfl) (.slice a7 (k+1) c7));have dG:Hid (aj (fun j=>(Value.slice la k lc).ownBlock=some j\/j=n3) wq (w7.setCell ⟨n3,2,none⟩ (.slice a7 (k+1) c7))):=ae (((((dS.out.alloc (tO x ya yc)).mono (fun _ _ x=>x.elim)).trans (mD.out.upd.mono (fun _ _ e=> .inl e)))).trans (ji.out.mono (fun _ _ e=> .inr e)));have zL:=ae (HJ.out.grow hlt HX.out (by have:=gz.out;omega) dw.out HQ.out dS.out ql.out qH.out ((uR w5).alloc (tO x ya yc)) mD.out ji.out);have bV:Hid (Ext w (w7.setCell ⟨n3,2,none⟩ (.slice a7 (k+1) c7))):=ae ((HE.out.trans HQ.out).trans' dG.out (fun j hj e=>by
     rcases e with e|e
     .have h1:=(HJ.out.own.lt j e).1;omega
     .have:=gz.out;omega))
    have uH:=ae (dG.out.heap xG.out (fun e=>by
     rcases e with e|e
     .have h1:=(HJ.out.own.lt _ e).1;omega
     .have:=gz.out;omega))
    have lT:=setBlock eP.out 2 (.slice a7 (k+1) c7);have uI:Hid ((w7.setCell ⟨n3,2,none⟩ (.slice a7 (k+1) c7)).heap[n3]?=some (.cells #[.string nm,.string so,.slice a7 (k+1) c7] 24 (0,0))):=ae (by simpa using lT);have pF:Hid (w.heap.size+3<=(w7.setCell ⟨n3,2,none⟩ (.slice a7 (k+1) c7)).heap.size):=ae (Nat.le_trans ui.out dG.out.size);clear lT c2 f7
    go_roundg (L.length- (k+1))
    case measure=>omega
    case rel=>exact⟨k+1,_,_,_,by go_num,rfl,by omega,zL,uH,uI,bV,pF⟩
  .obtain rfl:k=L.length:=by omega
   have z2:decide ((L.length:Int)< (L.length:Int))=false:=dF (by omega);obtain⟨c0,c1,c2⟩:=ag HB3.out;have f2:=fun i=>au HB2.out i;obtain⟨d0,d1,d2⟩:=ag HB2.out
   go_wp2_with fail
   have hr:=aJ HB2.out (.string nm) (.string so) (.slice la L.length lc);have hu:=aI wr (w.heap.size+1) (.string nm) (.string so) (.slice la L.length lc);obtain⟨e0,e1,e2⟩:=ag hr;refine bodyPost_ret (v:= .agg #[.string nm,.string so,.slice la L.length lc]) (by simp[results,Tryz.results172,go_sem,e0,e1,e2]) rfl ⟨.slice la L.length lc,_,rfl,HJ.out.fin.kept hu (fun j hj e=>by have h1:=hj.1;omega),fun j hj=>⟨by have h1:=hj.1;omega,ay hj.2 hu.size⟩,HE.out.trans' hu (fun j hj e=>by omega)⟩
theorem yx {w w':World} (h:Below w.heap.size w w'):Ext w w':=⟨h.os,h.tape,h.output,h.size,fun k hk _=>h.block k hk⟩
end Go.Proofs.YtlkcjmaiahnodaaGreatDoor
