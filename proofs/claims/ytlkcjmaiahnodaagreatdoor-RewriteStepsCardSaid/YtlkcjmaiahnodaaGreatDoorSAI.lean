/- The texts I92 I93 I39 I18 I19 I40 I41 I42 I94 I71 I72 I73 N8 I43, one behind the other. -/
import Derived.Test.YtlkcjmaiahnodaaGreatDoorSAH
import Derived.Test.YtlkcjmaiahnodaaGreatDoorSAC
import Derived.Test.YtlkcjmaiahnodaaGreatDoorSAG
import Derived.Deep.DeepCutAuto
set_option maxRecDepth 100000
set_option maxHeartbeats 8000000
set_option linter.unusedVariables false
set_option linter.unusedSimpArgs false
namespace Go.Proofs.YtlkcjmaiahnodaaGreatDoor
open Go.RowKit Go.Hw Go Tm
section
def sV (S:Nat->Prop) (w:World) (b:Nat) (σ:Sb):Prop:= ∃l:List (By×Value),eX (fun s:By=>Value.string s) w b l/\(∀n,σ n=none->kK l n=none)/\∀n t,σ n=some t->∃v,kK l n=some v/\bQ S w t v/\t.size<=100000
section
variable {S F:Nat->Prop} {w w' w1 w2:World} {b:Nat} {σ:Sb}
theorem sV.kept (h:sV S w b σ) (hu:au F w w') (hb: ¬F b) (hF: ∀k,S k->¬F k):sV S w' b σ:=by
 obtain⟨l,h1,a,c⟩:=h;exact⟨l,h1.kept hu hb,a,fun n t e=>by
  obtain⟨v,g1,g2,g3⟩:=c n t e;exact⟨v,g1,g2.kept hu hF,g3⟩⟩
theorem sV.ext (h:sV S w b σ) (hu:Ext w w'):sV S w' b σ:=h.kept hu id (fun _ _ h=>h)
theorem sV.made (S:Nat->Prop) (w:World):sV S (w.alloc (.map #[] 0)) w.heap.size sb0:=⟨[],eX.made _ w,fun _ _=>rfl,fun n t h=>by cases h⟩
theorem sV.put {l:List (By×Value)} {n:By} {t:Tm} {v:Value} (h:(∀n,σ n=none->kK l n=none)/\∀n t,σ n=some t->∃v,kK l n=some v/\bQ S w t v/\t.size<=100000)
  (h1:au (fun k=>k=b) w w1) (a:au (fun k=>k=b) w1 w2) (hm:eX (fun s:By=>Value.string s) w2 b (qj l n v)) (hS: ¬S b) (c:bQ S w t v) (hs:t.size<=100000):sV S w2 b (σ.put n t):=by
 have hu:=h1.trans a;have hF: ∀k,S k->¬k=b:=fun k hk e=>hS (e▸hk);refine⟨_,hm,fun m hm=>?_,fun m x hx=>?_⟩
 .rw [Nz];unfold Sb.put at hm;by_cases e:m=n
  .rw [if_pos e] at hm;cases hm
  .rw [if_neg e] at hm⊢;exact h.1 m hm
 .rw [Nz];unfold Sb.put at hx;by_cases e:m=n
  .rw [if_pos e] at hx⊢;injection hx with hx
   subst hx;exact⟨v,rfl,c.kept hu hF,hs⟩
  .rw [if_neg e] at hx⊢;obtain⟨v',g1,g2,g3⟩:=h.2 m x hx;exact⟨v',g1,g2.kept hu hF,g3⟩
end
theorem ach {a b:Nat} (h: ¬a=b):((a:Int) !=(b:Int))=true:=by simp;exact fun e=>h (Int.ofNat.inj e)
theorem adU: ∀(p t:Tm) (v v':Value) (S T:Nat->Prop) (σ:Sb) (b:Nat) (w:World),bQ S w p v->bQ T w t v'->sV T w b σ->¬S b->¬T b->p.size<=1000000->t.size<=100000->
  Calls Tryz.prog 173 #[v,v',.map (some b)] w fun e w'=>e= .returned (.bool (lq p t σ).isSome)/\au (fun k=>k=b) w w'/\∀a,lq p t σ=some a->sV T w' b a:=by
 refine Tm.ind (fun n s L bc=>?_);intro t v v' S T σ b w Y J aJ hS aW an ar;obtain⟨m,r,M⟩:=t;obtain⟨pa,u,rfl,Y⟩:=Y;obtain⟨ta,tc,rfl,J⟩:=J;dsimp only[tV,Tm.name,Tm.sort,Tm.kids] at Y J⊢;have bE:=ae Y;have aK:=ae J;have c:=ae aJ;have aX:=ae hS;have ao:=ae aW;have bd:=ae ar;have aF:=ae bc;have bF:Hid (¬w.heap.size+1=b):=ae (by obtain⟨l,h1,_⟩:=aJ;have:=h1.lt;omega);have aL:L.length<=1000000:=by have h1:=bz L;have A:=an;rw[size_eq] at A;exact Nat.le_trans h1 (Nat.le_of_succ_le A)
 have bG:=ae aL;have bf:sizes L+1<=1000000:=by rw[size_eq] at an;exact an
 have bg:sizes M+1<=100000:=by rw[size_eq] at ar;exact ar
 have bh:=ae (And.intro bf bg);have av:=ae (fun(x:Tm) (aw:Value) (hx:bQ T w x aw) (bZ:x.size<=100000) W (hW:Ext w W)=>adT x (.mk m r M) aw (.agg #[.string m,.string r,.slice ta M.length tc]) T T W (hx.ext hW) ⟨ta,tc,rfl,J.ext hW⟩ (by omega));obtain⟨V,hV⟩:=ay (lq (.mk n s L) (.mk m r M) σ);rw[hV];have j:=ae hV;clear bc Y J aJ hS aW an ar aL bf bg hV;have i:=ae (((uR w).alloc (af n s pa L.length u)).alloc (af m r ta M.length tc));have aM:=ae (ak (aj w (af n s pa L.length u)) (af m r ta M.length tc));have Z:=ae (alloc_at (w.alloc (af n s pa L.length u)) (af m r ta M.length tc) (n:=w.heap.size+1) (by simp));obtain⟨a0,bj,a2⟩:=ah aM.o;obtain⟨b0,bk,ax⟩:=ah Z.o;by_cases aG:s.size=0
 .have bB:=gJ _ aG;subst bB;clear aG av;by_cases D:r.size=0
  .have aH:=gJ _ D;subst aH;clear D;by_cases E:m=n
   .have t1:(m.toList==n.toList)=true:=by rw[E];simp
    by_cases hlen:M.length=L.length
    .have t2:((M.length:Int) !=(L.length:Int))=false:=by simp[hlen]
     have bl:Hid (o6 L M σ=V):=ae (by rw[<-j.o];exact(LK (t:= .mk m ai M) ⟨rfl,E,hlen⟩).symm);have bI:=ae hlen;have bm:Hid (au (fun k=>k=b) w ((w.alloc (af n ⟨#[]⟩ pa L.length u)).alloc (af m ⟨#[]⟩ ta M.length tc))):=ae (i.o.mono (fun _ _ h=>h.elim));have aY:=ae (c.o.ext i.o);clear E hlen j c;go_enter Tryz.func173,Tryz.ntmps173;go_wp2_with fail;clear t1 t2 a0 bj a2 b0 bk ax aM i;go_loopg [61] L.length (fun gk bJ wr=> ∃(k:Nat) (a:Sb),bJ= .int .i64 (k:Int)/\gk=L.length-k/\k<=L.length/\Hid (sV T wr b a)/\Hid (o6 (L.drop k) (M.drop k) a=V)/\Hid (au (fun k=>k=b) w wr)/\Hid (wr.heap[w.heap.size+1]?=some (af m ⟨#[]⟩ ta M.length tc)));case atStart=>exact⟨0,σ,rfl,rfl,Nat.zero_le _,aY,bl,bm,Z⟩
     case round=>
      clear aY bl bm Z;obtain⟨k,a,rfl,rfl,hk,c,az,aA,bK⟩:=hrel;by_cases O:k<L.length
      .have aN:k<M.length:=by have:=bI.o;omega
       obtain⟨g,off,bC,_,aZ⟩:=(bE.o.kept aA.o (fun k hk e=>aX.o (e▸hk))).at_ (by omega);obtain⟨g',bA,bL,_,aU⟩:=(aK.o.kept aA.o (fun k hk e=>ao.o (e▸hk))).at_ (by omega);subst bC;subst bL;obtain⟨B,C,bn,aO,aP,bo⟩:=aZ k O;obtain⟨bM,bN,aB,aa,ab,bp⟩:=aU k aN;obtain⟨z0,b2,z2,b1⟩:=bH O;have z3:(k:Int)< (M.length:Int):=by omega
       have K:=ae (fun W (hW:Ext wr W)=>aF.o (tg L k) (cZ L k O) (tg M k) _ _ S T a b W ⟨B,C,rfl,bo.ext hW⟩ ⟨bM,bN,rfl,bp.ext hW⟩ (c.o.ext hW) aX.o ao.o (by have h1:=bh.o.1;have A:=gQ (cZ L k O);omega) (by have h1:=bh.o.2;have A:=gQ (cZ M k aN);omega));have G:=ae (az.o.symm.trans (ZY (σ:=a) O aN));dsimp only[tV] at K;obtain⟨x,hx⟩:=ay (tg L k);obtain⟨y,hy⟩:=ay (tg M k);rw[hx] at bn aO aP K G;rw[hy] at aB aa ab K G;obtain⟨U,bq⟩:=ay (lq x y a);rw[bq] at K G;clear hx hy bq az c aZ aU bo bp;rw[<-Nat.add_assoc] at aO aP aa ab;have hQ:=(uR wr).alloc (tO x B C);have aB:=hQ.cell aB id;have aa:=hQ.cell aa id;have ab:=hQ.cell ab id;have aQ:=ae hQ;have br:=aj wr (tO x B C);obtain⟨bO,bP,bR⟩:=ah br;have aI:=hQ.heap bK.o id;have ax:=ag aI 2 (.slice (some ⟨g',bA,none⟩) M.length tc) rfl;have bs:=ae aI;clear hQ br aI;go_wp2_with fail;generalize wr.alloc (tO x B C)=bS at*;go_still_tail 7,(by kernel_rfl)
       change wpList _ _ _ _ _ bS.drew;go_wp2_with fail;refine(K.o _ (aQ.o.drewN' 1)).mono ?_;rintro e bt ⟨rfl,H,a1⟩;have N:Hid (au (fun k=>k=b) w bt):=ae ((aA.o.ext (aQ.o.drewN' 1)).trans' H (fun _ _ e=>e));have bD:=ae (H.heap bs.o (fun e=>bF.o e));have bu:=ae a1;clear H a1 K aQ bs aB aa ab bn aO aP bO bP bR ax;cases U with
       |none=>
        have ad:Hid (V=none):=ae G.o;simp only[Option.isSome_none];clear G;go_wp2_with fail;go_ret;rw[ad.o];exact⟨rfl,N.o,fun _ h=>by cases h⟩
       |some aC=>
        have ad:Hid (o6 (L.drop (k+1)) (M.drop (k+1)) aC=V):=ae G.o.symm;have bT:=ae (bu.o aC rfl);have aL:=bG.o;simp only[Option.isSome_some];clear G bu;go_wp2_with fail;go_roundg (L.length- (k+1));case measure=>omega
        case rel=>exact⟨k+1,aC,by go_num,rfl,by omega,bT,ad,N,bD⟩
      .obtain rfl:k=L.length:=by omega
       have z2:decide ((L.length:Int)< (L.length:Int))=false:=dF (by omega);have ad:Hid (V=some a):=ae (by rw[<-az.o,List.drop_length];rfl);clear az;go_wp2_with fail;go_ret;rw[ad.o];exact⟨rfl,aA.o,fun aC h=>by injection h with h;rw[<-h];exact c.o⟩
    .have t2:=ach hlen;have d:Hid (V=none):=ae (by rw[<-j.o];exact BD (fun h=>hlen h.2.2));clear hlen E;go_enter Tryz.func173,Tryz.ntmps173;go_wp2_with fail;go_ret;rw[d.o];exact⟨rfl,i.o.mono (fun _ _ h=>h.elim),fun _ h=>by cases h⟩
   .have t1:(m.toList==n.toList)=false:=yZ E;have d:Hid (V=none):=ae (by rw[<-j.o];exact BD (fun h=>E h.2.1));clear E;go_enter Tryz.func173,Tryz.ntmps173;go_wp2_with fail;go_ret;rw[d.o];exact⟨rfl,i.o.mono (fun _ _ h=>h.elim),fun _ h=>by cases h⟩
  .have d:Hid (V=none):=ae (by rw[<-j.o];exact BD (fun h=>D (by rw[show r=ai from h.1];rfl)));obtain⟨r1,r2,bU,bV⟩:=eG r (by omega);go_enter Tryz.func173,Tryz.ntmps173;go_wp2_with fail;go_ret;rw[d.o];exact⟨rfl,i.o.mono (fun _ _ h=>h.elim),fun _ h=>by cases h⟩
 .have aD:Hid (s≠ai):=ae (fun e=>aG (by rw[e];rfl));obtain⟨s1,s2,b3,b4⟩:=eG s (by omega);obtain⟨l,hm,hn,aq⟩:=c.o;cases hx:σ n with
  |some x=>
   obtain⟨aw,hf,a6,a7⟩:=aq n x hx;have d:Hid (V=if x= .mk m r M then some σ else none):=ae (by rw[<-j.o];exact EM aD.o hx);have hl:=eX.get (P:=Tryz.prog) (t:=208) (qW Tryz.underlying9) Tryz.underlying208 (z:= .agg #[.string ⟨#[]⟩,.string ⟨#[]⟩,.slice none 0 0]) (Tryz.zeroValue24 ((w.alloc (af n s pa L.length u)).alloc (af m r ta M.length tc))) (hm.ext i.o) n true;simp only[if_true] at hl;rw[hf] at hl;have aR:=ae (av.o x aw a6 a7);obtain⟨B,C,rfl,_⟩:=a6;dsimp only[tV] at aR hl;simp only[Option.getD_some,Option.isSome_some] at hl;have q:=ae (i.o.alloc (tO x B C));have Q:=ak Z.o (tO x B C);have a8:=alloc_at ((w.alloc (af n s pa L.length u)).alloc (af m r ta M.length tc)) (tO x B C) (n:=w.heap.size+2) (by simp);obtain⟨bW,bX,bY⟩:=ah a8;obtain⟨bw,c1,c2⟩:=ah Q;clear hm hn aq hf hx Q a8 av aF j a7;go_enter Tryz.func173,Tryz.ntmps173;go_wp2_with fail;refine(aR.o _ q.o).mono ?_;rintro e bt ⟨rfl,H⟩;have N:=ae (q.o.trans H);clear H hl bW bX bY bw c1 c2 a0 bj a2 b0 bk ax aR;go_wp2_with fail;go_ret;rw[d.o];by_cases e:x= .mk m r M
   .rw [if_pos e,dT e];exact⟨rfl,N.o.mono (fun _ _ h=>h.elim),fun a h=>by injection h with h;rw[<-h];exact c.o.ext N.o⟩
   .rw [if_neg e,dF e];exact⟨rfl,N.o.mono (fun _ _ h=>h.elim),fun _ h=>by cases h⟩
  |none=>
   have hf:=hn n hx;have hl:=eX.get (P:=Tryz.prog) (t:=208) (qW Tryz.underlying9) Tryz.underlying208 (z:= .agg #[.string ⟨#[]⟩,.string ⟨#[]⟩,.slice none 0 0]) (Tryz.zeroValue24 ((w.alloc (af n s pa L.length u)).alloc (af m r ta M.length tc))) (hm.ext i.o) n true;simp only[if_true] at hl;rw[hf] at hl;simp only[Option.getD_none,Option.isSome_none] at hl;have aS:=ae hx;have ba:=ae (And.intro hn aq);have q:=ae (i.o.alloc zO);have bx:=ae ((hm.ext i.o).ext ((uR ((w.alloc (af n s pa L.length u)).alloc (af m r ta M.length tc))).alloc zO));have bb:=ak aM.o zO;have Q:=ak Z.o zO;obtain⟨d0,d1⟩:=aV bb;obtain⟨bw,c1,c2⟩:=ah Q;clear hm hn aq hf hx bb Q av aF c;by_cases D:r.size=0
   .have aH:=gJ _ D;subst aH;clear D;have R:Hid ((⟨#[]⟩:By)=ai):=ae rfl;have d:Hid (V=some (σ.put n (.mk m ⟨#[]⟩ M))):=ae (by rw[<-j.o,Cj aD.o aS.o];exact if_neg (by rintro⟨h1,A⟩;first|exact h1 R.o|exact A R.o));obtain⟨al,aE,X,hu⟩:=eX.put (P:=Tryz.prog) (t:=208) (qW Tryz.underlying9) Tryz.underlying208 bx.o n (.agg #[.string m,.string ⟨#[]⟩,.slice ta M.length tc]);try dsimp only at aE
    have aT:Hid (au (fun k=>k=b) w al):=ae ((q.o.mono (fun _ _ h=>h.elim)).trans hu);have c:Hid (sV T al b (σ.put n (.mk m ⟨#[]⟩ M))):=ae (sV.put ba.o (q.o.mono (fun _ _ h=>h.elim)) hu X ao.o ⟨ta,tc,rfl,aK.o⟩ bd.o);clear X hu;go_enter Tryz.func173,Tryz.ntmps173;go_wp2_with fail;go_ret;rw[d.o];exact⟨rfl,aT.o,fun a h=>by injection h with h;rw[<-h];exact c.o⟩
   .obtain ⟨r1,r2,bU,bV⟩:=eG r (by omega);by_cases I:r=s
    .have t1:(r.toList==s.toList)=true:=by rw[I];simp
     have R:=ae I;clear I;have d:Hid (V=some (σ.put n (.mk m r M))):=ae (by rw[<-j.o,Cj aD.o aS.o];exact if_neg (by rintro⟨h1,A⟩;first|exact h1 R.o|exact A R.o));obtain⟨al,aE,X,hu⟩:=eX.put (P:=Tryz.prog) (t:=208) (qW Tryz.underlying9) Tryz.underlying208 bx.o n (.agg #[.string m,.string r,.slice ta M.length tc]);try dsimp only at aE
     have aT:Hid (au (fun k=>k=b) w al):=ae ((q.o.mono (fun _ _ h=>h.elim)).trans hu);have c:Hid (sV T al b (σ.put n (.mk m r M))):=ae (sV.put ba.o (q.o.mono (fun _ _ h=>h.elim)) hu X ao.o ⟨ta,tc,rfl,aK.o⟩ bd.o);clear X hu;go_enter Tryz.func173,Tryz.ntmps173;go_wp2_with fail;go_ret;rw[d.o];exact⟨rfl,aT.o,fun a h=>by injection h with h;rw[<-h];exact c.o⟩
    .have t1:(r.toList==s.toList)=false:=yZ I;have d:Hid (V=none):=ae (by rw[<-j.o,Cj aD.o aS.o];exact if_pos ⟨fun e=>D (by rw[show r=ai from e];rfl),I⟩);clear I;go_enter Tryz.func173,Tryz.ntmps173;go_wp2_with fail;go_ret;rw[d.o];exact⟨rfl,q.o.mono (fun _ _ h=>h.elim),fun _ h=>by cases h⟩
end
theorem afC (σ:Sb) (L:List Tm) (k:Nat) (h:k<L.length):tg (L.map (lu σ)) k=lu σ (tg L k):=by
 unfold tg;rw[List.getD_eq_getElem?_getD,List.getD_eq_getElem?_getD,List.getElem?_map,List.getElem?_eq_getElem h];rfl
theorem afD: ∀(t:Tm) (v:Value) (S T:Nat->Prop) (σ:Sb) (b:Nat) (w:World),bQ S w t v->sV T w b σ->(∀k,S k->k<w.heap.size)->(∀k,T k->k<w.heap.size)->t.size<=100000->
  Calls Tryz.prog 174 #[v,.map (some b)] w fun e w'=> ∃r B,e= .returned (tV (lu σ t) r)/\aU 24 w' B (lu σ t).kids r/\(∀j,B j->w.heap.size<=j/\j<w'.heap.size)/\Ext w w':=by
 refine Tm.ind (fun nm so L bg=>?_);intro v S T σ b w ab bh hS a1 aD;obtain⟨a,cap,rfl,ab⟩:=ab;dsimp only[Tm.name,Tm.sort,Tm.kids] at ab;change Calls Tryz.prog 174 #[.agg #[.string nm,.string so,.slice a L.length cap],.map (some b)] w (fun e w'=> ∃r B,e= .returned (tV (lu σ (.mk nm so L)) r)/\aU 24 w' B (lu σ (.mk nm so L)).kids r/\(∀j,B j->w.heap.size<=j/\j<w'.heap.size)/\Ext w w');have bj:=ae ab;have a6:=ae bg;have aG:=ae bh;have aE:=ae (And.intro hS a1);have bk:sizes L+1<=100000:=by rw[size_eq] at aD;simp only[Tm.kids] at aD;omega
 have bN:=ae bk;have cb:L.length<=100000:=by have h1:=bz L;omega
 clear bg ab bh hS a1 aD bk;by_cases ao:so.size=0
 .have bD:=gJ _ ao;subst bD;have bl:Hid (lu σ (.mk nm ⟨#[]⟩ L)= .mk nm ⟨#[]⟩ (L.map (lu σ))):=ae (Ug σ nm L);rw[bl.o];dsimp only[tV,Tm.name,Tm.sort,Tm.kids];obtain⟨H,aq⟩:=ay (L.map (lu σ));have aH:Hid (L.map (lu σ)=H/\H.length=L.length):=ae ⟨aq,by rw[<-aq,List.length_map]⟩;rw[aq];have a7:=(((uR w).alloc (af nm ⟨#[]⟩ a L.length cap)).alloc zO).alloc (af nm ⟨#[]⟩ none 0 0);have Q:=ak (aj w (af nm ⟨#[]⟩ a L.length cap)) zO;obtain⟨aI,aJ⟩:=aV Q;have bO:=ag (ak Q (af nm ⟨#[]⟩ none 0 0)) 2 (.slice a L.length cap) rfl;have Z:=ak (alloc_at (w.alloc (af nm ⟨#[]⟩ a L.length cap)) zO (n:=w.heap.size+1) (by simp)) (af nm ⟨#[]⟩ none 0 0);have a8:=alloc_at ((w.alloc (af nm ⟨#[]⟩ a L.length cap)).alloc zO) (af nm ⟨#[]⟩ none 0 0) (n:=w.heap.size+1+1) (by simp);have ar:(((w.alloc (af nm ⟨#[]⟩ a L.length cap)).alloc zO).alloc (af nm ⟨#[]⟩ none 0 0)).heap.size=w.heap.size+3:=by simp
  have F:=ae Z;have R:=ae a8;have bm:=ae a7;have ba:=ae ar;clear Q Z a8 a7 ar aq ao bl;go_enter Tryz.func174,Tryz.ntmps174;go_wp2_with fail;clear aI aJ bO;generalize (((w.alloc (af nm ⟨#[]⟩ a L.length cap)).alloc zO).alloc (af nm ⟨#[]⟩ none 0 0))=bn at*;obtain⟨E,aF⟩:=ay (w.heap.size+1+1);rw[aF] at R⊢;have aw:=ae aF;clear aF;have bo:Hid (oN 24 (w.heap.size+3) bn H (.slice none 0 0) [] (fun _ _=>False) 0):=ae ⟨rfl,⟨rfl,.inl ⟨rfl,rfl⟩⟩,fun i hi=>absurd hi (Nat.not_lt_zero _),fun i j hi=>absurd hi (Nat.not_lt_zero _),fun i i' j hi=>absurd hi (Nat.not_lt_zero _)⟩;have bp:Hid (w.heap.size+3<=bn.heap.size):=ae (by rw[ba.o];exact Nat.le_refl _);clear ba;go_loopg [22] L.length (fun gk bP wr=> ∃(k:Nat) (lv:Value) (us:List Value) (Bk:Nat->Nat->Prop),bP= .int .i64 (k:Int)/\gk=L.length-k/\k<=L.length/\Hid (oN 24 (w.heap.size+3) wr H lv us Bk k)/\Hid (wr.heap[w.heap.size+1]?=some zO)/\Hid (wr.heap[E]?=some (kW nm ⟨#[]⟩ lv))/\Hid (Ext w wr)/\Hid (w.heap.size+3<=wr.heap.size));case atStart=>exact⟨0,_,_,_,rfl,rfl,Nat.zero_le _,bo,F,R,bm,bp⟩
  case round=>
   clear bo F R bm bp;obtain⟨k,lv,us,Bk,rfl,rfl,hk,K,F,R,X,bq⟩:=hrel;obtain⟨G,lc,bE⟩:=bF K.o.own;subst bE;by_cases U:k<L.length
   .obtain ⟨g,off,bG,_,bb⟩:=(bj.o.ext X.o).at_ (by omega);subst bG;obtain⟨A,C,br,aK,aL,bs⟩:=bb k U;rw[<-Nat.add_assoc] at aK aL;obtain⟨z0,cc,z2,ca⟩:=bH U;have az:=ae (fun W (hW:Ext (wr.alloc (af ((tg L k).name) ((tg L k).sort) A ((tg L k).kids.length) C)) W)=>a6.o (tg L k) (cZ L k U) _ S T σ b W ⟨A,C,rfl,(bs.ext ((uR wr).alloc _)).ext hW⟩ ((aG.o.ext X.o).ext (((uR wr).alloc (af ((tg L k).name) ((tg L k).sort) A ((tg L k).kids.length) C)).trans hW)) (fun j c=>aP (aE.o.1 j c) (Nat.le_trans X.o.size (Nat.le_trans ((uR wr).alloc (af ((tg L k).name) ((tg L k).sort) A ((tg L k).kids.length) C)).size hW.size))) (fun j c=>aP (aE.o.2 j c) (Nat.le_trans X.o.size (Nat.le_trans ((uR wr).alloc (af ((tg L k).name) ((tg L k).sort) A ((tg L k).kids.length) C)).size hW.size))) (by have h1:=bN.o;have bR:=jP L k U;have cd:=fM L (k+1);omega));have av:=ae (afC σ L k U);dsimp only[tV] at az;obtain⟨x,hx⟩:=ay (tg L k);rw[hx] at br aK aL az av;obtain⟨y,hy⟩:=ay (lu σ x);rw[hy] at az av;have bS:Hid (tg H k=y):=ae (by rw[<-aH.o.1];exact av.o);clear hy av;have hQ:=(uR wr).alloc (tO x A C);have bt:=aj wr (tO x A C);obtain⟨b0,cf,cg⟩:=ah bt;have aM:=ak R.o (tO x A C);have c2:=ag aM 2 (.slice G k lc) rfl;have bT:=ae aM;have aQ:=ae hQ;have bU:=ae (ak F.o (tO x A C));have bV:=ae (K.o.own.alloc (tO x A C));have bW:Hid (¬(Value.slice G k lc).ownBlock=some E):=ae (fun e=>by have h1:=(K.o.own.lt E e).1;have:=aw.o;omega);have bu:Hid (k<=100000):=ae (by omega);obtain⟨bX,hi,ar,bI,bJ⟩:=info_parts uZ;clear bb bs hx hQ bt aM;go_wp2_with fail;generalize wr.alloc (tO x A C)=I at*;have bY:Hid (Ext I I):=ae (au.refl _ _);have bw:Hid (w.heap.size+3<=I.heap.size):=ae (Nat.le_trans bq.o aQ.o.size);clear br aK aL;go_region_law (first
  |(refine d_ _ (.tmp 27) (.tmp 31) 22 rfl (w.heap.size+3) 24 bX (.agg #[.string ⟨#[]⟩,.string ⟨#[]⟩,.slice none 0 0]) 3 56 Tryz.underlying22 hi ar bI bJ rfl (by decide) _ _ _ rfl bZ.o _ 1 1 [.string y.name,.string y.sort,.slice d y.kids.length q] rfl rfl b1.o b2.o aR.o.1 aR.o.2.1 aR.o.2.2 ?_;intro ch ad aA;obtain⟨M,N,bK⟩:=bF aA.own;subst bK;have aB:=aA.upd.heap (ak al.o (tO y d q)) bW.o;have f7:=fun i=>ax aB i;have c2:=ag aB 2 (.slice G k lc) rfl;have b3:=ae aB;have bx:=ae aA;clear aA aB)
  |(go_simp;refine(az.o I.drew bY.o.drew).mono ?_;rintro e D ⟨r,Bx,rfl,O,aa,V⟩;obtain⟨d,q,aS⟩:=aU.shape O;subst aS;have J:Hid (Ext I D):=ae (((uR I).drewN' 1).trans V);have aT:=ae O;have an:Hid (∀j,Bx j->I.heap.size<=j/\j<D.heap.size):=ae aa;have al:=ae (J.o.heap bT.o id);have bZ:Hid ((D.alloc (tO y d q)).ownsRow (w.heap.size+3) 24 3 (.slice G k lc) k (dK (H.take k) us)):=ae ((bM bV.o J.o (fun _ _ h=>h)).alloc _);have b1:Hid (∀(j:Nat) (u:Value),[Value.string y.name,.string y.sort,.slice d y.kids.length q][j]?=some u->(D.alloc (tO y d q)).cell? ((⟨D.heap.size,0,none⟩:Addr).add j)=some u):=ae (AA D _ _ _ 24);have b2:Hid (∀u∈[Value.string y.name,.string y.sort,.slice d y.kids.length q],u.oneCell'=true):=ae (fun u hu=>by simp at hu;rcases hu with h|h|h<;>(subst h;rfl));have aR:Hid (k+1<=maxLen/\(k+1)*56<=140737488355328/\w.heap.size+3<=(D.alloc (tO y d q)).heap.size):=ae ⟨by unfold maxLen;have:=bu.o;omega,by have:=bu.o;omega,by have h1:=J.o.size;have bR:=bw.o;simp;omega⟩;have c5:=J.o.cell c2 id;have cj:=((uR D).alloc (tO y d q)).cell c5 id;clear O aa V))
    all_goals
     go_wp2_with fail;have bA:=ae ((au.refl (fun j=>j=E) ad).setCell (p:=⟨E,2,none⟩) (.inl rfl) (.slice M (k+1) N));have aW:Hid (au (fun j=>(Value.slice G k lc).ownBlock=some j\/j=E) I (ad.setCell ⟨E,2,none⟩ (.slice M (k+1) N))):=ae (((((J.o.alloc (tO y d q)).mono (fun _ _ x=>x.elim)).trans (bx.o.upd.mono (fun _ _ e=> .inl e)))).trans (bA.o.mono (fun _ _ e=> .inr e)));have b4:=ae (K.o.grow (by rw[aH.o.2];exact U) bS.o (by have:=aw.o;omega) bq.o aQ.o J.o aT.o an.o ((uR D).alloc (tO y d q)) bx.o bA.o);have b5:Hid (Ext w (ad.setCell ⟨E,2,none⟩ (.slice M (k+1) N))):=ae ((X.o.trans aQ.o).trans' aW.o (fun j c e=>by
      rcases e with e|e
      .have h1:=(K.o.own.lt j e).1;omega
      .have:=aw.o;omega))
     have b6:=ae (aW.o.heap bU.o (fun e=>by
      rcases e with e|e
      .have h1:=(K.o.own.lt _ e).1;omega
      .have:=aw.o;omega))
     have bB:=setBlock b3.o 2 (.slice M (k+1) N);have b7:Hid ((ad.setCell ⟨E,2,none⟩ (.slice M (k+1) N)).heap[E]?=some (af nm ⟨#[]⟩ M (k+1) N)):=ae (by simpa using bB);have b8:Hid (w.heap.size+3<=(ad.setCell ⟨E,2,none⟩ (.slice M (k+1) N)).heap.size):=ae (Nat.le_trans bw.o aW.o.size);clear bB c2 f7;go_roundg (L.length- (k+1));case measure=>omega
     case rel=>exact⟨k+1,_,_,_,by go_num,rfl,by omega,b4,b6,b7,b5,b8⟩
   .obtain rfl:k=L.length:=by omega
    have z2:decide ((L.length:Int)< (L.length:Int))=false:=dF (by omega);obtain⟨ck,c1,c2⟩:=ah R.o;have f2:=fun i=>ax F.o i;obtain⟨d0,d1,d2⟩:=ah F.o
    go_wp2_with fail;have hr:=aO F.o (.string nm) (.string ⟨#[]⟩) (.slice G L.length lc);have hu:=aN wr (w.heap.size+1) (.string nm) (.string ⟨#[]⟩) (.slice G L.length lc);obtain⟨aX,Y,aY⟩:=ah hr;refine bodyPost_ret (v:= .agg #[.string nm,.string ⟨#[]⟩,.slice G L.length lc]) (by simp[results,Tryz.results172,go_sem,aX,Y,aY]) rfl ⟨.slice G L.length lc,_,rfl,(show oN 24 (w.heap.size+3) wr H _ us Bk H.length by rw[aH.o.2];exact K.o).fin.kept hu (fun j c e=>by have h1:=c.1;omega),fun j c=>⟨by have h1:=c.1;omega,aP c.2 hu.size⟩,X.o.trans' hu (fun j c e=>by omega)⟩
 .obtain ⟨s1,s2,cm,cn⟩:=eG so (by omega);have b9:Hid (so≠ai):=ae (fun e=>ao (by rw[e];rfl));obtain⟨l,hm,hn,bc⟩:=aG.o;have hl:=eX.get (P:=Tryz.prog) (t:=208) (qW Tryz.underlying9) Tryz.underlying208 (z:=(.agg #[.string ⟨#[]⟩,.string ⟨#[]⟩,.slice none 0 0])) (Tryz.zeroValue24 ((w.alloc (af nm so a L.length cap)).alloc zO)) (hm.ext (((uR w).alloc (af nm so a L.length cap)).alloc zO)) nm false;simp only[Bool.false_eq_true,if_false] at hl;obtain⟨x,hx⟩:=ay ((σ nm).getD default);have bL: ∃aC,(kK l nm).getD (.agg #[.string ⟨#[]⟩,.string ⟨#[]⟩,.slice none 0 0])=aC/\bQ T w x aC/\x.size<=100000:=by
   cases h:σ nm with
   |none=>
    rw[h] at hx;rw[hn nm h,<-hx];exact⟨_,rfl,⟨none,0,rfl,((aU.nil 25 w (fun _=>False)).read).weaken (fun _ h=>h.elim)⟩,by decide⟩
   |some y=>
    rw[h] at hx;obtain⟨v',g1,g2,g3⟩:=bc nm y h;rw[g1,<-hx];exact⟨v',rfl,g2,g3⟩
  obtain⟨aC,Y,bd,bf⟩:=bL;rw[Y] at hl;have aZ:=ae (fun W (hW:Ext w W)=>EK x aC T W (bd.ext hW) (fun k hk=>aP (aE.o.2 k hk) hW.size) bf);obtain⟨A,C,rfl,_⟩:=bd;dsimp only[tV] at aZ hl;rw[P_ σ b9.o,hx];dsimp only[tV];have bC:=ae (((uR w).alloc (af nm so a L.length cap)).alloc zO);have Q:=ak (aj w (af nm so a L.length cap)) zO;have Z:=alloc_at (w.alloc (af nm so a L.length cap)) zO (n:=w.heap.size+1) (by simp);obtain⟨aI,aJ⟩:=aV Q;have F:=ae Z;clear Q Z hm hn bc hx Y bf a6 aG bj ao;go_enter Tryz.func174,Tryz.ntmps174;go_wp2_with fail;refine(aZ.o _ bC.o).mono ?_;rintro e D ⟨r,B,rfl,O,aa,V⟩;obtain⟨d,q,aS⟩:=aU.shape O;subst aS;have J:=ae (bC.o.trans V);have aT:=ae O;have an:Hid (∀j,B j->w.heap.size+2<=j/\j<D.heap.size):=ae (fun j c=>by have h1:=aa j c;simp at h1;omega);have al:=ae (V.heap F.o id);have f5:=fun i=>ax al.o i;clear O aa V hl aI aJ aZ F;obtain⟨d0,d1,d2⟩:=ah al.o
  go_wp2_with fail;have hr:=aO al.o (.string x.name) (.string x.sort) (.slice d x.kids.length q);have hu:=aN D (w.heap.size+1) (.string x.name) (.string x.sort) (.slice d x.kids.length q);obtain⟨aX,Y,aY⟩:=ah hr;refine bodyPost_ret (v:= .agg #[.string x.name,.string x.sort,.slice d x.kids.length q]) (by simp[results,Tryz.results174,go_sem,aX,Y,aY]) rfl ⟨.slice d x.kids.length q,_,rfl,aT.o.kept hu (fun j c e=>by have h1:=an.o j c;omega),fun j c=>⟨by have h1:=an.o j c;omega,aP (an.o j c).2 hu.size⟩,J.o.trans' hu (fun j c e=>by omega)⟩
theorem qg {t:Tm} (h:wf aC t=true):t.size<=1000:=(Eu (xJ h)).1
theorem y_ {t:Tm} (h:wf aC t=true):u_ t:=Ew (xJ h)
theorem acd {s:By} (h:aC s=true):amD s/\s.size<=40:=by
 unfold aC at h;rw[Bool.and_eq_true,Bool.and_eq_true,Bool.and_eq_true,decide_eq_true_eq,List.all_eq_true] at h;refine⟨⟨fun hm=>?_,fun hm=>?_⟩,h.1.2⟩
 .have:=h.2.2.1 _ hm;revert this;decide
 .have:=h.2.2.1 _ hm;revert this;decide
def ApP (o:Option Tm) (n0:Nat) (w':World) (v:Value):Prop:= ∃r B,v= .tuple #[tV (o.getD default) r,.bool o.isSome]/\aU 24 w' B (o.getD default).kids r/\∀j,B j->n0<=j/\j<w'.heap.size
theorem adW (x y t:Tm) (v v':Value) (c a:Option Addr) (d b:Nat) (S T:Nat->Prop) (w:World) (hx:aG S w x.kids (.slice c x.kids.length d)) (hy:aG S w y.kids (.slice a y.kids.length b)) (hv:v= .agg #[.string x.name,.string x.sort,.slice c x.kids.length d,.string y.name,.string y.sort,.slice a y.kids.length b]) (u:bQ T w t v')
  (hS: ∀k,S k->k<w.heap.size) (F: ∀k,T k->k<w.heap.size) (ai:x.size<=100000) (J:y.size<=100000) (K:t.size<=100000):
  Calls Tryz.prog 119 #[v,v'] w fun e w'=> ∃r,e= .returned r/\ApP (qm (x,y) t) w.heap.size w' r/\Ext w w':=by
 subst hv;obtain⟨ta,tc,rfl,u⟩:=u;have aT:=ae hx;have aV:=ae hy;have aW:=ae u;have aX:=ae (And.intro hS F);have aY:=ae (And.intro ai (And.intro J K));have al:=((((uR w).alloc (aA x.name x.sort c x.kids.length d y.name y.sort a y.kids.length b)).alloc (tO t ta tc)).alloc zO)
 have L:=ak (ak (ak (aj w (aA x.name x.sort c x.kids.length d y.name y.sort a y.kids.length b)) (tO t ta tc)) zO) (.map #[] 0);have N:=ak (ak (alloc_at (w.alloc (aA x.name x.sort c x.kids.length d y.name y.sort a y.kids.length b)) (tO t ta tc) (n:=w.heap.size+1) (by simp)) zO) (.map #[] 0);have an:=ak (alloc_at ((w.alloc (aA x.name x.sort c x.kids.length d y.name y.sort a y.kids.length b)).alloc (tO t ta tc)) zO (n:=w.heap.size+2) (by simp)) (.map #[] 0);have O:=sV.made T (((w.alloc (aA x.name x.sort c x.kids.length d y.name y.sort a y.kids.length b)).alloc (tO t ta tc)).alloc zO);have ao:(((w.alloc (aA x.name x.sort c x.kids.length d y.name y.sort a y.kids.length b)).alloc (tO t ta tc)).alloc zO).heap.size=w.heap.size+3:=by simp
 rw[ao] at O;have Q:=ae (al.alloc (.map #[] 0));have aq:=ae L;have aH:=ae N;have ar:=ae an;have av:=ae O;have aB:=ae (fun W (hW:Ext w W) (hb:sV T W (w.heap.size+3) sb0)=>adU x t (.agg #[.string x.name,.string x.sort,.slice c x.kids.length d]) (.agg #[.string t.name,.string t.sort,.slice ta t.kids.length tc]) S T sb0 (w.heap.size+3) W ⟨c,d,rfl,hx.ext hW⟩ ⟨ta,tc,rfl,u.ext hW⟩ hb (fun h=>by have:=hS _ h;omega) (fun h=>by have:=F _ h;omega) (by omega) K);have G:=ae (fun g W (hW:Ext w W) (hb:sV T W (w.heap.size+3) g)=>afD y (.agg #[.string y.name,.string y.sort,.slice a y.kids.length b]) S T g (w.heap.size+3) W ⟨a,b,rfl,hy.ext hW⟩ hb (fun k hk=>aP (hS k hk) hW.size) (fun k hk=>aP (F k hk) hW.size) J);have A:Hid (qm (x,y) t=(lq x t sb0).map fun σ=>lu σ y):=ae rfl;dsimp only[tV] at G⊢;obtain⟨a0,aK,a2⟩:=ah L;obtain⟨b0,aL,aM⟩:=ah N;clear hx hy u hS F ai J K al L N an O ao;have aI:= @run_makeMap Tryz.prog;go_enter Tryz.func119,Tryz.ntmps119;go_wp2_with fail;clear aI;refine(aB.o _ Q.o av.o).mono ?_;rintro e C ⟨rfl,E,aw⟩;have R:Hid (Ext w C):=ae (Q.o.trans' E (fun j p e=>by omega));have U:=ae (E.heap aq.o (by omega));have q:=ae (E.heap ar.o (by omega));have D:=ae aw;obtain⟨M,aC⟩:=ay (lq x t sb0);rw[aC] at D A⊢;clear E aw aC a0 aK a2 b0 aL aM aB av aq aH ar Q;cases M with
 |none=>
  have H:Hid (qm (x,y) t=none):=ae A.o;simp only[Option.isSome_none];clear A G D;have f5:=fun i=>ax q.o i;obtain⟨d0,d1,d2⟩:=ah q.o
  go_wp2_with fail;have hr:=aO q.o (.string ⟨#[]⟩) (.string ⟨#[]⟩) (.slice none 0 0);have hu:=aN C (w.heap.size+2) (.string ⟨#[]⟩) (.string ⟨#[]⟩) (.slice none 0 0);obtain⟨V,X,Y⟩:=ah hr;refine bodyPost_ret (v:= .tuple #[.agg #[.string ⟨#[]⟩,.string ⟨#[]⟩,.slice none 0 0],.bool false]) (by simp[results,Tryz.results119,go_sem,V,X,Y]) rfl ⟨_,rfl,by rw[H.o];exact⟨.slice none 0 0,fun _=>False,rfl,aU.nil _ _ _,fun _ h=>h.elim⟩,R.o.trans' hu (fun j p e=>by omega)⟩
 |some g=>
  have H:Hid (qm (x,y) t=some (lu g y)):=ae A.o;simp only[Option.isSome_some];have Z:=ae (fun W (hW:Ext C W)=>G.o g W (R.o.trans hW) ((D.o g rfl).ext hW));obtain⟨z,aD⟩:=ay (lu g y);rw[aD] at Z H;have aJ:=ae (D.o g rfl);clear A G D aD;have a3:=ag U.o 3 (.string y.name) rfl;have a4:=ag U.o 4 (.string y.sort) rfl;have a5:=ag U.o 5 (.slice a y.kids.length b) rfl;go_wp2_with fail;refine(Z.o _ (au.refl _ _)).mono ?_;rintro e aE ⟨r,B,rfl,aa,az,P⟩;obtain⟨I,zc,aQ⟩:=aU.shape aa;subst aQ;have aR:=ae (R.o.trans P);have aS:=ae aa;have ab:Hid (∀j,B j->C.heap.size<=j/\j<aE.heap.size):=ae az;have aF:Hid (w.heap.size+3<=C.heap.size):=ae (by
   have h1:=q.o;obtain⟨l,ad,_⟩:=aJ.o;have:=ad.lt;omega)
  have af:=ae (P.heap q.o id);clear aa az P Z a3 a4 a5 q;have f6:=fun i=>ax af.o i;obtain⟨d0,d1,d2⟩:=ah af.o
  go_wp2_with fail;have hr:=aO af.o (.string z.name) (.string z.sort) (.slice I z.kids.length zc);have hu:=aN aE (w.heap.size+2) (.string z.name) (.string z.sort) (.slice I z.kids.length zc);obtain⟨V,X,Y⟩:=ah hr;refine bodyPost_ret (v:= .tuple #[.agg #[.string z.name,.string z.sort,.slice I z.kids.length zc],.bool true]) (by simp[results,Tryz.results119,go_sem,V,X,Y]) rfl ⟨_,rfl,by rw[H.o];exact⟨.slice I z.kids.length zc,B,rfl,aS.o.kept hu (fun j p e=>by have h1:=ab.o j p;have ad:=aF.o;omega),fun j p=>⟨by have h1:=ab.o j p;have ad:=aF.o;omega,aP (ab.o j p).2 hu.size⟩⟩,aR.o.trans' hu (fun j p e=>by omega)⟩
def iH:Tm->List Int->Option Tm
 |t,[]=>some t
 |t,i::p=>if i<0\/(t.kids.length:Int)<=i then none else iH (tg t.kids i.toNat) p
theorem xM (t:Tm) (i:Int) (p:List Int):iH t (i::p)=if i<0\/(t.kids.length:Int)<=i then none else iH (tg t.kids i.toNat) p:=by rw[iH]
theorem rY.snoc {w:World} {i:Nat}: ∀{p:List Nat} {a a' b:Nat×Nat},rY w p a a'->rY w [i] a' b->rY w (p++[i]) a b
 |[],a,a',b,h,d=>by
  have h:a'=a:=h;rw[<-h];exact d
 |j::p,a,a',b,h,d=>by
  obtain⟨g,off,n,c,e,k⟩:=h;exact⟨g,off,n,c,e,rY.snoc k d⟩
theorem Lu: ∀{p:List Int} {t x:Tm},iH t p=some x->rM t (p.map Int.toNat)/\wZ t (p.map Int.toNat)=x
 |[],t,x,h=>by
  injection h with h
  exact⟨trivial,h⟩
 |i::p,t,x,h=>by
  rw[xM] at h;by_cases h1:i<0\/(t.kids.length:Int)<=i
  .rw [if_pos h1] at h;cases h
  .rw [if_neg h1] at h;obtain⟨a,b⟩:=Lu h;exact⟨⟨by omega,a⟩,b⟩
def Nq (S:Nat->Prop) (w:World) (a:Nat×Nat) (t:Tm):Prop:= ∃b c,w.cell? ⟨a.1,a.2,none⟩=some (.string t.name)/\w.cell? ⟨a.1,a.2+1,none⟩=some (.string t.sort)/\w.cell? ⟨a.1,a.2+2,none⟩=some (.slice b t.kids.length c)/\aG S w t.kids (.slice b t.kids.length c)
def AtP (S:Nat->Prop) (w:World) (t:Tm) (p:List Int) (a:Nat×Nat) (e:Ending):Prop:=
 (iH t p=none/\e= .returned (.pointer none))\/∃x a',iH t p=some x/\e= .returned (.pointer (some ⟨a'.1,a'.2,none⟩))/\rY w (p.map Int.toNat) a a'/\Nq S w a' x
theorem AtP.no {S:Nat->Prop} {w:World} {t:Tm} {p:List Int} {a:Nat×Nat} (h:iH t p=none):AtP S w t p a (.returned (.pointer none)):= .inl ⟨h,rfl⟩
theorem AtP.yes {S:Nat->Prop} {w:World} {t x:Tm} {p:List Int} {a a':Nat×Nat} (h:iH t p=some x) (b:rY w (p.map Int.toNat) a a') (c:Nq S w a' x):AtP S w t p a (.returned (.pointer (some ⟨a'.1,a'.2,none⟩))):= .inr ⟨x,a',h,rfl,b,c⟩
theorem amE (t:Tm) (p:List Int) (pv:Value) (a:Nat×Nat) (S T:Nat->Prop) (w:World) (hA:Nq S w a t) (B:aB T w 1 pv p.length (p.map (Value.int .i64))) (hl:p.length<=1000000):
  Calls Tryz.prog 171 #[.pointer (some ⟨a.1,a.2,none⟩),pv] w fun e w'=>AtP S w t p a e/\w=w':=by
 obtain⟨pa,ah,rfl⟩:=aB.shape B;have P:=ae B;have J:=ae hA;obtain⟨b,o⟩:=a;clear B hA;go_enter Tryz.func171,Tryz.ntmps171;go_wp2_with fail;go_loopg [0,9] p.length (fun gk Q R wr=> ∃(k:Nat) (c:Nat×Nat) (x:Tm),Q= .pointer (some ⟨c.1,c.2,none⟩)/\R= .int .i64 (k:Int)/\gk=p.length-k/\k<=p.length/\Hid (iH t p=iH x (p.drop k))/\Hid (rY w ((p.take k).map Int.toNat) (b,o) c)/\Hid (Nq S w c x)/\w=wr);case atStart=>exact⟨0,(b,o),t,rfl,rfl,rfl,Nat.zero_le _,ae rfl,ae rfl,J,rfl⟩
 case round=>
  clear J;obtain⟨k,⟨U,co⟩,x,rfl,rfl,rfl,hk,C,D,E,rfl⟩:=hrel;by_cases l:k<p.length
  .obtain ⟨g,off,M,_,H⟩:=aB.ve (d:=(0:Int)) P.o (by omega);subst M;have V:=H k l;obtain⟨z0,ai,z2,ag⟩:=bH l;have hd:p.drop k=p.getD k 0::p.drop (k+1):=by
    rw[List.drop_eq_getElem_cons l,List.getD_eq_getElem?_getD,List.getElem?_eq_getElem l];rfl
   have I:p.take (k+1)=p.take k++[p.getD k 0]:=by
    rw[List.take_add_one,List.getD_eq_getElem?_getD,List.getElem?_eq_getElem l];rfl
   have hs:=C.o;rw[hd,xM] at hs;have n:=ae hs;have F:=ae I;obtain⟨i,hi⟩:=ay (p.getD k 0);rw[hi] at V n F;clear H hd I hs hi C;obtain⟨aj,W,u,y,G,hx⟩:=E.o;dsimp only at u y G;by_cases q:i<0
   .have h:Hid (iH t p=none):=ae (by rw[n.o,if_pos (.inl q)]);have X:decide (i<0)=true:=dT q;clear u y G hx;go_wp2_with fail;all_goals go_ret
    all_goals exact⟨AtP.no h.o,rfl⟩
   have X:decide (i<0)=false:=dF q;by_cases r:(x.kids.length:Int)<=i
   .have h:Hid (iH t p=none):=ae (by rw[n.o,if_pos (.inr r)]);have Y:decide ((x.kids.length:Int)<=i)=true:=dT r;clear u y hx;go_wp2_with fail;all_goals go_ret
    all_goals exact⟨AtP.no h.o,rfl⟩
   have Y:decide ((x.kids.length:Int)<=i)=false:=dF r;have h:Hid (iH t p=iH (tg x.kids i.toNat) (p.drop (k+1))):=ae (by rw[n.o,if_neg (by omega)]);obtain⟨j,rfl⟩: ∃j:Nat,i=(j:Int):=⟨i.toNat,by omega⟩
   have A:((j:Int)).toNat=j:=by omega
   rw[A] at h;have Z:j<x.kids.length:=by omega
   obtain⟨g2,z,aa,_,K⟩:=hx.at_ (by omega);subst aa;obtain⟨ab,ad,L,r1,r2,hy⟩:=K j Z;have N:Hid (rY w ((p.take (k+1)).map Int.toNat) (b,o) (g2,z+j*3)):=ae (by
    rw[F.o,List.map_append];refine rY.snoc D.o ⟨g2,z,x.kids.length,W,G,?_⟩;rw[A];rfl)
   have af:Hid (Nq S w (g2,z+j*3) (tg x.kids j)):=ae ⟨ab,ad,L,by rw[Nat.add_assoc];exact r1,by rw[Nat.add_assoc];exact r2,hy⟩;have u0:(0:Int)<=(j:Int):=by omega
   have u1:(j:Int)< (x.kids.length:Int):=by omega
   clear u y hx K L r1 r2 hy n F D E q r A;go_wp2_with fail;go_roundg (p.length- (k+1));case measure=>omega
   case rel=>exact⟨k+1,(g2,z+j*3),tg x.kids j,rfl,by go_num,rfl,by omega,h,N,af,rfl⟩
  .obtain rfl:k=p.length:=by omega
   have z2:decide ((p.length:Int)< (p.length:Int))=false:=dF (by omega);have h:Hid (iH t p=some x):=ae (by rw[C.o,List.drop_length];rfl);have hdd:=D.o;rw[List.take_length] at hdd;have O:=ae hdd;clear hdd;go_wp2_with fail;go_ret;exact⟨AtP.yes (a':=(U,co)) h.o O.o E.o,rfl⟩
abbrev dD:Tm:= .mk ai ai []
def DK (t:Tm) (p:List Int):Tm×Int:=if wf aC t=false then(dD,1) else match iH t p with
 |none=>(dD,2)
 |some x=>(x,0)
theorem Ns: ∀(p:List Nat) (t:Tm),rM t p->(wZ t p).size<=t.size
 |[],t,_=>Nat.le_refl _
 |i::p,t,h=>by
  have h1:=Ns p _ h.2;have a:=ui (cZ t.kids i h.1);show(wZ (tg t.kids i) p).size<=_;omega
theorem Nu (z:Tm): ∀(L:List Tm) (i:Nat),i<L.length->sizes (L.set i z)+(tg L i).size=sizes L+z.size
 |a::L,0,_=>by
  show sizes (z::L)+a.size=sizes (a::L)+z.size;simp only[sizes];omega
 |a::L,i+1,h=>by
  have b:=Nu z L i (by simpa using h);show sizes (a::L.set i z)+(tg L i).size=sizes (a::L)+z.size;simp only[sizes];omega
theorem JI (y:Tm): ∀(p:List Nat) (t:Tm),rM t p->(putAt t p y).size<=t.size+y.size
 |[],t,_=>by
  have e:putAt t [] y=y:=by cases t;rfl
  rw[e];omega
 |i::p,t,h=>by
  obtain⟨nm,so,L⟩:=t;have h1:=JI y p (tg L i) h.2;have a:=Nu (putAt (tg L i) p y) L i h.1;have e:putAt (.mk nm so L) (i::p) y= .mk nm so (L.set i (putAt (tg L i) p y)):=rfl;rw[e,size_eq,size_eq];simp only[Tm.kids];omega
theorem yT (t:Tm) (v:Value) (w:World) (p:dI w) (hR:bQ (fun k=>k<w.heap.size) w t v) (q:(t.size:Int)<=1000000000000):Calls Tryz.prog 78 #[v] w fun e w'=>e= .returned (.bool (wf aC t))/\Ext w w':=by
 have r:=ae hR;obtain⟨a,cap,rfl,u⟩:=hR;have hb:=aj w (tO t a cap);have i:=ae ((uR w).alloc (tO t a cap));have b:=ae (fun W (hW:Ext w W)=>Py t _ W (aT p hW) ((r.o.ext hW).weaken (bW hW)) q);dsimp only[tV] at b⊢;obtain⟨x,c1,c2⟩:=ah hb;have y:=size_pos t;have j:decide (0<yD t)=wf aC t:=by
  unfold yD;by_cases h:wf aC t=true
  .rw [if_pos h,h,dT (by omega)]
  .rw [if_neg h,Bool.eq_false_iff.2 h];rfl
 have c:=ae j;obtain⟨X,l⟩:=ay (yD t);rw[l] at b c;clear j l u hb;go_enter Tryz.func78,Tryz.ntmps78;go_wp2_with fail;refine(b.o _ i.o).mono ?_;rintro e z ⟨rfl,g⟩;have n:=ae (i.o.ext g);clear g x c1 c2;by_cases h0:0<X
 .have t0:(0:Int)< (X:Int):=by omega
  have t1:decide ((0:Int)< (X:Int))=true:=dT t0;have d:Hid (wf aC t=true):=ae (by rw[<-c.o];exact dT h0);go_wp2_with fail;go_ret;rw[d.o];exact⟨rfl,n.o⟩
 .have t0: ¬(0:Int)< (X:Int):=by omega
  have t1:decide ((0:Int)< (X:Int))=false:=dF t0;have d:Hid (wf aC t=false):=ae (by rw[<-c.o];exact dF h0);go_wp2_with fail;go_ret;rw[d.o];exact⟨rfl,n.o⟩
theorem Ff: ∀(t:Tm) (v:Value) (S:Nat->Prop) (w:World),bQ S w t v->(∀k,S k->k<w.heap.size)->t.size<=100000->
  Calls Tryz.prog 96 #[v] w fun e w'=> ∃r B,e= .returned (tV t r)/\aU 24 w' B t.kids r/\(∀j,B j->w.heap.size<=j/\j<w'.heap.size)/\Ext w w':=by
 refine Tm.ind (fun nm so L az=>?_);intro v S w K hS T;obtain⟨a,cap,rfl,K⟩:=K;dsimp only[tV,Tm.name,Tm.sort,Tm.kids] at K⊢;have aY:=ae K;have aR:=ae az;have aZ:=ae hS;have aA:sizes L+1<=100000:=by rw[size_eq] at T;simp only[Tm.kids] at T;omega
 have a1:=ae aA;have bC:L.length<=100000:=by have h1:=bz L;omega
 have al:=(((uR w).alloc (af nm so a L.length cap)).alloc zO).alloc (af nm so none 0 0);have an:=ak (alloc_at (w.alloc (af nm so a L.length cap)) zO (n:=w.heap.size+1) (by simp)) (af nm so none 0 0);have ao:=alloc_at ((w.alloc (af nm so a L.length cap)).alloc zO) (af nm so none 0 0) (n:=w.heap.size+1+1) (by simp);have N:(((w.alloc (af nm so a L.length cap)).alloc zO).alloc (af nm so none 0 0)).heap.size=w.heap.size+3:=by simp
 have D:=ae an;have H:=ae ao;have aB:=ae al;have aq:=ae N;clear az K hS T aA;clear an ao al N;go_enter Tryz.func96,Tryz.ntmps96;go_wp2_with fail;generalize (((w.alloc (af nm so a L.length cap)).alloc zO).alloc (af nm so none 0 0))=aC at*;obtain⟨b,U⟩:=ay (w.heap.size+1+1);rw[U] at H⊢;have O:=ae U;clear U;have aD:Hid (oN 24 (w.heap.size+3) aC L (.slice none 0 0) [] (fun _ _=>False) 0):=ae ⟨rfl,⟨rfl,.inl ⟨rfl,rfl⟩⟩,fun i hi=>absurd hi (Nat.not_lt_zero _),fun i j hi=>absurd hi (Nat.not_lt_zero _),fun i i' j hi=>absurd hi (Nat.not_lt_zero _)⟩;have aE:Hid (w.heap.size+3<=aC.heap.size):=ae (by rw[aq.o];exact Nat.le_refl _);clear aq;go_loopg [14] L.length (fun gk a6 wr=> ∃(k:Nat) (lv:Value) (us:List Value) (Bk:Nat->Nat->Prop),a6= .int .i64 (k:Int)/\gk=L.length-k/\k<=L.length/\Hid (oN 24 (w.heap.size+3) wr L lv us Bk k)/\Hid (wr.heap[w.heap.size+1]?=some zO)/\Hid (wr.heap[b]?=some (kW nm so lv))/\Hid (Ext w wr)/\Hid (w.heap.size+3<=wr.heap.size));case atStart=>exact⟨0,_,_,_,rfl,rfl,Nat.zero_le _,aD,D,H,aB,aE⟩
 case round=>
  clear aD D H aB aE;obtain⟨k,lv,us,Bk,rfl,rfl,hk,E,D,H,P,aF⟩:=hrel;obtain⟨l,lc,aS⟩:=bF E.o.own;subst aS;by_cases J:k<L.length
  .obtain ⟨g,off,aT,_,ar⟩:=(aY.o.ext P.o).at_ (by omega);subst aT;obtain⟨q,y,aG,V,X,aH⟩:=ar k J;rw[<-Nat.add_assoc] at V X;obtain⟨z0,bD,z2,bB⟩:=bH J;have Y:=ae (fun W (hW:Ext (wr.alloc (af ((tg L k).name) ((tg L k).sort) q ((tg L k).kids.length) y)) W)=>aR.o (tg L k) (cZ L k J) _ S W ⟨q,y,rfl,(aH.ext ((uR wr).alloc _)).ext hW⟩ (fun j A=>aP (aZ.o j A) (Nat.le_trans P.o.size (Nat.le_trans ((uR wr).alloc (af ((tg L k).name) ((tg L k).sort) q ((tg L k).kids.length) y)).size hW.size))) (by have h1:=a1.o;have a7:=jP L k J;have bE:=fM L (k+1);omega));dsimp only[tV] at Y;obtain⟨x,hx⟩:=ay (tg L k);have a8:=ae hx;rw[hx] at aG V X Y;have hQ:=(uR wr).alloc (tO x q y);have aI:=aj wr (tO x q y);obtain⟨b0,bG,bI⟩:=ah aI;have Z:=ak H.o (tO x q y);have c2:=ag Z 2 (.slice l k lc) rfl;have ba:=ae Z;have aa:=ae hQ;have bb:=ae (ak D.o (tO x q y));have bc:=ae (E.o.own.alloc (tO x q y));have bd:Hid (¬(Value.slice l k lc).ownBlock=some b):=ae (fun e=>by have h1:=(E.o.own.lt b e).1;have:=O.o;omega);have aJ:Hid (k<=100000):=ae (by omega);obtain⟨bf,hi,N,aV,aW⟩:=info_parts uZ;clear ar aH hx hQ aI Z;go_wp2_with fail;generalize wr.alloc (tO x q y)=C at*;have bg:Hid (Ext C C):=ae (au.refl _ _);have aK:Hid (w.heap.size+3<=C.heap.size):=ae (Nat.le_trans aF.o aa.o.size);clear aG V X;go_region_law (first
 |(refine d_ _ (.tmp 19) (.tmp 22) 22 rfl (w.heap.size+3) 24 bf (.agg #[.string ⟨#[]⟩,.string ⟨#[]⟩,.slice none 0 0]) 3 56 Tryz.underlying22 hi N aV aW rfl (by decide) _ _ _ rfl bh.o _ 1 1 [.string x.name,.string x.sort,.slice c x.kids.length d] rfl rfl bj.o bk.o ab.o.1 ab.o.2.1 ab.o.2.2 ?_;intro bJ M Q;obtain⟨F,G,aX⟩:=bF Q.own;subst aX;have R:=Q.upd.heap (ak bl.o (tO x c d)) bd.o;have f7:=fun i=>ax R i;have c2:=ag R 2 (.slice l k lc) rfl;have bm:=ae R;have aL:=ae Q;clear Q R)
 |(go_simp;refine(Y.o C.drew bg.o.drew).mono ?_;rintro e z ⟨r,Bx,rfl,ad,av,aw⟩;obtain⟨c,d,bn⟩:=aU.shape ad;subst bn;have I:Hid (Ext C z):=ae (((uR C).drewN' 1).trans aw);have bo:=ae ad;have bp:Hid (∀j,Bx j->C.heap.size<=j/\j<z.heap.size):=ae av;have bl:=ae (I.o.heap ba.o id);have bh:Hid ((z.alloc (tO x c d)).ownsRow (w.heap.size+3) 24 3 (.slice l k lc) k (dK (L.take k) us)):=ae ((bM bc.o I.o (fun _ _ h=>h)).alloc _);have bj:Hid (∀(j:Nat) (u:Value),[Value.string x.name,.string x.sort,.slice c x.kids.length d][j]?=some u->(z.alloc (tO x c d)).cell? ((⟨z.heap.size,0,none⟩:Addr).add j)=some u):=ae (AA z _ _ _ 24);have bk:Hid (∀u∈[Value.string x.name,.string x.sort,.slice c x.kids.length d],u.oneCell'=true):=ae (fun u hu=>by simp at hu;rcases hu with h|h|h<;>(subst h;rfl));have ab:Hid (k+1<=maxLen/\(k+1)*56<=140737488355328/\w.heap.size+3<=(z.alloc (tO x c d)).heap.size):=ae ⟨by unfold maxLen;have:=aJ.o;omega,by have:=aJ.o;omega,by have h1:=I.o.size;have a7:=aK.o;simp;omega⟩;have c5:=I.o.cell c2 id;have bK:=((uR z).alloc (tO x c d)).cell c5 id;clear ad av aw))
   all_goals
    go_wp2_with fail;have aM:=ae ((au.refl (fun j=>j=b) M).setCell (p:=⟨b,2,none⟩) (.inl rfl) (.slice F (k+1) G));have ai:Hid (au (fun j=>(Value.slice l k lc).ownBlock=some j\/j=b) C (M.setCell ⟨b,2,none⟩ (.slice F (k+1) G))):=ae (((((I.o.alloc (tO x c d)).mono (fun _ _ x=>x.elim)).trans (aL.o.upd.mono (fun _ _ e=> .inl e)))).trans (aM.o.mono (fun _ _ e=> .inr e)));have bq:=ae (E.o.grow J a8.o (by have:=O.o;omega) aF.o aa.o I.o bo.o bp.o ((uR z).alloc (tO x c d)) aL.o aM.o);have br:Hid (Ext w (M.setCell ⟨b,2,none⟩ (.slice F (k+1) G))):=ae ((P.o.trans aa.o).trans' ai.o (fun j A e=>by
     rcases e with e|e
     .have h1:=(E.o.own.lt j e).1;omega
     .have:=O.o;omega))
    have bs:=ae (ai.o.heap bb.o (fun e=>by
     rcases e with e|e
     .have h1:=(E.o.own.lt _ e).1;omega
     .have:=O.o;omega))
    have aQ:=setBlock bm.o 2 (.slice F (k+1) G);have bt:Hid ((M.setCell ⟨b,2,none⟩ (.slice F (k+1) G)).heap[b]?=some (af nm so F (k+1) G)):=ae (by simpa using aQ);have bu:Hid (w.heap.size+3<=(M.setCell ⟨b,2,none⟩ (.slice F (k+1) G)).heap.size):=ae (Nat.le_trans aK.o ai.o.size);clear aQ c2 f7;go_roundg (L.length- (k+1));case measure=>omega
    case rel=>exact⟨k+1,_,_,_,by go_num,rfl,by omega,bq,bs,bt,br,bu⟩
  .obtain rfl:k=L.length:=by omega
   have z2:decide ((L.length:Int)< (L.length:Int))=false:=dF (by omega);obtain⟨bL,c1,c2⟩:=ah H.o;have f2:=fun i=>ax D.o i;obtain⟨d0,d1,d2⟩:=ah D.o
   go_wp2_with fail;have hr:=aO D.o (.string nm) (.string so) (.slice l L.length lc);have hu:=aN wr (w.heap.size+1) (.string nm) (.string so) (.slice l L.length lc);obtain⟨bw,bx,bA⟩:=ah hr;refine bodyPost_ret (v:= .agg #[.string nm,.string so,.slice l L.length lc]) (by simp[results,Tryz.results172,go_sem,bw,bx,bA]) rfl ⟨.slice l L.length lc,_,rfl,E.o.fin.kept hu (fun j A e=>by have h1:=A.1;omega),fun j A=>⟨by have h1:=A.1;omega,aP A.2 hu.size⟩,P.o.trans' hu (fun j A e=>by omega)⟩
theorem zX {w w':World} (h:Below w.heap.size w w'):Ext w w':=⟨h.os,h.tape,h.output,h.size,fun k hk _=>h.block k hk⟩
end Go.Proofs.YtlkcjmaiahnodaaGreatDoor
