/- The texts N76 N77 N78, one behind the other. -/
import Derived.Test.YtlkcjmaiahnodaaGreatDoorYAN
import Derived.Test.YtlkcjmaiahnodaaGreatDoorYAB
import Derived.Test.YtlkcjmaiahnodaaGreatDoorYAP
set_option maxRecDepth 100000
set_option maxHeartbeats 8000000
set_option linter.unusedVariables false
set_option linter.unusedSimpArgs false
namespace Go.Proofs.YtlkcjmaiahnodaaGreatDoor
open Go.RowKit Go.Hw Go Tm
section
open Go.Sort Go.Proofs Go.ChangeMaps
theorem aap (L:List Re) (i:Nat) (h:i<L.length):(eg L i).1=Go.Hw.rg (L.map (·.1)) i:=by
 unfold Go.Hw.rg;rw[Wp h,List.getD_eq_getElem?_getD,List.getElem?_map,List.getElem?_eq_getElem h];rfl
theorem EI {n0:Nat} {W:World} {t:Tm} {u:Value} (h:iY n0 W t u):ay (fun k=>k<W.heap.size) W t.kids u:=by
 obtain⟨B,h1,h2⟩:=h;exact(aG.read h1).weaken (fun k hk=>(h2 k hk).2.lt)
mutual
theorem OL: ∀(t:Tm) (P p:List Nat),p∈iE t P->p.length<=P.length+t.size
 | .mk n s L,P,p,h=>by
  unfold iE at h;split at h
  .rcases List.mem_cons.1 h with h|h
   .rw [h];omega
   .have:=KA L 0 P p h;rw[size_eq];simp only[Tm.kids];omega
  .cases h
theorem KA: ∀(L:List Tm) (i:Nat) (P p:List Nat),p∈o9 L i P->p.length<=P.length+sizes L+1
 |[],_,_,_,h=>by unfold o9 at h;cases h
 |x::L,i,P,p,h=>by
  unfold o9 at h;have hs:sizes (x::L)=x.size+sizes L:=by rw[sizes]
  rcases List.mem_append.1 h with h|h
  .have:=OL x (P++[i]) p h;rw[List.length_append] at this;simp at this;omega
  .have:=KA L (i+1) P p h;omega
end
theorem OM (l:List Rl) (k:Nat) (h:k<l.length):l.take (k+1)=l.take k++[Go.Hw.rg l k]:=by
 unfold Go.Hw.rg;rw[List.getD_eq_getElem?_getD,List.getElem?_eq_getElem h];rw[List.take_add_one,List.getElem?_eq_getElem h];rfl
theorem Ws:(Tryz.prog.info? 146).map (fun i=>(i.zero,i.size,i.bytes))=some (some (.agg #[.string ⟨#[]⟩,.string ⟨#[]⟩,.slice none 0 0,.string ⟨#[]⟩,.string ⟨#[]⟩,.slice none 0 0]),6,112):=by kernel_rfl
theorem afu:(Tryz.prog.info? 152).map (fun i=>(i.zero,i.size,i.bytes))=some (some (.agg #[.string ⟨#[]⟩,.string ⟨#[]⟩,.slice none 0 0,.string ⟨#[]⟩,.string ⟨#[]⟩,.slice none 0 0,.string ⟨#[]⟩,.string ⟨#[]⟩,.slice none 0 0,.int .i64 0,.int .i64 0,.slice none 0 0]),12,208):=by kernel_rfl
section
def Gj (F0:Nat->Prop) (c:Obj):PI.dN ((Option Addr×Nat)×Nat×(Nat->Prop)):=⟨fun x=> .slice (some ⟨x.2.1,0,none⟩) 1 1,fun x W=> ¬F0 x.2.1/\W.heap[x.2.1]?=some c,fun _=>False,F0,fun x W W' F h hU hF=>⟨h.1,hU.heap h.2 (fun e=>h.1 (hF _ e))⟩,fun _=>True,fun _ _ _ _ _ _=>trivial,fun x k=>k=x.2.1,fun x W k h e=>by rw[e];exact(Array.getElem?_eq_some_iff.1 h.2).1⟩
def Gl (n0:Nat) (afv Yz:Nat->Prop) (v0:Value) (m:Nat) (cs:List Value) (hds: ∀k,v0.ownBlock=some k->¬Yz k) (n:Nat) (xs:List Value):PI.dN ((Option Addr×Nat)×Nat×(Nat->Prop)):=⟨fun x=> .slice x.1.1 n x.1.2,fun x W=>W.ownsRow n0 146 6 (.slice x.1.1 n x.1.2) n xs/\(∀k,(Value.slice x.1.1 n x.1.2).ownBlock=some k->¬Yz k/\(afv k\/x.2.2 k))/\∀k,x.2.2 k->(Value.slice x.1.1 n x.1.2).ownBlock=some k,afv,Yz,fun x W W' F h hU hF=>⟨bI h.1 hU (fun k hk e=>(h.2.1 k hk).1 (hF k e)),h.2⟩,fun W=>W.ownsRow n0 146 6 v0 m cs,fun W W' F h hU hF=>bI h hU (fun k hk e=>hds k hk (hF k e)),fun x k=>x.2.2 k,fun x W k h e=>(World.ownsRow.lt h.1 k (h.2.2 k e)).2⟩
end
theorem Rf (l fs sn:List Rl) (ov:Nat->List Nat->Nat->Option (Tm×Tm×Tm)) (Z:Option Cp) (lv:Value) (w:World) (hL:iJ (fun k=>k<w.heap.size) w l lv) (htab:cO w) (hr:dA l=true) (hll:l.length<=100) (hls: ∀r∈l,r.1.size<=1000/\r.2.size<=1000) (hvs: ∀r∈l,(∀f∈cu r.1,f.1.size<=1000)/\∀f∈cu r.2,f.1.size<=1000) (h1:fs.length=l.length) (h2:sn.length=l.length) (afw: ∀i,i<l.length->ql ⟨#[95,49]⟩ (Go.Hw.rg l i).1=((Go.Hw.rg fs i).1,0)/\ql ⟨#[95,49]⟩ (Go.Hw.rg l i).2=((Go.Hw.rg fs i).2,0)/\ql ⟨#[95,50]⟩ (Go.Hw.rg l i).1=((Go.Hw.rg sn i).1,0)/\ql ⟨#[95,50]⟩ (Go.Hw.rg l i).2=((Go.Hw.rg sn i).2,0)) (hfz: ∀i,i<l.length->(Go.Hw.rg fs i).1.size<=1000) (hov: ∀i k p,i<l.length->k<l.length->p∈iE (Go.Hw.rg fs i).1 []->¬(p.length=0/\k<=i)->Iu (Go.Hw.rg fs i) (Go.Hw.rg sn k) p (ov i p k)) (hZ:Iz ov fs l.length l.length 0 none=some Z):
  Calls Tryz.prog 104 #[lv] w fun e w'=> ∃v,e= .returned (.tuple #[v,.int .i64 0])/\Ei w' v Z/\Ext w w':=by
 have zB:=ae (Es l lv w hL htab (by omega) (fun r hr=>by have:=hls r hr;omega));rw[hr] at zB;have BI:=ae hL;have je:=ae htab;have wo:=ae hls;have UW:=ae hvs;have afx:=ae afw;have JC:=ae hfz;have HOV:=ae hov;have HZ:=ae hZ;have w_:=ae hll;have lV:=ae h1;have jh:=ae h2;obtain⟨la,lc,rfl⟩:=hL.shape;clear hL htab hr hls hvs afw hfz hov hZ h1 h2
 go_enter Tryz.func104,Tryz.ntmps104
 go_wp2_with fail
 refine zB.out.mono ?_;rintro e w1 ⟨rfl,hw1⟩;have kU:=ae hw1;clear zB hw1
 go_wp2_with fail
 go_loopg [4,5,26] l.length (fun gk o1 o2 iv wr=> ∃(k:Nat) (L1 L2:List Re) (a1 a2:Option Addr) (c1 c2:Nat),o1= .slice a1 L1.length c1/\o2= .slice a2 L2.length c2/\iv= .int .i64 (k:Int)/\gk=l.length-k/\k<=l.length/\Hid (L1.length=k)/\Hid (L2.length=k)/\Hid (L1.map (·.1)=fs.take k)/\Hid (L2.map (·.1)=sn.take k)/\Hid (wG w.heap.size wr (.slice a1 L1.length c1) L1)/\Hid (wG w.heap.size wr (.slice a2 L2.length c2) L2)/\Hid (∀j,(Value.slice a1 L1.length c1).ownBlock=some j->¬(Value.slice a2 L2.length c2).ownBlock=some j)/\Hid (Ext w wr))
 case atStart=>exact⟨0,[],[],none,none,0,0,rfl,rfl,rfl,rfl,Nat.zero_le _,ae rfl,ae rfl,ae rfl,ae rfl,ae (wG.nil _ _),ae (wG.nil _ _),ae (fun j e=>by cases e),kU⟩
 case round=>
  clear kU;obtain⟨k,L1,L2,a1,a2,c1,c2,rfl,rfl,rfl,rfl,hk,Ko,HL2,BC,ku,lY,l_,HDS,HE⟩:=hrel;by_cases hlt:k<l.length
  .obtain ⟨g,off,hga,_,hat⟩:=(BI.out.ext HE.out).at_ (by omega);subst hga;obtain⟨xa,xc,ya,yc,q0,q1,q2,q3,q4,q5,hx,hy⟩:=hat k hlt;obtain⟨z0,z1,z2,z2'⟩:=bJ hlt;have hsz:=wo.out _ (pX hlt);have OO:=UW.out _ (pX hlt);have hrn:=afx.out k hlt;obtain⟨⟨x,y⟩,hxy⟩: ∃r,Go.Hw.rg l k=r:=⟨_,rfl⟩
   obtain⟨⟨p1,q1'⟩,hf1⟩: ∃r,Go.Hw.rg fs k=r:=⟨_,rfl⟩
   obtain⟨⟨p2,q2'⟩,hf2⟩: ∃r,Go.Hw.rg sn k=r:=⟨_,rfl⟩
   rw[hxy] at q0 q1 q2 q3 q4 q5 hx hy hsz OO hrn;rw[hf1,hf2] at hrn;dsimp only at q0 q1 q2 q3 q4 q5 hx hy hsz OO hrn;have afy:=ae (fun W (hW:Ext wr W)=>OE x y xa ya xc yc ⟨#[95,49]⟩ W (aJ je.out (HE.out.trans hW)) ((hx.ext hW).weaken (fun j hj=>ax hj (HE.out.trans hW).size)) ((hy.ext hW).weaken (fun j hj=>ax hj (HE.out.trans hW).size)) (by omega) (by omega) (fun f hf=>by have:=OO.1 f hf;show _+2<=_;omega) (fun f hf=>by have:=OO.2 f hf;show _+2<=_;omega) p1 q1' hrn.1 hrn.2.1);have afz:=ae (fun W (hW:Ext wr W)=>OE x y xa ya xc yc ⟨#[95,50]⟩ W (aJ je.out (HE.out.trans hW)) ((hx.ext hW).weaken (fun j hj=>ax hj (HE.out.trans hW).size)) ((hy.ext hW).weaken (fun j hj=>ax hj (HE.out.trans hW).size)) (by omega) (by omega) (fun f hf=>by have:=OO.1 f hf;show _+2<=_;omega) (fun f hf=>by have:=OO.2 f hf;show _+2<=_;omega) p2 q2' hrn.2.2.1 hrn.2.2.2);have mQ:=ae hf1;have HF2:=ae hf2;clear hat hx hy hxy hsz OO hrn hf1 hf2;have hX:=(uR wr).alloc (.cells #[.string x.name,.string x.sort,.slice xa x.kids.length xc,.string y.name,.string y.sort,.slice ya y.kids.length yc] 146);have Bc:=ae hX;have HB2:=ae (aj wr (.cells #[.string x.name,.string x.sort,.slice xa x.kids.length xc,.string y.name,.string y.sort,.slice ya y.kids.length yc] 146));clear hX;obtain⟨x0,x1,x2,x3,x4,x5⟩:=dR HB2.out
   go_wp2_with fail
   obtain⟨nb2,TQ⟩: ∃n,wr.heap.size=n:=⟨_,rfl⟩
   have amf:=ae TQ;rw[TQ] at HB2
   try rw[TQ]
   clear q0 q1 q2 q3 q4 q5 TQ;generalize wr.alloc (.cells #[.string x.name,.string x.sort,.slice xa x.kids.length xc,.string y.name,.string y.sort,.slice ya y.kids.length yc] 146)=w2 at*;refine(afy.out _ Bc.out).mono ?_;rintro e w3 ⟨pa,pc,qa,qc,B1,B1',rfl,Il,Ip,Io,Iq,hw3⟩;have hX:=hw3.alloc (.cells #[.string p1.name,.string p1.sort,.slice pa p1.kids.length pc,.string q1'.name,.string q1'.sort,.slice qa q1'.kids.length qc] 146);have Ij:=ae (Bc.out.trans hX);have fG:=ae (hX.heap HB2.out (fun h=>h));have uD:=ae (aj w3 (.cells #[.string p1.name,.string p1.sort,.slice pa p1.kids.length pc,.string q1'.name,.string q1'.sort,.slice qa q1'.kids.length qc] 146));have Wu:Hid (iY w.heap.size (w3.alloc (.cells #[.string p1.name,.string p1.sort,.slice pa p1.kids.length pc,.string q1'.name,.string q1'.sort,.slice qa q1'.kids.length qc] 146)) p1 (.slice pa p1.kids.length pc)):=ae (iY.of (Il.kept ((uR w3).alloc _) (fun _ _ h=>h)) (fun j hj=>by have:=(Io j hj).1;have:=Bc.out.size;have:=HE.out.size;omega));have yz:Hid (iY w.heap.size (w3.alloc (.cells #[.string p1.name,.string p1.sort,.slice pa p1.kids.length pc,.string q1'.name,.string q1'.sort,.slice qa q1'.kids.length qc] 146)) q1' (.slice qa q1'.kids.length qc)):=ae (iY.of (Ip.kept ((uR w3).alloc _) (fun _ _ h=>h)) (fun j hj=>by have:=(Iq j hj).1;have:=Bc.out.size;have:=HE.out.size;omega));have eP:Hid (wr.heap.size<=w3.heap.size):=ae (Bc.out.trans hw3).size;clear Il Ip Io Iq hw3 hX afy Bc HB2 x0 x1 x2 x3 x4 x5;obtain⟨x0,x1,x2,x3,x4,x5⟩:=dR fG.out
   go_wp2_with fail
   obtain⟨nb3,YA⟩: ∃n,w3.heap.size=n:=⟨_,rfl⟩
   rw[YA] at uD eP
   try rw[YA]
   clear YA;generalize w3.alloc (.cells #[.string p1.name,.string p1.sort,.slice pa p1.kids.length pc,.string q1'.name,.string q1'.sort,.slice qa q1'.kids.length qc] 146)=w4 at*;refine(afz.out _ Ij.out).mono ?_;rintro e w5 ⟨ra,rc,sa,sc,B2,BL,rfl,Il,Ip,Io,Iq,hw5⟩;have hX:=hw5.alloc (.cells #[.string p2.name,.string p2.sort,.slice ra p2.kids.length rc,.string q2'.name,.string q2'.sort,.slice sa q2'.kids.length sc] 146);have jk:=ae (Ij.out.trans hX);have Aj:=ae (hX.heap uD.out (fun h=>h));have yI:=ae (aj w5 (.cells #[.string p2.name,.string p2.sort,.slice ra p2.kids.length rc,.string q2'.name,.string q2'.sort,.slice sa q2'.kids.length sc] 146));have aj2:=ae (Wu.out.ext hX);have aj3:=ae (yz.out.ext hX);have HP2:Hid (iY w.heap.size (w5.alloc (.cells #[.string p2.name,.string p2.sort,.slice ra p2.kids.length rc,.string q2'.name,.string q2'.sort,.slice sa q2'.kids.length sc] 146)) p2 (.slice ra p2.kids.length rc)):=ae (iY.of (Il.kept ((uR w5).alloc _) (fun _ _ h=>h)) (fun j hj=>by have:=(Io j hj).1;have:=Ij.out.size;have:=HE.out.size;omega));have zC:Hid (iY w.heap.size (w5.alloc (.cells #[.string p2.name,.string p2.sort,.slice ra p2.kids.length rc,.string q2'.name,.string q2'.sort,.slice sa q2'.kids.length sc] 146)) q2' (.slice sa q2'.kids.length sc)):=ae (iY.of (Ip.kept ((uR w5).alloc _) (fun _ _ h=>h)) (fun j hj=>by have:=(Iq j hj).1;have:=Ij.out.size;have:=HE.out.size;omega));have oP:Hid (wr.heap.size<=w5.heap.size):=ae (Ij.out.trans hw5).size;clear Il Ip Io Iq hw5 hX afz Ij fG uD Wu yz x0 x1 x2 x3 x4 x5
   go_upto_region 11 with fail
   obtain⟨nb5,xJ⟩: ∃n,w5.heap.size=n:=⟨_,rfl⟩
   rw[xJ] at yI oP
   try rw[xJ]
   clear xJ;generalize w5.alloc (.cells #[.string p2.name,.string p2.sort,.slice ra p2.kids.length rc,.string q2'.name,.string q2'.sort,.slice sa q2'.kids.length sc] 146)=wb at*;have HEb:=ae (HE.out.trans jk.out);have afB:=ae (lY.out.ext jk.out);have afC:=ae (l_.out.ext jk.out);have hF3: ¬(fun j=>(Value.slice a1 L1.length c1).ownBlock=some j\/(Value.slice a2 L2.length c2).ownBlock=some j) nb3:=fun h=>by
    have h3:=eP.out;rcases h with h|h
    .have:=(World.ownsRow.lt lY.out.own _ h).2;omega
    .have:=(World.ownsRow.lt l_.out.own _ h).2;omega
   have OQ: ¬(fun j=>(Value.slice a1 L1.length c1).ownBlock=some j\/(Value.slice a2 L2.length c2).ownBlock=some j) nb5:=fun h=>by
    have h3:=oP.out;rcases h with h|h
    .have:=(World.ownsRow.lt lY.out.own _ h).2;omega
    .have:=(World.ownsRow.lt l_.out.own _ h).2;omega
   have x0:=fun x:XF (fun j=>(Value.slice a1 L1.length c1).ownBlock=some j\/(Value.slice a2 L2.length c2).ownBlock=some j) wb=>x.upd.cell (ag Aj.out 0 (.string p1.name) rfl) hF3;have y0:=fun x:XF (fun j=>(Value.slice a1 L1.length c1).ownBlock=some j\/(Value.slice a2 L2.length c2).ownBlock=some j) wb=>x.upd.cell (ag yI.out 0 (.string p2.name) rfl) OQ;have x1:=fun x:XF (fun j=>(Value.slice a1 L1.length c1).ownBlock=some j\/(Value.slice a2 L2.length c2).ownBlock=some j) wb=>x.upd.cell (ag Aj.out 1 (.string p1.sort) rfl) hF3;have y1:=fun x:XF (fun j=>(Value.slice a1 L1.length c1).ownBlock=some j\/(Value.slice a2 L2.length c2).ownBlock=some j) wb=>x.upd.cell (ag yI.out 1 (.string p2.sort) rfl) OQ;have x2:=fun x:XF (fun j=>(Value.slice a1 L1.length c1).ownBlock=some j\/(Value.slice a2 L2.length c2).ownBlock=some j) wb=>x.upd.cell (ag Aj.out 2 (.slice pa p1.kids.length pc) rfl) hF3;have y2:=fun x:XF (fun j=>(Value.slice a1 L1.length c1).ownBlock=some j\/(Value.slice a2 L2.length c2).ownBlock=some j) wb=>x.upd.cell (ag yI.out 2 (.slice ra p2.kids.length rc) rfl) OQ;have x3:=fun x:XF (fun j=>(Value.slice a1 L1.length c1).ownBlock=some j\/(Value.slice a2 L2.length c2).ownBlock=some j) wb=>x.upd.cell (ag Aj.out 3 (.string q1'.name) rfl) hF3;have y3:=fun x:XF (fun j=>(Value.slice a1 L1.length c1).ownBlock=some j\/(Value.slice a2 L2.length c2).ownBlock=some j) wb=>x.upd.cell (ag yI.out 3 (.string q2'.name) rfl) OQ;have x4:=fun x:XF (fun j=>(Value.slice a1 L1.length c1).ownBlock=some j\/(Value.slice a2 L2.length c2).ownBlock=some j) wb=>x.upd.cell (ag Aj.out 4 (.string q1'.sort) rfl) hF3;have y4:=fun x:XF (fun j=>(Value.slice a1 L1.length c1).ownBlock=some j\/(Value.slice a2 L2.length c2).ownBlock=some j) wb=>x.upd.cell (ag yI.out 4 (.string q2'.sort) rfl) OQ;have x5:=fun x:XF (fun j=>(Value.slice a1 L1.length c1).ownBlock=some j\/(Value.slice a2 L2.length c2).ownBlock=some j) wb=>x.upd.cell (ag Aj.out 5 (.slice qa q1'.kids.length qc) rfl) hF3;have y5:=fun x:XF (fun j=>(Value.slice a1 L1.length c1).ownBlock=some j\/(Value.slice a2 L2.length c2).ownBlock=some j) wb=>x.upd.cell (ag yI.out 5 (.slice sa q2'.kids.length sc) rfl) OQ;have HOs:=lY;clear lY l_ HOs;have lY:=afB;have l_:=afC;clear afB afC;have hlen:L1.length+1<=1000/\L2.length+1<=1000:=by have:=w_.out;have:=Ko.out;have:=HL2.out;omega
   refine PI.bP (α:=(Option Addr×Nat)×Nat×(Nat->Prop)) (fun j=>(Value.slice a1 L1.length c1).ownBlock=some j\/(Value.slice a2 L2.length c2).ownBlock=some j) 8 [] 8 [(8,2),(9,2)] [[],[],[1],[0,1,2],[],[],[5],[0,1,2,3,4,5,6],[0,1,2,3,4,5,6,7],[0,1,2,3,4,5,6,7,8]]
    [none,none,some (Gj (fun j=>(Value.slice a1 L1.length c1).ownBlock=some j\/(Value.slice a2 L2.length c2).ownBlock=some j) (.cells #[.string p1.name,.string p1.sort,.slice pa p1.kids.length pc,.string q1'.name,.string q1'.sort,.slice qa q1'.kids.length qc] 146 (0,0))),some (Gl w.heap.size (fun j=>(Value.slice a1 L1.length c1).ownBlock=some j) (fun j=>(Value.slice a2 L2.length c2).ownBlock=some j) (.slice a1 L1.length c1) L1.length (L1.flatMap tH) HDS.out (L1.length+1) (L1.flatMap tH++[.string p1.name,.string p1.sort,.slice pa p1.kids.length pc,.string q1'.name,.string q1'.sort,.slice qa q1'.kids.length qc])),none,none,some (Gj (fun j=>(Value.slice a1 L1.length c1).ownBlock=some j\/(Value.slice a2 L2.length c2).ownBlock=some j) (.cells #[.string p2.name,.string p2.sort,.slice ra p2.kids.length rc,.string q2'.name,.string q2'.sort,.slice sa q2'.kids.length sc] 146 (0,0))),some (Gl w.heap.size (fun j=>(Value.slice a2 L2.length c2).ownBlock=some j) (fun j=>(Value.slice a1 L1.length c1).ownBlock=some j) (.slice a2 L2.length c2) L2.length (L2.flatMap tH) (fun k h2 h1=>HDS.out k h1 h2) (L2.length+1) (L2.flatMap tH++[.string p2.name,.string p2.sort,.slice ra p2.kids.length rc,.string q2'.name,.string q2'.sort,.slice sa q2'.kids.length sc]))]
    [false,false,true,true,false,false,true,true] (by kernel_rfl) (by kernel_rfl) rfl (fun _ _ d _ _ h=>by cases d<;>exact h)
    ⟨fun i A j B h1 h2 hne k hD=>by
      have hi:i<8:=by
       refine Nat.lt_of_not_le (fun hge=>?_);change List.getD _ i none=some _ at h1;rw[List.getD_eq_getElem?_getD,List.getElem?_eq_none (by simpa using hge)] at h1;cases h1
      have hj:j<8:=by
       refine Nat.lt_of_not_le (fun hge=>?_);change List.getD _ j none=some _ at h2;rw[List.getD_eq_getElem?_getD,List.getElem?_eq_none (by simpa using hge)] at h2;cases h2
      rcases(by omega:i=0\/i=1\/i=2\/i=3\/i=4\/i=5\/i=6\/i=7) with rfl|rfl|rfl|rfl|rfl|rfl|rfl|rfl<;>first|(cases h1;done)|skip
      all_goals (injection h1 with h1;subst h1)
      all_goals (rcases(by omega:j=0\/j=1\/j=2\/j=3\/j=4\/j=5\/j=6\/j=7) with rfl|rfl|rfl|rfl|rfl|rfl|rfl|rfl<;>first|(cases h2;done)|exact absurd rfl hne|skip)
      all_goals (injection h2 with h2;subst h2)
      all_goals first|exact hD.elim|exact hD|exact .inl hD|exact .inr hD,fun i A h1 k hD=>by
      have hi:i<8:=by
       refine Nat.lt_of_not_le (fun hge=>?_);change List.getD _ i none=some _ at h1;rw[List.getD_eq_getElem?_getD,List.getElem?_eq_none (by simpa using hge)] at h1;cases h1
      rcases(by omega:i=0\/i=1\/i=2\/i=3\/i=4\/i=5\/i=6\/i=7) with rfl|rfl|rfl|rfl|rfl|rfl|rfl|rfl<;>first|(cases h1;done)|skip
      all_goals (injection h1 with h1;subst h1)
      all_goals first|exact hD.elim|exact .inl hD|exact .inr hD⟩ (fun i A h1=>by
      have hi:i<8:=by
       refine Nat.lt_of_not_le (fun hge=>?_);change List.getD _ i none=some _ at h1;rw[List.getD_eq_getElem?_getD,List.getElem?_eq_none (by simpa using hge)] at h1;cases h1
      rcases(by omega:i=0\/i=1\/i=2\/i=3\/i=4\/i=5\/i=6\/i=7) with rfl|rfl|rfl|rfl|rfl|rfl|rfl|rfl<;>first|(cases h1;done)|skip
      all_goals (injection h1 with h1;subst h1)
      all_goals first|exact trivial|exact lY.out.own|exact l_.out.own) ?_
   simp only[List.take_succ_cons,List.take_zero,fF,List.getElem?_cons_zero,List.getElem?_cons_succ];refine PI.aS rfl (fun K hK=>?_);go_simp;refine hK _ ?_;clear hK K;refine PI.aS rfl (fun K hK=>?_);go_simp;refine hK _ ?_;clear hK K;refine PI.aH _ rfl (by go_simp) (fun W hW hG hpr K hK=>?_) (fun K z2 hK=>?_)
   .go_simp;exact hK ((none,0),W.heap.size,fun _=>False) _ ((uR W).alloc _) ⟨fun h=>by
     have h:(Value.slice a1 L1.length c1).ownBlock=some W.heap.size\/(Value.slice a2 L2.length c2).ownBlock=some W.heap.size:=h;have h1:wb.heap.size<=W.heap.size:=hW.size;rcases h with h|h
     .have:=(World.ownsRow.lt lY.out.own _ h).2;omega
     .have:=(World.ownsRow.lt l_.out.own _ h).2;omega,aj _ _⟩ (fun k e=>by rw[e];exact Nat.le_refl _)
   refine hK _ ?_;clear hK K;dsimp only[Gj,Gl];refine PI.aH _ rfl (by go_simp) (fun W hW hG hpr K hK=>?_) (fun K z3 hK=>?_)
   .have gc:=hG _ (List.mem_append_right _ (List.mem_singleton.2 rfl)) (by show(2:Nat)∈_;decide);obtain⟨iR,hi,hz0,hz1,hz2⟩:=info_parts Ws;have hown:W.ownsRow w.heap.size 146 6 (.slice a1 L1.length c1) L1.length (L1.flatMap tH):=hpr;refine dJ _ (.tmp 46) (.tmp 48) 50 rfl w.heap.size 146 iR (.agg #[.string ⟨#[]⟩,.string ⟨#[]⟩,.slice none 0 0,.string ⟨#[]⟩,.string ⟨#[]⟩,.slice none 0 0]) 6 112 Tryz.underlying50 hi hz0 hz1 hz2 rfl (by decide) _ L1.length _ rfl hown ⟨z2.2.1,0,none⟩ 1 1 [.string p1.name,.string p1.sort,.slice pa p1.kids.length pc,.string q1'.name,.string q1'.sort,.slice qa q1'.kids.length qc] rfl rfl (fun j u hj=>?_) (by intro u hu;simp at hu;rcases hu with h|h|h|h|h|h<;>(subst h;rfl)) (by have:=hlen;unfold maxLen;omega) (by have:=hlen;omega) (Nat.le_trans HEb.out.size hW.size) ?_
    .have hj6:j<6:=(List.getElem?_eq_some_iff.1 hj).1;rw[show(⟨z2.2.1,0,none⟩:Addr).add j=⟨z2.2.1,j,none⟩ by rw[Addr.add_lit,Nat.zero_add]];rw[cell_of_row _ _ j _ _ _ gc.2];simpa using hj
    intro v' w' IA;obtain⟨a',c',hv⟩:=aY IA.own;subst hv;have hwh:=IA.uT;refine hK ((a',c'),0,fun k=>(Value.slice a' (L1.length+1) c').ownBlock=some k/\W.heap.size<=k) w' (IA.upd) ⟨IA.own,fun k hk=>?_,fun k hk=>hk.1⟩ (fun k e=>e.2);rcases hwh with h|h
    .rw [h] at hk;exact⟨fun e=>HDS.out k hk e,.inl hk⟩
    .have hk2:=hk;rw[h] at hk2;injection hk2 with hk2
     exact⟨fun e=>by have:=(World.ownsRow.lt l_.out.own _ e).2;have:=hW.size;omega,.inr ⟨hk,by omega⟩⟩
   refine hK _ ?_;clear hK K;dsimp only[Gj,Gl];refine PI.aS rfl (fun K hK=>?_);go_simp;refine hK _ ?_;clear hK K;refine PI.aS rfl (fun K hK=>?_);go_simp;refine hK _ ?_;clear hK K;refine PI.aH _ rfl (by go_simp) (fun W hW hG hpr K hK=>?_) (fun K z6 hK=>?_)
   .go_simp;exact hK ((none,0),W.heap.size,fun _=>False) _ ((uR W).alloc _) ⟨fun h=>by
     have h:(Value.slice a1 L1.length c1).ownBlock=some W.heap.size\/(Value.slice a2 L2.length c2).ownBlock=some W.heap.size:=h;have h1:wb.heap.size<=W.heap.size:=hW.size;rcases h with h|h
     .have:=(World.ownsRow.lt lY.out.own _ h).2;omega
     .have:=(World.ownsRow.lt l_.out.own _ h).2;omega,aj _ _⟩ (fun k e=>by rw[e];exact Nat.le_refl _)
   refine hK _ ?_;clear hK K;dsimp only[Gj,Gl];refine PI.aH _ rfl (by go_simp) (fun W hW hG hpr K hK=>?_) (fun K z7 hK=>?_)
   .have gc:=hG _ (List.mem_append_right _ (List.mem_singleton.2 rfl)) (by show(6:Nat)∈_;decide);have g3:=hG _ (List.mem_append_left _ (List.mem_append_right _ (List.mem_singleton.2 rfl))) (by show(3:Nat)∈_;decide);obtain⟨iR,hi,hz0,hz1,hz2⟩:=info_parts Ws;have hown:W.ownsRow w.heap.size 146 6 (.slice a2 L2.length c2) L2.length (L2.flatMap tH):=hpr;refine dJ _ (.tmp 50) (.tmp 52) 50 rfl w.heap.size 146 iR (.agg #[.string ⟨#[]⟩,.string ⟨#[]⟩,.slice none 0 0,.string ⟨#[]⟩,.string ⟨#[]⟩,.slice none 0 0]) 6 112 Tryz.underlying50 hi hz0 hz1 hz2 rfl (by decide) _ L2.length _ rfl hown ⟨z6.2.1,0,none⟩ 1 1 [.string p2.name,.string p2.sort,.slice ra p2.kids.length rc,.string q2'.name,.string q2'.sort,.slice sa q2'.kids.length sc] rfl rfl (fun j u hj=>?_) (by intro u hu;simp at hu;rcases hu with h|h|h|h|h|h<;>(subst h;rfl)) (by have:=hlen;unfold maxLen;omega) (by have:=hlen;omega) (Nat.le_trans HEb.out.size hW.size) ?_
    .have hj6:j<6:=(List.getElem?_eq_some_iff.1 hj).1;rw[show(⟨z6.2.1,0,none⟩:Addr).add j=⟨z6.2.1,j,none⟩ by rw[Addr.add_lit,Nat.zero_add]];rw[cell_of_row _ _ j _ _ _ gc.2];simpa using hj
    intro v' w' IA;obtain⟨a',c',hv⟩:=aY IA.own;subst hv;have hwh:=IA.uT;refine hK ((a',c'),0,fun k=>(Value.slice a' (L2.length+1) c').ownBlock=some k/\W.heap.size<=k) w' (IA.upd) ⟨IA.own,fun k hk=>?_,fun k hk=>hk.1⟩ (fun k e=>e.2);rcases hwh with h|h
    .rw [h] at hk;exact⟨fun e=>HDS.out k e hk,.inl hk⟩
    .have hk2:=hk;rw[h] at hk2;injection hk2 with hk2
     exact⟨fun e=>by have:=(World.ownsRow.lt lY.out.own _ e).2;have:=hW.size;omega,.inr ⟨hk,by omega⟩⟩
   refine hK _ ?_;clear hK K;dsimp only[Gj,Gl];refine PI.gJ (fun w8 hW hG ji=>?_);have g3:=hG _ (List.mem_append_left _ (List.mem_append_left _ (List.mem_append_right _ (List.mem_singleton.2 rfl))));have g7:=hG _ (List.mem_append_right _ (List.mem_singleton.2 rfl));unfold PI.su at ji;simp only[List.nil_append,List.singleton_append,List.cons_append,List.pairwise_cons] at ji;have a37:=ji.2.1 _ (List.mem_cons_of_mem _ (List.mem_cons_self ..));dsimp only[Gj,Gl] at g3 g7 a37;have hd8: ∀j,(Value.slice z3.1.1 (L1.length+1) z3.1.2).ownBlock=some j->¬(Value.slice z7.1.1 (L2.length+1) z7.1.2).ownBlock=some j:=fun j e1 e2=>by
    obtain⟨n1,o1⟩:=g3.2.1 j e1;obtain⟨n2,o2⟩:=g7.2.1 j e2;rcases o1 with o1|o1
    .exact n2 o1
    .rcases o2 with o2|o2
     .exact n1 o2
     .exact a37 j o1 o2
   have zI: ∀j,(fun j=>(Value.slice a1 L1.length c1).ownBlock=some j\/(Value.slice a2 L2.length c2).ownBlock=some j) j->¬jB wb j:=fun j h=>by
    rcases h with h|h
    .exact Ir lY.out.own h
    .exact Ir l_.out.own h
   have HR1:Hid (wG w.heap.size w8 (.slice z3.1.1 (L1.length+1) z3.1.2) (L1++[((p1,q1'),.slice pa p1.kids.length pc,.slice qa q1'.kids.length qc)])):=ae ⟨by rw[List.length_append,List.flatMap_append];exact g3.1,fun x hx=>by
    rcases List.mem_append.1 hx with hx|hx
    .exact ⟨(lY.out.tl x hx).1.upd hW zI,(lY.out.tl x hx).2.upd hW zI⟩
    .rw [List.mem_singleton] at hx;subst hx;exact⟨aj2.out.upd hW zI,aj3.out.upd hW zI⟩⟩
   have HR2:Hid (wG w.heap.size w8 (.slice z7.1.1 (L2.length+1) z7.1.2) (L2++[((p2,q2'),.slice ra p2.kids.length rc,.slice sa q2'.kids.length sc)])):=ae ⟨by rw[List.length_append,List.flatMap_append];exact g7.1,fun x hx=>by
    rcases List.mem_append.1 hx with hx|hx
    .exact ⟨(l_.out.tl x hx).1.upd hW zI,(l_.out.tl x hx).2.upd hW zI⟩
    .rw [List.mem_singleton] at hx;subst hx;exact⟨HP2.out.upd hW zI,zC.out.upd hW zI⟩⟩
   have bU:Hid (Ext w w8):=ae (HEb.out.trans' hW (fun j hj e=>by
    rcases e with e|e
    .have:=(World.ownsRow.lt lY.out.own _ e).1;omega
    .have:=(World.ownsRow.lt l_.out.own _ e).1;omega))
   have hm1:(L1++[(((p1,q1'),.slice pa p1.kids.length pc,.slice qa q1'.kids.length qc):Re)]).map (·.1)=fs.take (k+1):=by
    rw[List.map_append,BC.out,OM fs k (by have:=lV.out;omega),mQ.out];rfl
   have hm2:(L2++[(((p2,q2'),.slice ra p2.kids.length rc,.slice sa q2'.kids.length sc):Re)]).map (·.1)=sn.take (k+1):=by
    rw[List.map_append,ku.out,OM sn k (by have:=jh.out;omega),HF2.out];rfl
   have aj7:=ae hm1;have aj8:=ae hm2;have HD8:=ae hd8;have hle1:(L1++[(((p1,q1'),.slice pa p1.kids.length pc,.slice qa q1'.kids.length qc):Re)]).length=L1.length+1:=by simp
   have hle2:(L2++[(((p2,q2'),.slice ra p2.kids.length rc,.slice sa q2'.kids.length sc):Re)]).length=L2.length+1:=by simp
   rw[<-hle1] at HR1 HD8;rw[<-hle2] at HR2 HD8;clear hG ji g3 g7 a37 hd8 zI hW hm1 hm2 x0 x1 x2 x3 x4 x5 y0 y1 y2 y3 y4 y5 hF3 OQ;refine dM ?_;intro K hK;go_simp;refine hK _ _ ?_;clear hK K;refine dM ?_;intro K hK;go_simp;refine hK _ _ ?_;clear hK K;simp only[bW]
   go_wp2_with fail
   go_roundg (l.length- (k+1))
   case measure=>omega
   case rel=>exact⟨k+1,_,_,_,_,_,_,by rw[hle1],by rw[hle2],by go_num,rfl,by omega,ae (by rw[hle1];have:=Ko.out;omega),ae (by rw[hle2];have:=HL2.out;omega),aj7,aj8,HR1,HR2,HD8,bU⟩
  .obtain rfl:k=l.length:=by omega
   have z2:decide ((l.length:Int)< (l.length:Int))=false:=dF (by omega);have hmf:L1.map (·.1)=fs:=by rw[BC.out,List.take_of_length_le (by have:=lV.out;omega)]
   have hms:L2.map (·.1)=sn:=by rw[ku.out,List.take_of_length_le (by have:=jh.out;omega)]
   have HMF:=ae hmf;have HMS:=ae hms;have zi:Hid (Ext wr wr):=ae (au.refl _ _);have mW:=HE;clear hmf hms BC ku afx wo UW BI HE hk;have HZ0:Hid (Iz ov fs l.length (l.length-0) 0 none=some Z):=ae HZ.out;have HA0:Hid (Ei wr (.slice none 0 0) none):=ae rfl;clear HZ
   go_wp2_with fail
   obtain⟨n,hn⟩: ∃n,l.length=n:=⟨_,rfl⟩
   rw[hn] at Ko HL2 w_ lV jh HZ0 JC HOV
   try rw[hn]
   clear z2 hn;generalize hwA:wr=wA at*;clear hwA
   go_loopg [12,57] n (fun gk Wv iv wr=> ∃(i:Nat) (acc:Option Cp),iv= .int .i64 (i:Int)/\gk=n-i/\i<=n/\Hid (Ei wr Wv acc)/\Hid (Iz ov fs n (n-i) i acc=some Z)/\Hid (Ext wA wr))
   case atStart=>exact⟨0,none,rfl,rfl,Nat.zero_le _,HA0,HZ0,zi⟩
   case round=>
    clear HA0 HZ0 zi;obtain⟨i,acc,rfl,rfl,hi,sO,HZI,HE⟩:=hrel;have hnb:n<=100:=w_.out;by_cases afE:i<n
    .have HRi:=ae (lY.out.ext HE.out);have hLi:i<L1.length:=by have:=Ko.out;omega
     obtain⟨g,off,hga,hat⟩:=HRi.out.at_ (by omega);subst hga;obtain⟨xa,xc,ya,yc,ex,ey,hs1,hs2,q0,q1,q2,q3,q4,q5⟩:=hat i hLi;have hfi:(eg L1 i).1=Go.Hw.rg fs i:=by rw[<-HMF.out];exact aap L1 i hLi
     have hfz:=JC.out i afE;have hov:=HOV.out i;obtain⟨⟨⟨x,y⟩,ux,uy⟩,hxe⟩: ∃r,eg L1 i=r:=⟨_,rfl⟩
     rw[hxe] at ex ey hs1 hs2 q0 q1 q2 q3 q4 q5 hfi;dsimp only at ex ey hs1 hs2 q0 q1 q2 q3 q4 q5 hfi;have hzi:(Iy ov i n (iE x []) acc).bind (Iz ov fs n (n- (i+1)) (i+1))=some Z:=by
      have h:=HZI.out;rw[show n-i=(n- (i+1))+1 by omega] at h;unfold Iz at h;rw[<-hfi] at h;exact h
     rw[<-hfi] at hfz;dsimp only at hfz;have afF: ∀k p,k<n->p∈iE x []->¬(p.length=0/\k<=i)->Iu (x,y) (Go.Hw.rg sn k) p (ov i p k):=fun k p hk hp hc=>by
      have h:=hov k p afE hk (by rw[<-hfi];exact hp) hc;rw[<-hfi] at h;exact h
     have afG:=ae afF;have lZ:=ae hs1;have HS2:=ae hs2;have YB:=ae hzi;have hpl:=Gi x [];have oD:Hid ((iE x []).length<=1000/\x.size<=1000):=ae ⟨by omega,hfz⟩;obtain⟨z0,z1,z2,z2'⟩:=bJ hLi;have hX:=(uR wr).alloc (.cells #[.string x.name,.string x.sort,.slice xa x.kids.length xc,.string y.name,.string y.sort,.slice ya y.kids.length yc] 146);have QB:=ae hX;have HEX:=ae (HE.out.trans hX);have jo:=ae (aj wr (.cells #[.string x.name,.string x.sort,.slice xa x.kids.length xc,.string y.name,.string y.sort,.slice ya y.kids.length yc] 146));have afH:=ae (sO.out.ext hX);clear hat ex ey hs1 hs2 hfi hxe hov afF hzi hfz hpl hX;obtain⟨x0,x1,x2,x3,x4,x5⟩:=dR jo.out
     go_wp2_with fail
     obtain⟨nbx,YC⟩: ∃m,wr.heap.size=m:=⟨_,rfl⟩
     rw[YC] at jo
     try rw[YC]
     clear YC q0 q1 q2 q3 q4 q5;have YD:=ae (lZ.out.ext QB.out);have afI:=ae (HS2.out.ext QB.out);generalize wr.alloc (.cells #[.string x.name,.string x.sort,.slice xa x.kids.length xc,.string y.name,.string y.sort,.slice ya y.kids.length yc] 146)=w2 at*;have u_:=ae (abx x (.agg #[.string x.name,.string x.sort,.slice xa x.kids.length xc]) (.slice none 0 0) (fun k=>k<w2.heap.size) (fun _=>False) [] w2 ⟨xa,xc,rfl,EI YD.out⟩ (aA.nil _ _ _) (fun k hk=>hk) (fun k hk=>hk.elim) (by have:=oD.out;omega) (by have:=oD.out;simp;omega));clear HRi lZ HS2 QB HE sO HZI x0 x1 x2 x3 x4 x5;refine u_.out.mono ?_;rintro e w3 ⟨pa,pc,rfl,hPs,hw3⟩;have aT:=ae (HEX.out.trans hw3);have aj9:=ae (hw3.heap jo.out (fun h=>h));have aj_:=ae (YD.out.ext hw3);have aj':=ae (afI.out.ext hw3);have afJ:=ae (afH.out.ext hw3);have afK:=ae hPs;have afL:Hid (Ext w3 w3):=ae (au.refl _ _);have afM:=ae (OL x []);obtain⟨PP,hPP⟩: ∃P,iE x []=P:=⟨_,rfl⟩
     rw[hPP] at afK YB oD afM afG⊢;have HZP:Hid ((Iy ov i n (PP.drop 0) acc).bind (Iz ov fs n (n- (i+1)) (i+1))=some Z):=ae YB.out;clear hPs hw3 u_ HEX jo YD afI afH hPP YB
     go_wp2_with fail
     have afN:=afJ;clear afJ;generalize hK:Iz ov fs n (n- (i+1)) (i+1)=Ki at*;have HKI:=ae hK;clear hK
     go_loopg [12,66] PP.length (fun gk Wv iv wr=> ∃(j:Nat) (acc:Option Cp),iv= .int .i64 (j:Int)/\gk=PP.length-j/\j<=PP.length/\Hid (Ei wr Wv acc)/\Hid ((Iy ov i n (PP.drop j) acc).bind Ki=some Z)/\Hid (Ext w3 wr))
     case atStart=>exact⟨0,acc,rfl,rfl,Nat.zero_le _,afN,HZP,afL⟩
     case round=>
      clear afN HZP afL;obtain⟨j,acc,rfl,rfl,hj,sO,HZJ,BM⟩:=hrel;have hpb:PP.length<=1000:=oD.out.1;by_cases Js:j<PP.length
      .have hPs:=afK.out.ext BM.out;obtain⟨us,DL,hown,hint⟩:=hPs;obtain⟨g,off,cap,e,_,_,hjj⟩:=aA.pos (aA.fC hown) (by omega);injection e with e e2 e3
       subst e;subst e3;have iK:=hint j Js;obtain⟨p,hp⟩: ∃p,PP.getD j []=p:=⟨_,rfl⟩
       have hpm:p∈PP:=by rw[<-hp,List.getD_eq_getElem?_getD,List.getElem?_eq_getElem Js];exact List.getElem_mem Js
       have hdp:PP.drop j=p::PP.drop (j+1):=by
        rw[List.drop_eq_getElem_cons Js,<-hp,List.getD_eq_getElem?_getD,List.getElem?_eq_getElem Js];rfl
       rw[hp] at iK;obtain⟨va,vc,hv⟩:=aA.shape iK;rw[hv] at iK;have q0:wr.cell? ⟨g,off+j,none⟩=some (.slice va p.length vc):=by
        rw[hjj j (by omega),<-hv];unfold ug;rw[List.getD_eq_getElem?_getD,List.getElem?_eq_getElem (by omega)];rfl
       have HPJ:=ae (iK.weaken (fun k hk=>(xK.lt hk.2:k<wr.heap.size)));have hzj:=HZJ.out;rw[hdp] at hzj;unfold Iy at hzj;rw[Option.bind_assoc] at hzj;have aka:Hid (∀k,k<n->¬(p.length=0/\k<=i)->Iu (x,y) (Go.Hw.rg sn k) p (ov i p k)):=ae (fun k hk hc=>afG.out k p hk hpm hc);have amg:Hid (p.length<=1000):=ae (by have h1:=afM.out p hpm;have h2:=oD.out.2;rw[List.length_nil] at h1;omega);obtain⟨z0,z1,z2,z2'⟩:=bJ Js;have YE:=ae (aT.out.trans BM.out);have afO:=ae (BM.out.heap aj9.out (fun h=>h));have akb:=ae (aj_.out.ext BM.out);have akc:=ae (aj'.out.ext BM.out);have afP:Hid (Ext wr wr):=ae (au.refl _ _);have afQ:=sO;clear iK hv hp hpm hdp hint DL hown hjj sO HZJ e2;obtain⟨Kj,hKj⟩: ∃K:Option Cp->Option (Option Cp),(fun a=>(Iy ov i n (PP.drop (j+1)) a).bind Ki)=K:=⟨_,rfl⟩
       have HKJ:=ae hKj;have DU:Hid ((Iw ov i p (n-0) 0 acc).bind Kj=some Z):=ae (by rw[<-hKj];exact hzj);clear hzj hKj
       go_wp2_with fail
       clear q0;generalize hwj:wr=wj at*;clear hwj
       go_loopg [12,72] n (fun gk Wv iv wr=> ∃(k:Nat) (acc:Option Cp),iv= .int .i64 (k:Int)/\gk=n-k/\k<=n/\Hid (Ei wr Wv acc)/\Hid ((Iw ov i p (n-k) k acc).bind Kj=some Z)/\Hid (Ext wj wr))
       case atStart=>exact⟨0,acc,rfl,rfl,Nat.zero_le _,afQ,DU,afP⟩
       case round=>
        clear afQ DU afP;obtain⟨k,acc,rfl,rfl,hk,sO,DU,Fj⟩:=hrel;by_cases akd:k<n
        .have HRk:=ae (l_.out.ext ((YE.out).trans Fj.out));have hLk:k<L2.length:=by have:=HL2.out;omega
         obtain⟨g2,nX,zU,hat⟩:=HRk.out.at_ (by omega);subst zU;obtain⟨pa',pc',OT,OU,ep,eq,hp1,hq1,r0,r1,r2,r3,r4,r5⟩:=hat k hLk;have hfk:(eg L2 k).1=Go.Hw.rg sn k:=by rw[<-HMS.out];exact aap L2 k hLk
         obtain⟨⟨⟨p',q'⟩,up,uq⟩,hpe⟩: ∃r,eg L2 k=r:=⟨_,rfl⟩
         rw[hpe] at ep eq hp1 hq1 r0 r1 r2 r3 r4 r5 hfk;dsimp only at ep eq hp1 hq1 r0 r1 r2 r3 r4 r5 hfk;have Wx:=DU.out;rw[show n-k=(n- (k+1))+1 by omega] at Wx;unfold Iw at Wx;rw[Option.bind_assoc] at Wx;have TS:=ae Wx;have HFK:=ae hfk;have hX:=(uR wr).alloc (.cells #[.string p'.name,.string p'.sort,.slice pa' p'.kids.length pc',.string q'.name,.string q'.sort,.slice OT q'.kids.length OU] 146);have HXK:=ae hX;have AX:=ae (Fj.out.trans hX);have ZG:=ae (aj wr (.cells #[.string p'.name,.string p'.sort,.slice pa' p'.kids.length pc',.string q'.name,.string q'.sort,.slice OT q'.kids.length OU] 146));have YF:=ae (sO.out.ext hX);have Wu:=ae (hp1.ext hX);have yz:=ae (hq1.ext hX);have afS:=ae (AX.out.heap afO.out (fun h=>h));have afT:=ae (akb.out.ext AX.out);have afU:=ae (akc.out.ext AX.out);have HPK:=ae ((aA.kept HPJ.out AX.out (fun _ _ h=>h)).weaken (fun j hj=>(ax hj AX.out.size:j< (wr.alloc (.cells #[.string p'.name,.string p'.sort,.slice pa' p'.kids.length pc',.string q'.name,.string q'.sort,.slice OT q'.kids.length OU] 146)).heap.size)));obtain⟨z0,z1,z2,z2'⟩:=bJ hLk;clear hat ep eq hp1 hq1 hfk hpe Wx hX HRk sO DU;by_cases hcc:p.length=0/\k<=i
         .have t1:((p.length:Int)==0)=true:=beq_iff_eq.2 (by omega);have t2:decide ((p.length:Int)=0)=true:=dT (by omega);have t3:decide ((k:Int)<=(i:Int))=true:=dT (by omega);have t4:decide (k<=i)=true:=dT hcc.2;have t5:(p.length==0)=true:=beq_iff_eq.2 hcc.1;have t6:decide (p.length=0)=true:=dT hcc.1;have hz2:(Iw ov i p (n- (k+1)) (k+1) acc).bind Kj=some Z:=by
           have h:=TS.out;unfold Wq at h;rw[if_pos hcc] at h;exact h
          have HZ2:=ae hz2;clear hcc hz2
          go_wp2_with fail
          go_roundg (n- (k+1))
          case measure=>omega
          case rel=>exact⟨k+1,acc,by go_num,rfl,by omega,YF,HZ2,AX⟩
         .have yh:=ae hcc;have hpk:((p.length:Int)==0)=false/\decide ((p.length:Int)=0)=false/\decide (p.length=0)=false/\(p.length==0)=false\/(((p.length:Int)==0)=true/\decide ((p.length:Int)=0)=true/\decide ((k:Int)<=(i:Int))=false/\decide (p.length=0)=true/\(p.length==0)=true/\decide (k<=i)=false):=by
           by_cases hp0:p.length=0
           .exact .inr ⟨beq_iff_eq.2 (by omega),dT (by omega),dF (fun h=>hcc ⟨hp0,by omega⟩),dT hp0,beq_iff_eq.2 hp0,dF (fun h=>hcc ⟨hp0,h⟩)⟩
           .exact .inl ⟨beq_eq_false_iff_ne.2 (by omega),dF (by omega),dF hp0,beq_eq_false_iff_ne.2 hp0⟩
          have YG:=aka.out k akd hcc;rw[<-HFK.out] at YG;obtain⟨BP,afW,afX⟩:=Wu.out;have TT:=ae (YG xa ya pa' OT xc yc pc' OU (.slice va p.length vc) BP _ (aJ je.out (mW.out.trans (YE.out.trans AX.out))) (EI afT.out) (EI afU.out) afW (fun j hj=>(afX j hj).2.lt) (EI yz.out) (Tn HPK.out));clear YG afW afX;obtain⟨nbk,TU⟩: ∃m,wr.heap.size=m:=⟨_,rfl⟩
          have ami:=ae TU;obtain⟨oo,hoo⟩: ∃o,ov i p k=o:=⟨_,rfl⟩
          have EY:=ae hoo;rw[hoo] at TT;clear hoo hcc;have afZ:Hid ((wr.alloc (.cells #[.string p'.name,.string p'.sort,.slice pa' p'.kids.length pc',.string q'.name,.string q'.sort,.slice OT q'.kids.length OU] 146)).heap[nbk]?=some (.cells #[.string p'.name,.string p'.sort,.slice pa' p'.kids.length pc',.string q'.name,.string q'.sort,.slice OT q'.kids.length OU] 146 (0,0))):=ae (by rw[<-TU];exact ZG.out);obtain⟨x0,x1,x2,x3,x4,x5⟩:=dR afS.out;obtain⟨y0,y1,y2,y3,y4,y5⟩:=dR afZ.out;rcases hpk with⟨t1,t2,t5,t6⟩|⟨t1,t2,t3,t5,t6,t4⟩
          all_goals
           go_upto_region 24 with fail
           try rw[TU]
           clear t1 t2 t5 t6
           try clear t3 t4
           generalize wr.alloc (.cells #[.string p'.name,.string p'.sort,.slice pa' p'.kids.length pc',.string q'.name,.string q'.sort,.slice OT q'.kids.length OU] 146)=w5 at*;clear TU r0 r1 r2 r3 r4 r5
           go_wp2_with fail
           refine TT.out.mono ?_;rintro e w6 ⟨hov,hw6⟩;have dS:=ae (AX.out.trans hw6);have YH:=ae (YF.out.ext hw6);clear x0 x1 x2 x3 x4 x5 y0 y1 y2 y3 y4 y5;cases oo with
           |none=>
            obtain rfl:=hov;have hX:=(uR w6).alloc (.cells #[.string ⟨#[]⟩,.string ⟨#[]⟩,.slice none 0 0,.string ⟨#[]⟩,.string ⟨#[]⟩,.slice none 0 0,.string ⟨#[]⟩,.string ⟨#[]⟩,.slice none 0 0,.int .i64 0,.int .i64 0,.slice none 0 0] 152);have ig:=ae (dS.out.trans hX);have ake:=ae (YH.out.ext hX);have hz2:(Iw ov i p (n- (k+1)) (k+1) acc).bind Kj=some Z:=by
             have h:=TS.out;unfold Wq at h;rw[if_neg yh.out,EY.out] at h;exact h
            have HZ2:=ae hz2;clear hX hz2 hw6
            go_wp2_with fail
            go_roundg (n- (k+1))
            case measure=>omega
            case rel=>exact⟨k+1,acc,by go_num,rfl,by omega,ake,HZ2,ig⟩
           |some r=>
            obtain⟨ka,kc,za,zc,ra,rc,rfl,htk,htl,htr⟩:=hov;cases acc with
            |some c=>
             exfalso;have h:=TS.out;unfold Wq at h;rw[if_neg yh.out,EY.out] at h;cases h
            |none=>
             have hu:_=Value.slice none 0 0:=YH.out;subst hu;have hz2:(Iw ov i p (n- (k+1)) (k+1) (some (r.1,r.2.1,r.2.2,i,k,p))).bind Kj=some Z:=by
              have h:=TS.out;unfold Wq at h;rw[if_neg yh.out,EY.out] at h;exact h
             have HZ2:=ae hz2;have YI:=ae ((aA.kept HPK.out hw6 (fun _ _ h=>h)).weaken (fun j hj=>(ax hj hw6.size:j<w6.heap.size)));have qf:=ae htk;have cZ:=ae htl;have tX:=ae htr;clear hz2 htk htl htr hw6 afS ZG afZ YF Wu yz afT afU HPK TT Fj AX HXK afO;obtain⟨nb7,OV⟩: ∃m,w6.heap.size=m:=⟨_,rfl⟩
             rw[OV] at YI qf cZ tX;have hX:=(uR w6).alloc (.cells #[.string r.1.name,.string r.1.sort,.slice ka r.1.kids.length kc,.string r.2.1.name,.string r.2.1.sort,.slice za r.2.1.kids.length zc,.string r.2.2.name,.string r.2.2.sort,.slice ra r.2.2.kids.length rc,.int .i64 (i:Int),.int .i64 (k:Int),.slice va p.length vc] 152);have bU:=ae (dS.out.trans hX);have akf:=ae (aA.kept YI.out hX (fun _ _ h=>h));have TP:=ae (qf.out.ext hX);have akg:=ae (cZ.out.ext hX);have akh:=ae (tX.out.ext hX);have hb7:=aj w6 (.cells #[.string r.1.name,.string r.1.sort,.slice ka r.1.kids.length kc,.string r.2.1.name,.string r.2.1.sort,.slice za r.2.1.kids.length zc,.string r.2.2.name,.string r.2.2.sort,.slice ra r.2.2.kids.length rc,.int .i64 0,.int .i64 0,.slice va p.length vc] 152);rw[OV] at hb7;have hb8:=aj w6 (.cells #[.string r.1.name,.string r.1.sort,.slice ka r.1.kids.length kc,.string r.2.1.name,.string r.2.1.sort,.slice za r.2.1.kids.length zc,.string r.2.2.name,.string r.2.2.sort,.slice ra r.2.2.kids.length rc,.int .i64 (i:Int),.int .i64 (k:Int),.slice va p.length vc] 152);rw[OV] at hb8;have jK:=ae hb8;clear hX dS YI qf cZ tX YH hb8;obtain⟨c0,c1,c2,c3,c4,c5,c6,c7,c8,c9,c10,c11⟩:=iW hb7;have f2:=fun i=>ai hb7 i
             go_upto_region 29 with fail
             try rw[OV]
             clear OV hb7 c0 c1 c2 c3 c4 c5 c6 c7 c8 c9 c10 c11 f2;generalize w6.alloc (.cells #[.string r.1.name,.string r.1.sort,.slice ka r.1.kids.length kc,.string r.2.1.name,.string r.2.1.sort,.slice za r.2.1.kids.length zc,.string r.2.2.name,.string r.2.2.sort,.slice ra r.2.2.kids.length rc,.int .i64 (i:Int),.int .i64 (k:Int),.slice va p.length vc] 152)=w8 at*;have hb8:=jK.out;have hA9:=(uR w8).alloc (.cells #[.string r.1.name,.string r.1.sort,.slice ka r.1.kids.length kc,.string r.2.1.name,.string r.2.1.sort,.slice za r.2.1.kids.length zc,.string r.2.2.name,.string r.2.2.sort,.slice ra r.2.2.kids.length rc,.int .i64 (i:Int),.int .i64 (k:Int),.slice va p.length vc] 152);have TV:Hid (nb7<w8.heap.size):=ae (Array.getElem?_eq_some_iff.1 hb8).1;have aki:Hid (w.heap.size<=(w8.alloc (.cells #[.string r.1.name,.string r.1.sort,.slice ka r.1.kids.length kc,.string r.2.1.name,.string r.2.1.sort,.slice za r.2.1.kids.length zc,.string r.2.2.name,.string r.2.2.sort,.slice ra r.2.2.kids.length rc,.int .i64 (i:Int),.int .i64 (k:Int),.slice va p.length vc] 152)).heap.size):=ae (Nat.le_trans mW.out.size (Nat.le_trans YE.out.size (Nat.le_trans bU.out.size hA9.size)));have wo:Hid (aA (fun _=>True) (w8.alloc (.cells #[.string r.1.name,.string r.1.sort,.slice ka r.1.kids.length kc,.string r.2.1.name,.string r.2.1.sort,.slice za r.2.1.kids.length zc,.string r.2.2.name,.string r.2.2.sort,.slice ra r.2.2.kids.length rc,.int .i64 (i:Int),.int .i64 (k:Int),.slice va p.length vc] 152)) 12 (.slice (some ⟨w8.heap.size,0,none⟩) 1 1) 1 [Value.string r.1.name,.string r.1.sort,.slice ka r.1.kids.length kc,.string r.2.1.name,.string r.2.1.sort,.slice za r.2.1.kids.length zc,.string r.2.2.name,.string r.2.2.sort,.slice ra r.2.2.kids.length rc,.int .i64 (i:Int),.int .i64 (k:Int),.slice va p.length vc]):=ae (aA.weaken (aA.fC (World.ownsRow_lit (base:=w8.heap.size) (e:=152) (size:=12) w8 #[.string r.1.name,.string r.1.sort,.slice ka r.1.kids.length kc,.string r.2.1.name,.string r.2.1.sort,.slice za r.2.1.kids.length zc,.string r.2.2.name,.string r.2.2.sort,.slice ra r.2.2.kids.length rc,.int .i64 (i:Int),.int .i64 (k:Int),.slice va p.length vc] 1 (Nat.le_refl _) (by unfold maxLen;omega) (by simp))) (fun _ _=>trivial));have kM:Hid (∀u∈[Value.string r.1.name,.string r.1.sort,.slice ka r.1.kids.length kc,.string r.2.1.name,.string r.2.1.sort,.slice za r.2.1.kids.length zc,.string r.2.2.name,.string r.2.2.sort,.slice ra r.2.2.kids.length rc,.int .i64 (i:Int),.int .i64 (k:Int),.slice va p.length vc],u.oneCell'=true):=ae (fun u hu=>by simp at hu;rcases hu with h|h|h|h|h|h|h|h|h|h|h|h<;>(subst h;rfl));obtain⟨iC,hi0,hz0,hz1',hz2'⟩:=info_parts afu;obtain⟨c0,c1,c2,c3,c4,c5,c6,c7,c8,c9,c10,c11⟩:=iW hb8;clear jK
             go_wp2_with(at_builtin;refine jm _ rfl (.tmp 105) (.tmp 107) 147 rfl w.heap.size 152 iC (.agg #[.string ⟨#[]⟩,.string ⟨#[]⟩,.slice none 0 0,.string ⟨#[]⟩,.string ⟨#[]⟩,.slice none 0 0,.string ⟨#[]⟩,.string ⟨#[]⟩,.slice none 0 0,.int .i64 0,.int .i64 0,.slice none 0 0]) 12 208 Tryz.underlying147 hi0 hz0 hz1' hz2' rfl (by decide) (.slice none 0 0) 0 [] rfl (World.ownsRow_nil _ _ _ _) (fun _=>True) (.slice (some ⟨w8.heap.size,0,none⟩) 1 1) 1 [Value.string r.1.name,.string r.1.sort,.slice ka r.1.kids.length kc,.string r.2.1.name,.string r.2.1.sort,.slice za r.2.1.kids.length zc,.string r.2.2.name,.string r.2.2.sort,.slice ra r.2.2.kids.length rc,.int .i64 (i:Int),.int .i64 (k:Int),.slice va p.length vc] rfl wo.out kM.out ?c3 ?c4 aki.out ?_)
             case c3=>unfold maxLen;omega
             case c4=>omega
             intro v9 w9 hG9;obtain⟨g9,c9',amk,hv9,_,_⟩:=o8 hG9.own (by omega);subst hv9;have hE9:Ext (w8.alloc (.cells #[.string r.1.name,.string r.1.sort,.slice ka r.1.kids.length kc,.string r.2.1.name,.string r.2.1.sort,.slice za r.2.1.kids.length zc,.string r.2.2.name,.string r.2.2.sort,.slice ra r.2.2.kids.length rc,.int .i64 (i:Int),.int .i64 (k:Int),.slice va p.length vc] 152)) w9:=hG9.upd.mono (fun j _ e=>by cases e);have yT:=hA9.trans hE9;have fD:=ae (bU.out.trans yT);have akj:Hid (Ei w9 (.slice (some ⟨g9,0,none⟩) (0+1) c9') (some (r.1,r.2.1,r.2.2,i,k,p))):=ae ⟨g9,c9',ka,kc,za,zc,ra,rc,va,vc,rfl,fun j u hj=>by
              have akk:j< (0+1)*12:=(List.getElem?_eq_some_iff.1 hj).1;have h:=World.ownsRow.cellAt hG9.own j akk;exact h.trans hj,(TP.out.ext yT).weaken (fun j hj=>by have:=TV.out;have:=yT.size;omega),(akg.out.ext yT).weaken (fun j hj=>by have:=TV.out;have:=yT.size;omega),(akh.out.ext yT).weaken (fun j hj=>by have:=TV.out;have:=yT.size;omega),(aA.kept akf.out yT (fun _ _ h=>h)).weaken (fun j hj=>by have:=TV.out;have:=yT.size;omega)⟩
             clear hb8 hA9 hE9 yT hG9 c0 c1 c2 c3 c4 c5 c6 c7 c8 c9 c10 c11 hi0 hz0 hz1' hz2'
             go_wp2_with fail
             go_roundg (n- (k+1))
             case measure=>omega
             case rel=>exact⟨k+1,some (r.1,r.2.1,r.2.2,i,k,p),by go_num,rfl,by omega,akj,HZ2,fD⟩
        .have z2:decide ((k:Int)< (L2.length:Int))=false:=dF (by have:=HL2.out;omega);have z2':decide (k<L2.length)=false:=dF (by have:=HL2.out;omega);have hz:=DU.out;rw[show n-k=0 by omega] at hz;unfold Iw at hz;have hz:Kj acc=some Z:=hz;rw[<-HKJ.out] at hz;have HZ2:Hid ((Iy ov i n (PP.drop (j+1)) acc).bind Ki=some Z):=ae hz;have HE2:=ae (BM.out.trans Fj.out);clear hz DU
         go_wp2_with fail
         go_roundg (PP.length- (j+1))
         case measure=>omega
         case rel=>exact⟨j+1,acc,by go_num,rfl,by omega,sO,HZ2,HE2⟩
      .have z2:decide ((j:Int)< (PP.length:Int))=false:=dF (by omega);have z2':decide (j<PP.length)=false:=dF (by omega);have hz:=HZJ.out;rw[List.drop_of_length_le (by omega)] at hz;unfold Iy at hz;have hz:Ki acc=some Z:=hz;rw[<-HKI.out] at hz;have HZ2:=ae hz;have HE2:=ae (aT.out.trans BM.out);clear hz HZJ
       go_wp2_with fail
       go_roundg (n- (i+1))
       case measure=>omega
       case rel=>exact⟨i+1,acc,by go_num,rfl,by omega,sO,HZ2,HE2⟩
    .have z2:decide ((i:Int)< (L1.length:Int))=false:=dF (by have:=Ko.out;omega);have z2':decide (i<L1.length)=false:=dF (by have:=Ko.out;omega);have hz:=HZI.out;rw[show n-i=0 by omega] at hz;unfold Iz at hz;injection hz with hz
     subst hz;clear HZI
     go_wp2_with fail
     go_ret2
     exact⟨_,rfl,sO.out,mW.out.trans HE.out⟩
end
section
open Go.Sort Go.Proofs Go.ChangeMaps
theorem TW (pk lf rt:Tm) (i k:Int) (p:List Int) (ka1 KC KD OW KE KF KG qa2:Option Addr) (KH KI KJ qc1 KN KO KP qc2:Nat) (w:World) (h1:ay (fun k=>k<w.heap.size) w pk.kids (.slice ka1 pk.kids.length KH)) (h2:ay (fun k=>k<w.heap.size) w lf.kids (.slice KC lf.kids.length KI)) (h3:ay (fun k=>k<w.heap.size) w rt.kids (.slice KD rt.kids.length KJ)) (h4:pG (fun k=>k<w.heap.size) w (.slice OW p.length qc1) p) (g1:ay (fun k=>k<w.heap.size) w pk.kids (.slice KE pk.kids.length KN)) (g2:ay (fun k=>k<w.heap.size) w lf.kids (.slice KF lf.kids.length KO)) (g3:ay (fun k=>k<w.heap.size) w rt.kids (.slice KG rt.kids.length KP)) (g4:pG (fun k=>k<w.heap.size) w (.slice qa2 p.length qc2) p) (hs:pk.size<=1000/\lf.size<=1000/\rt.size<=1000/\p.length<=1000):
  Calls Tryz.prog 105 #[.agg #[.string pk.name,.string pk.sort,.slice ka1 pk.kids.length KH,.string lf.name,.string lf.sort,.slice KC lf.kids.length KI,.string rt.name,.string rt.sort,.slice KD rt.kids.length KJ,.int .i64 i,.int .i64 k,.slice OW p.length qc1],.agg #[.string pk.name,.string pk.sort,.slice KE pk.kids.length KN,.string lf.name,.string lf.sort,.slice KF lf.kids.length KO,.string rt.name,.string rt.sort,.slice KG rt.kids.length KP,.int .i64 i,.int .i64 k,.slice qa2 p.length qc2]] w fun e w'=>e= .returned (.bool true)/\Ext w w':=by
 have lZ:=ae (fun W (hW:Ext w W)=>wZ pk pk (tV pk (.slice ka1 pk.kids.length KH)) (tV pk (.slice KE pk.kids.length KN)) _ _ W ⟨ka1,KH,rfl,h1.ext hW⟩ ⟨KE,KN,rfl,g1.ext hW⟩ (by omega));have HS2:=ae (fun W (hW:Ext w W)=>wZ lf lf (tV lf (.slice KC lf.kids.length KI)) (tV lf (.slice KF lf.kids.length KO)) _ _ W ⟨KC,KI,rfl,h2.ext hW⟩ ⟨KF,KO,rfl,g2.ext hW⟩ (by omega));have eP:=ae (fun W (hW:Ext w W)=>wZ rt rt (tV rt (.slice KD rt.kids.length KJ)) (tV rt (.slice KG rt.kids.length KP)) _ _ W ⟨KD,KJ,rfl,h3.ext hW⟩ ⟨KG,KP,rfl,g3.ext hW⟩ (by omega));have eY:=ae (fun W (hW:Ext w W)=>aet p p (.slice OW p.length qc1) (.slice qa2 p.length qc2) _ _ W (aA.kept h4 hW (fun _ _ h=>h)) (aA.kept g4 hW (fun _ _ h=>h)) (by omega));have hE:=((uR w).alloc (.cells #[.string pk.name,.string pk.sort,.slice ka1 pk.kids.length KH,.string lf.name,.string lf.sort,.slice KC lf.kids.length KI,.string rt.name,.string rt.sort,.slice KD rt.kids.length KJ,.int .i64 i,.int .i64 k,.slice OW p.length qc1] 152)).alloc (.cells #[.string pk.name,.string pk.sort,.slice KE pk.kids.length KN,.string lf.name,.string lf.sort,.slice KF lf.kids.length KO,.string rt.name,.string rt.sort,.slice KG rt.kids.length KP,.int .i64 i,.int .i64 k,.slice qa2 p.length qc2] 152);have kU:=ae hE;have HA1:=ae (ak (aj w (.cells #[.string pk.name,.string pk.sort,.slice ka1 pk.kids.length KH,.string lf.name,.string lf.sort,.slice KC lf.kids.length KI,.string rt.name,.string rt.sort,.slice KD rt.kids.length KJ,.int .i64 i,.int .i64 k,.slice OW p.length qc1] 152)) (.cells #[.string pk.name,.string pk.sort,.slice KE pk.kids.length KN,.string lf.name,.string lf.sort,.slice KF lf.kids.length KO,.string rt.name,.string rt.sort,.slice KG rt.kids.length KP,.int .i64 i,.int .i64 k,.slice qa2 p.length qc2] 152));have HB1:=ae (alloc_at (w.alloc (.cells #[.string pk.name,.string pk.sort,.slice ka1 pk.kids.length KH,.string lf.name,.string lf.sort,.slice KC lf.kids.length KI,.string rt.name,.string rt.sort,.slice KD rt.kids.length KJ,.int .i64 i,.int .i64 k,.slice OW p.length qc1] 152)) (.cells #[.string pk.name,.string pk.sort,.slice KE pk.kids.length KN,.string lf.name,.string lf.sort,.slice KF lf.kids.length KO,.string rt.name,.string rt.sort,.slice KG rt.kids.length KP,.int .i64 i,.int .i64 k,.slice qa2 p.length qc2] 152) (n:=w.heap.size+1) (by simp));dsimp only[tV] at lZ HS2 eP;have t1:(i==i)=true:=beq_self_eq_true _;have t2:decide (i=i)=true:=dT rfl;have t3:(k==k)=true:=beq_self_eq_true _;have t4:decide (k=k)=true:=dT rfl;clear hE h1 h2 h3 h4 g1 g2 g3 g4 hs;obtain⟨x0,x1,x2,x3,x4,x5,x6,x7,x8,x9,x10,x11⟩:=iW HA1.out;obtain⟨y0,y1,y2,y3,y4,y5,y6,y7,y8,y9,Rh,Ri⟩:=iW HB1.out
 go_enter Tryz.func105,Tryz.ntmps105
 go_wp2_with fail
 generalize (w.alloc (.cells #[.string pk.name,.string pk.sort,.slice ka1 pk.kids.length KH,.string lf.name,.string lf.sort,.slice KC lf.kids.length KI,.string rt.name,.string rt.sort,.slice KD rt.kids.length KJ,.int .i64 i,.int .i64 k,.slice OW p.length qc1] 152)).alloc (.cells #[.string pk.name,.string pk.sort,.slice KE pk.kids.length KN,.string lf.name,.string lf.sort,.slice KF lf.kids.length KO,.string rt.name,.string rt.sort,.slice KG rt.kids.length KP,.int .i64 i,.int .i64 k,.slice qa2 p.length qc2] 152)=w1 at*;refine(lZ.out _ kU.out).mono ?_;rintro e w2 ⟨he,hw⟩;obtain rfl:e= .returned (.bool true):=by simpa using he
 have HE2:=ae (kU.out.trans hw);have HA2:=ae (hw.heap HA1.out (fun h=>h));have HB2:=ae (hw.heap HB1.out (fun h=>h));clear hw lZ kU HA1 HB1 x0 y0 x1 y1 x2 y2 x3 y3 x4 y4 x5 y5 x6 y6 x7 y7 x8 y8 x9 y9 x10 Rh x11 Ri;obtain⟨x0,x1,x2,x3,x4,x5,x6,x7,x8,x9,x10,x11⟩:=iW HA2.out;obtain⟨y0,y1,y2,y3,y4,y5,y6,y7,y8,y9,Rh,Ri⟩:=iW HB2.out
 go_wp2_with fail
 refine(HS2.out _ HE2.out).mono ?_;rintro e w3 ⟨he,hw⟩;obtain rfl:e= .returned (.bool true):=by simpa using he
 have aT:=ae (HE2.out.trans hw);have HA3:=ae (hw.heap HA2.out (fun h=>h));have HB3:=ae (hw.heap HB2.out (fun h=>h));clear hw HS2 HE2 HA2 HB2 x0 y0 x1 y1 x2 y2 x3 y3 x4 y4 x5 y5 x6 y6 x7 y7 x8 y8 x9 y9 x10 Rh x11 Ri;obtain⟨x0,x1,x2,x3,x4,x5,x6,x7,x8,x9,x10,x11⟩:=iW HA3.out;obtain⟨y0,y1,y2,y3,y4,y5,y6,y7,y8,y9,Rh,Ri⟩:=iW HB3.out
 go_wp2_with fail
 refine(eP.out _ aT.out).mono ?_;rintro e w4 ⟨he,hw⟩;obtain rfl:e= .returned (.bool true):=by simpa using he
 have bD:=ae (aT.out.trans hw);have HA4:=ae (hw.heap HA3.out (fun h=>h));have HB4:=ae (hw.heap HB3.out (fun h=>h));clear hw eP aT HA3 HB3 x0 y0 x1 y1 x2 y2 x3 y3 x4 y4 x5 y5 x6 y6 x7 y7 x8 y8 x9 y9 x10 Rh x11 Ri;obtain⟨x0,x1,x2,x3,x4,x5,x6,x7,x8,x9,x10,x11⟩:=iW HA4.out;obtain⟨y0,y1,y2,y3,y4,y5,y6,y7,y8,y9,Rh,Ri⟩:=iW HB4.out
 go_wp2_with fail
 refine(eY.out _ bD.out).mono ?_;rintro e w5 ⟨he,hw⟩;obtain rfl:e= .returned (.bool true):=by simpa using he
 have di:=ae (bD.out.trans hw)
 go_wp2_with fail
 go_ret;exact⟨rfl,di.out⟩
theorem lh (n:By) (a:Option Addr) (m c:Nat) (w:World):Calls Tryz.prog 102 #[.string n,.slice a m c] w fun e w'=>e= .returned (.agg #[.string n,.string ⟨#[]⟩,.slice a m c])/\Ext w w':=by
 have hb:=aj w (.cells #[.string n,.string ⟨#[]⟩,.slice a m c] 24);have hE:=(uR w).alloc (.cells #[.string n,.string ⟨#[]⟩,.slice a m c] 24)
 go_enter Tryz.func102,Tryz.ntmps102
 go_wp2_with fail
 obtain⟨e0,e1,e2⟩:=af hb;exact bodyPost_ret (v:= .agg #[.string n,.string ⟨#[]⟩,.slice a m c]) (by simp[results,Tryz.results102,go_sem,e0,e1,e2]) rfl ⟨rfl,hE⟩
theorem EJ (n:By) (w:World):Calls Tryz.prog 103 #[.string n] w fun e w'=>e= .returned (.agg #[.string n,.string ⟨#[110,97,116]⟩,.slice none 0 0])/\Ext w w':=by
 have hb:=aj w (.cells #[.string n,.string ⟨#[110,97,116]⟩,.slice none 0 0] 24);have hE:=(uR w).alloc (.cells #[.string n,.string ⟨#[110,97,116]⟩,.slice none 0 0] 24)
 go_enter Tryz.func103,Tryz.ntmps103
 go_wp2_with fail
 obtain⟨e0,e1,e2⟩:=af hb;exact bodyPost_ret (v:= .agg #[.string n,.string ⟨#[110,97,116]⟩,.slice none 0 0]) (by simp[results,Tryz.results103,go_sem,e0,e1,e2]) rfl ⟨rfl,hE⟩
theorem lu {S:Nat->Prop} {W:World} {n te:Nat} {fz:Nat×Nat} {a:Tm} {ua:Value} (h:W.heap[n]?=some (.cells #[.string a.name,.string a.sort,ua] te fz)) (hn:S n) (ha:ay S W a.kids ua):ay S W [a] (.slice (some ⟨n,0,none⟩) 1 1):=by
 refine .mk _ [ua] _ rfl ?_ (fun i hi=>?_)
 .refine aA.mk' rfl rfl (Nat.le_refl _) (fun _=>hn) (fun j hj=>?_);have hj3:j<3:=hj;rw[Nat.zero_add,cell_of_row W n j _ _ _ h];rcases(by omega:j=0\/j=1\/j=2) with rfl|rfl|rfl<;>rfl
 .obtain rfl:i=0:=by simpa using hi
  exact ha
theorem wS {S:Nat->Prop} {W:World} {n te:Nat} {fz:Nat×Nat} {a b:Tm} {ua ub:Value} (h:W.heap[n]?=some (.cells #[.string a.name,.string a.sort,ua,.string b.name,.string b.sort,ub] te fz)) (hn:S n) (ha:ay S W a.kids ua) (hb:ay S W b.kids ub):ay S W [a,b] (.slice (some ⟨n,0,none⟩) 2 2):=by
 refine .mk _ [ua,ub] _ rfl ?_ (fun i hi=>?_)
 .refine aA.mk' rfl rfl (Nat.le_refl _) (fun _=>hn) (fun j hj=>?_);have hj3:j<6:=hj;rw[Nat.zero_add,cell_of_row W n j _ _ _ h];rcases(by omega:j=0\/j=1\/j=2\/j=3\/j=4\/j=5) with rfl|rfl|rfl|rfl|rfl|rfl<;>rfl
 .have hi2:i<2:=hi;rcases(by omega:i=0\/i=1) with rfl|rfl
  .exact ha
  .exact hb
theorem abD {S:Nat->Prop} {W:World} {n te:Nat} {fz:Nat×Nat} {a b c d:Tm} {ua ub uc ud:Value} (h:W.heap[n]?=some (.cells #[.string a.name,.string a.sort,ua,.string b.name,.string b.sort,ub,.string c.name,.string c.sort,uc,.string d.name,.string d.sort,ud] te fz)) (hn:S n) (ha:ay S W a.kids ua) (hb:ay S W b.kids ub) (hc:ay S W c.kids uc) (hd:ay S W d.kids ud):ay S W [a,b,c,d] (.slice (some ⟨n,0,none⟩) 4 4):=by
 refine .mk _ [ua,ub,uc,ud] _ rfl ?_ (fun i hi=>?_)
 .refine aA.mk' rfl rfl (Nat.le_refl _) (fun _=>hn) (fun j hj=>?_);have hj3:j<12:=hj;rw[Nat.zero_add,cell_of_row W n j _ _ _ h];rcases(by omega:j=0\/j=1\/j=2\/j=3\/j=4\/j=5\/j=6\/j=7\/j=8\/j=9\/j=10\/j=11) with rfl|rfl|rfl|rfl|rfl|rfl|rfl|rfl|rfl|rfl|rfl|rfl<;>rfl
 .have hi2:i<4:=hi;rcases(by omega:i=0\/i=1\/i=2\/i=3) with rfl|rfl|rfl|rfl
  .exact ha
  .exact hb
  .exact hc
  .exact hd
abbrev l9:List Rl:=[((.mk ⟨#[112,108,117,115]⟩ ah [(.mk ⟨#[122,101,114,111]⟩ ah []),(.mk ⟨#[78]⟩ ⟨#[110,97,116]⟩ [])]),(.mk ⟨#[78]⟩ ⟨#[110,97,116]⟩ [])),((.mk ⟨#[112,108,117,115]⟩ ah [(.mk ⟨#[115]⟩ ah [(.mk ⟨#[78]⟩ ⟨#[110,97,116]⟩ [])]),(.mk ⟨#[77]⟩ ⟨#[110,97,116]⟩ [])]),(.mk ⟨#[115]⟩ ah [(.mk ⟨#[112,108,117,115]⟩ ah [(.mk ⟨#[78]⟩ ⟨#[110,97,116]⟩ []),(.mk ⟨#[77]⟩ ⟨#[110,97,116]⟩ [])])]))]
abbrev IB:List Rl:=[((.mk ⟨#[112,108,117,115]⟩ ah [(.mk ⟨#[122,101,114,111]⟩ ah []),(.mk ⟨#[78,95,49]⟩ ⟨#[110,97,116]⟩ [])]),(.mk ⟨#[78,95,49]⟩ ⟨#[110,97,116]⟩ [])),((.mk ⟨#[112,108,117,115]⟩ ah [(.mk ⟨#[115]⟩ ah [(.mk ⟨#[78,95,49]⟩ ⟨#[110,97,116]⟩ [])]),(.mk ⟨#[77,95,49]⟩ ⟨#[110,97,116]⟩ [])]),(.mk ⟨#[115]⟩ ah [(.mk ⟨#[112,108,117,115]⟩ ah [(.mk ⟨#[78,95,49]⟩ ⟨#[110,97,116]⟩ []),(.mk ⟨#[77,95,49]⟩ ⟨#[110,97,116]⟩ [])])]))]
abbrev TY:List Rl:=[((.mk ⟨#[112,108,117,115]⟩ ah [(.mk ⟨#[122,101,114,111]⟩ ah []),(.mk ⟨#[78,95,50]⟩ ⟨#[110,97,116]⟩ [])]),(.mk ⟨#[78,95,50]⟩ ⟨#[110,97,116]⟩ [])),((.mk ⟨#[112,108,117,115]⟩ ah [(.mk ⟨#[115]⟩ ah [(.mk ⟨#[78,95,50]⟩ ⟨#[110,97,116]⟩ [])]),(.mk ⟨#[77,95,50]⟩ ⟨#[110,97,116]⟩ [])]),(.mk ⟨#[115]⟩ ah [(.mk ⟨#[112,108,117,115]⟩ ah [(.mk ⟨#[78,95,50]⟩ ⟨#[110,97,116]⟩ []),(.mk ⟨#[77,95,50]⟩ ⟨#[110,97,116]⟩ [])])]))]
abbrev OX:List Rl:=[((.mk ⟨#[102]⟩ ah [(.mk ⟨#[102]⟩ ah [(.mk ⟨#[88]⟩ ⟨#[97]⟩ [])])]),(.mk ⟨#[103]⟩ ah [(.mk ⟨#[88]⟩ ⟨#[97]⟩ [])]))]
abbrev ffF:List Rl:=[((.mk ⟨#[102]⟩ ah [(.mk ⟨#[102]⟩ ah [(.mk ⟨#[88,95,49]⟩ ⟨#[97]⟩ [])])]),(.mk ⟨#[103]⟩ ah [(.mk ⟨#[88,95,49]⟩ ⟨#[97]⟩ [])]))]
abbrev ffS:List Rl:=[((.mk ⟨#[102]⟩ ah [(.mk ⟨#[102]⟩ ah [(.mk ⟨#[88,95,50]⟩ ⟨#[97]⟩ [])])]),(.mk ⟨#[103]⟩ ah [(.mk ⟨#[88,95,50]⟩ ⟨#[97]⟩ [])]))]
abbrev OY:Tm:=(.mk ⟨#[115]⟩ ah [(.mk ⟨#[122,101,114,111]⟩ ah [])])
abbrev sumT:Tm:=(.mk ⟨#[112,108,117,115]⟩ ah [(.mk ⟨#[115]⟩ ah [(.mk ⟨#[122,101,114,111]⟩ ah [])]),(.mk ⟨#[122,101,114,111]⟩ ah [])])
abbrev IC:Tm:=(.mk ⟨#[102]⟩ ah [(.mk ⟨#[102]⟩ ah [(.mk ⟨#[102]⟩ ah [(.mk ⟨#[88,95,50]⟩ ⟨#[97]⟩ [])])])])
abbrev IE:Tm:=(.mk ⟨#[102]⟩ ah [(.mk ⟨#[103]⟩ ah [(.mk ⟨#[88,95,50]⟩ ⟨#[97]⟩ [])])])
abbrev IG:Tm:=(.mk ⟨#[103]⟩ ah [(.mk ⟨#[102]⟩ ah [(.mk ⟨#[88,95,50]⟩ ⟨#[97]⟩ [])])])
theorem T_:dA l9=true:=by decide+kernel
theorem YJ:dA OX=true:=by decide+kernel
theorem Wy:((stepG l9 sumT).2==((1,[]),0))=true:=by decide+kernel
theorem YK:((qV l9 sumT 9).1==OY&&(qV l9 sumT 9).2.1.length==2&&(qV l9 sumT 9).2.2==0)=true:=by decide+kernel
theorem OZ:iE (Go.Hw.rg IB 0).1 []=[[],[0]]/\iE (Go.Hw.rg IB 1).1 []=[[],[0]]/\iE (Go.Hw.rg ffF 0).1 []=[[],[0]]:=by decide+kernel
theorem YL: ∀i,i<2->ql ⟨#[95,49]⟩ (Go.Hw.rg l9 i).1=((Go.Hw.rg IB i).1,0)/\ql ⟨#[95,49]⟩ (Go.Hw.rg l9 i).2=((Go.Hw.rg IB i).2,0)/\ql ⟨#[95,50]⟩ (Go.Hw.rg l9 i).1=((Go.Hw.rg TY i).1,0)/\ql ⟨#[95,50]⟩ (Go.Hw.rg l9 i).2=((Go.Hw.rg TY i).2,0):=fun i hi=>by
 rcases(by omega:i=0\/i=1) with rfl|rfl<;>exact⟨by decide+kernel,by decide+kernel,by decide+kernel,by decide+kernel⟩
theorem af4: ∀i,i<1->ql ⟨#[95,49]⟩ (Go.Hw.rg OX i).1=((Go.Hw.rg ffF i).1,0)/\ql ⟨#[95,49]⟩ (Go.Hw.rg OX i).2=((Go.Hw.rg ffF i).2,0)/\ql ⟨#[95,50]⟩ (Go.Hw.rg OX i).1=((Go.Hw.rg ffS i).1,0)/\ql ⟨#[95,50]⟩ (Go.Hw.rg OX i).2=((Go.Hw.rg ffS i).2,0):=fun i hi=>by
 obtain rfl:i=0:=by omega
 exact⟨by decide+kernel,by decide+kernel,by decide+kernel,by decide+kernel⟩
theorem af5:Iu ((.mk ⟨#[112,108,117,115]⟩ ah [(.mk ⟨#[122,101,114,111]⟩ ah []),(.mk ⟨#[78,95,49]⟩ ⟨#[110,97,116]⟩ [])]),(.mk ⟨#[78,95,49]⟩ ⟨#[110,97,116]⟩ [])) ((.mk ⟨#[112,108,117,115]⟩ ah [(.mk ⟨#[115]⟩ ah [(.mk ⟨#[78,95,50]⟩ ⟨#[110,97,116]⟩ [])]),(.mk ⟨#[77,95,50]⟩ ⟨#[110,97,116]⟩ [])]),(.mk ⟨#[115]⟩ ah [(.mk ⟨#[112,108,117,115]⟩ ah [(.mk ⟨#[78,95,50]⟩ ⟨#[110,97,116]⟩ []),(.mk ⟨#[77,95,50]⟩ ⟨#[110,97,116]⟩ [])])])) [] none:=fun xa ya pa qa xc yc pc qc pv B2 W htab hx hy hp hB2 hq hpv=>
 Eh (.mk ⟨#[112,108,117,115]⟩ ah [(.mk ⟨#[122,101,114,111]⟩ ah []),(.mk ⟨#[78,95,49]⟩ ⟨#[110,97,116]⟩ [])]) (.mk ⟨#[78,95,49]⟩ ⟨#[110,97,116]⟩ []) (.mk ⟨#[112,108,117,115]⟩ ah [(.mk ⟨#[115]⟩ ah [(.mk ⟨#[78,95,50]⟩ ⟨#[110,97,116]⟩ [])]),(.mk ⟨#[77,95,50]⟩ ⟨#[110,97,116]⟩ [])]) (.mk ⟨#[115]⟩ ah [(.mk ⟨#[112,108,117,115]⟩ ah [(.mk ⟨#[78,95,50]⟩ ⟨#[110,97,116]⟩ []),(.mk ⟨#[77,95,50]⟩ ⟨#[110,97,116]⟩ [])])]) yN xa ya pa qa xc yc pc qc _ pv B2 W htab hx hy hp hB2 hq hpv (by decide) (by decide) (by decide) (by decide) (by decide+kernel) (fun W' hW B1 BL va vb h1 h2 hd l1 l2 ht=>agR W' ht B1 BL va vb h1 h2 hd l1 l2)
theorem af6:Iu ((.mk ⟨#[112,108,117,115]⟩ ah [(.mk ⟨#[122,101,114,111]⟩ ah []),(.mk ⟨#[78,95,49]⟩ ⟨#[110,97,116]⟩ [])]),(.mk ⟨#[78,95,49]⟩ ⟨#[110,97,116]⟩ [])) ((.mk ⟨#[112,108,117,115]⟩ ah [(.mk ⟨#[122,101,114,111]⟩ ah []),(.mk ⟨#[78,95,50]⟩ ⟨#[110,97,116]⟩ [])]),(.mk ⟨#[78,95,50]⟩ ⟨#[110,97,116]⟩ [])) [0] none:=fun xa ya pa qa xc yc pc qc pv B2 W htab hx hy hp hB2 hq hpv=>
 Eh (.mk ⟨#[112,108,117,115]⟩ ah [(.mk ⟨#[122,101,114,111]⟩ ah []),(.mk ⟨#[78,95,49]⟩ ⟨#[110,97,116]⟩ [])]) (.mk ⟨#[78,95,49]⟩ ⟨#[110,97,116]⟩ []) (.mk ⟨#[112,108,117,115]⟩ ah [(.mk ⟨#[122,101,114,111]⟩ ah []),(.mk ⟨#[78,95,50]⟩ ⟨#[110,97,116]⟩ [])]) (.mk ⟨#[78,95,50]⟩ ⟨#[110,97,116]⟩ []) Ec xa ya pa qa xc yc pc qc _ pv B2 W htab hx hy hp hB2 hq hpv (by decide) (by decide) (by decide) (by decide) (by decide+kernel) (fun W' hW B1 BL va vb h1 h2 hd l1 l2 ht=>agT W' ht B1 BL va vb h1 h2 hd l1 l2)
theorem af7:Iu ((.mk ⟨#[112,108,117,115]⟩ ah [(.mk ⟨#[122,101,114,111]⟩ ah []),(.mk ⟨#[78,95,49]⟩ ⟨#[110,97,116]⟩ [])]),(.mk ⟨#[78,95,49]⟩ ⟨#[110,97,116]⟩ [])) ((.mk ⟨#[112,108,117,115]⟩ ah [(.mk ⟨#[115]⟩ ah [(.mk ⟨#[78,95,50]⟩ ⟨#[110,97,116]⟩ [])]),(.mk ⟨#[77,95,50]⟩ ⟨#[110,97,116]⟩ [])]),(.mk ⟨#[115]⟩ ah [(.mk ⟨#[112,108,117,115]⟩ ah [(.mk ⟨#[78,95,50]⟩ ⟨#[110,97,116]⟩ []),(.mk ⟨#[77,95,50]⟩ ⟨#[110,97,116]⟩ [])])])) [0] none:=fun xa ya pa qa xc yc pc qc pv B2 W htab hx hy hp hB2 hq hpv=>
 Eh (.mk ⟨#[112,108,117,115]⟩ ah [(.mk ⟨#[122,101,114,111]⟩ ah []),(.mk ⟨#[78,95,49]⟩ ⟨#[110,97,116]⟩ [])]) (.mk ⟨#[78,95,49]⟩ ⟨#[110,97,116]⟩ []) (.mk ⟨#[112,108,117,115]⟩ ah [(.mk ⟨#[115]⟩ ah [(.mk ⟨#[78,95,50]⟩ ⟨#[110,97,116]⟩ [])]),(.mk ⟨#[77,95,50]⟩ ⟨#[110,97,116]⟩ [])]) (.mk ⟨#[115]⟩ ah [(.mk ⟨#[112,108,117,115]⟩ ah [(.mk ⟨#[78,95,50]⟩ ⟨#[110,97,116]⟩ []),(.mk ⟨#[77,95,50]⟩ ⟨#[110,97,116]⟩ [])])]) Ed xa ya pa qa xc yc pc qc _ pv B2 W htab hx hy hp hB2 hq hpv (by decide) (by decide) (by decide) (by decide) (by decide+kernel) (fun W' hW B1 BL va vb h1 h2 hd l1 l2 ht=>agV W' ht B1 BL va vb h1 h2 hd l1 l2)
theorem af8:Iu ((.mk ⟨#[112,108,117,115]⟩ ah [(.mk ⟨#[115]⟩ ah [(.mk ⟨#[78,95,49]⟩ ⟨#[110,97,116]⟩ [])]),(.mk ⟨#[77,95,49]⟩ ⟨#[110,97,116]⟩ [])]),(.mk ⟨#[115]⟩ ah [(.mk ⟨#[112,108,117,115]⟩ ah [(.mk ⟨#[78,95,49]⟩ ⟨#[110,97,116]⟩ []),(.mk ⟨#[77,95,49]⟩ ⟨#[110,97,116]⟩ [])])])) ((.mk ⟨#[112,108,117,115]⟩ ah [(.mk ⟨#[122,101,114,111]⟩ ah []),(.mk ⟨#[78,95,50]⟩ ⟨#[110,97,116]⟩ [])]),(.mk ⟨#[78,95,50]⟩ ⟨#[110,97,116]⟩ [])) [0] none:=fun xa ya pa qa xc yc pc qc pv B2 W htab hx hy hp hB2 hq hpv=>
 Eh (.mk ⟨#[112,108,117,115]⟩ ah [(.mk ⟨#[115]⟩ ah [(.mk ⟨#[78,95,49]⟩ ⟨#[110,97,116]⟩ [])]),(.mk ⟨#[77,95,49]⟩ ⟨#[110,97,116]⟩ [])]) (.mk ⟨#[115]⟩ ah [(.mk ⟨#[112,108,117,115]⟩ ah [(.mk ⟨#[78,95,49]⟩ ⟨#[110,97,116]⟩ []),(.mk ⟨#[77,95,49]⟩ ⟨#[110,97,116]⟩ [])])]) (.mk ⟨#[112,108,117,115]⟩ ah [(.mk ⟨#[122,101,114,111]⟩ ah []),(.mk ⟨#[78,95,50]⟩ ⟨#[110,97,116]⟩ [])]) (.mk ⟨#[78,95,50]⟩ ⟨#[110,97,116]⟩ []) yP xa ya pa qa xc yc pc qc _ pv B2 W htab hx hy hp hB2 hq hpv (by decide) (by decide) (by decide) (by decide) (by decide+kernel) (fun W' hW B1 BL va vb h1 h2 hd l1 l2 ht=>agX W' ht B1 BL va vb h1 h2 hd l1 l2)
theorem af9:Iu ((.mk ⟨#[112,108,117,115]⟩ ah [(.mk ⟨#[115]⟩ ah [(.mk ⟨#[78,95,49]⟩ ⟨#[110,97,116]⟩ [])]),(.mk ⟨#[77,95,49]⟩ ⟨#[110,97,116]⟩ [])]),(.mk ⟨#[115]⟩ ah [(.mk ⟨#[112,108,117,115]⟩ ah [(.mk ⟨#[78,95,49]⟩ ⟨#[110,97,116]⟩ []),(.mk ⟨#[77,95,49]⟩ ⟨#[110,97,116]⟩ [])])])) ((.mk ⟨#[112,108,117,115]⟩ ah [(.mk ⟨#[115]⟩ ah [(.mk ⟨#[78,95,50]⟩ ⟨#[110,97,116]⟩ [])]),(.mk ⟨#[77,95,50]⟩ ⟨#[110,97,116]⟩ [])]),(.mk ⟨#[115]⟩ ah [(.mk ⟨#[112,108,117,115]⟩ ah [(.mk ⟨#[78,95,50]⟩ ⟨#[110,97,116]⟩ []),(.mk ⟨#[77,95,50]⟩ ⟨#[110,97,116]⟩ [])])])) [0] none:=fun xa ya pa qa xc yc pc qc pv B2 W htab hx hy hp hB2 hq hpv=>
 Eh (.mk ⟨#[112,108,117,115]⟩ ah [(.mk ⟨#[115]⟩ ah [(.mk ⟨#[78,95,49]⟩ ⟨#[110,97,116]⟩ [])]),(.mk ⟨#[77,95,49]⟩ ⟨#[110,97,116]⟩ [])]) (.mk ⟨#[115]⟩ ah [(.mk ⟨#[112,108,117,115]⟩ ah [(.mk ⟨#[78,95,49]⟩ ⟨#[110,97,116]⟩ []),(.mk ⟨#[77,95,49]⟩ ⟨#[110,97,116]⟩ [])])]) (.mk ⟨#[112,108,117,115]⟩ ah [(.mk ⟨#[115]⟩ ah [(.mk ⟨#[78,95,50]⟩ ⟨#[110,97,116]⟩ [])]),(.mk ⟨#[77,95,50]⟩ ⟨#[110,97,116]⟩ [])]) (.mk ⟨#[115]⟩ ah [(.mk ⟨#[112,108,117,115]⟩ ah [(.mk ⟨#[78,95,50]⟩ ⟨#[110,97,116]⟩ []),(.mk ⟨#[77,95,50]⟩ ⟨#[110,97,116]⟩ [])])]) yQ xa ya pa qa xc yc pc qc _ pv B2 W htab hx hy hp hB2 hq hpv (by decide) (by decide) (by decide) (by decide) (by decide+kernel) (fun W' hW B1 BL va vb h1 h2 hd l1 l2 ht=>agZ W' ht B1 BL va vb h1 h2 hd l1 l2)
theorem af_:Iu ((.mk ⟨#[102]⟩ ah [(.mk ⟨#[102]⟩ ah [(.mk ⟨#[88,95,49]⟩ ⟨#[97]⟩ [])])]),(.mk ⟨#[103]⟩ ah [(.mk ⟨#[88,95,49]⟩ ⟨#[97]⟩ [])])) ((.mk ⟨#[102]⟩ ah [(.mk ⟨#[102]⟩ ah [(.mk ⟨#[88,95,50]⟩ ⟨#[97]⟩ [])])]),(.mk ⟨#[103]⟩ ah [(.mk ⟨#[88,95,50]⟩ ⟨#[97]⟩ [])])) [0] (some (IC,IE,IG)):=fun xa ya pa qa xc yc pc qc pv B2 W htab hx hy hp hB2 hq hpv=>
 (aby (.mk ⟨#[102]⟩ ah [(.mk ⟨#[102]⟩ ah [(.mk ⟨#[88,95,49]⟩ ⟨#[97]⟩ [])])]) (.mk ⟨#[103]⟩ ah [(.mk ⟨#[88,95,49]⟩ ⟨#[97]⟩ [])]) (.mk ⟨#[102]⟩ ah [(.mk ⟨#[102]⟩ ah [(.mk ⟨#[88,95,50]⟩ ⟨#[97]⟩ [])])]) (.mk ⟨#[103]⟩ ah [(.mk ⟨#[88,95,50]⟩ ⟨#[97]⟩ [])]) yR xa ya pa qa xc yc pc qc _ pv B2 W htab hx hy hp hB2 hq hpv (by decide) (by decide) (by decide) (by decide) (by decide+kernel) OD IC IG (.mk ⟨#[103]⟩ ah [(.mk ⟨#[88,95,50]⟩ ⟨#[97]⟩ [])]) IE [0] rfl (by decide+kernel) (by decide+kernel) (by decide+kernel) (by decide+kernel) ⟨by decide,trivial⟩ (by decide) (by decide) (by decide) (by decide) (fun W' hW B1 BL va vb h1 h2 hd l1 l2 ht=>ag1 W' ht B1 BL va vb h1 h2 hd l1 l2)).mono (by
  rintro e w' ⟨ka,kc,za,zc,ra,rc,rfl,h1,h2,h3,hE⟩;exact⟨⟨ka,kc,za,zc,ra,rc,rfl,h1,h2,h3⟩,hE⟩)
theorem Ua (lv:Value) (w:World) (hL:iJ (fun k=>k<w.heap.size) w l9 lv) (htab:cO w):Calls Tryz.prog 104 #[lv] w fun e w'=>e= .returned (.tuple #[.slice none 0 0,.int .i64 0])/\Ext w w':=by
 refine(Rf l9 IB TY (fun _ _ _=>none) none lv w hL htab T_ (by decide) (by decide) (by decide+kernel) rfl rfl YL (by decide) (fun i k p hi hk hp hc=>?_) (by kernel_rfl)).mono ?_
 .have hi2:i<2:=hi;have hk2:k<2:=hk;have h0:=OZ;rcases(by omega:i=0\/i=1) with rfl|rfl
  .rw [h0.1] at hp;simp only[List.mem_cons,List.not_mem_nil,or_false] at hp;rcases hp with rfl|rfl
   .rcases (by omega:k=0\/k=1) with rfl|rfl
    .exact absurd ⟨rfl,Nat.le_refl _⟩ hc
    .exact af5
   .rcases (by omega:k=0\/k=1) with rfl|rfl
    .exact af6
    .exact af7
  .rw [h0.2.1] at hp;simp only[List.mem_cons,List.not_mem_nil,or_false] at hp;rcases hp with rfl|rfl
   .exact absurd ⟨rfl,by omega⟩ hc
   .rcases (by omega:k=0\/k=1) with rfl|rfl
    .exact af8
    .exact af9
 .rintro e w' ⟨v,rfl,hv,hE⟩;have hv':v= .slice none 0 0:=hv;subst hv';exact⟨rfl,hE⟩
theorem YM (lv:Value) (w:World) (hL:iJ (fun k=>k<w.heap.size) w OX lv) (htab:cO w):Calls Tryz.prog 104 #[lv] w fun e w'=> ∃v,e= .returned (.tuple #[v,.int .i64 0])/\Ei w' v (some (IC,IE,IG,0,0,[0]))/\Ext w w':=by
 refine Rf OX ffF ffS (fun _ _ _=>some (IC,IE,IG)) (some (IC,IE,IG,0,0,[0])) lv w hL htab YJ (by decide) (by decide) (by decide+kernel) rfl rfl af4 (by decide) (fun i k p hi hk hp hc=>?_) (by kernel_rfl);have hi2:i<1:=hi;have hk2:k<1:=hk;obtain rfl:i=0:=by omega
 obtain rfl:k=0:=by omega
 rw[OZ.2.2] at hp;simp only[List.mem_cons,List.not_mem_nil,or_false] at hp;rcases hp with rfl|rfl
 .exact absurd ⟨rfl,Nat.le_refl _⟩ hc
 .exact af_
end
end Go.Proofs.YtlkcjmaiahnodaaGreatDoor
