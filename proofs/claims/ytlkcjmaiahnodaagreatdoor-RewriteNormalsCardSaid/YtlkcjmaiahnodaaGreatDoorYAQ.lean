/- The texts N76 N77 N78, one behind the other. -/
import Derived.Test.YtlkcjmaiahnodaaGreatDoorYAN
import Derived.Test.YtlkcjmaiahnodaaGreatDoorYAB
import Derived.Test.YtlkcjmaiahnodaaGreatDoorYAP
set_option maxRecDepth 100000
set_option maxHeartbeats 8000000
set_option linter.unusedVariables false
set_option linter.unusedSimpArgs false
namespace Go.Proofs.YtlkcjmaiahnodaaGreatDoor
open Go.RowKit Go.Hw Go Tm
section
open Go.Sort Go.Proofs Go.ChangeMaps
theorem acd (L:List Re) (i:Nat) (h:i<L.length):(eg L i).1=Go.Hw.rg (L.map (·.1)) i:=by
 unfold Go.Hw.rg;rw[Yx h,List.getD_eq_getElem?_getD,List.getElem?_map,List.getElem?_eq_getElem h];rfl
theorem Gv {n0:Nat} {W:World} {t:Tm} {u:Value} (h:jI n0 W t u):aI (fun k=>k<W.heap.size) W t.kids u:=by
 obtain⟨B,h1,h2⟩:=h;exact(aP.read h1).weaken (fun k hk=>(h2 k hk).2.lt)
mutual
theorem QZ: ∀(t:Tm) (P p:List Nat),p∈jo t P->p.length<=P.length+t.size
 | .mk n s L,P,p,h=>by
  unfold jo at h;split at h
  .rcases List.mem_cons.1 h with h|h
   .rw [h];omega
   .have:=Nz L 0 P p h;rw[size_eq];simp only[Tm.kids];omega
  .cases h
theorem Nz: ∀(L:List Tm) (i:Nat) (P p:List Nat),p∈qF L i P->p.length<=P.length+sizes L+1
 |[],_,_,_,h=>by unfold qF at h;cases h
 |x::L,i,P,p,h=>by
  unfold qF at h;have hs:sizes (x::L)=x.size+sizes L:=by rw[sizes]
  rcases List.mem_append.1 h with h|h
  .have:=QZ x (P++[i]) p h;rw[List.length_append] at this;simp at this;omega
  .have:=Nz L (i+1) P p h;omega
end
theorem Q5 (l:List Rl) (k:Nat) (h:k<l.length):l.take (k+1)=l.take k++[Go.Hw.rg l k]:=by
 unfold Go.Hw.rg;rw[List.getD_eq_getElem?_getD,List.getElem?_eq_getElem h];rw[List.take_add_one,List.getElem?_eq_getElem h];rfl
theorem Yz:(Tryz.prog.info? 146).map (fun i=>(i.zero,i.size,i.bytes))=some (some (.agg #[.string ⟨#[]⟩,.string ⟨#[]⟩,.slice none 0 0,.string ⟨#[]⟩,.string ⟨#[]⟩,.slice none 0 0]),6,112):=by kernel_rfl
theorem ahk:(Tryz.prog.info? 152).map (fun i=>(i.zero,i.size,i.bytes))=some (some (.agg #[.string ⟨#[]⟩,.string ⟨#[]⟩,.slice none 0 0,.string ⟨#[]⟩,.string ⟨#[]⟩,.slice none 0 0,.string ⟨#[]⟩,.string ⟨#[]⟩,.slice none 0 0,.int .i64 0,.int .i64 0,.slice none 0 0]),12,208):=by kernel_rfl
section
def II (F0:Nat->Prop) (c:Obj):PI.dD ((Option Addr×Nat)×Nat×(Nat->Prop)):=⟨fun x=> .slice (some ⟨x.2.1,0,none⟩) 1 1,fun x W=> ¬F0 x.2.1/\W.heap[x.2.1]?=some c,fun _=>False,F0,fun x W W' F h hU hF=>⟨h.1,hU.heap h.2 (fun e=>h.1 (hF _ e))⟩,fun _=>True,fun _ _ _ _ _ _=>trivial,fun x k=>k=x.2.1,fun x W k h e=>by rw[e];exact(Array.getElem?_eq_some_iff.1 h.2).1⟩
def IJ (n0:Nat) (ahl aaq:Nat->Prop) (v0:Value) (m:Nat) (cs:List Value) (hds: ∀k,v0.ownBlock=some k->¬aaq k) (n:Nat) (xs:List Value):PI.dD ((Option Addr×Nat)×Nat×(Nat->Prop)):=⟨fun x=> .slice x.1.1 n x.1.2,fun x W=>W.ownsRow n0 146 6 (.slice x.1.1 n x.1.2) n xs/\(∀k,(Value.slice x.1.1 n x.1.2).ownBlock=some k->¬aaq k/\(ahl k\/x.2.2 k))/\∀k,x.2.2 k->(Value.slice x.1.1 n x.1.2).ownBlock=some k,ahl,aaq,fun x W W' F h hU hF=>⟨bH h.1 hU (fun k hk e=>(h.2.1 k hk).1 (hF k e)),h.2⟩,fun W=>W.ownsRow n0 146 6 v0 m cs,fun W W' F h hU hF=>bH h hU (fun k hk e=>hds k hk (hF k e)),fun x k=>x.2.2 k,fun x W k h e=>(World.ownsRow.lt h.1 k (h.2.2 k e)).2⟩
end
theorem Us (l fs sn:List Rl) (ov:Nat->List Nat->Nat->Option (Tm×Tm×Tm)) (Z:Option Cp) (lv:Value) (w:World) (hL:jq (fun k=>k<w.heap.size) w l lv) (htab:dN w) (hr:dX l=true) (hll:l.length<=100) (hls: ∀r∈l,r.1.size<=1000/\r.2.size<=1000) (hvs: ∀r∈l,(∀f∈dJ r.1,f.1.size<=1000)/\∀f∈dJ r.2,f.1.size<=1000) (h1:fs.length=l.length) (h2:sn.length=l.length) (ahm: ∀i,i<l.length->rU ⟨#[95,49]⟩ (Go.Hw.rg l i).1=((Go.Hw.rg fs i).1,0)/\rU ⟨#[95,49]⟩ (Go.Hw.rg l i).2=((Go.Hw.rg fs i).2,0)/\rU ⟨#[95,50]⟩ (Go.Hw.rg l i).1=((Go.Hw.rg sn i).1,0)/\rU ⟨#[95,50]⟩ (Go.Hw.rg l i).2=((Go.Hw.rg sn i).2,0)) (hfz: ∀i,i<l.length->(Go.Hw.rg fs i).1.size<=1000) (hov: ∀i k p,i<l.length->k<l.length->p∈jo (Go.Hw.rg fs i).1 []->¬(p.length=0/\k<=i)->JV (Go.Hw.rg fs i) (Go.Hw.rg sn k) p (ov i p k)) (hZ:JY ov fs l.length l.length 0 none=some Z):
  Calls Tryz.prog 104 #[lv] w fun e w'=> ∃v,e= .returned (.tuple #[v,.int .i64 0])/\F7 w' v Z/\Ext w w':=by
 have ES:=ah (Kt l lv w hL htab (by omega) (fun r hr=>by have:=hls r hr;omega));rw[hr] at ES;have Fq:=ah hL;have HTAB:=ah htab;have yU:=ah hls;have Xc:=ah hvs;have ahn:=ah ahm;have LH:=ah hfz;have HOV:=ah hov;have HZ:=ah hZ;have xM:=ah hll;have nG:=ah h1;have jV:=ah h2;obtain⟨la,lc,rfl⟩:=hL.shape;clear hL htab hr hls hvs ahm hfz hov hZ h1 h2
 go_enter Tryz.func104,Tryz.ntmps104
 go_wp2_with fail
 refine ES.out.mono ?_;rintro e w1 ⟨rfl,hw1⟩;have pq:=ah hw1;clear ES hw1
 go_wp2_with fail
 go_loopg [4,5,26] l.length (fun gk o1 o2 iv wr=> ∃(k:Nat) (L1 L2:List Re) (a1 a2:Option Addr) (c1 c2:Nat),o1= .slice a1 L1.length c1/\o2= .slice a2 L2.length c2/\iv= .int .i64 (k:Int)/\gk=l.length-k/\k<=l.length/\Hid (L1.length=k)/\Hid (L2.length=k)/\Hid (L1.map (·.1)=fs.take k)/\Hid (L2.map (·.1)=sn.take k)/\Hid (xX w.heap.size wr (.slice a1 L1.length c1) L1)/\Hid (xX w.heap.size wr (.slice a2 L2.length c2) L2)/\Hid (∀j,(Value.slice a1 L1.length c1).ownBlock=some j->¬(Value.slice a2 L2.length c2).ownBlock=some j)/\Hid (Ext w wr))
 case atStart=>exact⟨0,[],[],none,none,0,0,rfl,rfl,rfl,rfl,Nat.zero_le _,ah rfl,ah rfl,ah rfl,ah rfl,ah (xX.nil _ _),ah (xX.nil _ _),ah (fun j e=>by cases e),pq⟩
 case round=>
  clear pq;obtain⟨k,L1,L2,a1,a2,c1,c2,rfl,rfl,rfl,rfl,hk,Nb,HL2,Dz,nI,nH,nP,HDS,HE⟩:=hrel;by_cases hlt:k<l.length
  .obtain ⟨g,off,hga,_,hat⟩:=(Fq.out.ext HE.out).at_ (by omega);subst hga;obtain⟨xa,xc,ya,yc,q0,q1,q2,q3,q4,q5,hx,hy⟩:=hat k hlt;obtain⟨z0,z1,z2,z2'⟩:=bZ hlt;have hsz:=yU.out _ (tZ hlt);have Q7:=Xc.out _ (tZ hlt);have hrn:=ahn.out k hlt;obtain⟨⟨x,y⟩,hxy⟩: ∃r,Go.Hw.rg l k=r:=⟨_,rfl⟩
   obtain⟨⟨p1,q1'⟩,hf1⟩: ∃r,Go.Hw.rg fs k=r:=⟨_,rfl⟩
   obtain⟨⟨p2,q2'⟩,hf2⟩: ∃r,Go.Hw.rg sn k=r:=⟨_,rfl⟩
   rw[hxy] at q0 q1 q2 q3 q4 q5 hx hy hsz Q7 hrn;rw[hf1,hf2] at hrn;dsimp only at q0 q1 q2 q3 q4 q5 hx hy hsz Q7 hrn;have aho:=ah (fun W (hW:Ext wr W)=>QT x y xa ya xc yc ⟨#[95,49]⟩ W (aS HTAB.out (HE.out.trans hW)) ((hx.ext hW).weaken (fun j hj=>aF hj (HE.out.trans hW).size)) ((hy.ext hW).weaken (fun j hj=>aF hj (HE.out.trans hW).size)) (by omega) (by omega) (fun f hf=>by have:=Q7.1 f hf;show _+2<=_;omega) (fun f hf=>by have:=Q7.2 f hf;show _+2<=_;omega) p1 q1' hrn.1 hrn.2.1);have ahp:=ah (fun W (hW:Ext wr W)=>QT x y xa ya xc yc ⟨#[95,50]⟩ W (aS HTAB.out (HE.out.trans hW)) ((hx.ext hW).weaken (fun j hj=>aF hj (HE.out.trans hW).size)) ((hy.ext hW).weaken (fun j hj=>aF hj (HE.out.trans hW).size)) (by omega) (by omega) (fun f hf=>by have:=Q7.1 f hf;show _+2<=_;omega) (fun f hf=>by have:=Q7.2 f hf;show _+2<=_;omega) p2 q2' hrn.2.2.1 hrn.2.2.2);have qN:=ah hf1;have HF2:=ah hf2;clear hat hx hy hxy hsz Q7 hrn hf1 hf2;have hX:=(uR wr).alloc (.cells #[.string x.name,.string x.sort,.slice xa x.kids.length xc,.string y.name,.string y.sort,.slice ya y.kids.length yc] 146);have Di:=ah hX;have HB2:=ah (ay wr (.cells #[.string x.name,.string x.sort,.slice xa x.kids.length xc,.string y.name,.string y.sort,.slice ya y.kids.length yc] 146));clear hX;obtain⟨x0,x1,x2,x3,x4,x5⟩:=fA HB2.out
   go_wp2_with fail
   obtain⟨nb2,FQ⟩: ∃n,wr.heap.size=n:=⟨_,rfl⟩
   have an2:=ah FQ;rw[FQ] at HB2
   try rw[FQ]
   clear q0 q1 q2 q3 q4 q5 FQ;generalize wr.alloc (.cells #[.string x.name,.string x.sort,.slice xa x.kids.length xc,.string y.name,.string y.sort,.slice ya y.kids.length yc] 146)=w2 at*;refine(aho.out _ Di.out).mono ?_;rintro e w3 ⟨pa,pc,qa,qc,B1,B1',rfl,JM,JQ,JO,JR,hw3⟩;have hX:=hw3.alloc (.cells #[.string p1.name,.string p1.sort,.slice pa p1.kids.length pc,.string q1'.name,.string q1'.sort,.slice qa q1'.kids.length qc] 146);have JK:=ah (Di.out.trans hX);have eH:=ah (hX.heap HB2.out (fun h=>h));have wo:=ah (ay w3 (.cells #[.string p1.name,.string p1.sort,.slice pa p1.kids.length pc,.string q1'.name,.string q1'.sort,.slice qa q1'.kids.length qc] 146));have YA:Hid (jI w.heap.size (w3.alloc (.cells #[.string p1.name,.string p1.sort,.slice pa p1.kids.length pc,.string q1'.name,.string q1'.sort,.slice qa q1'.kids.length qc] 146)) p1 (.slice pa p1.kids.length pc)):=ah (jI.of (JM.kept ((uR w3).alloc _) (fun _ _ h=>h)) (fun j hj=>by have:=(JO j hj).1;have:=Di.out.size;have:=HE.out.size;omega));have Ns:Hid (jI w.heap.size (w3.alloc (.cells #[.string p1.name,.string p1.sort,.slice pa p1.kids.length pc,.string q1'.name,.string q1'.sort,.slice qa q1'.kids.length qc] 146)) q1' (.slice qa q1'.kids.length qc)):=ah (jI.of (JQ.kept ((uR w3).alloc _) (fun _ _ h=>h)) (fun j hj=>by have:=(JR j hj).1;have:=Di.out.size;have:=HE.out.size;omega));have fU:Hid (wr.heap.size<=w3.heap.size):=ah (Di.out.trans hw3).size;clear JM JQ JO JR hw3 hX aho Di HB2 x0 x1 x2 x3 x4 x5;obtain⟨x0,x1,x2,x3,x4,x5⟩:=fA eH.out
   go_wp2_with fail
   obtain⟨nb3,aar⟩: ∃n,w3.heap.size=n:=⟨_,rfl⟩
   rw[aar] at wo fU
   try rw[aar]
   clear aar;generalize w3.alloc (.cells #[.string p1.name,.string p1.sort,.slice pa p1.kids.length pc,.string q1'.name,.string q1'.sort,.slice qa q1'.kids.length qc] 146)=w4 at*;refine(ahp.out _ JK.out).mono ?_;rintro e w5 ⟨ra,rc,sa,sc,B2,DK,rfl,JM,JQ,JO,JR,hw5⟩;have hX:=hw5.alloc (.cells #[.string p2.name,.string p2.sort,.slice ra p2.kids.length rc,.string q2'.name,.string q2'.sort,.slice sa q2'.kids.length sc] 146);have h_:=ah (JK.out.trans hX);have Ci:=ah (hX.heap wo.out (fun h=>h));have z_:=ah (ay w5 (.cells #[.string p2.name,.string p2.sort,.slice ra p2.kids.length rc,.string q2'.name,.string q2'.sort,.slice sa q2'.kids.length sc] 146));have alL:=ah (YA.out.ext hX);have alM:=ah (Ns.out.ext hX);have HP2:Hid (jI w.heap.size (w5.alloc (.cells #[.string p2.name,.string p2.sort,.slice ra p2.kids.length rc,.string q2'.name,.string q2'.sort,.slice sa q2'.kids.length sc] 146)) p2 (.slice ra p2.kids.length rc)):=ah (jI.of (JM.kept ((uR w5).alloc _) (fun _ _ h=>h)) (fun j hj=>by have:=(JO j hj).1;have:=JK.out.size;have:=HE.out.size;omega));have Jz:Hid (jI w.heap.size (w5.alloc (.cells #[.string p2.name,.string p2.sort,.slice ra p2.kids.length rc,.string q2'.name,.string q2'.sort,.slice sa q2'.kids.length sc] 146)) q2' (.slice sa q2'.kids.length sc)):=ah (jI.of (JQ.kept ((uR w5).alloc _) (fun _ _ h=>h)) (fun j hj=>by have:=(JR j hj).1;have:=JK.out.size;have:=HE.out.size;omega));have nO:Hid (wr.heap.size<=w5.heap.size):=ah (JK.out.trans hw5).size;clear JM JQ JO JR hw5 hX ahp JK eH wo YA Ns x0 x1 x2 x3 x4 x5
   go_upto_region 11 with fail
   obtain⟨Yh,rG⟩: ∃n,w5.heap.size=n:=⟨_,rfl⟩
   rw[rG] at z_ nO
   try rw[rG]
   clear rG;generalize w5.alloc (.cells #[.string p2.name,.string p2.sort,.slice ra p2.kids.length rc,.string q2'.name,.string q2'.sort,.slice sa q2'.kids.length sc] 146)=wb at*;have HEb:=ah (HE.out.trans h_.out);have ahr:=ah (nH.out.ext h_.out);have ahs:=ah (nP.out.ext h_.out);have hF3: ¬(fun j=>(Value.slice a1 L1.length c1).ownBlock=some j\/(Value.slice a2 L2.length c2).ownBlock=some j) nb3:=fun h=>by
    have h3:=fU.out;rcases h with h|h
    .have:=(World.ownsRow.lt nH.out.own _ h).2;omega
    .have:=(World.ownsRow.lt nP.out.own _ h).2;omega
   have Q8: ¬(fun j=>(Value.slice a1 L1.length c1).ownBlock=some j\/(Value.slice a2 L2.length c2).ownBlock=some j) Yh:=fun h=>by
    have h3:=nO.out;rcases h with h|h
    .have:=(World.ownsRow.lt nH.out.own _ h).2;omega
    .have:=(World.ownsRow.lt nP.out.own _ h).2;omega
   have x0:=fun x:XF (fun j=>(Value.slice a1 L1.length c1).ownBlock=some j\/(Value.slice a2 L2.length c2).ownBlock=some j) wb=>x.upd.cell (aj Ci.out 0 (.string p1.name) rfl) hF3;have y0:=fun x:XF (fun j=>(Value.slice a1 L1.length c1).ownBlock=some j\/(Value.slice a2 L2.length c2).ownBlock=some j) wb=>x.upd.cell (aj z_.out 0 (.string p2.name) rfl) Q8;have x1:=fun x:XF (fun j=>(Value.slice a1 L1.length c1).ownBlock=some j\/(Value.slice a2 L2.length c2).ownBlock=some j) wb=>x.upd.cell (aj Ci.out 1 (.string p1.sort) rfl) hF3;have y1:=fun x:XF (fun j=>(Value.slice a1 L1.length c1).ownBlock=some j\/(Value.slice a2 L2.length c2).ownBlock=some j) wb=>x.upd.cell (aj z_.out 1 (.string p2.sort) rfl) Q8;have x2:=fun x:XF (fun j=>(Value.slice a1 L1.length c1).ownBlock=some j\/(Value.slice a2 L2.length c2).ownBlock=some j) wb=>x.upd.cell (aj Ci.out 2 (.slice pa p1.kids.length pc) rfl) hF3;have y2:=fun x:XF (fun j=>(Value.slice a1 L1.length c1).ownBlock=some j\/(Value.slice a2 L2.length c2).ownBlock=some j) wb=>x.upd.cell (aj z_.out 2 (.slice ra p2.kids.length rc) rfl) Q8;have x3:=fun x:XF (fun j=>(Value.slice a1 L1.length c1).ownBlock=some j\/(Value.slice a2 L2.length c2).ownBlock=some j) wb=>x.upd.cell (aj Ci.out 3 (.string q1'.name) rfl) hF3;have y3:=fun x:XF (fun j=>(Value.slice a1 L1.length c1).ownBlock=some j\/(Value.slice a2 L2.length c2).ownBlock=some j) wb=>x.upd.cell (aj z_.out 3 (.string q2'.name) rfl) Q8;have x4:=fun x:XF (fun j=>(Value.slice a1 L1.length c1).ownBlock=some j\/(Value.slice a2 L2.length c2).ownBlock=some j) wb=>x.upd.cell (aj Ci.out 4 (.string q1'.sort) rfl) hF3;have y4:=fun x:XF (fun j=>(Value.slice a1 L1.length c1).ownBlock=some j\/(Value.slice a2 L2.length c2).ownBlock=some j) wb=>x.upd.cell (aj z_.out 4 (.string q2'.sort) rfl) Q8;have x5:=fun x:XF (fun j=>(Value.slice a1 L1.length c1).ownBlock=some j\/(Value.slice a2 L2.length c2).ownBlock=some j) wb=>x.upd.cell (aj Ci.out 5 (.slice qa q1'.kids.length qc) rfl) hF3;have y5:=fun x:XF (fun j=>(Value.slice a1 L1.length c1).ownBlock=some j\/(Value.slice a2 L2.length c2).ownBlock=some j) wb=>x.upd.cell (aj z_.out 5 (.slice sa q2'.kids.length sc) rfl) Q8;have HOs:=nH;clear nH nP HOs;have nH:=ahr;have nP:=ahs;clear ahr ahs;have hlen:L1.length+1<=1000/\L2.length+1<=1000:=by have:=xM.out;have:=Nb.out;have:=HL2.out;omega
   refine PI.cu (α:=(Option Addr×Nat)×Nat×(Nat->Prop)) (fun j=>(Value.slice a1 L1.length c1).ownBlock=some j\/(Value.slice a2 L2.length c2).ownBlock=some j) 8 [] 8 [(8,2),(9,2)] [[],[],[1],[0,1,2],[],[],[5],[0,1,2,3,4,5,6],[0,1,2,3,4,5,6,7],[0,1,2,3,4,5,6,7,8]]
    [none,none,some (II (fun j=>(Value.slice a1 L1.length c1).ownBlock=some j\/(Value.slice a2 L2.length c2).ownBlock=some j) (.cells #[.string p1.name,.string p1.sort,.slice pa p1.kids.length pc,.string q1'.name,.string q1'.sort,.slice qa q1'.kids.length qc] 146 (0,0))),some (IJ w.heap.size (fun j=>(Value.slice a1 L1.length c1).ownBlock=some j) (fun j=>(Value.slice a2 L2.length c2).ownBlock=some j) (.slice a1 L1.length c1) L1.length (L1.flatMap vw) HDS.out (L1.length+1) (L1.flatMap vw++[.string p1.name,.string p1.sort,.slice pa p1.kids.length pc,.string q1'.name,.string q1'.sort,.slice qa q1'.kids.length qc])),none,none,some (II (fun j=>(Value.slice a1 L1.length c1).ownBlock=some j\/(Value.slice a2 L2.length c2).ownBlock=some j) (.cells #[.string p2.name,.string p2.sort,.slice ra p2.kids.length rc,.string q2'.name,.string q2'.sort,.slice sa q2'.kids.length sc] 146 (0,0))),some (IJ w.heap.size (fun j=>(Value.slice a2 L2.length c2).ownBlock=some j) (fun j=>(Value.slice a1 L1.length c1).ownBlock=some j) (.slice a2 L2.length c2) L2.length (L2.flatMap vw) (fun k h2 h1=>HDS.out k h1 h2) (L2.length+1) (L2.flatMap vw++[.string p2.name,.string p2.sort,.slice ra p2.kids.length rc,.string q2'.name,.string q2'.sort,.slice sa q2'.kids.length sc]))]
    [false,false,true,true,false,false,true,true] (by kernel_rfl) (by kernel_rfl) rfl (fun _ _ d _ _ h=>by cases d<;>exact h)
    ⟨fun i A j B h1 h2 hne k hD=>by
      have hi:i<8:=by
       refine Nat.lt_of_not_le (fun hge=>?_);change List.getD _ i none=some _ at h1;rw[List.getD_eq_getElem?_getD,List.getElem?_eq_none (by simpa using hge)] at h1;cases h1
      have hj:j<8:=by
       refine Nat.lt_of_not_le (fun hge=>?_);change List.getD _ j none=some _ at h2;rw[List.getD_eq_getElem?_getD,List.getElem?_eq_none (by simpa using hge)] at h2;cases h2
      rcases(by omega:i=0\/i=1\/i=2\/i=3\/i=4\/i=5\/i=6\/i=7) with rfl|rfl|rfl|rfl|rfl|rfl|rfl|rfl<;>first|(cases h1;done)|skip
      all_goals (injection h1 with h1;subst h1)
      all_goals (rcases(by omega:j=0\/j=1\/j=2\/j=3\/j=4\/j=5\/j=6\/j=7) with rfl|rfl|rfl|rfl|rfl|rfl|rfl|rfl<;>first|(cases h2;done)|exact absurd rfl hne|skip)
      all_goals (injection h2 with h2;subst h2)
      all_goals first|exact hD.elim|exact hD|exact .inl hD|exact .inr hD,fun i A h1 k hD=>by
      have hi:i<8:=by
       refine Nat.lt_of_not_le (fun hge=>?_);change List.getD _ i none=some _ at h1;rw[List.getD_eq_getElem?_getD,List.getElem?_eq_none (by simpa using hge)] at h1;cases h1
      rcases(by omega:i=0\/i=1\/i=2\/i=3\/i=4\/i=5\/i=6\/i=7) with rfl|rfl|rfl|rfl|rfl|rfl|rfl|rfl<;>first|(cases h1;done)|skip
      all_goals (injection h1 with h1;subst h1)
      all_goals first|exact hD.elim|exact .inl hD|exact .inr hD⟩ (fun i A h1=>by
      have hi:i<8:=by
       refine Nat.lt_of_not_le (fun hge=>?_);change List.getD _ i none=some _ at h1;rw[List.getD_eq_getElem?_getD,List.getElem?_eq_none (by simpa using hge)] at h1;cases h1
      rcases(by omega:i=0\/i=1\/i=2\/i=3\/i=4\/i=5\/i=6\/i=7) with rfl|rfl|rfl|rfl|rfl|rfl|rfl|rfl<;>first|(cases h1;done)|skip
      all_goals (injection h1 with h1;subst h1)
      all_goals first|exact trivial|exact nH.out.own|exact nP.out.own) ?_
   simp only[List.take_succ_cons,List.take_zero,eG,List.getElem?_cons_zero,List.getElem?_cons_succ];refine PI.aX rfl (fun K hK=>?_);go_simp;refine hK _ ?_;clear hK K;refine PI.aX rfl (fun K hK=>?_);go_simp;refine hK _ ?_;clear hK K;refine PI.aO _ rfl (by go_simp) (fun W hW hG hpr K hK=>?_) (fun K z2 hK=>?_)
   .go_simp;exact hK ((none,0),W.heap.size,fun _=>False) _ ((uR W).alloc _) ⟨fun h=>by
     have h:(Value.slice a1 L1.length c1).ownBlock=some W.heap.size\/(Value.slice a2 L2.length c2).ownBlock=some W.heap.size:=h;have h1:wb.heap.size<=W.heap.size:=hW.size;rcases h with h|h
     .have:=(World.ownsRow.lt nH.out.own _ h).2;omega
     .have:=(World.ownsRow.lt nP.out.own _ h).2;omega,ay _ _⟩ (fun k e=>by rw[e];exact Nat.le_refl _)
   refine hK _ ?_;clear hK K;dsimp only[II,IJ];refine PI.aO _ rfl (by go_simp) (fun W hW hG hpr K hK=>?_) (fun K z3 hK=>?_)
   .have gc:=hG _ (List.mem_append_right _ (List.mem_singleton.2 rfl)) (by show(2:Nat)∈_;decide);obtain⟨iR,hi,hz0,hz1,hz2⟩:=info_parts Yz;have hown:W.ownsRow w.heap.size 146 6 (.slice a1 L1.length c1) L1.length (L1.flatMap vw):=hpr;refine dY _ (.tmp 46) (.tmp 48) 50 rfl w.heap.size 146 iR (.agg #[.string ⟨#[]⟩,.string ⟨#[]⟩,.slice none 0 0,.string ⟨#[]⟩,.string ⟨#[]⟩,.slice none 0 0]) 6 112 Tryz.underlying50 hi hz0 hz1 hz2 rfl (by decide) _ L1.length _ rfl hown ⟨z2.2.1,0,none⟩ 1 1 [.string p1.name,.string p1.sort,.slice pa p1.kids.length pc,.string q1'.name,.string q1'.sort,.slice qa q1'.kids.length qc] rfl rfl (fun j u hj=>?_) (by intro u hu;simp at hu;rcases hu with h|h|h|h|h|h<;>(subst h;rfl)) (by have:=hlen;unfold maxLen;omega) (by have:=hlen;omega) (Nat.le_trans HEb.out.size hW.size) ?_
    .have hj6:j<6:=(List.getElem?_eq_some_iff.1 hj).1;rw[show(⟨z2.2.1,0,none⟩:Addr).add j=⟨z2.2.1,j,none⟩ by rw[Addr.add_lit,Nat.zero_add]];rw[cell_of_row _ _ j _ _ _ gc.2];simpa using hj
    intro v' w' JZ;obtain⟨a',c',hv⟩:=bF JZ.own;subst hv;have hwh:=JZ.uw;refine hK ((a',c'),0,fun k=>(Value.slice a' (L1.length+1) c').ownBlock=some k/\W.heap.size<=k) w' (JZ.upd) ⟨JZ.own,fun k hk=>?_,fun k hk=>hk.1⟩ (fun k e=>e.2);rcases hwh with h|h
    .rw [h] at hk;exact⟨fun e=>HDS.out k hk e,.inl hk⟩
    .have hk2:=hk;rw[h] at hk2;injection hk2 with hk2
     exact⟨fun e=>by have:=(World.ownsRow.lt nP.out.own _ e).2;have:=hW.size;omega,.inr ⟨hk,by omega⟩⟩
   refine hK _ ?_;clear hK K;dsimp only[II,IJ];refine PI.aX rfl (fun K hK=>?_);go_simp;refine hK _ ?_;clear hK K;refine PI.aX rfl (fun K hK=>?_);go_simp;refine hK _ ?_;clear hK K;refine PI.aO _ rfl (by go_simp) (fun W hW hG hpr K hK=>?_) (fun K z6 hK=>?_)
   .go_simp;exact hK ((none,0),W.heap.size,fun _=>False) _ ((uR W).alloc _) ⟨fun h=>by
     have h:(Value.slice a1 L1.length c1).ownBlock=some W.heap.size\/(Value.slice a2 L2.length c2).ownBlock=some W.heap.size:=h;have h1:wb.heap.size<=W.heap.size:=hW.size;rcases h with h|h
     .have:=(World.ownsRow.lt nH.out.own _ h).2;omega
     .have:=(World.ownsRow.lt nP.out.own _ h).2;omega,ay _ _⟩ (fun k e=>by rw[e];exact Nat.le_refl _)
   refine hK _ ?_;clear hK K;dsimp only[II,IJ];refine PI.aO _ rfl (by go_simp) (fun W hW hG hpr K hK=>?_) (fun K z7 hK=>?_)
   .have gc:=hG _ (List.mem_append_right _ (List.mem_singleton.2 rfl)) (by show(6:Nat)∈_;decide);have g3:=hG _ (List.mem_append_left _ (List.mem_append_right _ (List.mem_singleton.2 rfl))) (by show(3:Nat)∈_;decide);obtain⟨iR,hi,hz0,hz1,hz2⟩:=info_parts Yz;have hown:W.ownsRow w.heap.size 146 6 (.slice a2 L2.length c2) L2.length (L2.flatMap vw):=hpr;refine dY _ (.tmp 50) (.tmp 52) 50 rfl w.heap.size 146 iR (.agg #[.string ⟨#[]⟩,.string ⟨#[]⟩,.slice none 0 0,.string ⟨#[]⟩,.string ⟨#[]⟩,.slice none 0 0]) 6 112 Tryz.underlying50 hi hz0 hz1 hz2 rfl (by decide) _ L2.length _ rfl hown ⟨z6.2.1,0,none⟩ 1 1 [.string p2.name,.string p2.sort,.slice ra p2.kids.length rc,.string q2'.name,.string q2'.sort,.slice sa q2'.kids.length sc] rfl rfl (fun j u hj=>?_) (by intro u hu;simp at hu;rcases hu with h|h|h|h|h|h<;>(subst h;rfl)) (by have:=hlen;unfold maxLen;omega) (by have:=hlen;omega) (Nat.le_trans HEb.out.size hW.size) ?_
    .have hj6:j<6:=(List.getElem?_eq_some_iff.1 hj).1;rw[show(⟨z6.2.1,0,none⟩:Addr).add j=⟨z6.2.1,j,none⟩ by rw[Addr.add_lit,Nat.zero_add]];rw[cell_of_row _ _ j _ _ _ gc.2];simpa using hj
    intro v' w' JZ;obtain⟨a',c',hv⟩:=bF JZ.own;subst hv;have hwh:=JZ.uw;refine hK ((a',c'),0,fun k=>(Value.slice a' (L2.length+1) c').ownBlock=some k/\W.heap.size<=k) w' (JZ.upd) ⟨JZ.own,fun k hk=>?_,fun k hk=>hk.1⟩ (fun k e=>e.2);rcases hwh with h|h
    .rw [h] at hk;exact⟨fun e=>HDS.out k e hk,.inl hk⟩
    .have hk2:=hk;rw[h] at hk2;injection hk2 with hk2
     exact⟨fun e=>by have:=(World.ownsRow.lt nH.out.own _ e).2;have:=hW.size;omega,.inr ⟨hk,by omega⟩⟩
   refine hK _ ?_;clear hK K;dsimp only[II,IJ];refine PI.iP (fun w8 hW hG mV=>?_);have g3:=hG _ (List.mem_append_left _ (List.mem_append_left _ (List.mem_append_right _ (List.mem_singleton.2 rfl))));have g7:=hG _ (List.mem_append_right _ (List.mem_singleton.2 rfl));unfold PI.yJ at mV;simp only[List.nil_append,List.singleton_append,List.cons_append,List.pairwise_cons] at mV;have a37:=mV.2.1 _ (List.mem_cons_of_mem _ (List.mem_cons_self ..));dsimp only[II,IJ] at g3 g7 a37;have hd8: ∀j,(Value.slice z3.1.1 (L1.length+1) z3.1.2).ownBlock=some j->¬(Value.slice z7.1.1 (L2.length+1) z7.1.2).ownBlock=some j:=fun j e1 e2=>by
    obtain⟨n1,o1⟩:=g3.2.1 j e1;obtain⟨n2,o2⟩:=g7.2.1 j e2;rcases o1 with o1|o1
    .exact n2 o1
    .rcases o2 with o2|o2
     .exact n1 o2
     .exact a37 j o1 o2
   have Bq: ∀j,(fun j=>(Value.slice a1 L1.length c1).ownBlock=some j\/(Value.slice a2 L2.length c2).ownBlock=some j) j->¬jZ wb j:=fun j h=>by
    rcases h with h|h
    .exact JU nH.out.own h
    .exact JU nP.out.own h
   have HR1:Hid (xX w.heap.size w8 (.slice z3.1.1 (L1.length+1) z3.1.2) (L1++[((p1,q1'),.slice pa p1.kids.length pc,.slice qa q1'.kids.length qc)])):=ah ⟨by rw[List.length_append,List.flatMap_append];exact g3.1,fun x hx=>by
    rcases List.mem_append.1 hx with hx|hx
    .exact ⟨(nH.out.tl x hx).1.upd hW Bq,(nH.out.tl x hx).2.upd hW Bq⟩
    .rw [List.mem_singleton] at hx;subst hx;exact⟨alL.out.upd hW Bq,alM.out.upd hW Bq⟩⟩
   have HR2:Hid (xX w.heap.size w8 (.slice z7.1.1 (L2.length+1) z7.1.2) (L2++[((p2,q2'),.slice ra p2.kids.length rc,.slice sa q2'.kids.length sc)])):=ah ⟨by rw[List.length_append,List.flatMap_append];exact g7.1,fun x hx=>by
    rcases List.mem_append.1 hx with hx|hx
    .exact ⟨(nP.out.tl x hx).1.upd hW Bq,(nP.out.tl x hx).2.upd hW Bq⟩
    .rw [List.mem_singleton] at hx;subst hx;exact⟨HP2.out.upd hW Bq,Jz.out.upd hW Bq⟩⟩
   have dG:Hid (Ext w w8):=ah (HEb.out.trans' hW (fun j hj e=>by
    rcases e with e|e
    .have:=(World.ownsRow.lt nH.out.own _ e).1;omega
    .have:=(World.ownsRow.lt nP.out.own _ e).1;omega))
   have hm1:(L1++[(((p1,q1'),.slice pa p1.kids.length pc,.slice qa q1'.kids.length qc):Re)]).map (·.1)=fs.take (k+1):=by
    rw[List.map_append,Dz.out,Q5 fs k (by have:=nG.out;omega),qN.out];rfl
   have hm2:(L2++[(((p2,q2'),.slice ra p2.kids.length rc,.slice sa q2'.kids.length sc):Re)]).map (·.1)=sn.take (k+1):=by
    rw[List.map_append,nI.out,Q5 sn k (by have:=jV.out;omega),HF2.out];rfl
   have alO:=ah hm1;have alP:=ah hm2;have HD8:=ah hd8;have hle1:(L1++[(((p1,q1'),.slice pa p1.kids.length pc,.slice qa q1'.kids.length qc):Re)]).length=L1.length+1:=by simp
   have hle2:(L2++[(((p2,q2'),.slice ra p2.kids.length rc,.slice sa q2'.kids.length sc):Re)]).length=L2.length+1:=by simp
   rw[<-hle1] at HR1 HD8;rw[<-hle2] at HR2 HD8;clear hG mV g3 g7 a37 hd8 Bq hW hm1 hm2 x0 x1 x2 x3 x4 x5 y0 y1 y2 y3 y4 y5 hF3 Q8;refine eP ?_;intro K hK;go_simp;refine hK _ _ ?_;clear hK K;refine eP ?_;intro K hK;go_simp;refine hK _ _ ?_;clear hK K;simp only[cO]
   go_wp2_with fail
   go_roundg (l.length- (k+1))
   case measure=>omega
   case rel=>exact⟨k+1,_,_,_,_,_,_,by rw[hle1],by rw[hle2],by go_num,rfl,by omega,ah (by rw[hle1];have:=Nb.out;omega),ah (by rw[hle2];have:=HL2.out;omega),alO,alP,HR1,HR2,HD8,dG⟩
  .obtain rfl:k=l.length:=by omega
   have z2:decide ((l.length:Int)< (l.length:Int))=false:=dF (by omega);have hmf:L1.map (·.1)=fs:=by rw[Dz.out,List.take_of_length_le (by have:=nG.out;omega)]
   have hms:L2.map (·.1)=sn:=by rw[nI.out,List.take_of_length_le (by have:=jV.out;omega)]
   have HMF:=ah hmf;have HMS:=ah hms;have AV:Hid (Ext wr wr):=ah (aC.refl _ _);have oh:=HE;clear hmf hms Dz nI ahn yU Xc Fq HE hk;have HZ0:Hid (JY ov fs l.length (l.length-0) 0 none=some Z):=ah HZ.out;have HA0:Hid (F7 wr (.slice none 0 0) none):=ah rfl;clear HZ
   go_wp2_with fail
   obtain⟨n,hn⟩: ∃n,l.length=n:=⟨_,rfl⟩
   rw[hn] at Nb HL2 xM nG jV HZ0 LH HOV
   try rw[hn]
   clear z2 hn;generalize hwA:wr=wA at*;clear hwA
   go_loopg [12,57] n (fun gk YB iv wr=> ∃(i:Nat) (acc:Option Cp),iv= .int .i64 (i:Int)/\gk=n-i/\i<=n/\Hid (F7 wr YB acc)/\Hid (JY ov fs n (n-i) i acc=some Z)/\Hid (Ext wA wr))
   case atStart=>exact⟨0,none,rfl,rfl,Nat.zero_le _,HA0,HZ0,AV⟩
   case round=>
    clear HA0 HZ0 AV;obtain⟨i,acc,rfl,rfl,hi,uT,HZI,HE⟩:=hrel;have hnb:n<=100:=xM.out;by_cases ahu:i<n
    .have HRi:=ah (nH.out.ext HE.out);have hLi:i<L1.length:=by have:=Nb.out;omega
     obtain⟨g,off,hga,hat⟩:=HRi.out.at_ (by omega);subst hga;obtain⟨xa,xc,ya,yc,ex,ey,hs1,hs2,q0,q1,q2,q3,q4,q5⟩:=hat i hLi;have hfi:(eg L1 i).1=Go.Hw.rg fs i:=by rw[<-HMF.out];exact acd L1 i hLi
     have hfz:=LH.out i ahu;have hov:=HOV.out i;obtain⟨⟨⟨x,y⟩,ux,uy⟩,hxe⟩: ∃r,eg L1 i=r:=⟨_,rfl⟩
     rw[hxe] at ex ey hs1 hs2 q0 q1 q2 q3 q4 q5 hfi;dsimp only at ex ey hs1 hs2 q0 q1 q2 q3 q4 q5 hfi;have hzi:(JX ov i n (jo x []) acc).bind (JY ov fs n (n- (i+1)) (i+1))=some Z:=by
      have h:=HZI.out;rw[show n-i=(n- (i+1))+1 by omega] at h;unfold JY at h;rw[<-hfi] at h;exact h
     rw[<-hfi] at hfz;dsimp only at hfz;have ahv: ∀k p,k<n->p∈jo x []->¬(p.length=0/\k<=i)->JV (x,y) (Go.Hw.rg sn k) p (ov i p k):=fun k p hk hp hc=>by
      have h:=hov k p ahu hk (by rw[<-hfi];exact hp) hc;rw[<-hfi] at h;exact h
     have ahw:=ah ahv;have nJ:=ah hs1;have HS2:=ah hs2;have aas:=ah hzi;have hpl:=IG x [];have nS:Hid ((jo x []).length<=1000/\x.size<=1000):=ah ⟨by omega,hfz⟩;obtain⟨z0,z1,z2,z2'⟩:=bZ hLi;have hX:=(uR wr).alloc (.cells #[.string x.name,.string x.sort,.slice xa x.kids.length xc,.string y.name,.string y.sort,.slice ya y.kids.length yc] 146);have TA:=ah hX;have HEX:=ah (HE.out.trans hX);have jS:=ah (ay wr (.cells #[.string x.name,.string x.sort,.slice xa x.kids.length xc,.string y.name,.string y.sort,.slice ya y.kids.length yc] 146));have ahx:=ah (uT.out.ext hX);clear hat ex ey hs1 hs2 hfi hxe hov ahv hzi hfz hpl hX;obtain⟨x0,x1,x2,x3,x4,x5⟩:=fA jS.out
     go_wp2_with fail
     obtain⟨nbx,aat⟩: ∃m,wr.heap.size=m:=⟨_,rfl⟩
     rw[aat] at jS
     try rw[aat]
     clear aat q0 q1 q2 q3 q4 q5;have aau:=ah (nJ.out.ext TA.out);have ahy:=ah (HS2.out.ext TA.out);generalize wr.alloc (.cells #[.string x.name,.string x.sort,.slice xa x.kids.length xc,.string y.name,.string y.sort,.slice ya y.kids.length yc] 146)=w2 at*;have wY:=ah (adw x (.agg #[.string x.name,.string x.sort,.slice xa x.kids.length xc]) (.slice none 0 0) (fun k=>k<w2.heap.size) (fun _=>False) [] w2 ⟨xa,xc,rfl,Gv aau.out⟩ (aG.nil _ _ _) (fun k hk=>hk) (fun k hk=>hk.elim) (by have:=nS.out;omega) (by have:=nS.out;simp;omega));clear HRi nJ HS2 TA HE uT HZI x0 x1 x2 x3 x4 x5;refine wY.out.mono ?_;rintro e w3 ⟨pa,pc,rfl,hPs,hw3⟩;have aY:=ah (HEX.out.trans hw3);have alQ:=ah (hw3.heap jS.out (fun h=>h));have alR:=ah (aau.out.ext hw3);have alS:=ah (ahy.out.ext hw3);have ahz:=ah (ahx.out.ext hw3);have ahA:=ah hPs;have ahB:Hid (Ext w3 w3):=ah (aC.refl _ _);have ahC:=ah (QZ x []);obtain⟨PP,hPP⟩: ∃P,jo x []=P:=⟨_,rfl⟩
     rw[hPP] at ahA aas nS ahC ahw⊢;have HZP:Hid ((JX ov i n (PP.drop 0) acc).bind (JY ov fs n (n- (i+1)) (i+1))=some Z):=ah aas.out;clear hPs hw3 wY HEX jS aau ahy ahx hPP aas
     go_wp2_with fail
     have ahD:=ahz;clear ahz;generalize hK:JY ov fs n (n- (i+1)) (i+1)=Ki at*;have HKI:=ah hK;clear hK
     go_loopg [12,66] PP.length (fun gk YB iv wr=> ∃(j:Nat) (acc:Option Cp),iv= .int .i64 (j:Int)/\gk=PP.length-j/\j<=PP.length/\Hid (F7 wr YB acc)/\Hid ((JX ov i n (PP.drop j) acc).bind Ki=some Z)/\Hid (Ext w3 wr))
     case atStart=>exact⟨0,acc,rfl,rfl,Nat.zero_le _,ahD,HZP,ahB⟩
     case round=>
      clear ahD HZP ahB;obtain⟨j,acc,rfl,rfl,hj,uT,HZJ,DL⟩:=hrel;have hpb:PP.length<=1000:=nS.out.1;by_cases Lm:j<PP.length
      .have hPs:=ahA.out.ext DL.out;obtain⟨us,E8,hown,hint⟩:=hPs;obtain⟨g,off,cap,e,_,_,hjj⟩:=aG.pos (aG.fM hown) (by omega);injection e with e e2 e3
       subst e;subst e3;have jw:=hint j Lm;obtain⟨p,hp⟩: ∃p,PP.getD j []=p:=⟨_,rfl⟩
       have hpm:p∈PP:=by rw[<-hp,List.getD_eq_getElem?_getD,List.getElem?_eq_getElem Lm];exact List.getElem_mem Lm
       have hdp:PP.drop j=p::PP.drop (j+1):=by
        rw[List.drop_eq_getElem_cons Lm,<-hp,List.getD_eq_getElem?_getD,List.getElem?_eq_getElem Lm];rfl
       rw[hp] at jw;obtain⟨va,vc,hv⟩:=aG.shape jw;rw[hv] at jw;have q0:wr.cell? ⟨g,off+j,none⟩=some (.slice va p.length vc):=by
        rw[hjj j (by omega),<-hv];unfold ug;rw[List.getD_eq_getElem?_getD,List.getElem?_eq_getElem (by omega)];rfl
       have HPJ:=ah (jw.weaken (fun k hk=>(qU.lt hk.2:k<wr.heap.size)));have hzj:=HZJ.out;rw[hdp] at hzj;unfold JX at hzj;rw[Option.bind_assoc] at hzj;have alT:Hid (∀k,k<n->¬(p.length=0/\k<=i)->JV (x,y) (Go.Hw.rg sn k) p (ov i p k)):=ah (fun k hk hc=>ahw.out k p hk hpm hc);have an3:Hid (p.length<=1000):=ah (by have h1:=ahC.out p hpm;have h2:=nS.out.2;rw[List.length_nil] at h1;omega);obtain⟨z0,z1,z2,z2'⟩:=bZ Lm;have aav:=ah (aY.out.trans DL.out);have ahE:=ah (DL.out.heap alQ.out (fun h=>h));have alU:=ah (alR.out.ext DL.out);have alV:=ah (alS.out.ext DL.out);have ahF:Hid (Ext wr wr):=ah (aC.refl _ _);have ahG:=uT;clear jw hv hp hpm hdp hint E8 hown hjj uT HZJ e2;obtain⟨Kj,hKj⟩: ∃K:Option Cp->Option (Option Cp),(fun a=>(JX ov i n (PP.drop (j+1)) a).bind Ki)=K:=⟨_,rfl⟩
       have HKJ:=ah hKj;have Fg:Hid ((JW ov i p (n-0) 0 acc).bind Kj=some Z):=ah (by rw[<-hKj];exact hzj);clear hzj hKj
       go_wp2_with fail
       clear q0;generalize hwj:wr=wj at*;clear hwj
       go_loopg [12,72] n (fun gk YB iv wr=> ∃(k:Nat) (acc:Option Cp),iv= .int .i64 (k:Int)/\gk=n-k/\k<=n/\Hid (F7 wr YB acc)/\Hid ((JW ov i p (n-k) k acc).bind Kj=some Z)/\Hid (Ext wj wr))
       case atStart=>exact⟨0,acc,rfl,rfl,Nat.zero_le _,ahG,Fg,ahF⟩
       case round=>
        clear ahG Fg ahF;obtain⟨k,acc,rfl,rfl,hk,uT,Fg,G_⟩:=hrel;by_cases hltk:k<n
        .have HRk:=ah (nP.out.ext ((aav.out).trans G_.out));have hLk:k<L2.length:=by have:=HL2.out;omega
         obtain⟨g2,off2,BH,hat⟩:=HRk.out.at_ (by omega);subst BH;obtain⟨pa',pc',Q9,Q_,ep,eq,hp1,hq1,r0,r1,r2,r3,r4,r5⟩:=hat k hLk;have hfk:(eg L2 k).1=Go.Hw.rg sn k:=by rw[<-HMS.out];exact acd L2 k hLk
         obtain⟨⟨⟨p',q'⟩,up,uq⟩,hpe⟩: ∃r,eg L2 k=r:=⟨_,rfl⟩
         rw[hpe] at ep eq hp1 hq1 r0 r1 r2 r3 r4 r5 hfk;dsimp only at ep eq hp1 hq1 r0 r1 r2 r3 r4 r5 hfk;have YC:=Fg.out;rw[show n-k=(n- (k+1))+1 by omega] at YC;unfold JW at YC;rw[Option.bind_assoc] at YC;have VW:=ah YC;have HFK:=ah hfk;have hX:=(uR wr).alloc (.cells #[.string p'.name,.string p'.sort,.slice pa' p'.kids.length pc',.string q'.name,.string q'.sort,.slice Q9 q'.kids.length Q_] 146);have HXK:=ah hX;have C_:=ah (G_.out.trans hX);have HBK:=ah (ay wr (.cells #[.string p'.name,.string p'.sort,.slice pa' p'.kids.length pc',.string q'.name,.string q'.sort,.slice Q9 q'.kids.length Q_] 146));have HACK:=ah (uT.out.ext hX);have YA:=ah (hp1.ext hX);have Ns:=ah (hq1.ext hX);have ahI:=ah (C_.out.heap ahE.out (fun h=>h));have ahJ:=ah (alU.out.ext C_.out);have ahK:=ah (alV.out.ext C_.out);have HPK:=ah ((aG.kept HPJ.out C_.out (fun _ _ h=>h)).weaken (fun j hj=>(aF hj C_.out.size:j< (wr.alloc (.cells #[.string p'.name,.string p'.sort,.slice pa' p'.kids.length pc',.string q'.name,.string q'.sort,.slice Q9 q'.kids.length Q_] 146)).heap.size)));obtain⟨z0,z1,z2,z2'⟩:=bZ hLk;clear hat ep eq hp1 hq1 hfk hpe YC hX HRk uT Fg;by_cases hcc:p.length=0/\k<=i
         .have t1:((p.length:Int)==0)=true:=beq_iff_eq.2 (by omega);have t2:decide ((p.length:Int)=0)=true:=dT (by omega);have t3:decide ((k:Int)<=(i:Int))=true:=dT (by omega);have t4:decide (k<=i)=true:=dT hcc.2;have t5:(p.length==0)=true:=beq_iff_eq.2 hcc.1;have t6:decide (p.length=0)=true:=dT hcc.1;have hz2:(JW ov i p (n- (k+1)) (k+1) acc).bind Kj=some Z:=by
           have h:=VW.out;unfold Yy at h;rw[if_pos hcc] at h;exact h
          have HZ2:=ah hz2;clear hcc hz2
          go_wp2_with fail
          go_roundg (n- (k+1))
          case measure=>omega
          case rel=>exact⟨k+1,acc,by go_num,rfl,by omega,HACK,HZ2,C_⟩
         .have zF:=ah hcc;have hpk:((p.length:Int)==0)=false/\decide ((p.length:Int)=0)=false/\decide (p.length=0)=false/\(p.length==0)=false\/(((p.length:Int)==0)=true/\decide ((p.length:Int)=0)=true/\decide ((k:Int)<=(i:Int))=false/\decide (p.length=0)=true/\(p.length==0)=true/\decide (k<=i)=false):=by
           by_cases hp0:p.length=0
           .exact .inr ⟨beq_iff_eq.2 (by omega),dT (by omega),dF (fun h=>hcc ⟨hp0,by omega⟩),dT hp0,beq_iff_eq.2 hp0,dF (fun h=>hcc ⟨hp0,h⟩)⟩
           .exact .inl ⟨beq_eq_false_iff_ne.2 (by omega),dF (by omega),dF hp0,beq_eq_false_iff_ne.2 hp0⟩
          have aaw:=alT.out k hltk hcc;rw[<-HFK.out] at aaw;obtain⟨BP,ahM,ahN⟩:=YA.out;have VZ:=ah (aaw xa ya pa' Q9 xc yc pc' Q_ (.slice va p.length vc) BP _ (aS HTAB.out (oh.out.trans (aav.out.trans C_.out))) (Gv ahJ.out) (Gv ahK.out) ahM (fun j hj=>(ahN j hj).2.lt) (Gv Ns.out) (Oe HPK.out));clear aaw ahM ahN;obtain⟨nbk,V3⟩: ∃m,wr.heap.size=m:=⟨_,rfl⟩
          have an5:=ah V3;obtain⟨oo,hoo⟩: ∃o,ov i p k=o:=⟨_,rfl⟩
          have GR:=ah hoo;rw[hoo] at VZ;clear hoo hcc;have ahP:Hid ((wr.alloc (.cells #[.string p'.name,.string p'.sort,.slice pa' p'.kids.length pc',.string q'.name,.string q'.sort,.slice Q9 q'.kids.length Q_] 146)).heap[nbk]?=some (.cells #[.string p'.name,.string p'.sort,.slice pa' p'.kids.length pc',.string q'.name,.string q'.sort,.slice Q9 q'.kids.length Q_] 146 (0,0))):=ah (by rw[<-V3];exact HBK.out);obtain⟨x0,x1,x2,x3,x4,x5⟩:=fA ahI.out;obtain⟨y0,y1,y2,y3,y4,y5⟩:=fA ahP.out;rcases hpk with⟨t1,t2,t5,t6⟩|⟨t1,t2,t3,t5,t6,t4⟩
          all_goals
           go_upto_region 24 with fail
           try rw[V3]
           clear t1 t2 t5 t6
           try clear t3 t4
           generalize wr.alloc (.cells #[.string p'.name,.string p'.sort,.slice pa' p'.kids.length pc',.string q'.name,.string q'.sort,.slice Q9 q'.kids.length Q_] 146)=w5 at*;clear V3 r0 r1 r2 r3 r4 r5
           go_wp2_with fail
           refine VZ.out.mono ?_;rintro e w6 ⟨hov,hw6⟩;have fV:=ah (C_.out.trans hw6);have aax:=ah (HACK.out.ext hw6);clear x0 x1 x2 x3 x4 x5 y0 y1 y2 y3 y4 y5;cases oo with
           |none=>
            obtain rfl:=hov;have hX:=(uR w6).alloc (.cells #[.string ⟨#[]⟩,.string ⟨#[]⟩,.slice none 0 0,.string ⟨#[]⟩,.string ⟨#[]⟩,.slice none 0 0,.string ⟨#[]⟩,.string ⟨#[]⟩,.slice none 0 0,.int .i64 0,.int .i64 0,.slice none 0 0] 152);have iG:=ah (fV.out.trans hX);have alW:=ah (aax.out.ext hX);have hz2:(JW ov i p (n- (k+1)) (k+1) acc).bind Kj=some Z:=by
             have h:=VW.out;unfold Yy at h;rw[if_neg zF.out,GR.out] at h;exact h
            have HZ2:=ah hz2;clear hX hz2 hw6
            go_wp2_with fail
            go_roundg (n- (k+1))
            case measure=>omega
            case rel=>exact⟨k+1,acc,by go_num,rfl,by omega,alW,HZ2,iG⟩
           |some r=>
            obtain⟨ka,kc,za,zc,ra,rc,rfl,htk,htl,htr⟩:=hov;cases acc with
            |some c=>
             exfalso;have h:=VW.out;unfold Yy at h;rw[if_neg zF.out,GR.out] at h;cases h
            |none=>
             have hu:_=Value.slice none 0 0:=aax.out;subst hu;have hz2:(JW ov i p (n- (k+1)) (k+1) (some (r.1,r.2.1,r.2.2,i,k,p))).bind Kj=some Z:=by
              have h:=VW.out;unfold Yy at h;rw[if_neg zF.out,GR.out] at h;exact h
             have HZ2:=ah hz2;have aay:=ah ((aG.kept HPK.out hw6 (fun _ _ h=>h)).weaken (fun j hj=>(aF hj hw6.size:j<w6.heap.size)));have rJ:=ah htk;have dH:=ah htl;have t_:=ah htr;clear hz2 htk htl htr hw6 ahI HBK ahP HACK YA Ns ahJ ahK HPK VZ G_ C_ HXK ahE;obtain⟨nb7,Rf⟩: ∃m,w6.heap.size=m:=⟨_,rfl⟩
             rw[Rf] at aay rJ dH t_;have hX:=(uR w6).alloc (.cells #[.string r.1.name,.string r.1.sort,.slice ka r.1.kids.length kc,.string r.2.1.name,.string r.2.1.sort,.slice za r.2.1.kids.length zc,.string r.2.2.name,.string r.2.2.sort,.slice ra r.2.2.kids.length rc,.int .i64 (i:Int),.int .i64 (k:Int),.slice va p.length vc] 152);have dG:=ah (fV.out.trans hX);have alX:=ah (aG.kept aay.out hX (fun _ _ h=>h));have VU:=ah (rJ.out.ext hX);have alY:=ah (dH.out.ext hX);have alZ:=ah (t_.out.ext hX);have hb7:=ay w6 (.cells #[.string r.1.name,.string r.1.sort,.slice ka r.1.kids.length kc,.string r.2.1.name,.string r.2.1.sort,.slice za r.2.1.kids.length zc,.string r.2.2.name,.string r.2.2.sort,.slice ra r.2.2.kids.length rc,.int .i64 0,.int .i64 0,.slice va p.length vc] 152);rw[Rf] at hb7;have hb8:=ay w6 (.cells #[.string r.1.name,.string r.1.sort,.slice ka r.1.kids.length kc,.string r.2.1.name,.string r.2.1.sort,.slice za r.2.1.kids.length zc,.string r.2.2.name,.string r.2.2.sort,.slice ra r.2.2.kids.length rc,.int .i64 (i:Int),.int .i64 (k:Int),.slice va p.length vc] 152);rw[Rf] at hb8;have kJ:=ah hb8;clear hX fV aay rJ dH t_ aax hb8;obtain⟨c0,c1,c2,c3,c4,c5,c6,c7,c8,c9,c10,c11⟩:=jH hb7;have f2:=fun i=>aA hb7 i
             go_upto_region 29 with fail
             try rw[Rf]
             clear Rf hb7 c0 c1 c2 c3 c4 c5 c6 c7 c8 c9 c10 c11 f2;generalize w6.alloc (.cells #[.string r.1.name,.string r.1.sort,.slice ka r.1.kids.length kc,.string r.2.1.name,.string r.2.1.sort,.slice za r.2.1.kids.length zc,.string r.2.2.name,.string r.2.2.sort,.slice ra r.2.2.kids.length rc,.int .i64 (i:Int),.int .i64 (k:Int),.slice va p.length vc] 152)=w8 at*;have hb8:=kJ.out;have hA9:=(uR w8).alloc (.cells #[.string r.1.name,.string r.1.sort,.slice ka r.1.kids.length kc,.string r.2.1.name,.string r.2.1.sort,.slice za r.2.1.kids.length zc,.string r.2.2.name,.string r.2.2.sort,.slice ra r.2.2.kids.length rc,.int .i64 (i:Int),.int .i64 (k:Int),.slice va p.length vc] 152);have V4:Hid (nb7<w8.heap.size):=ah (Array.getElem?_eq_some_iff.1 hb8).1;have al0:Hid (w.heap.size<=(w8.alloc (.cells #[.string r.1.name,.string r.1.sort,.slice ka r.1.kids.length kc,.string r.2.1.name,.string r.2.1.sort,.slice za r.2.1.kids.length zc,.string r.2.2.name,.string r.2.2.sort,.slice ra r.2.2.kids.length rc,.int .i64 (i:Int),.int .i64 (k:Int),.slice va p.length vc] 152)).heap.size):=ah (Nat.le_trans oh.out.size (Nat.le_trans aav.out.size (Nat.le_trans dG.out.size hA9.size)));have yU:Hid (aG (fun _=>True) (w8.alloc (.cells #[.string r.1.name,.string r.1.sort,.slice ka r.1.kids.length kc,.string r.2.1.name,.string r.2.1.sort,.slice za r.2.1.kids.length zc,.string r.2.2.name,.string r.2.2.sort,.slice ra r.2.2.kids.length rc,.int .i64 (i:Int),.int .i64 (k:Int),.slice va p.length vc] 152)) 12 (.slice (some ⟨w8.heap.size,0,none⟩) 1 1) 1 [Value.string r.1.name,.string r.1.sort,.slice ka r.1.kids.length kc,.string r.2.1.name,.string r.2.1.sort,.slice za r.2.1.kids.length zc,.string r.2.2.name,.string r.2.2.sort,.slice ra r.2.2.kids.length rc,.int .i64 (i:Int),.int .i64 (k:Int),.slice va p.length vc]):=ah (aG.weaken (aG.fM (World.ownsRow_lit (base:=w8.heap.size) (e:=152) (size:=12) w8 #[.string r.1.name,.string r.1.sort,.slice ka r.1.kids.length kc,.string r.2.1.name,.string r.2.1.sort,.slice za r.2.1.kids.length zc,.string r.2.2.name,.string r.2.2.sort,.slice ra r.2.2.kids.length rc,.int .i64 (i:Int),.int .i64 (k:Int),.slice va p.length vc] 1 (Nat.le_refl _) (by unfold maxLen;omega) (by simp))) (fun _ _=>trivial));have kF:Hid (∀u∈[Value.string r.1.name,.string r.1.sort,.slice ka r.1.kids.length kc,.string r.2.1.name,.string r.2.1.sort,.slice za r.2.1.kids.length zc,.string r.2.2.name,.string r.2.2.sort,.slice ra r.2.2.kids.length rc,.int .i64 (i:Int),.int .i64 (k:Int),.slice va p.length vc],u.oneCell'=true):=ah (fun u hu=>by simp at hu;rcases hu with h|h|h|h|h|h|h|h|h|h|h|h<;>(subst h;rfl));obtain⟨iC,hi0,hz0,hz1',hz2'⟩:=info_parts ahk;obtain⟨c0,c1,c2,c3,c4,c5,c6,c7,c8,c9,c10,c11⟩:=jH hb8;clear kJ
             go_wp2_with(at_builtin;refine ji _ rfl (.tmp 105) (.tmp 107) 147 rfl w.heap.size 152 iC (.agg #[.string ⟨#[]⟩,.string ⟨#[]⟩,.slice none 0 0,.string ⟨#[]⟩,.string ⟨#[]⟩,.slice none 0 0,.string ⟨#[]⟩,.string ⟨#[]⟩,.slice none 0 0,.int .i64 0,.int .i64 0,.slice none 0 0]) 12 208 Tryz.underlying147 hi0 hz0 hz1' hz2' rfl (by decide) (.slice none 0 0) 0 [] rfl (World.ownsRow_nil _ _ _ _) (fun _=>True) (.slice (some ⟨w8.heap.size,0,none⟩) 1 1) 1 [Value.string r.1.name,.string r.1.sort,.slice ka r.1.kids.length kc,.string r.2.1.name,.string r.2.1.sort,.slice za r.2.1.kids.length zc,.string r.2.2.name,.string r.2.2.sort,.slice ra r.2.2.kids.length rc,.int .i64 (i:Int),.int .i64 (k:Int),.slice va p.length vc] rfl yU.out kF.out ?c3 ?c4 al0.out ?_)
             case c3=>unfold maxLen;omega
             case c4=>omega
             intro v9 w9 hG9;obtain⟨g9,c9',an7,hv9,_,_⟩:=qE hG9.own (by omega);subst hv9;have Nw:Ext (w8.alloc (.cells #[.string r.1.name,.string r.1.sort,.slice ka r.1.kids.length kc,.string r.2.1.name,.string r.2.1.sort,.slice za r.2.1.kids.length zc,.string r.2.2.name,.string r.2.2.sort,.slice ra r.2.2.kids.length rc,.int .i64 (i:Int),.int .i64 (k:Int),.slice va p.length vc] 152)) w9:=hG9.upd.mono (fun j _ e=>by cases e);have Ap:=hA9.trans Nw;have jg:=ah (dG.out.trans Ap);have al1:Hid (F7 w9 (.slice (some ⟨g9,0,none⟩) (0+1) c9') (some (r.1,r.2.1,r.2.2,i,k,p))):=ah ⟨g9,c9',ka,kc,za,zc,ra,rc,va,vc,rfl,fun j u hj=>by
              have al2:j< (0+1)*12:=(List.getElem?_eq_some_iff.1 hj).1;have h:=World.ownsRow.cellAt hG9.own j al2;exact h.trans hj,(VU.out.ext Ap).weaken (fun j hj=>by have:=V4.out;have:=Ap.size;omega),(alY.out.ext Ap).weaken (fun j hj=>by have:=V4.out;have:=Ap.size;omega),(alZ.out.ext Ap).weaken (fun j hj=>by have:=V4.out;have:=Ap.size;omega),(aG.kept alX.out Ap (fun _ _ h=>h)).weaken (fun j hj=>by have:=V4.out;have:=Ap.size;omega)⟩
             clear hb8 hA9 Nw Ap hG9 c0 c1 c2 c3 c4 c5 c6 c7 c8 c9 c10 c11 hi0 hz0 hz1' hz2'
             go_wp2_with fail
             go_roundg (n- (k+1))
             case measure=>omega
             case rel=>exact⟨k+1,some (r.1,r.2.1,r.2.2,i,k,p),by go_num,rfl,by omega,al1,HZ2,jg⟩
        .have z2:decide ((k:Int)< (L2.length:Int))=false:=dF (by have:=HL2.out;omega);have z2':decide (k<L2.length)=false:=dF (by have:=HL2.out;omega);have hz:=Fg.out;rw[show n-k=0 by omega] at hz;unfold JW at hz;have hz:Kj acc=some Z:=hz;rw[<-HKJ.out] at hz;have HZ2:Hid ((JX ov i n (PP.drop (j+1)) acc).bind Ki=some Z):=ah hz;have HE2:=ah (DL.out.trans G_.out);clear hz Fg
         go_wp2_with fail
         go_roundg (PP.length- (j+1))
         case measure=>omega
         case rel=>exact⟨j+1,acc,by go_num,rfl,by omega,uT,HZ2,HE2⟩
      .have z2:decide ((j:Int)< (PP.length:Int))=false:=dF (by omega);have z2':decide (j<PP.length)=false:=dF (by omega);have hz:=HZJ.out;rw[List.drop_of_length_le (by omega)] at hz;unfold JX at hz;have hz:Ki acc=some Z:=hz;rw[<-HKI.out] at hz;have HZ2:=ah hz;have HE2:=ah (aY.out.trans DL.out);clear hz HZJ
       go_wp2_with fail
       go_roundg (n- (i+1))
       case measure=>omega
       case rel=>exact⟨i+1,acc,by go_num,rfl,by omega,uT,HZ2,HE2⟩
    .have z2:decide ((i:Int)< (L1.length:Int))=false:=dF (by have:=Nb.out;omega);have z2':decide (i<L1.length)=false:=dF (by have:=Nb.out;omega);have hz:=HZI.out;rw[show n-i=0 by omega] at hz;unfold JY at hz;injection hz with hz
     subst hz;clear HZI
     go_wp2_with fail
     go_ret2
     exact⟨_,rfl,uT.out,oh.out.trans HE.out⟩
end
section
open Go.Sort Go.Proofs Go.ChangeMaps
theorem V5 (pk lf rt:Tm) (i k:Int) (p:List Int) (ka1 NC ND Rh NG NH NI qa2:Option Addr) (NJ NK NM qc1 NP NQ NR qc2:Nat) (w:World) (h1:aI (fun k=>k<w.heap.size) w pk.kids (.slice ka1 pk.kids.length NJ)) (h2:aI (fun k=>k<w.heap.size) w lf.kids (.slice NC lf.kids.length NK)) (h3:aI (fun k=>k<w.heap.size) w rt.kids (.slice ND rt.kids.length NM)) (h4:rV (fun k=>k<w.heap.size) w (.slice Rh p.length qc1) p) (g1:aI (fun k=>k<w.heap.size) w pk.kids (.slice NG pk.kids.length NP)) (g2:aI (fun k=>k<w.heap.size) w lf.kids (.slice NH lf.kids.length NQ)) (g3:aI (fun k=>k<w.heap.size) w rt.kids (.slice NI rt.kids.length NR)) (g4:rV (fun k=>k<w.heap.size) w (.slice qa2 p.length qc2) p) (hs:pk.size<=1000/\lf.size<=1000/\rt.size<=1000/\p.length<=1000):
  Calls Tryz.prog 105 #[.agg #[.string pk.name,.string pk.sort,.slice ka1 pk.kids.length NJ,.string lf.name,.string lf.sort,.slice NC lf.kids.length NK,.string rt.name,.string rt.sort,.slice ND rt.kids.length NM,.int .i64 i,.int .i64 k,.slice Rh p.length qc1],.agg #[.string pk.name,.string pk.sort,.slice NG pk.kids.length NP,.string lf.name,.string lf.sort,.slice NH lf.kids.length NQ,.string rt.name,.string rt.sort,.slice NI rt.kids.length NR,.int .i64 i,.int .i64 k,.slice qa2 p.length qc2]] w fun e w'=>e= .returned (.bool true)/\Ext w w':=by
 have nJ:=ah (fun W (hW:Ext w W)=>yG pk pk (tV pk (.slice ka1 pk.kids.length NJ)) (tV pk (.slice NG pk.kids.length NP)) _ _ W ⟨ka1,NJ,rfl,h1.ext hW⟩ ⟨NG,NP,rfl,g1.ext hW⟩ (by omega));have HS2:=ah (fun W (hW:Ext w W)=>yG lf lf (tV lf (.slice NC lf.kids.length NK)) (tV lf (.slice NH lf.kids.length NQ)) _ _ W ⟨NC,NK,rfl,h2.ext hW⟩ ⟨NH,NQ,rfl,g2.ext hW⟩ (by omega));have fU:=ah (fun W (hW:Ext w W)=>yG rt rt (tV rt (.slice ND rt.kids.length NM)) (tV rt (.slice NI rt.kids.length NR)) _ _ W ⟨ND,NM,rfl,h3.ext hW⟩ ⟨NI,NR,rfl,g3.ext hW⟩ (by omega));have gW:=ah (fun W (hW:Ext w W)=>Yc p p (.slice Rh p.length qc1) (.slice qa2 p.length qc2) _ _ W (aG.kept h4 hW (fun _ _ h=>h)) (aG.kept g4 hW (fun _ _ h=>h)) (by omega));have hE:=((uR w).alloc (.cells #[.string pk.name,.string pk.sort,.slice ka1 pk.kids.length NJ,.string lf.name,.string lf.sort,.slice NC lf.kids.length NK,.string rt.name,.string rt.sort,.slice ND rt.kids.length NM,.int .i64 i,.int .i64 k,.slice Rh p.length qc1] 152)).alloc (.cells #[.string pk.name,.string pk.sort,.slice NG pk.kids.length NP,.string lf.name,.string lf.sort,.slice NH lf.kids.length NQ,.string rt.name,.string rt.sort,.slice NI rt.kids.length NR,.int .i64 i,.int .i64 k,.slice qa2 p.length qc2] 152);have pq:=ah hE;have HA1:=ah (aB (ay w (.cells #[.string pk.name,.string pk.sort,.slice ka1 pk.kids.length NJ,.string lf.name,.string lf.sort,.slice NC lf.kids.length NK,.string rt.name,.string rt.sort,.slice ND rt.kids.length NM,.int .i64 i,.int .i64 k,.slice Rh p.length qc1] 152)) (.cells #[.string pk.name,.string pk.sort,.slice NG pk.kids.length NP,.string lf.name,.string lf.sort,.slice NH lf.kids.length NQ,.string rt.name,.string rt.sort,.slice NI rt.kids.length NR,.int .i64 i,.int .i64 k,.slice qa2 p.length qc2] 152));have HB1:=ah (alloc_at (w.alloc (.cells #[.string pk.name,.string pk.sort,.slice ka1 pk.kids.length NJ,.string lf.name,.string lf.sort,.slice NC lf.kids.length NK,.string rt.name,.string rt.sort,.slice ND rt.kids.length NM,.int .i64 i,.int .i64 k,.slice Rh p.length qc1] 152)) (.cells #[.string pk.name,.string pk.sort,.slice NG pk.kids.length NP,.string lf.name,.string lf.sort,.slice NH lf.kids.length NQ,.string rt.name,.string rt.sort,.slice NI rt.kids.length NR,.int .i64 i,.int .i64 k,.slice qa2 p.length qc2] 152) (n:=w.heap.size+1) (by simp));dsimp only[tV] at nJ HS2 fU;have t1:(i==i)=true:=beq_self_eq_true _;have t2:decide (i=i)=true:=dT rfl;have t3:(k==k)=true:=beq_self_eq_true _;have t4:decide (k=k)=true:=dT rfl;clear hE h1 h2 h3 h4 g1 g2 g3 g4 hs;obtain⟨x0,x1,x2,x3,x4,x5,x6,x7,x8,x9,x10,x11⟩:=jH HA1.out;obtain⟨y0,y1,y2,y3,y4,y5,y6,y7,y8,y9,Ut,Uu⟩:=jH HB1.out
 go_enter Tryz.func105,Tryz.ntmps105
 go_wp2_with fail
 generalize (w.alloc (.cells #[.string pk.name,.string pk.sort,.slice ka1 pk.kids.length NJ,.string lf.name,.string lf.sort,.slice NC lf.kids.length NK,.string rt.name,.string rt.sort,.slice ND rt.kids.length NM,.int .i64 i,.int .i64 k,.slice Rh p.length qc1] 152)).alloc (.cells #[.string pk.name,.string pk.sort,.slice NG pk.kids.length NP,.string lf.name,.string lf.sort,.slice NH lf.kids.length NQ,.string rt.name,.string rt.sort,.slice NI rt.kids.length NR,.int .i64 i,.int .i64 k,.slice qa2 p.length qc2] 152)=w1 at*;refine(nJ.out _ pq.out).mono ?_;rintro e w2 ⟨he,hw⟩;obtain rfl:e= .returned (.bool true):=by simpa using he
 have HE2:=ah (pq.out.trans hw);have HA2:=ah (hw.heap HA1.out (fun h=>h));have HB2:=ah (hw.heap HB1.out (fun h=>h));clear hw nJ pq HA1 HB1 x0 y0 x1 y1 x2 y2 x3 y3 x4 y4 x5 y5 x6 y6 x7 y7 x8 y8 x9 y9 x10 Ut x11 Uu;obtain⟨x0,x1,x2,x3,x4,x5,x6,x7,x8,x9,x10,x11⟩:=jH HA2.out;obtain⟨y0,y1,y2,y3,y4,y5,y6,y7,y8,y9,Ut,Uu⟩:=jH HB2.out
 go_wp2_with fail
 refine(HS2.out _ HE2.out).mono ?_;rintro e w3 ⟨he,hw⟩;obtain rfl:e= .returned (.bool true):=by simpa using he
 have aY:=ah (HE2.out.trans hw);have HA3:=ah (hw.heap HA2.out (fun h=>h));have HB3:=ah (hw.heap HB2.out (fun h=>h));clear hw HS2 HE2 HA2 HB2 x0 y0 x1 y1 x2 y2 x3 y3 x4 y4 x5 y5 x6 y6 x7 y7 x8 y8 x9 y9 x10 Ut x11 Uu;obtain⟨x0,x1,x2,x3,x4,x5,x6,x7,x8,x9,x10,x11⟩:=jH HA3.out;obtain⟨y0,y1,y2,y3,y4,y5,y6,y7,y8,y9,Ut,Uu⟩:=jH HB3.out
 go_wp2_with fail
 refine(fU.out _ aY.out).mono ?_;rintro e w4 ⟨he,hw⟩;obtain rfl:e= .returned (.bool true):=by simpa using he
 have bW:=ah (aY.out.trans hw);have HA4:=ah (hw.heap HA3.out (fun h=>h));have HB4:=ah (hw.heap HB3.out (fun h=>h));clear hw fU aY HA3 HB3 x0 y0 x1 y1 x2 y2 x3 y3 x4 y4 x5 y5 x6 y6 x7 y7 x8 y8 x9 y9 x10 Ut x11 Uu;obtain⟨x0,x1,x2,x3,x4,x5,x6,x7,x8,x9,x10,x11⟩:=jH HA4.out;obtain⟨y0,y1,y2,y3,y4,y5,y6,y7,y8,y9,Ut,Uu⟩:=jH HB4.out
 go_wp2_with fail
 refine(gW.out _ bW.out).mono ?_;rintro e w5 ⟨he,hw⟩;obtain rfl:e= .returned (.bool true):=by simpa using he
 have dA:=ah (bW.out.trans hw)
 go_wp2_with fail
 go_ret;exact⟨rfl,dA.out⟩
theorem l9 (n:By) (a:Option Addr) (m c:Nat) (w:World):Calls Tryz.prog 102 #[.string n,.slice a m c] w fun e w'=>e= .returned (.agg #[.string n,.string ⟨#[]⟩,.slice a m c])/\Ext w w':=by
 have hb:=ay w (.cells #[.string n,.string ⟨#[]⟩,.slice a m c] 24);have hE:=(uR w).alloc (.cells #[.string n,.string ⟨#[]⟩,.slice a m c] 24)
 go_enter Tryz.func102,Tryz.ntmps102
 go_wp2_with fail
 obtain⟨e0,e1,e2⟩:=ak hb;exact bodyPost_ret (v:= .agg #[.string n,.string ⟨#[]⟩,.slice a m c]) (by simp[results,Tryz.results102,go_sem,e0,e1,e2]) rfl ⟨rfl,hE⟩
theorem Gw (n:By) (w:World):Calls Tryz.prog 103 #[.string n] w fun e w'=>e= .returned (.agg #[.string n,.string ⟨#[110,97,116]⟩,.slice none 0 0])/\Ext w w':=by
 have hb:=ay w (.cells #[.string n,.string ⟨#[110,97,116]⟩,.slice none 0 0] 24);have hE:=(uR w).alloc (.cells #[.string n,.string ⟨#[110,97,116]⟩,.slice none 0 0] 24)
 go_enter Tryz.func103,Tryz.ntmps103
 go_wp2_with fail
 obtain⟨e0,e1,e2⟩:=ak hb;exact bodyPost_ret (v:= .agg #[.string n,.string ⟨#[110,97,116]⟩,.slice none 0 0]) (by simp[results,Tryz.results103,go_sem,e0,e1,e2]) rfl ⟨rfl,hE⟩
theorem mF {S:Nat->Prop} {W:World} {n te:Nat} {fz:Nat×Nat} {a:Tm} {ua:Value} (h:W.heap[n]?=some (.cells #[.string a.name,.string a.sort,ua] te fz)) (hn:S n) (ha:aI S W a.kids ua):aI S W [a] (.slice (some ⟨n,0,none⟩) 1 1):=by
 refine .mk _ [ua] _ rfl ?_ (fun i hi=>?_)
 .refine aG.mk' rfl rfl (Nat.le_refl _) (fun _=>hn) (fun j hj=>?_);have hj3:j<3:=hj;rw[Nat.zero_add,cell_of_row W n j _ _ _ h];rcases(by omega:j=0\/j=1\/j=2) with rfl|rfl|rfl<;>rfl
 .obtain rfl:i=0:=by simpa using hi
  exact ha
theorem yA {S:Nat->Prop} {W:World} {n te:Nat} {fz:Nat×Nat} {a b:Tm} {ua ub:Value} (h:W.heap[n]?=some (.cells #[.string a.name,.string a.sort,ua,.string b.name,.string b.sort,ub] te fz)) (hn:S n) (ha:aI S W a.kids ua) (hb:aI S W b.kids ub):aI S W [a,b] (.slice (some ⟨n,0,none⟩) 2 2):=by
 refine .mk _ [ua,ub] _ rfl ?_ (fun i hi=>?_)
 .refine aG.mk' rfl rfl (Nat.le_refl _) (fun _=>hn) (fun j hj=>?_);have hj3:j<6:=hj;rw[Nat.zero_add,cell_of_row W n j _ _ _ h];rcases(by omega:j=0\/j=1\/j=2\/j=3\/j=4\/j=5) with rfl|rfl|rfl|rfl|rfl|rfl<;>rfl
 .have hi2:i<2:=hi;rcases(by omega:i=0\/i=1) with rfl|rfl
  .exact ha
  .exact hb
theorem adB {S:Nat->Prop} {W:World} {n te:Nat} {fz:Nat×Nat} {a b c d:Tm} {ua ub uc ud:Value} (h:W.heap[n]?=some (.cells #[.string a.name,.string a.sort,ua,.string b.name,.string b.sort,ub,.string c.name,.string c.sort,uc,.string d.name,.string d.sort,ud] te fz)) (hn:S n) (ha:aI S W a.kids ua) (hb:aI S W b.kids ub) (hc:aI S W c.kids uc) (hd:aI S W d.kids ud):aI S W [a,b,c,d] (.slice (some ⟨n,0,none⟩) 4 4):=by
 refine .mk _ [ua,ub,uc,ud] _ rfl ?_ (fun i hi=>?_)
 .refine aG.mk' rfl rfl (Nat.le_refl _) (fun _=>hn) (fun j hj=>?_);have hj3:j<12:=hj;rw[Nat.zero_add,cell_of_row W n j _ _ _ h];rcases(by omega:j=0\/j=1\/j=2\/j=3\/j=4\/j=5\/j=6\/j=7\/j=8\/j=9\/j=10\/j=11) with rfl|rfl|rfl|rfl|rfl|rfl|rfl|rfl|rfl|rfl|rfl|rfl<;>rfl
 .have hi2:i<4:=hi;rcases(by omega:i=0\/i=1\/i=2\/i=3) with rfl|rfl|rfl|rfl
  .exact ha
  .exact hb
  .exact hc
  .exact hd
abbrev nN:List Rl:=[((.mk ⟨#[112,108,117,115]⟩ au [(.mk ⟨#[122,101,114,111]⟩ au []),(.mk ⟨#[78]⟩ ⟨#[110,97,116]⟩ [])]),(.mk ⟨#[78]⟩ ⟨#[110,97,116]⟩ [])),((.mk ⟨#[112,108,117,115]⟩ au [(.mk ⟨#[115]⟩ au [(.mk ⟨#[78]⟩ ⟨#[110,97,116]⟩ [])]),(.mk ⟨#[77]⟩ ⟨#[110,97,116]⟩ [])]),(.mk ⟨#[115]⟩ au [(.mk ⟨#[112,108,117,115]⟩ au [(.mk ⟨#[78]⟩ ⟨#[110,97,116]⟩ []),(.mk ⟨#[77]⟩ ⟨#[110,97,116]⟩ [])])]))]
abbrev J3:List Rl:=[((.mk ⟨#[112,108,117,115]⟩ au [(.mk ⟨#[122,101,114,111]⟩ au []),(.mk ⟨#[78,95,49]⟩ ⟨#[110,97,116]⟩ [])]),(.mk ⟨#[78,95,49]⟩ ⟨#[110,97,116]⟩ [])),((.mk ⟨#[112,108,117,115]⟩ au [(.mk ⟨#[115]⟩ au [(.mk ⟨#[78,95,49]⟩ ⟨#[110,97,116]⟩ [])]),(.mk ⟨#[77,95,49]⟩ ⟨#[110,97,116]⟩ [])]),(.mk ⟨#[115]⟩ au [(.mk ⟨#[112,108,117,115]⟩ au [(.mk ⟨#[78,95,49]⟩ ⟨#[110,97,116]⟩ []),(.mk ⟨#[77,95,49]⟩ ⟨#[110,97,116]⟩ [])])]))]
abbrev V6:List Rl:=[((.mk ⟨#[112,108,117,115]⟩ au [(.mk ⟨#[122,101,114,111]⟩ au []),(.mk ⟨#[78,95,50]⟩ ⟨#[110,97,116]⟩ [])]),(.mk ⟨#[78,95,50]⟩ ⟨#[110,97,116]⟩ [])),((.mk ⟨#[112,108,117,115]⟩ au [(.mk ⟨#[115]⟩ au [(.mk ⟨#[78,95,50]⟩ ⟨#[110,97,116]⟩ [])]),(.mk ⟨#[77,95,50]⟩ ⟨#[110,97,116]⟩ [])]),(.mk ⟨#[115]⟩ au [(.mk ⟨#[112,108,117,115]⟩ au [(.mk ⟨#[78,95,50]⟩ ⟨#[110,97,116]⟩ []),(.mk ⟨#[77,95,50]⟩ ⟨#[110,97,116]⟩ [])])]))]
abbrev Ri:List Rl:=[((.mk ⟨#[102]⟩ au [(.mk ⟨#[102]⟩ au [(.mk ⟨#[88]⟩ ⟨#[97]⟩ [])])]),(.mk ⟨#[103]⟩ au [(.mk ⟨#[88]⟩ ⟨#[97]⟩ [])]))]
abbrev ffF:List Rl:=[((.mk ⟨#[102]⟩ au [(.mk ⟨#[102]⟩ au [(.mk ⟨#[88,95,49]⟩ ⟨#[97]⟩ [])])]),(.mk ⟨#[103]⟩ au [(.mk ⟨#[88,95,49]⟩ ⟨#[97]⟩ [])]))]
abbrev ffS:List Rl:=[((.mk ⟨#[102]⟩ au [(.mk ⟨#[102]⟩ au [(.mk ⟨#[88,95,50]⟩ ⟨#[97]⟩ [])])]),(.mk ⟨#[103]⟩ au [(.mk ⟨#[88,95,50]⟩ ⟨#[97]⟩ [])]))]
abbrev Rj:Tm:=(.mk ⟨#[115]⟩ au [(.mk ⟨#[122,101,114,111]⟩ au [])])
abbrev sumT:Tm:=(.mk ⟨#[112,108,117,115]⟩ au [(.mk ⟨#[115]⟩ au [(.mk ⟨#[122,101,114,111]⟩ au [])]),(.mk ⟨#[122,101,114,111]⟩ au [])])
abbrev J4:Tm:=(.mk ⟨#[102]⟩ au [(.mk ⟨#[102]⟩ au [(.mk ⟨#[102]⟩ au [(.mk ⟨#[88,95,50]⟩ ⟨#[97]⟩ [])])])])
abbrev J5:Tm:=(.mk ⟨#[102]⟩ au [(.mk ⟨#[103]⟩ au [(.mk ⟨#[88,95,50]⟩ ⟨#[97]⟩ [])])])
abbrev J6:Tm:=(.mk ⟨#[103]⟩ au [(.mk ⟨#[102]⟩ au [(.mk ⟨#[88,95,50]⟩ ⟨#[97]⟩ [])])])
theorem V7:dX nN=true:=by decide+kernel
theorem aaz:dX Ri=true:=by decide+kernel
theorem YD:((stepG nN sumT).2==((1,[]),0))=true:=by decide+kernel
theorem aaA:((ny nN sumT 9).1==Rj&&(ny nN sumT 9).2.1.length==2&&(ny nN sumT 9).2.2==0)=true:=by decide+kernel
theorem Rk:jo (Go.Hw.rg J3 0).1 []=[[],[0]]/\jo (Go.Hw.rg J3 1).1 []=[[],[0]]/\jo (Go.Hw.rg ffF 0).1 []=[[],[0]]:=by decide+kernel
theorem aaB: ∀i,i<2->rU ⟨#[95,49]⟩ (Go.Hw.rg nN i).1=((Go.Hw.rg J3 i).1,0)/\rU ⟨#[95,49]⟩ (Go.Hw.rg nN i).2=((Go.Hw.rg J3 i).2,0)/\rU ⟨#[95,50]⟩ (Go.Hw.rg nN i).1=((Go.Hw.rg V6 i).1,0)/\rU ⟨#[95,50]⟩ (Go.Hw.rg nN i).2=((Go.Hw.rg V6 i).2,0):=fun i hi=>by
 rcases(by omega:i=0\/i=1) with rfl|rfl<;>exact⟨by decide+kernel,by decide+kernel,by decide+kernel,by decide+kernel⟩
theorem ahT: ∀i,i<1->rU ⟨#[95,49]⟩ (Go.Hw.rg Ri i).1=((Go.Hw.rg ffF i).1,0)/\rU ⟨#[95,49]⟩ (Go.Hw.rg Ri i).2=((Go.Hw.rg ffF i).2,0)/\rU ⟨#[95,50]⟩ (Go.Hw.rg Ri i).1=((Go.Hw.rg ffS i).1,0)/\rU ⟨#[95,50]⟩ (Go.Hw.rg Ri i).2=((Go.Hw.rg ffS i).2,0):=fun i hi=>by
 obtain rfl:i=0:=by omega
 exact⟨by decide+kernel,by decide+kernel,by decide+kernel,by decide+kernel⟩
theorem ahU:JV ((.mk ⟨#[112,108,117,115]⟩ au [(.mk ⟨#[122,101,114,111]⟩ au []),(.mk ⟨#[78,95,49]⟩ ⟨#[110,97,116]⟩ [])]),(.mk ⟨#[78,95,49]⟩ ⟨#[110,97,116]⟩ [])) ((.mk ⟨#[112,108,117,115]⟩ au [(.mk ⟨#[115]⟩ au [(.mk ⟨#[78,95,50]⟩ ⟨#[110,97,116]⟩ [])]),(.mk ⟨#[77,95,50]⟩ ⟨#[110,97,116]⟩ [])]),(.mk ⟨#[115]⟩ au [(.mk ⟨#[112,108,117,115]⟩ au [(.mk ⟨#[78,95,50]⟩ ⟨#[110,97,116]⟩ []),(.mk ⟨#[77,95,50]⟩ ⟨#[110,97,116]⟩ [])])])) [] none:=fun xa ya pa qa xc yc pc qc pv B2 W htab hx hy hp hB2 hq hpv=>
 F5 (.mk ⟨#[112,108,117,115]⟩ au [(.mk ⟨#[122,101,114,111]⟩ au []),(.mk ⟨#[78,95,49]⟩ ⟨#[110,97,116]⟩ [])]) (.mk ⟨#[78,95,49]⟩ ⟨#[110,97,116]⟩ []) (.mk ⟨#[112,108,117,115]⟩ au [(.mk ⟨#[115]⟩ au [(.mk ⟨#[78,95,50]⟩ ⟨#[110,97,116]⟩ [])]),(.mk ⟨#[77,95,50]⟩ ⟨#[110,97,116]⟩ [])]) (.mk ⟨#[115]⟩ au [(.mk ⟨#[112,108,117,115]⟩ au [(.mk ⟨#[78,95,50]⟩ ⟨#[110,97,116]⟩ []),(.mk ⟨#[77,95,50]⟩ ⟨#[110,97,116]⟩ [])])]) Ah xa ya pa qa xc yc pc qc _ pv B2 W htab hx hy hp hB2 hq hpv (by decide) (by decide) (by decide) (by decide) (by decide+kernel) (fun W' hW B1 DK va vb h1 h2 hd l1 l2 ht=>aiM W' ht B1 DK va vb h1 h2 hd l1 l2)
theorem ahV:JV ((.mk ⟨#[112,108,117,115]⟩ au [(.mk ⟨#[122,101,114,111]⟩ au []),(.mk ⟨#[78,95,49]⟩ ⟨#[110,97,116]⟩ [])]),(.mk ⟨#[78,95,49]⟩ ⟨#[110,97,116]⟩ [])) ((.mk ⟨#[112,108,117,115]⟩ au [(.mk ⟨#[122,101,114,111]⟩ au []),(.mk ⟨#[78,95,50]⟩ ⟨#[110,97,116]⟩ [])]),(.mk ⟨#[78,95,50]⟩ ⟨#[110,97,116]⟩ [])) [0] none:=fun xa ya pa qa xc yc pc qc pv B2 W htab hx hy hp hB2 hq hpv=>
 F5 (.mk ⟨#[112,108,117,115]⟩ au [(.mk ⟨#[122,101,114,111]⟩ au []),(.mk ⟨#[78,95,49]⟩ ⟨#[110,97,116]⟩ [])]) (.mk ⟨#[78,95,49]⟩ ⟨#[110,97,116]⟩ []) (.mk ⟨#[112,108,117,115]⟩ au [(.mk ⟨#[122,101,114,111]⟩ au []),(.mk ⟨#[78,95,50]⟩ ⟨#[110,97,116]⟩ [])]) (.mk ⟨#[78,95,50]⟩ ⟨#[110,97,116]⟩ []) FU xa ya pa qa xc yc pc qc _ pv B2 W htab hx hy hp hB2 hq hpv (by decide) (by decide) (by decide) (by decide) (by decide+kernel) (fun W' hW B1 DK va vb h1 h2 hd l1 l2 ht=>aiO W' ht B1 DK va vb h1 h2 hd l1 l2)
theorem ahW:JV ((.mk ⟨#[112,108,117,115]⟩ au [(.mk ⟨#[122,101,114,111]⟩ au []),(.mk ⟨#[78,95,49]⟩ ⟨#[110,97,116]⟩ [])]),(.mk ⟨#[78,95,49]⟩ ⟨#[110,97,116]⟩ [])) ((.mk ⟨#[112,108,117,115]⟩ au [(.mk ⟨#[115]⟩ au [(.mk ⟨#[78,95,50]⟩ ⟨#[110,97,116]⟩ [])]),(.mk ⟨#[77,95,50]⟩ ⟨#[110,97,116]⟩ [])]),(.mk ⟨#[115]⟩ au [(.mk ⟨#[112,108,117,115]⟩ au [(.mk ⟨#[78,95,50]⟩ ⟨#[110,97,116]⟩ []),(.mk ⟨#[77,95,50]⟩ ⟨#[110,97,116]⟩ [])])])) [0] none:=fun xa ya pa qa xc yc pc qc pv B2 W htab hx hy hp hB2 hq hpv=>
 F5 (.mk ⟨#[112,108,117,115]⟩ au [(.mk ⟨#[122,101,114,111]⟩ au []),(.mk ⟨#[78,95,49]⟩ ⟨#[110,97,116]⟩ [])]) (.mk ⟨#[78,95,49]⟩ ⟨#[110,97,116]⟩ []) (.mk ⟨#[112,108,117,115]⟩ au [(.mk ⟨#[115]⟩ au [(.mk ⟨#[78,95,50]⟩ ⟨#[110,97,116]⟩ [])]),(.mk ⟨#[77,95,50]⟩ ⟨#[110,97,116]⟩ [])]) (.mk ⟨#[115]⟩ au [(.mk ⟨#[112,108,117,115]⟩ au [(.mk ⟨#[78,95,50]⟩ ⟨#[110,97,116]⟩ []),(.mk ⟨#[77,95,50]⟩ ⟨#[110,97,116]⟩ [])])]) FV xa ya pa qa xc yc pc qc _ pv B2 W htab hx hy hp hB2 hq hpv (by decide) (by decide) (by decide) (by decide) (by decide+kernel) (fun W' hW B1 DK va vb h1 h2 hd l1 l2 ht=>aiQ W' ht B1 DK va vb h1 h2 hd l1 l2)
theorem ahX:JV ((.mk ⟨#[112,108,117,115]⟩ au [(.mk ⟨#[115]⟩ au [(.mk ⟨#[78,95,49]⟩ ⟨#[110,97,116]⟩ [])]),(.mk ⟨#[77,95,49]⟩ ⟨#[110,97,116]⟩ [])]),(.mk ⟨#[115]⟩ au [(.mk ⟨#[112,108,117,115]⟩ au [(.mk ⟨#[78,95,49]⟩ ⟨#[110,97,116]⟩ []),(.mk ⟨#[77,95,49]⟩ ⟨#[110,97,116]⟩ [])])])) ((.mk ⟨#[112,108,117,115]⟩ au [(.mk ⟨#[122,101,114,111]⟩ au []),(.mk ⟨#[78,95,50]⟩ ⟨#[110,97,116]⟩ [])]),(.mk ⟨#[78,95,50]⟩ ⟨#[110,97,116]⟩ [])) [0] none:=fun xa ya pa qa xc yc pc qc pv B2 W htab hx hy hp hB2 hq hpv=>
 F5 (.mk ⟨#[112,108,117,115]⟩ au [(.mk ⟨#[115]⟩ au [(.mk ⟨#[78,95,49]⟩ ⟨#[110,97,116]⟩ [])]),(.mk ⟨#[77,95,49]⟩ ⟨#[110,97,116]⟩ [])]) (.mk ⟨#[115]⟩ au [(.mk ⟨#[112,108,117,115]⟩ au [(.mk ⟨#[78,95,49]⟩ ⟨#[110,97,116]⟩ []),(.mk ⟨#[77,95,49]⟩ ⟨#[110,97,116]⟩ [])])]) (.mk ⟨#[112,108,117,115]⟩ au [(.mk ⟨#[122,101,114,111]⟩ au []),(.mk ⟨#[78,95,50]⟩ ⟨#[110,97,116]⟩ [])]) (.mk ⟨#[78,95,50]⟩ ⟨#[110,97,116]⟩ []) Aj xa ya pa qa xc yc pc qc _ pv B2 W htab hx hy hp hB2 hq hpv (by decide) (by decide) (by decide) (by decide) (by decide+kernel) (fun W' hW B1 DK va vb h1 h2 hd l1 l2 ht=>aiS W' ht B1 DK va vb h1 h2 hd l1 l2)
theorem ahY:JV ((.mk ⟨#[112,108,117,115]⟩ au [(.mk ⟨#[115]⟩ au [(.mk ⟨#[78,95,49]⟩ ⟨#[110,97,116]⟩ [])]),(.mk ⟨#[77,95,49]⟩ ⟨#[110,97,116]⟩ [])]),(.mk ⟨#[115]⟩ au [(.mk ⟨#[112,108,117,115]⟩ au [(.mk ⟨#[78,95,49]⟩ ⟨#[110,97,116]⟩ []),(.mk ⟨#[77,95,49]⟩ ⟨#[110,97,116]⟩ [])])])) ((.mk ⟨#[112,108,117,115]⟩ au [(.mk ⟨#[115]⟩ au [(.mk ⟨#[78,95,50]⟩ ⟨#[110,97,116]⟩ [])]),(.mk ⟨#[77,95,50]⟩ ⟨#[110,97,116]⟩ [])]),(.mk ⟨#[115]⟩ au [(.mk ⟨#[112,108,117,115]⟩ au [(.mk ⟨#[78,95,50]⟩ ⟨#[110,97,116]⟩ []),(.mk ⟨#[77,95,50]⟩ ⟨#[110,97,116]⟩ [])])])) [0] none:=fun xa ya pa qa xc yc pc qc pv B2 W htab hx hy hp hB2 hq hpv=>
 F5 (.mk ⟨#[112,108,117,115]⟩ au [(.mk ⟨#[115]⟩ au [(.mk ⟨#[78,95,49]⟩ ⟨#[110,97,116]⟩ [])]),(.mk ⟨#[77,95,49]⟩ ⟨#[110,97,116]⟩ [])]) (.mk ⟨#[115]⟩ au [(.mk ⟨#[112,108,117,115]⟩ au [(.mk ⟨#[78,95,49]⟩ ⟨#[110,97,116]⟩ []),(.mk ⟨#[77,95,49]⟩ ⟨#[110,97,116]⟩ [])])]) (.mk ⟨#[112,108,117,115]⟩ au [(.mk ⟨#[115]⟩ au [(.mk ⟨#[78,95,50]⟩ ⟨#[110,97,116]⟩ [])]),(.mk ⟨#[77,95,50]⟩ ⟨#[110,97,116]⟩ [])]) (.mk ⟨#[115]⟩ au [(.mk ⟨#[112,108,117,115]⟩ au [(.mk ⟨#[78,95,50]⟩ ⟨#[110,97,116]⟩ []),(.mk ⟨#[77,95,50]⟩ ⟨#[110,97,116]⟩ [])])]) Ak xa ya pa qa xc yc pc qc _ pv B2 W htab hx hy hp hB2 hq hpv (by decide) (by decide) (by decide) (by decide) (by decide+kernel) (fun W' hW B1 DK va vb h1 h2 hd l1 l2 ht=>aiU W' ht B1 DK va vb h1 h2 hd l1 l2)
theorem ahZ:JV ((.mk ⟨#[102]⟩ au [(.mk ⟨#[102]⟩ au [(.mk ⟨#[88,95,49]⟩ ⟨#[97]⟩ [])])]),(.mk ⟨#[103]⟩ au [(.mk ⟨#[88,95,49]⟩ ⟨#[97]⟩ [])])) ((.mk ⟨#[102]⟩ au [(.mk ⟨#[102]⟩ au [(.mk ⟨#[88,95,50]⟩ ⟨#[97]⟩ [])])]),(.mk ⟨#[103]⟩ au [(.mk ⟨#[88,95,50]⟩ ⟨#[97]⟩ [])])) [0] (some (J4,J5,J6)):=fun xa ya pa qa xc yc pc qc pv B2 W htab hx hy hp hB2 hq hpv=>
 (adx (.mk ⟨#[102]⟩ au [(.mk ⟨#[102]⟩ au [(.mk ⟨#[88,95,49]⟩ ⟨#[97]⟩ [])])]) (.mk ⟨#[103]⟩ au [(.mk ⟨#[88,95,49]⟩ ⟨#[97]⟩ [])]) (.mk ⟨#[102]⟩ au [(.mk ⟨#[102]⟩ au [(.mk ⟨#[88,95,50]⟩ ⟨#[97]⟩ [])])]) (.mk ⟨#[103]⟩ au [(.mk ⟨#[88,95,50]⟩ ⟨#[97]⟩ [])]) Am xa ya pa qa xc yc pc qc _ pv B2 W htab hx hy hp hB2 hq hpv (by decide) (by decide) (by decide) (by decide) (by decide+kernel) QS J4 J6 (.mk ⟨#[103]⟩ au [(.mk ⟨#[88,95,50]⟩ ⟨#[97]⟩ [])]) J5 [0] rfl (by decide+kernel) (by decide+kernel) (by decide+kernel) (by decide+kernel) ⟨by decide,trivial⟩ (by decide) (by decide) (by decide) (by decide) (fun W' hW B1 DK va vb h1 h2 hd l1 l2 ht=>aiW W' ht B1 DK va vb h1 h2 hd l1 l2)).mono (by
  rintro e w' ⟨ka,kc,za,zc,ra,rc,rfl,h1,h2,h3,hE⟩;exact⟨⟨ka,kc,za,zc,ra,rc,rfl,h1,h2,h3⟩,hE⟩)
theorem V8 (lv:Value) (w:World) (hL:jq (fun k=>k<w.heap.size) w nN lv) (htab:dN w):Calls Tryz.prog 104 #[lv] w fun e w'=>e= .returned (.tuple #[.slice none 0 0,.int .i64 0])/\Ext w w':=by
 refine(Us nN J3 V6 (fun _ _ _=>none) none lv w hL htab V7 (by decide) (by decide) (by decide+kernel) rfl rfl aaB (by decide) (fun i k p hi hk hp hc=>?_) (by kernel_rfl)).mono ?_
 .have hi2:i<2:=hi;have hk2:k<2:=hk;have h0:=Rk;rcases(by omega:i=0\/i=1) with rfl|rfl
  .rw [h0.1] at hp;simp only[List.mem_cons,List.not_mem_nil,or_false] at hp;rcases hp with rfl|rfl
   .rcases (by omega:k=0\/k=1) with rfl|rfl
    .exact absurd ⟨rfl,Nat.le_refl _⟩ hc
    .exact ahU
   .rcases (by omega:k=0\/k=1) with rfl|rfl
    .exact ahV
    .exact ahW
  .rw [h0.2.1] at hp;simp only[List.mem_cons,List.not_mem_nil,or_false] at hp;rcases hp with rfl|rfl
   .exact absurd ⟨rfl,by omega⟩ hc
   .rcases (by omega:k=0\/k=1) with rfl|rfl
    .exact ahX
    .exact ahY
 .rintro e w' ⟨v,rfl,hv,hE⟩;have hv':v= .slice none 0 0:=hv;subst hv';exact⟨rfl,hE⟩
theorem aaC (lv:Value) (w:World) (hL:jq (fun k=>k<w.heap.size) w Ri lv) (htab:dN w):Calls Tryz.prog 104 #[lv] w fun e w'=> ∃v,e= .returned (.tuple #[v,.int .i64 0])/\F7 w' v (some (J4,J5,J6,0,0,[0]))/\Ext w w':=by
 refine Us Ri ffF ffS (fun _ _ _=>some (J4,J5,J6)) (some (J4,J5,J6,0,0,[0])) lv w hL htab aaz (by decide) (by decide) (by decide+kernel) rfl rfl ahT (by decide) (fun i k p hi hk hp hc=>?_) (by kernel_rfl);have hi2:i<1:=hi;have hk2:k<1:=hk;obtain rfl:i=0:=by omega
 obtain rfl:k=0:=by omega
 rw[Rk.2.2] at hp;simp only[List.mem_cons,List.not_mem_nil,or_false] at hp;rcases hp with rfl|rfl
 .exact absurd ⟨rfl,Nat.le_refl _⟩ hc
 .exact ahZ
end
end Go.Proofs.YtlkcjmaiahnodaaGreatDoor
