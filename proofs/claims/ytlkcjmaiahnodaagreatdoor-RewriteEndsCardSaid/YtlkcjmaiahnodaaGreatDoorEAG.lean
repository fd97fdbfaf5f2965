/- The texts I7 I8 I9 I10 I11 I12 I13 I14 I15 I16 I17 I70 I90 I30 I31 I32 I33 I34 I35 I36 I37 I38 I91, one behind the other. -/
import Derived.Test.YtlkcjmaiahnodaaGreatDoorEAB
import Derived.Test.YtlkcjmaiahnodaaGreatDoorEAF
import Derived.Sort.Walk0
import Derived.Laws.Cover1
import Derived.BigQuiet
import Derived.Test.YtlkcjmaiahnodaaGreatDoorEAC
import Derived.Test.YtlkcjmaiahnodaaGreatDoorEAD
import Derived.Deep.RegionHeld3
import Derived.Test.YtlkcjmaiahnodaaGreatDoorProg
import Derived.WalkKit
import Derived.Deep.SlicePairs
import Derived.Deep.DeepCutAuto
import Derived.Lib.AppendIntMem
set_option maxRecDepth 100000
set_option maxHeartbeats 8000000
set_option linter.unusedVariables false
set_option linter.unusedSimpArgs false
namespace Go.Proofs.YtlkcjmaiahnodaaGreatDoor
open Go.RowKit Go.Hw Go Tm
theorem Hm (x y:ByteArray):Op.bytesLess x.toList y.toList=blt x y:=by
 unfold blt;rw[bytesLess_eq,Lib.toList_data,Lib.toList_data]
theorem QH (x y:ByteArray) (w:World):Calls Tryz.prog 149 #[.string x,.string y] w fun e w'=>e= .returned (.int .i64 (dM x y))/\Ext w w':=by
 have hrf:=ae (uR w);have t1:=Hm x y;have t2:=Hm y x;have hb:dM x y=if blt x y=true then -1 else if blt y x=true then 1 else 0:=rfl;generalize dM x y=Z at*;cases h1:blt x y
 .rw [h1] at t1 hb;cases h2:blt y x
  .rw [h2] at t2 hb;have hz:Z=0:=hb;subst hz;have hxy:x=y:=by
    by_cases e:x=y
    .exact e
    .rcases zK x y e with h3|h3
     .rw [h3] at h1;cases h1
     .rw [h3] at h2;cases h2
   have t3:(x.toList==y.toList)=true:=by rw[hxy];simp
   clear hb h1 h2 hxy
   go_enter Tryz.func149,Tryz.ntmps149
   go_wp2_with fail
   go_ret;exact⟨rfl,hrf.out⟩
  .rw [h2] at t2 hb;have hz:Z=1:=hb;subst hz;have t3:(x.toList==y.toList)=false:=by
    rw[beq_eq_false_iff_ne];intro e;have hxy:x=y:=jX (by rw[Lib.toList_data,Lib.toList_data] at e;exact e);rw[hxy,fU] at h2;cases h2
   clear hb h1 h2
   go_enter Tryz.func149,Tryz.ntmps149
   go_wp2_with fail
   go_ret;exact⟨rfl,hrf.out⟩
 .rw [h1] at t1 hb;have hz:Z= -1:=hb;subst hz;clear hb h1
  go_enter Tryz.func149,Tryz.ntmps149
  go_wp2_with fail
  go_ret;exact⟨rfl,hrf.out⟩
theorem Vo: ∀(t u:Tm) (v v':Value) (S T:Nat->Prop) (w:World),bC S w t v->bC T w u v'->t.size<=1000000->
  Calls Tryz.prog 85 #[v,v'] w fun e w'=>e= .returned (.int .i64 (eX t u))/\Ext w w':=by
 refine Tm.ind (fun n s L ih=>?_);intro u v v' S T w hR hR' hsz;obtain⟨m,r,M⟩:=u;obtain⟨aa,ca,rfl,hT⟩:=hR;obtain⟨ab,cb,rfl,hT'⟩:=hR';dsimp only[tV,Tm.name,Tm.sort,Tm.kids] at hT hT'⊢;have cO:=ae (And.intro hT hT');have HIH:=ae ih;clear ih hT hT';have HZ:=ae (((uR w).alloc (.cells #[.string n,.string s,.slice aa L.length ca] 24)).alloc (.cells #[.string m,.string r,.slice ab M.length cb] 24));have HA:=ae (ak (ai w (.cells #[.string n,.string s,.slice aa L.length ca] 24)) (.cells #[.string m,.string r,.slice ab M.length cb] 24));have HB:=ae (alloc_at (w.alloc (.cells #[.string n,.string s,.slice aa L.length ca] 24)) (.cells #[.string m,.string r,.slice ab M.length cb] 24) (n:=w.heap.size+1) (by simp));have lI:=ae (fun W=>QH n m W);have lS:=ae (fun W=>QH s r W);have ha0:=(uR _).heap HA.out (fun h=>h);have hb0:=(uR _).heap HB.out (fun h=>h);obtain⟨a0,a1,a2⟩:=ag ha0;obtain⟨b0,b1,b2⟩:=ag hb0;clear ha0 hb0;have dR:=ae (acj n s L m r M);by_cases hs:s.size=0
 .have hse:=eU _ hs;by_cases hr:r.size=0
  .have hre:=eU _ hr;subst hse hre;rw[if_neg (by simp)] at dR;by_cases h1:dM n m=0
   rotate_left
   .have t1:(dM n m !=0)=true:=by simpa using h1
    have t1':decide (dM n m=0)=false:=dF h1;have hv:eX (.mk n ⟨#[]⟩ L) (.mk m ⟨#[]⟩ M)=dM n m:=by rw[dR.out,if_pos h1]
    rw[hv];clear hv h1 dR;generalize dM n m=Z at*
    go_enter Tryz.func85,Tryz.ntmps85
    go_wp2_with fail
    refine(lI.out _).mono ?_;rintro e w4 ⟨rfl,hw4⟩;have H4:=ae (hw4);clear hw4;clear a0 a1 a2 b0 b1 b2;have kS:=H4.out.heap HA.out (fun h=>h);have hb4:=H4.out.heap HB.out (fun h=>h);obtain⟨a0,a1,a2⟩:=ag kS;obtain⟨b0,b1,b2⟩:=ag hb4;clear kS hb4
    go_wp2_with fail
    go_ret;exact⟨rfl,HZ.out.ext H4.out⟩
   rw[if_neg (by simp[h1])] at dR;rw[h1] at lI;clear h1;by_cases h2:dM ⟨#[]⟩ ⟨#[]⟩=0
   rotate_left
   .have t1:(dM ⟨#[]⟩ ⟨#[]⟩ !=0)=true:=by simpa using h2
    have t1':decide (dM ⟨#[]⟩ ⟨#[]⟩=0)=false:=dF h2;have hv:eX (.mk n ⟨#[]⟩ L) (.mk m ⟨#[]⟩ M)=dM ⟨#[]⟩ ⟨#[]⟩:=by rw[dR.out,if_pos h2]
    rw[hv];clear hv h2 dR;generalize dM ⟨#[]⟩ ⟨#[]⟩=Z at*
    go_enter Tryz.func85,Tryz.ntmps85
    go_wp2_with fail
    refine(lI.out _).mono ?_;rintro e w4 ⟨rfl,hw4⟩;have H4:=ae (hw4);clear hw4;clear a0 a1 a2 b0 b1 b2;have kS:=H4.out.heap HA.out (fun h=>h);have hb4:=H4.out.heap HB.out (fun h=>h);obtain⟨a0,a1,a2⟩:=ag kS;obtain⟨b0,b1,b2⟩:=ag hb4;clear kS hb4
    go_wp2_with fail
    refine(lS.out _).mono ?_;rintro e w5 ⟨rfl,hw5⟩;have H5:=ae (H4.out.ext hw5);clear hw5;clear a0 a1 a2 b0 b1 b2;have oL:=H5.out.heap HA.out (fun h=>h);have hb5:=H5.out.heap HB.out (fun h=>h);obtain⟨a0,a1,a2⟩:=ag oL;obtain⟨b0,b1,b2⟩:=ag hb5;clear oL hb5
    go_wp2_with fail
    go_ret;exact⟨rfl,HZ.out.ext H5.out⟩
   rw[if_neg (by simp[h2])] at dR;rw[h2] at lS;clear h2;by_cases h3:L.length=M.length
   rotate_left
   .have u1:((L.length:Int) !=(M.length:Int))=true:=by simp;omega
    have u1':decide ((L.length:Int)=(M.length:Int))=false:=dF (by omega);have Yl:decide (L.length=M.length)=false:=dF h3;rw[if_pos h3] at dR;by_cases h4:L.length<M.length
    .have u2:decide ((L.length:Int)< (M.length:Int))=true:=dT (by omega);have u2':decide (L.length<M.length)=true:=dT h4;have hv:eX (.mk n ⟨#[]⟩ L) (.mk m ⟨#[]⟩ M)= -1:=by rw[dR.out,if_pos h4]
     rw[hv];clear hv dR
     go_enter Tryz.func85,Tryz.ntmps85
     go_wp2_with fail
     refine(lI.out _).mono ?_;rintro e w4 ⟨rfl,hw4⟩;have H4:=ae (hw4);clear hw4;clear a0 a1 a2 b0 b1 b2;have kS:=H4.out.heap HA.out (fun h=>h);have hb4:=H4.out.heap HB.out (fun h=>h);obtain⟨a0,a1,a2⟩:=ag kS;obtain⟨b0,b1,b2⟩:=ag hb4;clear kS hb4
     go_wp2_with fail
     refine(lS.out _).mono ?_;rintro e w5 ⟨rfl,hw5⟩;have H5:=ae (H4.out.ext hw5);clear hw5;clear a0 a1 a2 b0 b1 b2;have oL:=H5.out.heap HA.out (fun h=>h);have hb5:=H5.out.heap HB.out (fun h=>h);obtain⟨a0,a1,a2⟩:=ag oL;obtain⟨b0,b1,b2⟩:=ag hb5;clear oL hb5
     go_wp2_with fail
     go_ret;exact⟨rfl,HZ.out.ext H5.out⟩
    .have u2:decide ((L.length:Int)< (M.length:Int))=false:=dF (by omega);have u2':decide (L.length<M.length)=false:=dF h4;have hv:eX (.mk n ⟨#[]⟩ L) (.mk m ⟨#[]⟩ M)=1:=by rw[dR.out,if_neg h4]
     rw[hv];clear hv dR
     go_enter Tryz.func85,Tryz.ntmps85
     go_wp2_with fail
     refine(lI.out _).mono ?_;rintro e w4 ⟨rfl,hw4⟩;have H4:=ae (hw4);clear hw4;clear a0 a1 a2 b0 b1 b2;have kS:=H4.out.heap HA.out (fun h=>h);have hb4:=H4.out.heap HB.out (fun h=>h);obtain⟨a0,a1,a2⟩:=ag kS;obtain⟨b0,b1,b2⟩:=ag hb4;clear kS hb4
     go_wp2_with fail
     refine(lS.out _).mono ?_;rintro e w5 ⟨rfl,hw5⟩;have H5:=ae (H4.out.ext hw5);clear hw5;clear a0 a1 a2 b0 b1 b2;have oL:=H5.out.heap HA.out (fun h=>h);have hb5:=H5.out.heap HB.out (fun h=>h);obtain⟨a0,a1,a2⟩:=ag oL;obtain⟨b0,b1,b2⟩:=ag hb5;clear oL hb5
     go_wp2_with fail
     go_ret;exact⟨rfl,HZ.out.ext H5.out⟩
   rw[if_neg (by simp[h3])] at dR;have u1:((L.length:Int) !=(M.length:Int))=false:=by simp;omega
   have u1':decide ((L.length:Int)=(M.length:Int))=true:=dT (by omega);have Yl:decide (L.length=M.length)=true:=dT h3;have H3:=ae h3;clear h3
   go_enter Tryz.func85,Tryz.ntmps85
   go_wp2_with fail
   refine(lI.out _).mono ?_;rintro e w4 ⟨rfl,hw4⟩;have H4:=ae (hw4);clear hw4;clear a0 a1 a2 b0 b1 b2;have kS:=H4.out.heap HA.out (fun h=>h);have hb4:=H4.out.heap HB.out (fun h=>h);obtain⟨a0,a1,a2⟩:=ag kS;obtain⟨b0,b1,b2⟩:=ag hb4;clear kS hb4
   go_wp2_with fail
   refine(lS.out _).mono ?_;rintro e w5 ⟨rfl,hw5⟩;have H5:=ae (H4.out.ext hw5);clear hw5;clear a0 a1 a2 b0 b1 b2;have oL:=H5.out.heap HA.out (fun h=>h);have hb5:=H5.out.heap HB.out (fun h=>h);obtain⟨a0,a1,a2⟩:=ag oL;obtain⟨b0,b1,b2⟩:=ag hb5;clear oL hb5
   go_wp2_with fail
   clear a0 a1 a2 b0 b1 b2;have mr:L.length<=1000000:=by have h1:=bf L;have h2:=hsz;rw[size_eq] at h2;exact Nat.le_trans h1 (Nat.le_of_succ_le h2)
   go_loopg [7] L.length (fun gk iv wr=> ∃k:Nat,iv= .int .i64 (k:Int)/\gk=L.length-k/\k<=L.length/\Hid (∀j,j<k->eX (tg L j) (tg M j)=0)/\Hid (Ext ((w.alloc (.cells #[.string n,.string ⟨#[]⟩,.slice aa L.length ca] 24)).alloc (.cells #[.string m,.string ⟨#[]⟩,.slice ab M.length cb] 24)) wr))
   case atStart=>exact⟨0,rfl,rfl,Nat.zero_le _,ae (fun j h=>absurd h (Nat.not_lt_zero _)),H5⟩
   case round=>
    obtain⟨k,rfl,rfl,hk,HC,HE⟩:=hrel;have Nj:=ae (HZ.out.ext HE.out);have haw:=HE.out.heap HA.out (fun h=>h);have hbw:=HE.out.heap HB.out (fun h=>h);obtain⟨a0,a1,a2⟩:=ag haw;obtain⟨b0,b1,b2⟩:=ag hbw;clear haw hbw;by_cases hlt:k<L.length
    .have xC:k<M.length:=by have:=H3.out;omega
     obtain⟨g,off,rfl,_,hat⟩:=(cO.out.1.ext Nj.out).at_ (by omega);obtain⟨g',off',rfl,_,hat'⟩:=(cO.out.2.ext Nj.out).at_ (by omega);obtain⟨ka,kc,q0,q1,q2,aY⟩:=hat k hlt;obtain⟨ka',kc',p0,p1,p2,su⟩:=hat' k xC;obtain⟨z0,z1,z2,z2'⟩:=bz hlt;have z3:(k:Int)< (M.length:Int):=by omega
     have hmem:tg L k∈L:=by unfold tg;rw[List.getD_eq_getElem?_getD,List.getElem?_eq_getElem hlt];exact List.getElem_mem hlt
     have Nk:(tg L k).size<=1000000:=by have h1:=ku hmem;have h2:=hsz;rw[size_eq] at h2;exact Nat.le_trans h1 (Nat.le_of_succ_le h2)
     have a_:=ae (fun W (hW:Ext wr W)=>HIH.out (tg L k) hmem (tg M k) _ _ S T W ⟨ka,kc,rfl,aY.ext hW⟩ ⟨ka',kc',rfl,su.ext hW⟩ Nk);have HOF:=ae (Jn L M k H3.out hlt HC.out);have pz:=ae (fun h:eX (tg L k) (tg M k)=0=>fun j (hj:j<k+1)=>by
      rcases Nat.lt_succ_iff_lt_or_eq.1 hj with h5|h5
      .exact HC.out j h5
      .rw [h5];exact h)
     dsimp only[tV] at a_;obtain⟨R,hR⟩: ∃R,eX (tg L k) (tg M k)=R:=⟨_,rfl⟩
     rw[hR] at a_;have HRR:=ae hR;clear hR hmem hat hat' aY su;obtain⟨x,hx⟩: ∃x,tg L k=x:=⟨_,rfl⟩
     obtain⟨y,hy⟩: ∃y,tg M k=y:=⟨_,rfl⟩
     rw[hx] at q0 q1 q2 a_;rw[hy] at p0 p1 p2 a_;clear hx hy Nk xC;rw[<-Nat.add_assoc] at q1 q2 p1 p2;have Nl:=fun x:XW wr=>x.ext.cell q0 (fun h=>h);have Np:=fun x:XW wr=>x.ext.cell q1 (fun h=>h);have Nq:=fun x:XW wr=>x.ext.cell q2 (fun h=>h);have EX:=fun x:XW wr=>x.ext.cell p0 (fun h=>h);have Ns:=fun x:XW wr=>x.ext.cell p1 (fun h=>h);have Nu:=fun x:XW wr=>x.ext.cell p2 (fun h=>h);have Nv:=fun x:XW wr=>x.ext.cell a2 (fun h=>h);have xb2:=fun x:XW wr=>x.ext.cell b2 (fun h=>h);have sD:=uR wr;clear q0 q1 q2 p0 p1 p2 a0 a1 b0 b1 b2
     go_wp2_with fail
     clear a2;refine aW wr (by assumption) (by kernel_rfl) (by kernel_rfl) ?_
     repeat (first|go_big_quiet_skip|(go_big_quiet_want;go_big_quiet_op;first|go_big_quiet_on|(apply Exists.intro;refine⟨fun x=>?_,?_⟩;(go_at_call 85;exact XW.call (a_.out x.val x.ext));go_big_quiet_on)))
     refine wpQuiet_nil ?_;rintro w8 ⟨⟨_,dD⟩,rfl⟩
     try dsimp only
     have bV:=ae (HE.out.ext dD);clear Nl Np Nq EX Ns Nu Nv xb2 sD dD a_;by_cases hz:R=0
     .have hz1:(R !=0)=false:=by simp[hz]
      have HN:=ae (pz.out (HRR.out.trans hz));have hzz:=ae hz;clear hz
      go_wp2_with fail
      go_roundg (L.length- (k+1))
      case measure=>omega
      case rel=>exact⟨k+1,by go_num,rfl,by omega,HN,bV⟩
     .have hz1:(R !=0)=true:=by simpa using hz
      have HV:Hid (eX (.mk n ⟨#[]⟩ L) (.mk m ⟨#[]⟩ M)=R):=ae (by rw[dR.out,HOF.out (by show eX (tg L k) (tg M k)≠0;rw[HRR.out];exact hz)];exact HRR.out);have hzz:=ae hz;clear hz
      go_wp2_with fail
      go_ret;rw[HV.out];exact⟨rfl,HZ.out.ext bV.out⟩
    .obtain rfl:k=L.length:=by omega
     have HV:Hid (eX (.mk n ⟨#[]⟩ L) (.mk m ⟨#[]⟩ M)=0):=ae (by rw[dR.out];exact FZ L M H3.out HC.out)
     go_wp2_with fail
     go_ret;rw[HV.out];exact⟨rfl,Nj.out⟩
  .have hrn:r≠ah:=fun e=>hr (by rw[e];rfl);have hsn: ¬s≠ah:=fun h=>h hse;have hdd:decide (s≠ah)≠decide (r≠ah):=by rw[dF hsn,dT hrn];decide
   have hv:eX (.mk n s L) (.mk m r M)=1:=by rw[dR.out,if_pos hdd,if_neg hsn]
   clear hsn hdd;obtain⟨e1,e2,e3,e4⟩:=dJ r (Nat.pos_of_ne_zero hr);rw[hv];subst hse;clear hv dR
   go_enter Tryz.func85,Tryz.ntmps85
   go_wp2_with fail
   go_ret;exact⟨rfl,HZ.out⟩
 .have hsn:s≠ah:=fun e=>hs (by rw[e];rfl);obtain⟨e1,e2,e3,e4⟩:=dJ s (Nat.pos_of_ne_zero hs);by_cases hr:r.size=0
  .have hre:=eU _ hr;have hrn: ¬r≠ah:=fun h=>h hre;have hdd:decide (s≠ah)≠decide (r≠ah):=by rw[dT hsn,dF hrn];decide
   have hv:eX (.mk n s L) (.mk m r M)= -1:=by rw[dR.out,if_pos hdd,if_pos hsn]
   clear hrn hdd;rw[hv];subst hre;clear hv dR
   go_enter Tryz.func85,Tryz.ntmps85
   go_wp2_with fail
   go_ret;exact⟨rfl,HZ.out⟩
  .have hrn:r≠ah:=fun e=>hr (by rw[e];rfl);obtain⟨f1,f2,f3,f4⟩:=dJ r (Nat.pos_of_ne_zero hr);rw[if_neg (by simp[hsn,hrn])] at dR;by_cases h1:dM n m=0
   rotate_left
   .have t1:(dM n m !=0)=true:=by simpa using h1
    have t1':decide (dM n m=0)=false:=dF h1;have hv:eX (.mk n s L) (.mk m r M)=dM n m:=by rw[dR.out,if_pos h1]
    rw[hv];clear hv h1 dR;generalize dM n m=Z at*
    go_enter Tryz.func85,Tryz.ntmps85
    go_wp2_with fail
    refine(lI.out _).mono ?_;rintro e w4 ⟨rfl,hw4⟩;have H4:=ae (hw4);clear hw4;clear a0 a1 a2 b0 b1 b2;have kS:=H4.out.heap HA.out (fun h=>h);have hb4:=H4.out.heap HB.out (fun h=>h);obtain⟨a0,a1,a2⟩:=ag kS;obtain⟨b0,b1,b2⟩:=ag hb4;clear kS hb4
    go_wp2_with fail
    go_ret;exact⟨rfl,HZ.out.ext H4.out⟩
   rw[if_neg (by simp[h1])] at dR;rw[h1] at lI;clear h1;by_cases h2:dM s r=0
   rotate_left
   .have t1:(dM s r !=0)=true:=by simpa using h2
    have t1':decide (dM s r=0)=false:=dF h2;have hv:eX (.mk n s L) (.mk m r M)=dM s r:=by rw[dR.out,if_pos h2]
    rw[hv];clear hv h2 dR;generalize dM s r=Z at*
    go_enter Tryz.func85,Tryz.ntmps85
    go_wp2_with fail
    refine(lI.out _).mono ?_;rintro e w4 ⟨rfl,hw4⟩;have H4:=ae (hw4);clear hw4;clear a0 a1 a2 b0 b1 b2;have kS:=H4.out.heap HA.out (fun h=>h);have hb4:=H4.out.heap HB.out (fun h=>h);obtain⟨a0,a1,a2⟩:=ag kS;obtain⟨b0,b1,b2⟩:=ag hb4;clear kS hb4
    go_wp2_with fail
    refine(lS.out _).mono ?_;rintro e w5 ⟨rfl,hw5⟩;have H5:=ae (H4.out.ext hw5);clear hw5;clear a0 a1 a2 b0 b1 b2;have oL:=H5.out.heap HA.out (fun h=>h);have hb5:=H5.out.heap HB.out (fun h=>h);obtain⟨a0,a1,a2⟩:=ag oL;obtain⟨b0,b1,b2⟩:=ag hb5;clear oL hb5
    go_wp2_with fail
    go_ret;exact⟨rfl,HZ.out.ext H5.out⟩
   rw[if_neg (by simp[h2])] at dR;rw[h2] at lS;clear h2;by_cases h3:L.length=M.length
   rotate_left
   .have u1:((L.length:Int) !=(M.length:Int))=true:=by simp;omega
    have u1':decide ((L.length:Int)=(M.length:Int))=false:=dF (by omega);have Yl:decide (L.length=M.length)=false:=dF h3;rw[if_pos h3] at dR;by_cases h4:L.length<M.length
    .have u2:decide ((L.length:Int)< (M.length:Int))=true:=dT (by omega);have u2':decide (L.length<M.length)=true:=dT h4;have hv:eX (.mk n s L) (.mk m r M)= -1:=by rw[dR.out,if_pos h4]
     rw[hv];clear hv dR
     go_enter Tryz.func85,Tryz.ntmps85
     go_wp2_with fail
     refine(lI.out _).mono ?_;rintro e w4 ⟨rfl,hw4⟩;have H4:=ae (hw4);clear hw4;clear a0 a1 a2 b0 b1 b2;have kS:=H4.out.heap HA.out (fun h=>h);have hb4:=H4.out.heap HB.out (fun h=>h);obtain⟨a0,a1,a2⟩:=ag kS;obtain⟨b0,b1,b2⟩:=ag hb4;clear kS hb4
     go_wp2_with fail
     refine(lS.out _).mono ?_;rintro e w5 ⟨rfl,hw5⟩;have H5:=ae (H4.out.ext hw5);clear hw5;clear a0 a1 a2 b0 b1 b2;have oL:=H5.out.heap HA.out (fun h=>h);have hb5:=H5.out.heap HB.out (fun h=>h);obtain⟨a0,a1,a2⟩:=ag oL;obtain⟨b0,b1,b2⟩:=ag hb5;clear oL hb5
     go_wp2_with fail
     go_ret;exact⟨rfl,HZ.out.ext H5.out⟩
    .have u2:decide ((L.length:Int)< (M.length:Int))=false:=dF (by omega);have u2':decide (L.length<M.length)=false:=dF h4;have hv:eX (.mk n s L) (.mk m r M)=1:=by rw[dR.out,if_neg h4]
     rw[hv];clear hv dR
     go_enter Tryz.func85,Tryz.ntmps85
     go_wp2_with fail
     refine(lI.out _).mono ?_;rintro e w4 ⟨rfl,hw4⟩;have H4:=ae (hw4);clear hw4;clear a0 a1 a2 b0 b1 b2;have kS:=H4.out.heap HA.out (fun h=>h);have hb4:=H4.out.heap HB.out (fun h=>h);obtain⟨a0,a1,a2⟩:=ag kS;obtain⟨b0,b1,b2⟩:=ag hb4;clear kS hb4
     go_wp2_with fail
     refine(lS.out _).mono ?_;rintro e w5 ⟨rfl,hw5⟩;have H5:=ae (H4.out.ext hw5);clear hw5;clear a0 a1 a2 b0 b1 b2;have oL:=H5.out.heap HA.out (fun h=>h);have hb5:=H5.out.heap HB.out (fun h=>h);obtain⟨a0,a1,a2⟩:=ag oL;obtain⟨b0,b1,b2⟩:=ag hb5;clear oL hb5
     go_wp2_with fail
     go_ret;exact⟨rfl,HZ.out.ext H5.out⟩
   rw[if_neg (by simp[h3])] at dR;have u1:((L.length:Int) !=(M.length:Int))=false:=by simp;omega
   have u1':decide ((L.length:Int)=(M.length:Int))=true:=dT (by omega);have Yl:decide (L.length=M.length)=true:=dT h3;have H3:=ae h3;clear h3
   go_enter Tryz.func85,Tryz.ntmps85
   go_wp2_with fail
   refine(lI.out _).mono ?_;rintro e w4 ⟨rfl,hw4⟩;have H4:=ae (hw4);clear hw4;clear a0 a1 a2 b0 b1 b2;have kS:=H4.out.heap HA.out (fun h=>h);have hb4:=H4.out.heap HB.out (fun h=>h);obtain⟨a0,a1,a2⟩:=ag kS;obtain⟨b0,b1,b2⟩:=ag hb4;clear kS hb4
   go_wp2_with fail
   refine(lS.out _).mono ?_;rintro e w5 ⟨rfl,hw5⟩;have H5:=ae (H4.out.ext hw5);clear hw5;clear a0 a1 a2 b0 b1 b2;have oL:=H5.out.heap HA.out (fun h=>h);have hb5:=H5.out.heap HB.out (fun h=>h);obtain⟨a0,a1,a2⟩:=ag oL;obtain⟨b0,b1,b2⟩:=ag hb5;clear oL hb5
   go_wp2_with fail
   clear a0 a1 a2 b0 b1 b2;have mr:L.length<=1000000:=by have h1:=bf L;have h2:=hsz;rw[size_eq] at h2;exact Nat.le_trans h1 (Nat.le_of_succ_le h2)
   go_loopg [7] L.length (fun gk iv wr=> ∃k:Nat,iv= .int .i64 (k:Int)/\gk=L.length-k/\k<=L.length/\Hid (∀j,j<k->eX (tg L j) (tg M j)=0)/\Hid (Ext ((w.alloc (.cells #[.string n,.string s,.slice aa L.length ca] 24)).alloc (.cells #[.string m,.string r,.slice ab M.length cb] 24)) wr))
   case atStart=>exact⟨0,rfl,rfl,Nat.zero_le _,ae (fun j h=>absurd h (Nat.not_lt_zero _)),H5⟩
   case round=>
    obtain⟨k,rfl,rfl,hk,HC,HE⟩:=hrel;have Nj:=ae (HZ.out.ext HE.out);have haw:=HE.out.heap HA.out (fun h=>h);have hbw:=HE.out.heap HB.out (fun h=>h);obtain⟨a0,a1,a2⟩:=ag haw;obtain⟨b0,b1,b2⟩:=ag hbw;clear haw hbw;by_cases hlt:k<L.length
    .have xC:k<M.length:=by have:=H3.out;omega
     obtain⟨g,off,rfl,_,hat⟩:=(cO.out.1.ext Nj.out).at_ (by omega);obtain⟨g',off',rfl,_,hat'⟩:=(cO.out.2.ext Nj.out).at_ (by omega);obtain⟨ka,kc,q0,q1,q2,aY⟩:=hat k hlt;obtain⟨ka',kc',p0,p1,p2,su⟩:=hat' k xC;obtain⟨z0,z1,z2,z2'⟩:=bz hlt;have z3:(k:Int)< (M.length:Int):=by omega
     have hmem:tg L k∈L:=by unfold tg;rw[List.getD_eq_getElem?_getD,List.getElem?_eq_getElem hlt];exact List.getElem_mem hlt
     have Nk:(tg L k).size<=1000000:=by have h1:=ku hmem;have h2:=hsz;rw[size_eq] at h2;exact Nat.le_trans h1 (Nat.le_of_succ_le h2)
     have a_:=ae (fun W (hW:Ext wr W)=>HIH.out (tg L k) hmem (tg M k) _ _ S T W ⟨ka,kc,rfl,aY.ext hW⟩ ⟨ka',kc',rfl,su.ext hW⟩ Nk);have HOF:=ae (Jn L M k H3.out hlt HC.out);have pz:=ae (fun h:eX (tg L k) (tg M k)=0=>fun j (hj:j<k+1)=>by
      rcases Nat.lt_succ_iff_lt_or_eq.1 hj with h5|h5
      .exact HC.out j h5
      .rw [h5];exact h)
     dsimp only[tV] at a_;obtain⟨R,hR⟩: ∃R,eX (tg L k) (tg M k)=R:=⟨_,rfl⟩
     rw[hR] at a_;have HRR:=ae hR;clear hR hmem hat hat' aY su;obtain⟨x,hx⟩: ∃x,tg L k=x:=⟨_,rfl⟩
     obtain⟨y,hy⟩: ∃y,tg M k=y:=⟨_,rfl⟩
     rw[hx] at q0 q1 q2 a_;rw[hy] at p0 p1 p2 a_;clear hx hy Nk xC;rw[<-Nat.add_assoc] at q1 q2 p1 p2;have Nl:=fun x:XW wr=>x.ext.cell q0 (fun h=>h);have Np:=fun x:XW wr=>x.ext.cell q1 (fun h=>h);have Nq:=fun x:XW wr=>x.ext.cell q2 (fun h=>h);have EX:=fun x:XW wr=>x.ext.cell p0 (fun h=>h);have Ns:=fun x:XW wr=>x.ext.cell p1 (fun h=>h);have Nu:=fun x:XW wr=>x.ext.cell p2 (fun h=>h);have Nv:=fun x:XW wr=>x.ext.cell a2 (fun h=>h);have xb2:=fun x:XW wr=>x.ext.cell b2 (fun h=>h);have sD:=uR wr;clear q0 q1 q2 p0 p1 p2 a0 a1 b0 b1 b2
     go_wp2_with fail
     clear a2;refine aW wr (by assumption) (by kernel_rfl) (by kernel_rfl) ?_
     repeat (first|go_big_quiet_skip|(go_big_quiet_want;go_big_quiet_op;first|go_big_quiet_on|(apply Exists.intro;refine⟨fun x=>?_,?_⟩;(go_at_call 85;exact XW.call (a_.out x.val x.ext));go_big_quiet_on)))
     refine wpQuiet_nil ?_;rintro w8 ⟨⟨_,dD⟩,rfl⟩
     try dsimp only
     have bV:=ae (HE.out.ext dD);clear Nl Np Nq EX Ns Nu Nv xb2 sD dD a_;by_cases hz:R=0
     .have hz1:(R !=0)=false:=by simp[hz]
      have HN:=ae (pz.out (HRR.out.trans hz));have hzz:=ae hz;clear hz
      go_wp2_with fail
      go_roundg (L.length- (k+1))
      case measure=>omega
      case rel=>exact⟨k+1,by go_num,rfl,by omega,HN,bV⟩
     .have hz1:(R !=0)=true:=by simpa using hz
      have HV:Hid (eX (.mk n s L) (.mk m r M)=R):=ae (by rw[dR.out,HOF.out (by show eX (tg L k) (tg M k)≠0;rw[HRR.out];exact hz)];exact HRR.out);have hzz:=ae hz;clear hz
      go_wp2_with fail
      go_ret;rw[HV.out];exact⟨rfl,HZ.out.ext bV.out⟩
    .obtain rfl:k=L.length:=by omega
     have HV:Hid (eX (.mk n s L) (.mk m r M)=0):=ae (by rw[dR.out];exact FZ L M H3.out HC.out)
     go_wp2_with fail
     go_ret;rw[HV.out];exact⟨rfl,Nj.out⟩
theorem zM (t u:Tm) (v v':Value) (S T:Nat->Prop) (w:World) (hR:bC S w t v) (hR':bC T w u v') (hsz:t.size<=1000000):
  Calls Tryz.prog 25 #[v,v'] w fun e w'=>e= .returned (.bool (decide (t=u)))/\Ext w w':=by
 have HR:=ae (And.intro hR hR');obtain⟨aa,ca,rfl,hT⟩:=hR;obtain⟨ab,cb,rfl,hT'⟩:=hR';have HC:=ae (fun W (hW:Ext w W)=>Vo t u _ _ S T W (HR.out.1.ext hW) (HR.out.2.ext hW) hsz);dsimp only[tV] at HC⊢;have HZ:=ae (((uR w).alloc (tO t aa ca)).alloc (tO u ab cb));have HA:=ae (ak (ai w (tO t aa ca)) (tO u ab cb));have HB:=ae (alloc_at (w.alloc (tO t aa ca)) (tO u ab cb) (n:=w.heap.size+1) (by simp));obtain⟨a0,a1,a2⟩:=ag HA.out;obtain⟨b0,b1,b2⟩:=ag HB.out;have hz:decide (t=u)=(eX t u==0):=by
  rw[Bool.eq_iff_iff,decide_eq_true_eq,beq_iff_eq,Vq]
 rw[hz];clear hz hT hT';generalize eX t u=Z at*
 go_enter Tryz.func25,Tryz.ntmps25
 go_wp2_with fail
 refine(HC.out _ HZ.out).mono ?_;rintro e w4 ⟨rfl,hw4⟩;have H4:=ae (HZ.out.ext hw4);clear hw4 a0 a1 a2 b0 b1 b2
 go_wp2_with fail
 go_ret;exact⟨rfl,H4.out⟩
theorem Ht:(Tryz.prog.info? 116).map (fun i=>(i.zero,i.size,i.bytes))=some (some (.agg #[.string ⟨#[]⟩,.string ⟨#[]⟩]),2,32):=by kernel_rfl
theorem QM {S:Nat->Prop} {base e:Nat} {W:World} {v:Value} {l:List Vd} {f:Vd} {k:Nat} (hk:k<=l.length) (h:W.ownsRow base e 2 v (k+1+(l.length-k)) (bu (l.take k)++(bu [f]++bu (l.drop k)))):
  bU (fun j=>S j\/base<=j) W v (l.take k++f::l.drop k):=by
 have h1:(l.take k++f::l.drop k).length=k+1+(l.length-k):=by simp only[List.length_append,List.length_take,List.length_cons,List.length_drop];omega
 have h2:bu (l.take k++f::l.drop k)=bu (l.take k)++(bu [f]++bu (l.drop k)):=by
  rw[qA,show f::l.drop k=[f]++l.drop k from rfl,qA]
 unfold bU;rw[h1,h2];exact az.weaken (az.iV h) (fun j hj=> .inr (h.lt j hj).1)
theorem aiP (l:List Vd) (f:Vd) (v:Value) (S:Nat->Prop) (w:World) (hR:bU S w v l) (hl:l.length<=100000):
  Calls Tryz.prog 148 #[v,.agg #[.string f.1,.string f.2]] w fun e w'=> ∃r,e= .returned (.tuple #[r,.bool (gm l f).2])/\bU (fun k=>S k\/w.heap.size<=k) w' r (gm l f).1/\Ext w w':=by
 have HR:=ae hR;obtain⟨a,cap,rfl⟩:=hR.shape;have HZ:=ae ((uR w).alloc (.cells #[.string f.1,.string f.2] 116));have HB:=ae (ai w (.cells #[.string f.1,.string f.2] 116));have qj:=ae (QN f l);clear hR
 go_enter Tryz.func148,Tryz.ntmps148
 go_wp2_with fail
 go_loopg [6] l.length (fun gk iv wr=> ∃k:Nat,iv= .int .i64 (k:Int)/\gk=l.length-k/\k<=l.length/\Hid (∀j,j<k->blt (vg l j).1 f.1=true)/\Hid (Ext w wr)/\Hid (wr.heap[w.heap.size]?=some (.cells #[.string f.1,.string f.2] 116 (0,0))))
 case atStart=>exact⟨0,rfl,rfl,Nat.zero_le _,ae (fun j h=>absurd h (Nat.not_lt_zero _)),HZ,HB⟩
 case round=>
  obtain⟨k,rfl,rfl,hk,HC,HE,lQ⟩:=hrel;obtain⟨f0,f1⟩:=aP lQ.out;by_cases hlt:k<l.length
  .obtain ⟨g,off,rfl,hat⟩:=(HR.out.ext HE.out).at_ (by omega);obtain⟨q0,q1⟩:=hat k hlt;have hcap:k<=cap:=Nat.le_trans hk (az.CZ HR.out rfl);obtain⟨z0,z1,z2,z2'⟩:=bz hlt;have t1:=Hm (vg l k).1 f.1;have hix:=NH l f k hk HC.out;have hnx:blt (vg l k).1 f.1=true->∀j,j<k+1->blt (vg l j).1 f.1=true:=fun h j hj=>by
    rcases Nat.lt_succ_iff_lt_or_eq.1 hj with h5|h5
    .exact HC.out j h5
    .rw [h5];exact h
   have a_:=ae hix;have pz:=ae hnx;clear hix hnx hat;obtain⟨x,hx⟩: ∃x,vg l k=x:=⟨_,rfl⟩
   have KA:=ae hx;rw[hx] at q0 q1 t1 a_ pz;clear hx;cases hb:blt x.1 f.1
   .rw [hb] at t1;have jw:Hid (mJ l f=k):=ae (a_.out (fun _=>hb));clear hb;have dR:=ae qj.out;rw[jw.out] at dR
    go_wp2_with fail
    go_quiet (fail)
    generalize hwq:wr.drewN nq=wq at*;have HEq:Hid (Ext w wq):=ae (by rw[<-hwq];exact HE.out.drewN' nq);have QO:Hid (wq.heap[w.heap.size]?=some (.cells #[.string f.1,.string f.2] 116 (0,0))):=ae (by rw[<-hwq];exact lQ.out);have q0':wq.cell? ⟨g,off+k*2,none⟩=some (.string x.1):=by rw[<-hwq];exact q0
    have q1':wq.cell? ⟨g,off+k*2+1,none⟩=some (.string x.2):=by rw[<-hwq];exact q1
    clear hwq HE lQ q0 q1 f0 f1;obtain⟨f0,f1⟩:=aP QO.out;by_cases he:x.1=f.1
    .have t3:(x.1.toList==f.1.toList)=true:=by rw[he];simp
     have jb:Hid (gm l f=(l,decide (x.2=f.2))):=ae (by rw[dR.out,if_pos ⟨hlt,by rw[KA.out];exact he⟩,KA.out]);clear he;have t4:(x.2.toList==f.2.toList)=decide (x.2=f.2):=by
      rw[Bool.eq_iff_iff,beq_iff_eq,decide_eq_true_eq];exact⟨fun e=>jX (by rw[Lib.toList_data,Lib.toList_data] at e;exact e),fun e=>by rw[e]⟩
     obtain⟨BB,hBB⟩: ∃b,decide (x.2=f.2)=b:=⟨_,rfl⟩
     rw[hBB] at t4 jb;clear hBB
     go_wp2_with fail
     go_quiet (fail)
     go_wp2_with fail
     go_quiet (fail)
     go_wp2_with fail
     go_ret2
     rw[jb.out];exact⟨_,rfl,az.weaken (az.drewN (az.drewN (bU.ext HR.out HEq.out) _) _) (fun k h=> .inl h),(HEq.out.drewN' _).drewN' _⟩
    .have t3:(x.1.toList==f.1.toList)=false:=by
      rw[beq_eq_false_iff_ne];intro e;exact he (jX (by rw[Lib.toList_data,Lib.toList_data] at e;exact e))
     have jb:Hid (gm l f=(l.take k++f::l.drop k,true)):=ae (by rw[dR.out,if_neg (fun h=>he (by rw[<-KA.out];exact h.2))]);clear he
     go_wp2_with fail
     go_quiet (fail)
     generalize hwq:wq.drewN nq=wz at*;have zS:Hid (Ext w wz):=ae (by rw[<-hwq];exact HEq.out.drewN' nq);have HBz:Hid (wz.heap[w.heap.size]?=some (.cells #[.string f.1,.string f.2] 116 (0,0))):=ae (by rw[<-hwq];exact QO.out);clear hwq HEq QO q0' q1' f0 f1 t1 t3;obtain⟨f0,f1⟩:=aP HBz.out;have xf0:=fun x:XW wz=>x.ext.cell f0 (fun h=>h);have xf1:=fun x:XW wz=>x.ext.cell f1 (fun h=>h);clear f0 f1
     go_wp2_with fail
     refine bW (α:=Option Addr×Nat) 7 [] 7 [(7,2),(8,2)] [[],[],[],[1,2],[0,1,2,3],[],[5],[0,1,2,3,4,5,6],[0,1,2,3,4,5,6,7]]
      [some ⟨fun x=> .slice x.1 0 0,fun x W=>W.ownsRow w.heap.size 116 2 (.slice x.1 0 0) 0 [],fun x W W' h hE=>df h hE (fun _ _ h=>h)⟩,none,none,none,some ⟨fun x=> .slice x.1 k x.2,fun x W=>W.ownsRow w.heap.size 116 2 (.slice x.1 k x.2) k (bu (l.take k)),fun x W W' h hE=>df h hE (fun _ _ h=>h)⟩,none,some ⟨fun x=> .slice x.1 1 x.2,fun x W=>bU (fun j=>w.heap.size<=j) W (.slice x.1 1 x.2) [f],fun x W W' h hE=>bU.ext h hE⟩]
      [true,false,false,false,true,false,true] (by kernel_rfl) (by kernel_rfl) rfl (fun _ _ d _ _ h=>by cases d<;>exact h) ?_
     simp only[List.take_succ_cons,List.take_zero,gG,List.getElem?_cons_zero,List.getElem?_cons_succ];refine aK _ rfl (by go_simp) (fun W hW hG K hK=>?_) (fun K zz0 hK=>?_)
     .go_simp;exact hK (some ⟨W.heap.size,0,none⟩,0) _ ((uR W).alloc _) (World.ownsRow_lit (base:=w.heap.size) (e:=116) (size:=2) W #[] 0 (Nat.le_trans zS.out.size hW.size) (by unfold maxLen;omega) (by simp))
     refine hK _ ?_;clear hK K;dsimp only
     iterate 3(refine aX rfl (fun K hK=>?_);go_simp;refine hK _ ?_;clear hK K)
     obtain⟨iS,hi,hz0,hz1,hz2⟩:=info_parts Ht;refine aK _ rfl (by go_simp) (fun W hW hG K hK=>?_) (fun K Vz hK=>?_)
     .have g0:=hG _ (List.mem_singleton.2 rfl) (by show(0:Nat)∈_;decide);have hsl:az S W 2 (.slice (some ⟨g,off,none⟩) k cap) k (bu (l.take k)):=by
       have h:=(HR.out.ext zS.out).ext hW|>.to rfl k hk
       rw[E8] at h;exact h
      refine yE _ (.tmp 47) (.tmp 50) 111 rfl w.heap.size 116 iS (.agg #[.string ⟨#[]⟩,.string ⟨#[]⟩]) 2 32 Tryz.underlying111 hi hz0 hz1 hz2 rfl (by decide) _ rfl g0 S _ k _ rfl hsl (kU _) (by unfold maxLen;omega) (by omega) (Nat.le_trans zS.out.size hW.size) ?_;intro v' w' lF hO4;obtain⟨p4,c4,rfl⟩:=bJ hO4;exact hK (p4,c4) _ lF hO4
     refine hK _ ?_;clear hK K;dsimp only;refine aX rfl (fun K hK=>?_);go_simp;refine hK _ ?_;clear hK K;refine aK _ rfl (by go_simp) (fun W hW hG K hK=>?_) (fun K VA hK=>?_)
     .go_simp;exact hK (some ⟨W.heap.size,0,none⟩,1) _ ((uR W).alloc _) (az.weaken (az.iV (World.ownsRow_lit (base:=w.heap.size) (e:=116) (size:=2) W #[.string f.1,.string f.2] 1 (Nat.le_trans zS.out.size hW.size) (by unfold maxLen;omega) (by simp))) (fun k hk=>by injection hk with hk;rw[<-hk];exact Nat.le_trans zS.out.size hW.size))
     refine hK _ ?_;clear hK K;dsimp only;refine jo (fun w8 hW hG=>?_);have g4:=hG _ (List.mem_append_left _ (List.mem_append_right _ (List.mem_singleton.2 rfl)));have g6:=hG _ (List.mem_append_right _ (List.mem_singleton.2 rfl));dsimp only at g4 g6;have NI:Hid (Ext w w8):=ae (zS.out.trans hW);clear hG hW;refine iE (fun K hK=>?_);rw[if_pos (by go_simp)];refine uK _ (.tmp 51) (.tmp 53) 111 rfl w.heap.size 116 iS (.agg #[.string ⟨#[]⟩,.string ⟨#[]⟩]) 2 32 Tryz.underlying111 hi hz0 hz1 hz2 rfl (by decide) (.slice Vz.1 k Vz.2) k _ rfl g4 (fun j=>w.heap.size<=j) (.slice VA.1 1 VA.2) 1 _ rfl g6 (kU _) (by unfold maxLen;omega) (by omega) NI.out.size ?_;intro v7 w9 dE;refine hK _ _ ?_;clear hK K;refine iE (fun K hK=>?_);go_simp;refine hK _ _ ?_;clear hK K;simp only[cu];have NJ:Hid (Ext w w9):=ae (NI.out.trans' dE.upd (fun j hj h=>absurd (g4.lt j h).1 (by omega)));have g9:=ae dE.own;clear dE g4 g6 NI;obtain⟨p7,c7,rfl⟩:=bJ g9.out;have VB:az S w9 2 (.slice (some ⟨g,off,none⟩) l.length cap) l.length (bu l):=HR.out.ext NJ.out;have hs9:=NJ.out.size
     go_wp2_with(with_reducible (refine zT (o:=⟨some 58,_,_,_,_,_⟩) ?_))
     refine Stop.go ?_;refine wI _ rfl 111 _ _ rfl 2 (by kernel_rfl) (fun _=>by kernel_rfl) _ _ _ _ rfl VB k .i64 (k:Int) rfl rfl hk (fun sv hsv=>?_);rw[E_] at hsv;obtain⟨ps,cs,rfl⟩:=hsv.shape
     go_wp2_with(at_builtin;refine kC _ rfl (.tmp 55) (.tmp 58) 111 rfl w.heap.size 116 iS (.agg #[.string ⟨#[]⟩,.string ⟨#[]⟩]) 2 32 Tryz.underlying111 hi hz0 hz1 hz2 rfl (by decide) (.slice p7 (k+1) c7) (k+1) _ rfl g9.out S (.slice ps (l.length-k) cs) (l.length-k) (bu (l.drop k)) rfl hsv (kU _) ?c3 ?c4 hs9 ?_)
     case c3=>unfold maxLen;omega
     case c4=>omega
     intro v10 w10 hG;have zN:=ae hG.own;have KE:Hid (Ext w w10):=ae (NJ.out.trans' hG.upd (fun i hi e=>by have:=(g9.out.lt i e).1;omega));clear hG VB hs9 hsv
     go_wp2_with fail
     go_ret2
     rw[jb.out];exact⟨v10,rfl,QM hk zN.out,KE.out⟩
   .rw [hb] at t1;have HN:=ae (pz.out hb);clear hb
    go_wp2_with fail
    go_quiet (fail)
    go_wp2_with fail
    go_roundg (l.length- (k+1))
    case measure=>omega
    case rel=>exact⟨k+1,by go_num,rfl,by omega,HN,ae (HE.out.drewN' nq),ae lQ.out⟩
  .have hkl:k=l.length:=by omega
   have jw:Hid (mJ l f=k):=ae (NH l f k hk HC.out (fun h=>absurd h hlt));have jb:Hid (gm l f=(l.take k++f::l.drop k,true)):=ae (by rw[qj.out,jw.out,if_neg (fun h=>absurd h.1 hlt)]);have z0:(0:Int)<=(k:Int):=by omega
   have z2:decide ((k:Int)< (l.length:Int))=false:=dF (by omega);have z2':decide (k<l.length)=false:=dF hlt;have hcap:k<=cap:=Nat.le_trans hk (az.CZ HR.out rfl);clear hkl
   go_wp2_with fail
   go_quiet (fail)
   generalize hwq:wr.drewN nq=wq at*;have HEq:Hid (Ext w wq):=ae (by rw[<-hwq];exact HE.out.drewN' nq);have QO:Hid (wq.heap[w.heap.size]?=some (.cells #[.string f.1,.string f.2] 116 (0,0))):=ae (by rw[<-hwq];exact lQ.out);clear hwq HE lQ f0 f1
   go_wp2_with fail
   go_quiet (fail)
   generalize hwq:wq.drewN nq=wz at*;have zS:Hid (Ext w wz):=ae (by rw[<-hwq];exact HEq.out.drewN' nq);have HBz:Hid (wz.heap[w.heap.size]?=some (.cells #[.string f.1,.string f.2] 116 (0,0))):=ae (by rw[<-hwq];exact QO.out);clear hwq HEq QO;obtain⟨f0,f1⟩:=aP HBz.out;have xf0:=fun x:XW wz=>x.ext.cell f0 (fun h=>h);have xf1:=fun x:XW wz=>x.ext.cell f1 (fun h=>h);clear f0 f1
   go_wp2_with fail
   refine bW (α:=Option Addr×Nat) 7 [] 7 [(7,2),(8,2)] [[],[],[],[1,2],[0,1,2,3],[],[5],[0,1,2,3,4,5,6],[0,1,2,3,4,5,6,7]]
    [some ⟨fun x=> .slice x.1 0 0,fun x W=>W.ownsRow w.heap.size 116 2 (.slice x.1 0 0) 0 [],fun x W W' h hE=>df h hE (fun _ _ h=>h)⟩,none,none,none,some ⟨fun x=> .slice x.1 k x.2,fun x W=>W.ownsRow w.heap.size 116 2 (.slice x.1 k x.2) k (bu (l.take k)),fun x W W' h hE=>df h hE (fun _ _ h=>h)⟩,none,some ⟨fun x=> .slice x.1 1 x.2,fun x W=>bU (fun j=>w.heap.size<=j) W (.slice x.1 1 x.2) [f],fun x W W' h hE=>bU.ext h hE⟩]
    [true,false,false,false,true,false,true] (by kernel_rfl) (by kernel_rfl) rfl (fun _ _ d _ _ h=>by cases d<;>exact h) ?_
   simp only[List.take_succ_cons,List.take_zero,gG,List.getElem?_cons_zero,List.getElem?_cons_succ];refine aK _ rfl (by go_simp) (fun W hW hG K hK=>?_) (fun K zz0 hK=>?_)
   .go_simp;exact hK (some ⟨W.heap.size,0,none⟩,0) _ ((uR W).alloc _) (World.ownsRow_lit (base:=w.heap.size) (e:=116) (size:=2) W #[] 0 (Nat.le_trans zS.out.size hW.size) (by unfold maxLen;omega) (by simp))
   refine hK _ ?_;clear hK K;dsimp only
   iterate 3(refine aX rfl (fun K hK=>?_);go_simp;refine hK _ ?_;clear hK K)
   obtain⟨iS,hi,hz0,hz1,hz2⟩:=info_parts Ht;refine aK _ rfl (by go_simp) (fun W hW hG K hK=>?_) (fun K Vz hK=>?_)
   .have g0:=hG _ (List.mem_singleton.2 rfl) (by show(0:Nat)∈_;decide);have hsl:az S W 2 (.slice a k cap) k (bu (l.take k)):=by
     have h:=(HR.out.ext zS.out).ext hW|>.to rfl k hk
     rw[E8] at h;exact h
    refine yE _ (.tmp 47) (.tmp 50) 111 rfl w.heap.size 116 iS (.agg #[.string ⟨#[]⟩,.string ⟨#[]⟩]) 2 32 Tryz.underlying111 hi hz0 hz1 hz2 rfl (by decide) _ rfl g0 S _ k _ rfl hsl (kU _) (by unfold maxLen;omega) (by omega) (Nat.le_trans zS.out.size hW.size) ?_;intro v' w' lF hO4;obtain⟨p4,c4,rfl⟩:=bJ hO4;exact hK (p4,c4) _ lF hO4
   refine hK _ ?_;clear hK K;dsimp only;refine aX rfl (fun K hK=>?_);go_simp;refine hK _ ?_;clear hK K;refine aK _ rfl (by go_simp) (fun W hW hG K hK=>?_) (fun K VA hK=>?_)
   .go_simp;exact hK (some ⟨W.heap.size,0,none⟩,1) _ ((uR W).alloc _) (az.weaken (az.iV (World.ownsRow_lit (base:=w.heap.size) (e:=116) (size:=2) W #[.string f.1,.string f.2] 1 (Nat.le_trans zS.out.size hW.size) (by unfold maxLen;omega) (by simp))) (fun k hk=>by injection hk with hk;rw[<-hk];exact Nat.le_trans zS.out.size hW.size))
   refine hK _ ?_;clear hK K;dsimp only;refine jo (fun w8 hW hG=>?_);have g4:=hG _ (List.mem_append_left _ (List.mem_append_right _ (List.mem_singleton.2 rfl)));have g6:=hG _ (List.mem_append_right _ (List.mem_singleton.2 rfl));dsimp only at g4 g6;have NI:Hid (Ext w w8):=ae (zS.out.trans hW);clear hG hW;refine iE (fun K hK=>?_);rw[if_pos (by go_simp)];refine uK _ (.tmp 51) (.tmp 53) 111 rfl w.heap.size 116 iS (.agg #[.string ⟨#[]⟩,.string ⟨#[]⟩]) 2 32 Tryz.underlying111 hi hz0 hz1 hz2 rfl (by decide) (.slice Vz.1 k Vz.2) k _ rfl g4 (fun j=>w.heap.size<=j) (.slice VA.1 1 VA.2) 1 _ rfl g6 (kU _) (by unfold maxLen;omega) (by omega) NI.out.size ?_;intro v7 w9 dE;refine hK _ _ ?_;clear hK K;refine iE (fun K hK=>?_);go_simp;refine hK _ _ ?_;clear hK K;simp only[cu];have NJ:Hid (Ext w w9):=ae (NI.out.trans' dE.upd (fun j hj h=>absurd (g4.lt j h).1 (by omega)));have g9:=ae dE.own;clear dE g4 g6 NI;obtain⟨p7,c7,rfl⟩:=bJ g9.out;have VB:az S w9 2 (.slice a l.length cap) l.length (bu l):=HR.out.ext NJ.out;have hs9:=NJ.out.size
   go_wp2_with(with_reducible (refine zT (o:=⟨some 58,_,_,_,_,_⟩) ?_))
   refine Stop.go ?_;refine wI _ rfl 111 _ _ rfl 2 (by kernel_rfl) (fun _=>by kernel_rfl) _ _ _ _ rfl VB k .i64 (k:Int) rfl rfl hk (fun sv hsv=>?_);rw[E_] at hsv;obtain⟨ps,cs,rfl⟩:=hsv.shape
   go_wp2_with(at_builtin;refine kC _ rfl (.tmp 55) (.tmp 58) 111 rfl w.heap.size 116 iS (.agg #[.string ⟨#[]⟩,.string ⟨#[]⟩]) 2 32 Tryz.underlying111 hi hz0 hz1 hz2 rfl (by decide) (.slice p7 (k+1) c7) (k+1) _ rfl g9.out S (.slice ps (l.length-k) cs) (l.length-k) (bu (l.drop k)) rfl hsv (kU _) ?c3 ?c4 hs9 ?_)
   case c3=>unfold maxLen;omega
   case c4=>omega
   intro v10 w10 hG;have zN:=ae hG.own;have KE:Hid (Ext w w10):=ae (NJ.out.trans' hG.upd (fun i hi e=>by have:=(g9.out.lt i e).1;omega));clear hG VB hs9 hsv
   go_wp2_with fail
   go_ret2
   rw[jb.out];exact⟨v10,rfl,QM hk zN.out,KE.out⟩
theorem MO (f:Vd): ∀l:List Vd,(gm l f).1.length<=l.length+1
 |[]=>by simp[gm]
 |g::l=>by
  simp only[gm];split
  .simp only [List.length_cons];have:=MO f l;omega
  .split<;>simp
theorem Cm: ∀(fs l:List Vd),(bZ l fs).1.length<=l.length+fs.length
 |[],l=>by simp[bZ]
 |f::fs,l=>by
  simp only[bZ];split
  .have h1:=Cm fs (gm l f).1;have h2:=MO f l;simp only[List.length_cons];omega
  .simp
theorem CB: ∀(fs gs l:List Vd),bZ l (fs++gs)=if(bZ l fs).2=true then bZ (bZ l fs).1 gs else bZ l fs
 |[],gs,l=>by simp[bZ]
 |f::fs,gs,l=>by
  by_cases h:(gm l f).2=true
  .have e1: ∀x,bZ l (f::x)=bZ (gm l f).1 x:=fun x=>by rw[bZ,if_pos h]
   rw[List.cons_append,e1,e1];exact CB fs gs _
  .have e1: ∀x,bZ l (f::x)=(l,false):=fun x=>by rw[bZ,if_neg h]
   rw[List.cons_append,e1,e1];rfl
def VL (t:Tm):Prop:= ∀x∈aV t,x.sort≠ah->x.kids=[]
theorem VL.kid {t x:Tm} (h:VL t) (hx:x∈t.kids):VL x:=fun y hy=>h y (oC hx hy)
theorem ab_ (n:By) (L:List Tm):vl (aV (.mk n ah L))=L.flatMap (fun x=>vl (aV x)):=by
 rw[o6];have h1: ∀M:List Tm,vl (M.flatMap aV)=M.flatMap (fun x=>vl (aV x)):=by
  intro M
  induction M with
  |nil=>rfl
  |cons x M ih=>rw[List.flatMap_cons,qX,ih,List.flatMap_cons]
 have h2:vl [Tm.mk n ah L]=[]:=rfl;rw[<-List.singleton_append,qX,h2,h1];rfl
theorem aca (n s:By) (h:s≠ah):vl (aV (.mk n s []))=[(n,s)]:=by
 rw[o6];simp[vl,Tm.sort,Tm.name,Tm.kids,h]
theorem U_ (t:Tm):(vl (aV t)).length<=t.size:=by
 have h1:(vl (aV t)).length<=(aV t).length:=List.length_filterMap_le _ _;have h2:(aV t).length=t.size:=by rw[aV,List.length_map,kP]
 omega
abbrev rU (L:List Tm):List Vd:=L.flatMap fun x=>vl (aV x)
theorem Qy: ∀L:List Tm,(rU L).length<=sizes L
 |[]=>by simp[sizes]
 |x::L=>by
  have h1:=U_ x;have h2:=Qy L;simp only[rU,List.flatMap_cons,List.length_append,sizes] at h2⊢;omega
theorem zC (L:List Tm) (k:Nat) (h:k<L.length):L.take (k+1)=L.take k++[tg L k]:=by
 rw[List.take_add_one];have:L[k]?.toList=[tg L k]:=by unfold tg;rw[List.getD_eq_getElem?_getD,List.getElem?_eq_getElem h];rfl
 rw[this]
theorem ed (L:List Tm) (k:Nat) (h:k<L.length):tg L k∈L:=by
 unfold tg;rw[List.getD_eq_getElem?_getD,List.getElem?_eq_getElem h];exact List.getElem_mem h
theorem X9 (L:List Tm) (k:Nat) (h:k<L.length):rU (L.take (k+1))=rU (L.take k)++vl (aV (tg L k)):=by
 rw[zC L k h];unfold rU;rw[List.flatMap_append,List.flatMap_cons,List.flatMap_nil,List.append_nil]
theorem X_ (L:List Tm) (k:Nat) (h:k<L.length):(rU (L.take k)).length+(tg L k).size<=sizes L:=by
 have h1:=Qy (L.take k);have h2:sizes L=sizes (L.take (k+1))+sizes (L.drop (k+1)):=by rw[<-lM,List.take_append_drop]
 rw[zC L k h,lM] at h2;have h3:sizes [tg L k]=(tg L k).size:=by simp[sizes]
 omega
theorem Ya (L:List Tm) (l cur:List Vd) (k:Nat) (h:k<L.length) (hc:bZ l (rU (L.take k))=(cur,true)):
  (∀m,bZ cur (vl (aV (tg L k)))=(m,true)->bZ l (rU (L.take (k+1)))=(m,true))/\
  ((bZ cur (vl (aV (tg L k)))).2=false->(bZ l (rU L)).2=false):=by
 have h1:bZ l (rU (L.take (k+1)))=bZ cur (vl (aV (tg L k))):=by
  rw[X9 L k h,CB,hc,if_pos rfl]
 refine⟨fun m hm=>by rw[h1,hm],fun hf=>?_⟩;have h2:rU L=rU (L.take (k+1))++rU (L.drop (k+1)):=by
  unfold rU;rw[<-List.flatMap_append,List.take_append_drop]
 rw[h2,CB,h1,if_neg (by rw[hf];simp)];exact hf
theorem Va: ∀(t:Tm) (l:List Vd) (v v':Value) (S T:Nat->Prop) (w:World),bC T w t v'->bU S w v l->VL t->l.length+t.size<=100000->
  Calls Tryz.prog 84 #[v,v'] w fun e w'=> ∃r,e= .returned (.tuple #[r,.bool (bZ l (vl (aV t))).2])/\((bZ l (vl (aV t))).2=true->bU (fun k=>S k\/w.heap.size<=k) w' r (bZ l (vl (aV t))).1)/\Ext w w':=by
 refine Tm.ind (fun nm so L ih=>?_);intro l v v' S T w hT hF hV hsz;obtain⟨a,cap,rfl,hT⟩:=hT;dsimp only[tV,Tm.name,Tm.sort,Tm.kids] at hT⊢;have cO:=ae hT;have HIH:=ae ih;have HF:=ae hF;have zD:=ae hV;obtain⟨fa,fc,rfl⟩:=hF.shape;clear ih hT hF hV;have HZ:=ae ((uR w).alloc (.cells #[.string nm,.string so,.slice a L.length cap] 24));have HB:=ae (ai w (.cells #[.string nm,.string so,.slice a L.length cap] 24));by_cases hs0:so.size=0
 .have hse:=eU _ hs0;subst hse;rw[show vl (aV (.mk nm ⟨#[]⟩ L))=rU L from ab_ nm L];have hroom:l.length+sizes L+1<=100000:=by rw[size_eq] at hsz;exact hsz
  have HR0:=ae hroom;have mr:L.length<=100000:=by have h1:=bf L;omega
  clear hsz hroom;obtain⟨c0,c1,c2⟩:=ag HB.out;have hVK: ∀x∈L,VL x:=fun x hx=>VL.kid (t:= .mk nm ⟨#[]⟩ L) zD.out hx;have lN:=ae hVK;clear hVK zD
  go_enter Tryz.func84,Tryz.ntmps84
  go_wp2_with fail
  clear c0 c1 c2
  go_loopg [0,6] L.length (fun gk lv iv wr=> ∃(k:Nat) (cur:List Vd),iv= .int .i64 (k:Int)/\gk=L.length-k/\k<=L.length/\Hid (bZ l (rU (L.take k))=(cur,true))/\Hid (bU (fun j=>S j\/w.heap.size<=j) wr lv cur)/\Hid (Ext w wr)/\Hid (wr.heap[w.heap.size]?=some (.cells #[.string nm,.string ⟨#[]⟩,.slice a L.length cap] 24 (0,0))))
  case atStart=>exact⟨0,l,rfl,rfl,Nat.zero_le _,ae rfl,ae (az.weaken (bU.ext HF.out HZ.out) (fun j h=> .inl h)),HZ,HB⟩
  case round=>
   obtain⟨k,cur,rfl,rfl,hk,HC,HFk,HE,lQ⟩:=hrel;have c2:=af lQ.out 2 (.slice a L.length cap) rfl;by_cases hlt:k<L.length
   .obtain ⟨g,off,rfl,_,hat⟩:=(cO.out.ext HE.out).at_ (by omega);obtain⟨ka,kc,q0,q1,q2,aY⟩:=hat k hlt;obtain⟨z0,z1,z2,z2'⟩:=bz hlt;have hmem:=ed L k hlt;have hrm:=X_ L k hlt;have hln:cur.length<=l.length+(rU (L.take k)).length:=by have:=Cm (rU (L.take k)) l;rw[HC.out] at this;exact this
    obtain⟨hv1,hv2⟩:=Ya L l cur k hlt HC.out;have a_:=ae (HIH.out (tg L k) hmem cur _ _ _ T wr ⟨ka,kc,rfl,aY⟩ HFk.out (lN.out _ hmem) (by have:=HR0.out;omega));dsimp only[tV] at a_;generalize vl (aV (tg L k))=ff at hv1 hv2 a_;obtain⟨⟨m,b⟩,hm⟩: ∃p,bZ cur ff=p:=⟨_,rfl⟩
    rw[hm] at hv1 hv2 a_;have pg:=ae hv1;have jb:=ae hv2;obtain⟨x,hx⟩: ∃x,tg L k=x:=⟨_,rfl⟩
    rw[hx] at q0 q1 q2 a_;rw[<-Nat.add_assoc] at q1 q2;clear hmem hrm hln hv1 hv2 hm hx hat aY
    go_wp2_with fail
    refine a_.out.mono ?_;rintro e w8 ⟨r,rfl,hr,hw8⟩;have bV:=ae (HE.out.ext hw8);have kE:=ae (hw8.heap lQ.out (fun h=>h));have HFr:Hid (b=true->bU (fun j=>S j\/w.heap.size<=j) w8 r m):=ae (fun hb=>az.weaken (hr hb) (fun j h=>by
     rcases h with h|h
     .exact h
     .exact .inr (Nat.le_trans HE.out.size h)))
    clear hr hw8 c2 q0 q1 q2 a_;cases b
    .have Qz:=ae (jb.out rfl)
     go_wp2_with fail
     go_ret2
     rw[Qz.out];exact⟨_,rfl,fun h=>(by cases h),bV.out⟩
    .have HN:=ae (pg.out m rfl)
     go_wp2_with fail
     go_roundg (L.length- (k+1))
     case measure=>omega
     case rel=>exact⟨k+1,m,by go_num,rfl,by omega,HN,ae (HFr.out trivial),bV,kE⟩
   .obtain rfl:k=L.length:=by omega
    have HV:Hid (bZ l (rU L)=(cur,true)):=ae (by rw[<-HC.out,List.take_length]);have z2:decide ((L.length:Int)< (L.length:Int))=false:=dF (by omega)
    go_wp2_with fail
    go_ret2
    rw[HV.out];exact⟨_,rfl,fun _=>HFk.out,HE.out⟩
 .have hLn:L=[]:=zD.out _ (fO _) (fun e=>hs0 (by show so.size=0;rw[show so=ah from e];rfl));subst hLn;obtain⟨e1,e2,e3,e4⟩:=dJ so (Nat.pos_of_ne_zero hs0);rw[aca nm so (fun e=>hs0 (by rw[e];rfl))];have hadd:bZ l [(nm,so)]=if(gm l (nm,so)).2=true then((gm l (nm,so)).1,true) else(l,false):=by rw[bZ];rfl
  have Td:=ae (fun W hW=>aiP l (nm,so) _ S W (HF.out.ext hW) (by omega));obtain⟨c0,c1,c2⟩:=ag HB.out;dsimp only at Td;obtain⟨⟨m,b⟩,hm⟩: ∃p,gm l (nm,so)=p:=⟨_,rfl⟩
  rw[hm] at Td hadd;dsimp only at Td hadd;have HAD:=ae hadd;clear hadd hm
  go_enter Tryz.func84,Tryz.ntmps84
  go_wp2_with fail
  refine(Td.out _ HZ.out).mono ?_;rintro e w4 ⟨r,rfl,hr,hw4⟩;have HRR:=ae (az.weaken hr (fun j h=>by
   rcases h with h|h
   .exact Or.inl h
   .exact Or.inr (Nat.le_trans HZ.out.size h)):bU (fun j=>S j\/w.heap.size<=j) w4 r m)
  have H4:=ae (HZ.out.ext hw4);clear hr hw4 c0 c1 c2
  go_wp2_with fail
  go_ret2
  rw[HAD.out];cases b
  .exact ⟨r,rfl,fun h=>by simp at h,H4.out⟩
  .exact ⟨r,rfl,fun _=>HRR.out,H4.out⟩
abbrev lD (S:Nat->Prop) (w:World) (v:Value) (l:List By):Prop:=az S w 1 v l.length (l.map Value.string)
abbrev bg (l:List By) (i:Nat):By:=l.getD i ah
theorem aay (l:List By) (i:Nat) (h:i<l.length):bg l i=l[i]:=by unfold bg;rw[List.getD_eq_getElem?_getD,List.getElem?_eq_getElem h];rfl
theorem lD.ext {S:Nat->Prop} {w w':World} {v:Value} {l:List By} (h:lD S w v l) (hu:Ext w w'):lD S w' v l:=az.kept h hu (fun _ _ h=>h)
theorem lD.at_ {S:Nat->Prop} {w:World} {a:Option Addr} {n cap:Nat} {l:List By} (h:lD S w (.slice a n cap) l) (hl:0<l.length):
  ∃g off,a=some ⟨g,off,none⟩/\S g/\∀i,i<l.length->w.cell? ⟨g,off+i,none⟩=some (.string (bg l i)):=by
 obtain⟨g,off,c,e,_,hS,hj⟩:=az.pos h hl;injection e with e1 e2 e3
 refine⟨g,off,e1,hS,fun i hi=>?_⟩;rw[hj i (by omega),aay l i hi,List.getElem?_map,List.getElem?_eq_getElem hi];rfl
theorem lD.to {S:Nat->Prop} {w:World} {a:Option Addr} {n cap:Nat} {l:List By} (h:lD S w (.slice a n cap) l) {k:Nat} (hk:k<=l.length):lD S w (.slice a k cap) (l.take k):=by
 have h1:=az.to h rfl k hk;unfold lD;rw[Nat.mul_one,<-List.map_take] at h1;rw[List.length_take,Nat.min_eq_left hk];exact h1
theorem xy {a b:By} (h:a≠b):(a.toList==b.toList)=false:=beq_eq_false_iff_ne.2 (fun e=>h (jX (by rw[Lib.toList_data,Lib.toList_data] at e;exact e)))
theorem QD (a b:By):(a.toList==b.toList)=decide (a=b):=by
 by_cases h:a=b
 .rw [dT h,h];simp
 .rw [dF h,xy h]
def qZ (l:List By) (s:By):Int:=if s∈l then(ER l s:Int) else -1
theorem adJ (l:List By) (s:By):(decide ((0:Int)<=qZ l s))=decide (s∈l):=by
 unfold qZ;by_cases h:s∈l
 .rw [if_pos h,dT h,dT (by omega)]
 .rw [if_neg h,dF h];rfl
theorem Jk (l:List By) (s:By):(decide (qZ l s< (0:Int)))=!decide (s∈l):=by
 unfold qZ;by_cases h:s∈l
 .rw [if_pos h,dT h,dF (by omega)];rfl
 .rw [if_neg h,dF h];rfl
theorem uY {t:Tm} (h:wf ax t=true):formed ax t=true:=by
 unfold wf at h;rw[Bool.and_eq_true] at h;exact h.1
theorem CE {t:Tm} (h:formed ax t=true):t.size<=1000/\∀x∈aV t,ax x.name=true/\x.kids.length<=6/\(x.sort=ah\/ax x.sort=true/\x.kids=[]):=by
 obtain⟨h1,h2⟩:=(rW ax t).1 h;refine⟨h1,fun x hx=>?_⟩;have hx1:x∈(bH 1 t).map (·.1):=by rw[mQ t 1 0];exact hx
 obtain⟨p,hp,rfl⟩:=List.mem_map.1 hx1;have h3:=h2 p hp;unfold j_ at h3;simp only[Bool.and_eq_true,Bool.or_eq_true,decide_eq_true_eq] at h3;refine⟨h3.2.1,h3.2.2.1,?_⟩;rcases h3.2.2.2 with h|h
 .exact .inl h
 .exact .inr ⟨h.1,List.eq_nil_of_length_eq_zero h.2⟩
theorem CG {t:Tm} (h:formed ax t=true):VL t:=fun x hx hs=>by
 rcases((CE h).2 x hx).2.2 with e|e
 .exact absurd e hs
 .exact e.2
theorem CJ (t:Tm) (v:Value) (S:Nat->Prop) (w:World) (hR:bC S w t v):Calls Tryz.prog 24 #[v] w fun e w'=>e= .returned (.bool (wf ax t))/\Ext w w':=by
 have HR:=ae hR;obtain⟨a,cap,rfl,hT⟩:=hR;have rX:=ae (fun W (hW:Ext w W)=>Ez t 1 1000 _ S W (HR.out.ext hW) (by omega) (by omega) (by omega));have CO:=ae (rY ax t);dsimp only[tV] at rX⊢;have HZ:=ae ((uR w).alloc (tO t a cap));have HB:=ae (ai w (tO t a cap));obtain⟨c0,c1,c2⟩:=ag HB.out;by_cases hf:formed ax t=true
 .have hsz:=(CE hf).1;have qj:=ae (fun W (hW:Ext w W)=>Va t [] (.slice none 0 0) _ S S W (HR.out.ext hW) (az.nil S W 2) (CG hf) (by show 0+t.size<=100000;omega));have HV:Hid (wf ax t=(bZ [] (vl (aV t))).2):=ae (by unfold wf;rw[hf,Bool.true_and,MV]);have z1: ¬(small ax 1 1000 t<0):=by
   have:=CO.out;rw[hf] at this;have:=of_decide_eq_true this.symm;omega
  dsimp only[tV] at qj;clear hT hf hsz;generalize small ax 1 1000 t=R at*;generalize (bZ [] (vl (aV t))).2=B at*
  go_enter Tryz.func24,Tryz.ntmps24
  go_wp2_with fail
  refine(rX.out _ HZ.out).mono ?_;rintro e w4 ⟨rfl,hw4⟩;have H4:=ae (HZ.out.ext hw4);have HB4:=ae (hw4.heap HB.out (fun h=>h));clear hw4 c0 c1 c2;obtain⟨c0,c1,c2⟩:=ag HB4.out
  go_wp2_with fail
  refine(qj.out _ H4.out).mono ?_;rintro e w5 ⟨r,rfl,_,hw5⟩;have H5:=ae (H4.out.ext hw5);clear hw5 c0 c1 c2
  go_wp2_with fail
  go_ret;rw[HV.out];exact⟨rfl,H5.out⟩
 .have HV:Hid (wf ax t=false):=ae (by unfold wf;rw[Bool.eq_false_iff.2 hf];rfl);have z1:small ax 1 1000 t<0:=by
   have h1:=CO.out;rw[Bool.eq_false_iff.2 hf] at h1;have:=of_decide_eq_false h1.symm;omega
  clear hT hf;generalize small ax 1 1000 t=R at*
  go_enter Tryz.func24,Tryz.ntmps24
  go_wp2_with fail
  refine(rX.out _ HZ.out).mono ?_;rintro e w4 ⟨rfl,hw4⟩;have H4:=ae (HZ.out.ext hw4);clear hw4 c0 c1 c2
  go_wp2_with fail
  go_ret;rw[HV.out];exact⟨rfl,H4.out⟩
theorem aaz:(Tryz.prog.info? 3).map (fun i=>(i.zero,i.size,i.bytes))=some (some (.int .i64 0),1,8):=by kernel_rfl
theorem Ar:(Tryz.prog.info? 24).map (fun i=>(i.zero,i.size,i.bytes))=some (some (.agg #[.string ⟨#[]⟩,.string ⟨#[]⟩,.slice none 0 0]),3,56):=by kernel_rfl
theorem kR (L:List Tm) (k:Nat) (h:k<L.length):sizes (L.take (k+1))=sizes (L.take k)+(tg L k).size:=by
 rw[zC L k h,lM];simp[sizes]
theorem jd (L:List Tm) (k:Nat):sizes (L.take k)<=sizes L:=by
 have:sizes L=sizes (L.take k)+sizes (L.drop k):=by rw[<-lM,List.take_append_drop]
 omega
theorem aG.shape {te:TypeId} {w:World} {B:Nat->Prop} {L:List Tm} {v:Value} (h:aG te w B L v): ∃a cap,v= .slice a L.length cap:=h.read.shape
theorem F5 (w:World) (u0 u1 u2:Value) (t:TypeId): ∀(j:Nat) (u:Value),[u0,u1,u2][j]?=some u->(w.alloc (.cells #[u0,u1,u2] t)).cell? ((⟨w.heap.size,0,none⟩:Addr).add j)=some u:=fun j u hj=>by
 match j,hj with
 |0,hj=>simp only[List.getElem?_cons_zero,Option.some.injEq] at hj;subst hj;simp only[Addr.add];exact af (ai _ _) 0 _ rfl
 |1,hj=>simp at hj;subst hj;simp only[Addr.add];exact af (ai _ _) 1 _ rfl
 |2,hj=>simp at hj;subst hj;simp only[Addr.add];exact af (ai _ _) 2 _ rfl
structure ru (te:TypeId) (n0:Nat) (wr:World) (L:List Tm) (lv:Value) (us:List Value) (Bk:Nat->Nat->Prop) (k:Nat):Prop where
 len:us.length=k
 own:wr.ownsRow n0 te 3 lv k (dC (L.take k) us)
 kid: ∀i,i<k->aG te wr (Bk i) (tg L i).kids (ug us i)
 blk: ∀i j,i<k->Bk i j->n0<=j/\j<wr.heap.size/\lv.ownBlock≠some j
 dis: ∀i i' j,i<k->i'<k->i≠i'->Bk i j->¬Bk i' j
theorem ru.grow {te:TypeId} {n0 n3 k:Nat} {wr wq w5 wA w7 w8:World} {L:List Tm} {lv lv' u:Value} {us:List Value} {Bk:Nat->Nat->Prop} {Bx:Nat->Prop} {x:Tm} (h:ru te n0 wr L lv us Bk k) (hk:k<L.length) (hx:tg L k=x) (hn:n3<n0) (h0:n0<=wr.heap.size) (hq:Ext wr wq) (h5:Ext wq w5)
  (hT:aG te w5 Bx x.kids u) (hB: ∀j,Bx j->wq.heap.size<=j/\j<w5.heap.size) (hA:Ext w5 wA) (hG:Grew n0 te 3 lv (k+1) (dC (L.take k) us++[.string x.name,.string x.sort,u]) wA w7 lv') (h8:aj (fun j=>j=n3) w7 w8):
  ru te n0 w8 L lv' (us++[u]) (fun i=>if i=k then Bx else Bk i) (k+1):=by
 have Nw:aj (fun j=>lv.ownBlock=some j) wr w7:=(((hq.trans h5).trans hA).mono (fun _ _ x=>x.elim)).trans hG.upd;have hlt:=fun j hj=>h.own.lt j hj;have hF: ∀(P:Nat->Prop) (Lx:List Tm) (vx:Value),aG te w7 P Lx vx->(∀j,P j->n0<=j)->aG te w8 P Lx vx:=fun P Lx vx ht hp=>ht.kept h8 (fun j hj e=>by have:=hp j hj;omega);refine⟨by rw[List.length_append,h.len];rfl,?_,fun i hi=>?_,fun i j hi hj=>?_,fun i i' j hi hi' hne hj=>?_⟩
 .rw [zC L k hk,EY _ _ _ _ (by rw[h.len,List.length_take];omega),hx];exact df hG.own h8 (fun j hj e=>by have:=(hG.own.lt j hj).1;omega)
 .by_cases e:i=k
  .subst e;rw[if_pos rfl,hx];have e2:ug (us++[u]) i=u:=by unfold ug;rw[List.getD_eq_getElem?_getD,List.getElem?_append_right (by rw[h.len];exact Nat.le_refl _),h.len,Nat.sub_self];rfl
   rw[e2];refine hF _ _ _ ((hT.kept hA (fun _ _ x=>x)).kept hG.upd (fun j hj e=>?_)) (fun j hj=>by have h1:=hB j hj;have:=hq.size;omega);have h1:=(hB j hj).1;have h2:=(hlt j e).2;have:=hq.size;omega
  .rw [if_neg e];have e2:ug (us++[u]) i=ug us i:=by unfold ug;rw[List.getD_eq_getElem?_getD,List.getD_eq_getElem?_getD,List.getElem?_append_left (by rw[h.len];omega)]
   rw[e2];exact hF _ _ _ ((h.kid i (by omega)).kept Nw (fun j hj e=>(h.blk i j (by omega) hj).2.2 e)) (fun j hj=>(h.blk i j (by omega) hj).1)
 .have hs8:=h8.size;have hs7:=hG.upd.size;have hsA:=hA.size;have hs5:=h5.size;have Kv:=hq.size;have hbn: ∀j,lv'.ownBlock=some j->lv.ownBlock=some j\/w5.heap.size<=j:=fun j e=>by
   rcases hG.xE with h|h
   .rw [h] at e;exact .inl e
   .rw [h] at e;injection e with e;exact .inr (by omega)
  by_cases e:i=k
  .subst e;rw[if_pos rfl] at hj;have h1:=hB j hj;refine⟨by omega,by omega,fun e=>?_⟩;rcases hbn j e with h2|h2
   .have:=(hlt j h2).2;omega
   .omega
  .rw [if_neg e] at hj;obtain⟨h1,h2,h3⟩:=h.blk i j (by omega) hj;refine⟨h1,by omega,fun e=>?_⟩;rcases hbn j e with h4|h4
   .exact h3 h4
   .omega
 .have Kv:=hq.size;by_cases e:i=k
  .subst e;rw[if_pos rfl] at hj;have h1:=hB j hj;rw[if_neg (fun e=>hne e.symm)];intro h2;have:=(h.blk i' j (by omega) h2).2.1;omega
  .rw [if_neg e] at hj;by_cases e':i'=k
   .subst e';rw[if_pos rfl];intro h2;have h3:=hB j h2;have:=(h.blk i j (by omega) hj).2.1;omega
   .rw [if_neg e'];exact h.dis i i' j (by omega) (by omega) hne hj
theorem ru.fin {te:TypeId} {n0:Nat} {wr:World} {L:List Tm} {lv:Value} {us:List Value} {Bk:Nat->Nat->Prop} (h:ru te n0 wr L lv us Bk L.length):aG te wr (fun j=>n0<=j/\j<wr.heap.size) L lv:=by
 have ho:=h.own;rw[List.take_length] at ho;exact⟨_,L,us,lv,Bk,h.len,⟨ho.1,ho.2.imp id (fun⟨g,c,cur,e,_,h2⟩=>⟨g,c,cur,e,Nat.zero_le _,h2⟩)⟩,fun k hk=>⟨(ho.lt k hk).1,(ho.lt k hk).2⟩,fun i k hi hk=>⟨(h.blk i k hi hk).1,(h.blk i k hi hk).2.1⟩,fun i k hi hk=>(h.blk i k hi hk).2.2,fun i j k hi hj=>h.dis i j k hi hj,h.kid⟩
theorem aJ {W:World} {z:Nat} {t:TypeId} {v0 v1 v2:Value} (h:W.heap[z]?=some (.cells #[v0,v1,v2] t (0,0))) (u0 u1 u2:Value):(((W.setCell ⟨z,0,none⟩ u0).setCell ⟨z,1,none⟩ u1).setCell ⟨z,2,none⟩ u2).heap[z]?=some (.cells #[u0,u1,u2] t (0,0)):=by
 have:=setBlock (setBlock (setBlock h 0 u0) 1 u1) 2 u2;simpa using this
theorem aI (W:World) (z:Nat) (u0 u1 u2:Value):aj (fun k=>k=z) W (((W.setCell ⟨z,0,none⟩ u0).setCell ⟨z,1,none⟩ u1).setCell ⟨z,2,none⟩ u2):=
 (((aj.refl (fun k=>k=z) W).setCell (p:=⟨z,0,none⟩) (.inl rfl) u0).setCell (p:=⟨z,1,none⟩) (.inl rfl) u1).setCell (p:=⟨z,2,none⟩) (.inl rfl) u2
theorem Ny: ∀(t:Tm) (v:Value) (S:Nat->Prop) (w:World),bC S w t v->(∀k,S k->k<w.heap.size)->t.size<=100000->
  Calls Tryz.prog 172 #[v] w fun e w'=> ∃r B,e= .returned (tV t r)/\aG 24 w' B t.kids r/\(∀j,B j->w.heap.size<=j/\j<w'.heap.size)/\Ext w w':=by
 refine Tm.ind (fun nm so L ih=>?_);intro v S w hT hS hsz;obtain⟨a,cap,rfl,hT⟩:=hT;dsimp only[tV,Tm.name,Tm.sort,Tm.kids] at hT⊢;have cO:=ae hT;have HIH:=ae ih;have jf:=ae hS;have iU:sizes L+1<=100000:=by rw[size_eq] at hsz;simp only[Tm.kids] at hsz;omega
 have oM:=ae iU;have mr:L.length<=100000:=by have h1:=bf L;omega
 have hx3:=(((uR w).alloc (.cells #[.string nm,.string so,.slice a L.length cap] 24)).alloc zO).alloc (.cells #[.string nm,.string so,.slice none 0 0] 24);have hb2:=ak (alloc_at (w.alloc (.cells #[.string nm,.string so,.slice a L.length cap] 24)) zO (n:=w.heap.size+1) (by simp)) (.cells #[.string nm,.string so,.slice none 0 0] 24);have hb3:=alloc_at ((w.alloc (.cells #[.string nm,.string so,.slice a L.length cap] 24)).alloc zO) (.cells #[.string nm,.string so,.slice none 0 0] 24) (n:=w.heap.size+1+1) (by simp);have hz0:(((w.alloc (.cells #[.string nm,.string so,.slice a L.length cap] 24)).alloc zO).alloc (.cells #[.string nm,.string so,.slice none 0 0] 24)).heap.size=w.heap.size+3:=by simp
 have HB2:=ae hb2;have HB3:=ae hb3;have cZ:=ae hx3;have HZ0:=ae hz0;clear ih hT hS hsz iU;clear hb2 hb3 hx3 hz0
 go_enter Tryz.func172,Tryz.ntmps172
 go_wp2_with fail
 generalize (((w.alloc (.cells #[.string nm,.string so,.slice a L.length cap] 24)).alloc zO).alloc (.cells #[.string nm,.string so,.slice none 0 0] 24))=W0 at*;obtain⟨n3,hn3⟩: ∃n3,w.heap.size+1+1=n3:=⟨_,rfl⟩
 rw[hn3] at HB3⊢;have gz:=ae hn3;clear hn3;have nX:Hid (ru 24 (w.heap.size+3) W0 L (.slice none 0 0) [] (fun _ _=>False) 0):=ae ⟨rfl,⟨rfl,.inl ⟨rfl,rfl⟩⟩,fun i hi=>absurd hi (Nat.not_lt_zero _),fun i j hi=>absurd hi (Nat.not_lt_zero _),fun i i' j hi=>absurd hi (Nat.not_lt_zero _)⟩;have sF:Hid (w.heap.size+3<=W0.heap.size):=ae (by rw[HZ0.out];exact Nat.le_refl _);clear HZ0
 go_loopg [11] L.length (fun gk iv wr=> ∃(k:Nat) (lv:Value) (us:List Value) (Bk:Nat->Nat->Prop),iv= .int .i64 (k:Int)/\gk=L.length-k/\k<=L.length/\Hid (ru 24 (w.heap.size+3) wr L lv us Bk k)/\Hid (wr.heap[w.heap.size+1]?=some zO)/\Hid (wr.heap[n3]?=some (.cells #[.string nm,.string so,lv] 24 (0,0)))/\Hid (Ext w wr)/\Hid (w.heap.size+3<=wr.heap.size))
 case atStart=>exact⟨0,_,_,_,rfl,rfl,Nat.zero_le _,nX,HB2,HB3,cZ,sF⟩
 case round=>
  clear nX HB2 HB3 cZ sF;obtain⟨k,lv,us,Bk,rfl,rfl,hk,HJ,HB2,HB3,HE,dw⟩:=hrel;obtain⟨la,lc,hlv⟩:=bJ HJ.out.own;subst hlv;by_cases hlt:k<L.length
  .obtain ⟨g,off,hga,_,hat⟩:=(cO.out.ext HE.out).at_ (by omega);subst hga;obtain⟨xa,xc,q0,q1,q2,aY⟩:=hat k hlt;rw[<-Nat.add_assoc] at q1 q2;obtain⟨z0,z1,z2,z2'⟩:=bz hlt;have a_:=ae (fun W (hW:Ext (wr.alloc (.cells #[.string (tg L k).name,.string (tg L k).sort,.slice xa (tg L k).kids.length xc] 24)) W)=>HIH.out (tg L k) (ed L k hlt) _ S W ⟨xa,xc,rfl,(aY.ext ((uR wr).alloc _)).ext hW⟩ (fun j hj=>ay (jf.out j hj) (Nat.le_trans HE.out.size (Nat.le_trans ((uR wr).alloc (.cells #[.string (tg L k).name,.string (tg L k).sort,.slice xa (tg L k).kids.length xc] 24)).size hW.size))) (by have h1:=oM.out;have h2:=kR L k hlt;have h3:=jd L (k+1);omega));dsimp only[tV] at a_;obtain⟨x,hx⟩: ∃x,tg L k=x:=⟨_,rfl⟩
   have HX:=ae hx;rw[hx] at q0 q1 q2 a_;have hQ:=(uR wr).alloc (tO x xa xc);have kT:=ai wr (tO x xa xc);obtain⟨b0,b1,b2⟩:=ag kT;have kz:=ak HB3.out (tO x xa xc);have c2:=af kz 2 (.slice la k lc) rfl;have yA:=ae kz;have HQ:=ae hQ;have xG:=ae (ak HB2.out (tO x xa xc));have CV:=ae (HJ.out.own.alloc (tO x xa xc));have jD:Hid (¬(Value.slice la k lc).ownBlock=some n3):=ae (fun e=>by have h1:=(HJ.out.own.lt n3 e).1;have:=gz.out;omega);have HK:Hid (k<=100000):=ae (by omega);obtain⟨iT,hi,hz0,hz1,hz2⟩:=info_parts Ar;clear hat aY hx hQ kT kz
   go_wp2_with fail
   generalize wr.alloc (tO x xa xc)=wq at*;have yB:Hid (Ext wq wq):=ae (aj.refl _ _);have ui:Hid (w.heap.size+3<=wq.heap.size):=ae (Nat.le_trans dw.out HQ.out.size);clear q0 q1 q2
   go_region_law (first
 |(refine dP _ (.tmp 16) (.tmp 19) 22 rfl (w.heap.size+3) 24 iT (.agg #[.string ⟨#[]⟩,.string ⟨#[]⟩,.slice none 0 0]) 3 56 Tryz.underlying22 hi hz0 hz1 hz2 rfl (by decide) _ _ _ rfl xH.out _ 1 1 [.string x.name,.string x.sort,.slice ya x.kids.length yc] rfl rfl oN.out mW.out jA.out.1 jA.out.2.1 jA.out.2.2 ?_;intro v7 w7 dE;obtain⟨a7,c7,hv7⟩:=bJ dE.own;subst hv7;have iL:=dE.upd.heap (ak fE.out (tO x ya yc)) jD.out;have f7:=fun i=>au iL i;have c2:=af iL 2 (.slice la k lc) rfl;have eP:=ae iL;have mD:=ae dE;clear dE iL)
 |(go_simp;refine(a_.out wq.drew yB.out.drew).mono ?_;rintro e w5 ⟨r,Bx,rfl,jV,hb5,hw5⟩;obtain⟨ya,yc,jB⟩:=aG.shape jV;subst jB;have dS:Hid (Ext wq w5):=ae (((uR wq).drewN' 1).trans hw5);have ql:=ae jV;have qH:Hid (∀j,Bx j->wq.heap.size<=j/\j<w5.heap.size):=ae hb5;have fE:=ae (dS.out.heap yA.out (fun h=>h));have xH:Hid ((w5.alloc (tO x ya yc)).ownsRow (w.heap.size+3) 24 3 (.slice la k lc) k (dC (L.take k) us)):=ae ((df CV.out dS.out (fun _ _ h=>h)).alloc _);have oN:Hid (∀(j:Nat) (u:Value),[Value.string x.name,.string x.sort,.slice ya x.kids.length yc][j]?=some u->(w5.alloc (tO x ya yc)).cell? ((⟨w5.heap.size,0,none⟩:Addr).add j)=some u):=ae (F5 w5 _ _ _ 24);have mW:Hid (∀u∈[Value.string x.name,.string x.sort,.slice ya x.kids.length yc],u.oneCell'=true):=ae (fun u hu=>by simp at hu;rcases hu with h|h|h<;>(subst h;rfl));have jA:Hid (k+1<=maxLen/\(k+1)*56<=140737488355328/\w.heap.size+3<=(w5.alloc (tO x ya yc)).heap.size):=ae ⟨by unfold maxLen;have:=HK.out;omega,by have:=HK.out;omega,by have h1:=dS.out.size;have h2:=ui.out;simp;omega⟩;have c5:=dS.out.cell c2 (fun h=>h);have c6:=((uR w5).alloc (tO x ya yc)).cell c5 (fun h=>h);clear jV hb5 hw5))
   all_goals
    go_wp2_with fail
    have ji:=ae ((aj.refl (fun j=>j=n3) w7).setCell (p:=⟨n3,2,none⟩) (.inl rfl) (.slice a7 (k+1) c7));have dG:Hid (aj (fun j=>(Value.slice la k lc).ownBlock=some j\/j=n3) wq (w7.setCell ⟨n3,2,none⟩ (.slice a7 (k+1) c7))):=ae (((((dS.out.alloc (tO x ya yc)).mono (fun _ _ x=>x.elim)).trans (mD.out.upd.mono (fun _ _ e=> .inl e)))).trans (ji.out.mono (fun _ _ e=> .inr e)));have zL:=ae (HJ.out.grow hlt HX.out (by have:=gz.out;omega) dw.out HQ.out dS.out ql.out qH.out ((uR w5).alloc (tO x ya yc)) mD.out ji.out);have bV:Hid (Ext w (w7.setCell ⟨n3,2,none⟩ (.slice a7 (k+1) c7))):=ae ((HE.out.trans HQ.out).trans' dG.out (fun j hj e=>by
     rcases e with e|e
     .have h1:=(HJ.out.own.lt j e).1;omega
     .have:=gz.out;omega))
    have uH:=ae (dG.out.heap xG.out (fun e=>by
     rcases e with e|e
     .have h1:=(HJ.out.own.lt _ e).1;omega
     .have:=gz.out;omega))
    have lT:=setBlock eP.out 2 (.slice a7 (k+1) c7);have uI:Hid ((w7.setCell ⟨n3,2,none⟩ (.slice a7 (k+1) c7)).heap[n3]?=some (.cells #[.string nm,.string so,.slice a7 (k+1) c7] 24 (0,0))):=ae (by simpa using lT);have pF:Hid (w.heap.size+3<=(w7.setCell ⟨n3,2,none⟩ (.slice a7 (k+1) c7)).heap.size):=ae (Nat.le_trans ui.out dG.out.size);clear lT c2 f7
    go_roundg (L.length- (k+1))
    case measure=>omega
    case rel=>exact⟨k+1,_,_,_,by go_num,rfl,by omega,zL,uH,uI,bV,pF⟩
  .obtain rfl:k=L.length:=by omega
   have z2:decide ((L.length:Int)< (L.length:Int))=false:=dF (by omega);obtain⟨c0,c1,c2⟩:=ag HB3.out;have f2:=fun i=>au HB2.out i;obtain⟨d0,d1,d2⟩:=ag HB2.out
   go_wp2_with fail
   have hr:=aJ HB2.out (.string nm) (.string so) (.slice la L.length lc);have hu:=aI wr (w.heap.size+1) (.string nm) (.string so) (.slice la L.length lc);obtain⟨e0,e1,e2⟩:=ag hr;refine bodyPost_ret (v:= .agg #[.string nm,.string so,.slice la L.length lc]) (by simp[results,Tryz.results172,go_sem,e0,e1,e2]) rfl ⟨.slice la L.length lc,_,rfl,HJ.out.fin.kept hu (fun j hj e=>by have h1:=hj.1;omega),fun j hj=>⟨by have h1:=hj.1;omega,ay hj.2 hu.size⟩,HE.out.trans' hu (fun j hj e=>by omega)⟩
theorem yF: ∀(t:Tm) (v:Value) (S:Nat->Prop) (w:World),bC S w t v->(∀k,S k->k<w.heap.size)->t.size<=100000->
  Calls Tryz.prog 117 #[v] w fun e w'=> ∃r B,e= .returned (tV t r)/\aG 24 w' B t.kids r/\(∀j,B j->w.heap.size<=j/\j<w'.heap.size)/\Ext w w':=by
 refine Tm.ind (fun nm so L ih=>?_);intro v S w hT hS hsz;obtain⟨a,cap,rfl,hT⟩:=hT;dsimp only[tV,Tm.name,Tm.sort,Tm.kids] at hT⊢;have cO:=ae hT;have HIH:=ae ih;have jf:=ae hS;have iU:sizes L+1<=100000:=by rw[size_eq] at hsz;simp only[Tm.kids] at hsz;omega
 have oM:=ae iU;have mr:L.length<=100000:=by have h1:=bf L;omega
 have hx3:=(((uR w).alloc (.cells #[.string nm,.string so,.slice a L.length cap] 24)).alloc zO).alloc (.cells #[.string nm,.string so,.slice none 0 0] 24);have hb2:=ak (alloc_at (w.alloc (.cells #[.string nm,.string so,.slice a L.length cap] 24)) zO (n:=w.heap.size+1) (by simp)) (.cells #[.string nm,.string so,.slice none 0 0] 24);have hb3:=alloc_at ((w.alloc (.cells #[.string nm,.string so,.slice a L.length cap] 24)).alloc zO) (.cells #[.string nm,.string so,.slice none 0 0] 24) (n:=w.heap.size+1+1) (by simp);have hz0:(((w.alloc (.cells #[.string nm,.string so,.slice a L.length cap] 24)).alloc zO).alloc (.cells #[.string nm,.string so,.slice none 0 0] 24)).heap.size=w.heap.size+3:=by simp
 have HB2:=ae hb2;have HB3:=ae hb3;have cZ:=ae hx3;have HZ0:=ae hz0;clear ih hT hS hsz iU;clear hb2 hb3 hx3 hz0
 go_enter Tryz.func117,Tryz.ntmps117
 go_wp2_with fail
 generalize (((w.alloc (.cells #[.string nm,.string so,.slice a L.length cap] 24)).alloc zO).alloc (.cells #[.string nm,.string so,.slice none 0 0] 24))=W0 at*;obtain⟨n3,hn3⟩: ∃n3,w.heap.size+1+1=n3:=⟨_,rfl⟩
 rw[hn3] at HB3⊢;have gz:=ae hn3;clear hn3;have nX:Hid (ru 24 (w.heap.size+3) W0 L (.slice none 0 0) [] (fun _ _=>False) 0):=ae ⟨rfl,⟨rfl,.inl ⟨rfl,rfl⟩⟩,fun i hi=>absurd hi (Nat.not_lt_zero _),fun i j hi=>absurd hi (Nat.not_lt_zero _),fun i i' j hi=>absurd hi (Nat.not_lt_zero _)⟩;have sF:Hid (w.heap.size+3<=W0.heap.size):=ae (by rw[HZ0.out];exact Nat.le_refl _);clear HZ0
 go_loopg [14] L.length (fun gk iv wr=> ∃(k:Nat) (lv:Value) (us:List Value) (Bk:Nat->Nat->Prop),iv= .int .i64 (k:Int)/\gk=L.length-k/\k<=L.length/\Hid (ru 24 (w.heap.size+3) wr L lv us Bk k)/\Hid (wr.heap[w.heap.size+1]?=some zO)/\Hid (wr.heap[n3]?=some (.cells #[.string nm,.string so,lv] 24 (0,0)))/\Hid (Ext w wr)/\Hid (w.heap.size+3<=wr.heap.size))
 case atStart=>exact⟨0,_,_,_,rfl,rfl,Nat.zero_le _,nX,HB2,HB3,cZ,sF⟩
 case round=>
  clear nX HB2 HB3 cZ sF;obtain⟨k,lv,us,Bk,rfl,rfl,hk,HJ,HB2,HB3,HE,dw⟩:=hrel;obtain⟨la,lc,hlv⟩:=bJ HJ.out.own;subst hlv;by_cases hlt:k<L.length
  .obtain ⟨g,off,hga,_,hat⟩:=(cO.out.ext HE.out).at_ (by omega);subst hga;obtain⟨xa,xc,q0,q1,q2,aY⟩:=hat k hlt;rw[<-Nat.add_assoc] at q1 q2;obtain⟨z0,z1,z2,z2'⟩:=bz hlt;have a_:=ae (fun W (hW:Ext (wr.alloc (.cells #[.string (tg L k).name,.string (tg L k).sort,.slice xa (tg L k).kids.length xc] 24)) W)=>HIH.out (tg L k) (ed L k hlt) _ S W ⟨xa,xc,rfl,(aY.ext ((uR wr).alloc _)).ext hW⟩ (fun j hj=>ay (jf.out j hj) (Nat.le_trans HE.out.size (Nat.le_trans ((uR wr).alloc (.cells #[.string (tg L k).name,.string (tg L k).sort,.slice xa (tg L k).kids.length xc] 24)).size hW.size))) (by have h1:=oM.out;have h2:=kR L k hlt;have h3:=jd L (k+1);omega));dsimp only[tV] at a_;obtain⟨x,hx⟩: ∃x,tg L k=x:=⟨_,rfl⟩
   have HX:=ae hx;rw[hx] at q0 q1 q2 a_;have hQ:=(uR wr).alloc (tO x xa xc);have kT:=ai wr (tO x xa xc);obtain⟨b0,b1,b2⟩:=ag kT;have kz:=ak HB3.out (tO x xa xc);have c2:=af kz 2 (.slice la k lc) rfl;have yA:=ae kz;have HQ:=ae hQ;have xG:=ae (ak HB2.out (tO x xa xc));have CV:=ae (HJ.out.own.alloc (tO x xa xc));have jD:Hid (¬(Value.slice la k lc).ownBlock=some n3):=ae (fun e=>by have h1:=(HJ.out.own.lt n3 e).1;have:=gz.out;omega);have HK:Hid (k<=100000):=ae (by omega);obtain⟨iT,hi,hz0,hz1,hz2⟩:=info_parts Ar;clear hat aY hx hQ kT kz
   go_wp2_with fail
   generalize wr.alloc (tO x xa xc)=wq at*;have yB:Hid (Ext wq wq):=ae (aj.refl _ _);have ui:Hid (w.heap.size+3<=wq.heap.size):=ae (Nat.le_trans dw.out HQ.out.size);clear q0 q1 q2
   go_region_law (first
 |(refine dP _ (.tmp 19) (.tmp 22) 22 rfl (w.heap.size+3) 24 iT (.agg #[.string ⟨#[]⟩,.string ⟨#[]⟩,.slice none 0 0]) 3 56 Tryz.underlying22 hi hz0 hz1 hz2 rfl (by decide) _ _ _ rfl xH.out _ 1 1 [.string x.name,.string x.sort,.slice ya x.kids.length yc] rfl rfl oN.out mW.out jA.out.1 jA.out.2.1 jA.out.2.2 ?_;intro v7 w7 dE;obtain⟨a7,c7,hv7⟩:=bJ dE.own;subst hv7;have iL:=dE.upd.heap (ak fE.out (tO x ya yc)) jD.out;have f7:=fun i=>au iL i;have c2:=af iL 2 (.slice la k lc) rfl;have eP:=ae iL;have mD:=ae dE;clear dE iL)
 |(go_simp;refine(a_.out wq.drew yB.out.drew).mono ?_;rintro e w5 ⟨r,Bx,rfl,jV,hb5,hw5⟩;obtain⟨ya,yc,jB⟩:=aG.shape jV;subst jB;have dS:Hid (Ext wq w5):=ae (((uR wq).drewN' 1).trans hw5);have ql:=ae jV;have qH:Hid (∀j,Bx j->wq.heap.size<=j/\j<w5.heap.size):=ae hb5;have fE:=ae (dS.out.heap yA.out (fun h=>h));have xH:Hid ((w5.alloc (tO x ya yc)).ownsRow (w.heap.size+3) 24 3 (.slice la k lc) k (dC (L.take k) us)):=ae ((df CV.out dS.out (fun _ _ h=>h)).alloc _);have oN:Hid (∀(j:Nat) (u:Value),[Value.string x.name,.string x.sort,.slice ya x.kids.length yc][j]?=some u->(w5.alloc (tO x ya yc)).cell? ((⟨w5.heap.size,0,none⟩:Addr).add j)=some u):=ae (F5 w5 _ _ _ 24);have mW:Hid (∀u∈[Value.string x.name,.string x.sort,.slice ya x.kids.length yc],u.oneCell'=true):=ae (fun u hu=>by simp at hu;rcases hu with h|h|h<;>(subst h;rfl));have jA:Hid (k+1<=maxLen/\(k+1)*56<=140737488355328/\w.heap.size+3<=(w5.alloc (tO x ya yc)).heap.size):=ae ⟨by unfold maxLen;have:=HK.out;omega,by have:=HK.out;omega,by have h1:=dS.out.size;have h2:=ui.out;simp;omega⟩;have c5:=dS.out.cell c2 (fun h=>h);have c6:=((uR w5).alloc (tO x ya yc)).cell c5 (fun h=>h);clear jV hb5 hw5))
   all_goals
    go_wp2_with fail
    have ji:=ae ((aj.refl (fun j=>j=n3) w7).setCell (p:=⟨n3,2,none⟩) (.inl rfl) (.slice a7 (k+1) c7));have dG:Hid (aj (fun j=>(Value.slice la k lc).ownBlock=some j\/j=n3) wq (w7.setCell ⟨n3,2,none⟩ (.slice a7 (k+1) c7))):=ae (((((dS.out.alloc (tO x ya yc)).mono (fun _ _ x=>x.elim)).trans (mD.out.upd.mono (fun _ _ e=> .inl e)))).trans (ji.out.mono (fun _ _ e=> .inr e)));have zL:=ae (HJ.out.grow hlt HX.out (by have:=gz.out;omega) dw.out HQ.out dS.out ql.out qH.out ((uR w5).alloc (tO x ya yc)) mD.out ji.out);have bV:Hid (Ext w (w7.setCell ⟨n3,2,none⟩ (.slice a7 (k+1) c7))):=ae ((HE.out.trans HQ.out).trans' dG.out (fun j hj e=>by
     rcases e with e|e
     .have h1:=(HJ.out.own.lt j e).1;omega
     .have:=gz.out;omega))
    have uH:=ae (dG.out.heap xG.out (fun e=>by
     rcases e with e|e
     .have h1:=(HJ.out.own.lt _ e).1;omega
     .have:=gz.out;omega))
    have lT:=setBlock eP.out 2 (.slice a7 (k+1) c7);have uI:Hid ((w7.setCell ⟨n3,2,none⟩ (.slice a7 (k+1) c7)).heap[n3]?=some (.cells #[.string nm,.string so,.slice a7 (k+1) c7] 24 (0,0))):=ae (by simpa using lT);have pF:Hid (w.heap.size+3<=(w7.setCell ⟨n3,2,none⟩ (.slice a7 (k+1) c7)).heap.size):=ae (Nat.le_trans ui.out dG.out.size);clear lT c2 f7
    go_roundg (L.length- (k+1))
    case measure=>omega
    case rel=>exact⟨k+1,_,_,_,by go_num,rfl,by omega,zL,uH,uI,bV,pF⟩
  .obtain rfl:k=L.length:=by omega
   have z2:decide ((L.length:Int)< (L.length:Int))=false:=dF (by omega);obtain⟨c0,c1,c2⟩:=ag HB3.out;have f2:=fun i=>au HB2.out i;obtain⟨d0,d1,d2⟩:=ag HB2.out
   go_wp2_with fail
   have hr:=aJ HB2.out (.string nm) (.string so) (.slice la L.length lc);have hu:=aI wr (w.heap.size+1) (.string nm) (.string so) (.slice la L.length lc);obtain⟨e0,e1,e2⟩:=ag hr;refine bodyPost_ret (v:= .agg #[.string nm,.string so,.slice la L.length lc]) (by simp[results,Tryz.results172,go_sem,e0,e1,e2]) rfl ⟨.slice la L.length lc,_,rfl,HJ.out.fin.kept hu (fun j hj e=>by have h1:=hj.1;omega),fun j hj=>⟨by have h1:=hj.1;omega,ay hj.2 hu.size⟩,HE.out.trans' hu (fun j hj e=>by omega)⟩
theorem Tv (l:List By) (x:By) (v:Value) (S:Nat->Prop) (w:World) (hR:lD S w v l) (hl:l.length<=1000000):
  Calls Tryz.prog 179 #[v,.string x] w fun e w'=>e= .returned (.bool (decide (x∈l)))/\Ext w w':=by
 obtain⟨a,cap,rfl⟩:=az.shape hR;by_cases h0:0<l.length
 .obtain ⟨g,off,hga,_,hat⟩:=az.uZ (d:=ah) hR h0;subst hga;refine(Tryz.slices_Contains_string g off l.length cap l x w (Nat.le_refl _) (by omega) (fun j hj=>hat j hj)).mono ?_;rintro e w' ⟨rfl,rfl⟩;refine⟨?_,aj.refl _ _⟩;rw[List.take_length]
  suffices h:Lib.containsS l x=decide (x∈l) by rw[h]
  rw[Bool.eq_iff_iff,decide_eq_true_eq,Lib.containsS_iff]
 .have hl0:l=[]:=List.eq_nil_of_length_eq_zero (by omega);subst hl0;refine(Tryz.slices_Contains_string_empty a cap x w).mono ?_;rintro e w' ⟨rfl,rfl⟩;exact⟨rfl,aj.refl _ _⟩
theorem ad9 {L M:List Tm} (hl:L.length=M.length) (h: ∀j,j<L.length->tg L j=tg M j):L=M:=by
 refine List.ext_getElem hl (fun i h1 h2=>?_);have:=h i h1;unfold tg at this;rw[List.getD_eq_getElem?_getD,List.getD_eq_getElem?_getD,List.getElem?_eq_getElem h1,List.getElem?_eq_getElem h2] at this;exact this
theorem aiQ (L M:List Tm) (v v':Value) (S T:Nat->Prop) (w:World) (hR:aA S w L v) (hR':aA T w M v') (hl:L.length<=1000000)
  (hf: ∀t∈L,∀u v1 v2 W,Ext w W->bC S W t v1->bC T W u v2->Calls Tryz.prog 216 #[v1,v2] W fun e W'=>e= .returned (.bool (decide (t=u)))/\Ext W W'):
  Calls Tryz.prog 190 #[v,v',.func (.func 216) #[] #[]] w fun e w'=>e= .returned (.bool (decide (L=M)))/\Ext w w':=by
 obtain⟨aa,ca,rfl⟩:=hR.shape;obtain⟨ab,cb,rfl⟩:=hR'.shape;have cO:=ae (And.intro hR hR');have HF:=ae hf;have HL:=ae hl;clear hR hR' hf hl;by_cases hlen:L.length=M.length
 .have hz1:((L.length:Int) !=(M.length:Int))=false:=by simp[hlen]
  have H3:=ae hlen;clear hlen
  go_enter Tryz.func190,Tryz.ntmps190
  go_wp2_with fail
  clear hz1
  go_loopg [17] L.length (fun gk iv wr=> ∃k:Nat,iv= .int .i64 (k:Int)/\gk=L.length-k/\k<=L.length/\Hid (∀j,j<k->tg L j=tg M j)/\Hid (Ext w wr))
  case atStart=>exact⟨0,rfl,rfl,Nat.zero_le _,ae (fun j h=>absurd h (Nat.not_lt_zero _)),ae (aj.refl _ _)⟩
  case round=>
   obtain⟨k,rfl,rfl,hk,HC,HE⟩:=hrel;by_cases hlt:k<L.length
   .have xC:k<M.length:=by have:=H3.out;omega
    obtain⟨g,off,hga,_,hat⟩:=(cO.out.1.ext HE.out).at_ (by omega);obtain⟨g',off',Yr,_,hat'⟩:=(cO.out.2.ext HE.out).at_ (by omega);subst hga;subst Yr;obtain⟨xa,xc,q0,q1,q2,aY⟩:=hat k hlt;obtain⟨ya,yc,p0,p1,p2,su⟩:=hat' k xC;obtain⟨z0,z1,z2,z2'⟩:=bz hlt;have z3:(k:Int)< (M.length:Int):=by omega
    have a_:=ae (fun W (hW:Ext wr W)=>HF.out (tg L k) (ed L k hlt) (tg M k) _ _ W (HE.out.trans hW) ⟨xa,xc,rfl,aY.ext hW⟩ ⟨ya,yc,rfl,su.ext hW⟩);have pz:Hid (tg L k=tg M k->∀j,j<k+1->tg L j=tg M j):=ae (fun h j hj=>by
     rcases Nat.lt_succ_iff_lt_or_eq.1 hj with h5|h5
     .exact HC.out j h5
     .rw [h5];exact h)
    have zU:Hid (tg L k≠tg M k->decide (L=M)=false):=ae (fun h=>dF (fun e=>h (by rw[e])));dsimp only[tV] at a_;clear hat hat' aY su;obtain⟨x,hx⟩: ∃x,tg L k=x:=⟨_,rfl⟩
    obtain⟨y,hy⟩: ∃y,tg M k=y:=⟨_,rfl⟩
    rw[hx] at q0 q1 q2 a_ pz zU;rw[hy] at p0 p1 p2 a_ pz zU;clear hx hy HC;rw[<-Nat.add_assoc] at q1 q2 p1 p2;have hA:=(uR wr).alloc (tO x xa xc);have p0:=hA.cell p0 (fun h=>h);have p1:=hA.cell p1 (fun h=>h);have p2:=hA.cell p2 (fun h=>h);have HZ:=ae (hA.alloc (tO y ya yc));have HA:=ae (ak (ai wr (tO x xa xc)) (tO y ya yc));have HB:=ae (alloc_at (wr.alloc (tO x xa xc)) (tO y ya yc) (n:=wr.heap.size+1) (by simp));obtain⟨a0,a1,a2⟩:=ag HA.out;obtain⟨b0,b1,b2⟩:=ag HB.out;clear hA HA HB
    go_wp2_with fail
    refine(a_.out _ HZ.out).mono ?_;rintro e w8 ⟨rfl,hw8⟩;have bV:=ae (HE.out.trans (HZ.out.trans hw8));obtain⟨b,hb⟩: ∃b,decide (x=y)=b:=⟨_,rfl⟩
    rw[hb];have jq:=ae hb;clear hw8 hb a_ HZ q0 q1 q2 p0 p1 p2 a0 a1 a2 b0 b1 b2;cases b
    .have HV:=ae (zU.out (of_decide_eq_false jq.out))
     go_wp2_with fail
     go_ret;rw[HV.out];exact⟨rfl,bV.out⟩
    .have HN:=ae (pz.out (of_decide_eq_true jq.out));have mr:=HL.out
     go_wp2_with fail
     go_roundg (L.length- (k+1))
     case measure=>omega
     case rel=>exact⟨k+1,by go_num,rfl,by omega,HN,bV⟩
   .obtain rfl:k=L.length:=by omega
    have z2:decide ((L.length:Int)< (L.length:Int))=false:=dF (by omega);have HV:Hid (decide (L=M)=true):=ae (dT (ad9 H3.out HC.out));clear HC
    go_wp2_with fail
    go_ret;rw[HV.out];exact⟨rfl,HE.out⟩
 .have hz1:((L.length:Int) !=(M.length:Int))=true:=by simp;exact fun e=>hlen (Int.ofNat.inj e)
  have HV:Hid (decide (L=M)=false):=ae (dF (fun e=>hlen (by rw[e])));clear hlen
  go_enter Tryz.func190,Tryz.ntmps190
  go_wp2_with fail
  go_ret;rw[HV.out];exact⟨rfl,aj.refl _ _⟩
theorem acn: ∀(t u:Tm) (v v':Value) (S T:Nat->Prop) (w:World),bC S w t v->bC T w u v'->t.size<=1000000->
  Calls Tryz.prog 216 #[v,v'] w fun e w'=>e= .returned (.bool (decide (t=u)))/\Ext w w':=by
 refine Tm.ind (fun n s L ih=>?_);intro u v v' S T w hR hR' hsz;obtain⟨m,r,M⟩:=u;obtain⟨aa,ca,rfl,hT⟩:=hR;obtain⟨ab,cb,rfl,hT'⟩:=hR';dsimp only[tV,Tm.name,Tm.sort,Tm.kids] at hT hT'⊢;have mr:L.length<=1000000:=by have h1:=bf L;have h2:=hsz;rw[size_eq] at h2;exact Nat.le_trans h1 (Nat.le_of_succ_le h2)
 have HC:=ae (fun W (hW:Ext w W)=>aiQ L M _ _ S T W (hT.ext hW) (hT'.ext hW) mr (fun t ht u v1 v2 W' hW' h1 h2=>ih t ht u v1 v2 S T W' h1 h2 (by have h1:=ku ht;have h2:=hsz;rw[size_eq] at h2;exact Nat.le_trans h1 (Nat.le_of_succ_le h2))));have HZ:=ae (((uR w).alloc (.cells #[.string n,.string s,.slice aa L.length ca] 24)).alloc (.cells #[.string m,.string r,.slice ab M.length cb] 24));have HA:=ae (ak (ai w (.cells #[.string n,.string s,.slice aa L.length ca] 24)) (.cells #[.string m,.string r,.slice ab M.length cb] 24));have HB:=ae (alloc_at (w.alloc (.cells #[.string n,.string s,.slice aa L.length ca] 24)) (.cells #[.string m,.string r,.slice ab M.length cb] 24) (n:=w.heap.size+1) (by simp));obtain⟨a0,a1,a2⟩:=ag HA.out;obtain⟨b0,b1,b2⟩:=ag HB.out;have hz:decide (Tm.mk n s L= .mk m r M)=(decide (n=m)&&(decide (s=r)&&decide (L=M))):=by
  rw[Bool.eq_iff_iff];simp
 rw[hz];clear hz hT hT' ih hsz;by_cases h1:n=m
 .have t1:(n.toList==m.toList)=true:=by rw[h1];simp
  have d1:decide (n=m)=true:=dT h1;rw[d1];clear h1 d1;by_cases h2:s=r
  .have t2:(s.toList==r.toList)=true:=by rw[h2];simp
   have d2:decide (s=r)=true:=dT h2;rw[d2];clear h2 d2;generalize decide (L=M)=Z at*
   go_enter Tryz.func216,Tryz.ntmps216
   go_wp2_with fail
   refine(HC.out _ HZ.out).mono ?_;rintro e w4 ⟨rfl,hw4⟩;have H4:=ae (HZ.out.trans hw4);clear hw4 a0 a1 a2 b0 b1 b2
   go_wp2_with fail
   go_ret;exact⟨rfl,H4.out⟩
  .have t2:(s.toList==r.toList)=false:=by rw[beq_eq_false_iff_ne];exact fun e=>h2 (jX (by rw[Lib.toList_data,Lib.toList_data] at e;exact e))
   have d2:decide (s=r)=false:=dF h2;rw[d2];clear h2 d2
   go_enter Tryz.func216,Tryz.ntmps216
   go_wp2_with fail
   go_ret;exact⟨rfl,HZ.out⟩
 .have t1:(n.toList==m.toList)=false:=by rw[beq_eq_false_iff_ne];exact fun e=>h1 (jX (by rw[Lib.toList_data,Lib.toList_data] at e;exact e))
  have d1:decide (n=m)=false:=dF h1;rw[d1];clear h1 d1
  go_enter Tryz.func216,Tryz.ntmps216
  go_wp2_with fail
  go_ret;exact⟨rfl,HZ.out⟩
end Go.Proofs.YtlkcjmaiahnodaaGreatDoor
