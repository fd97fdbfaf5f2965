/- The texts I7 I8 I9 I10 I11 I12 I13 I14 I15 I16 I17 I70 I90 I30 I31 I32 I33 I34 I35 I36 I37 I38 I91, one behind the other. -/
import Derived.Test.YtlkcjmaiahnodaaGreatDoorYAB
import Derived.Test.YtlkcjmaiahnodaaGreatDoorYAF
import Derived.Sort.Walk0
import Derived.Laws.Cover1
import Derived.BigQuiet
import Derived.Test.YtlkcjmaiahnodaaGreatDoorYAC
import Derived.Deep.RegionHeld3
import Derived.Test.YtlkcjmaiahnodaaGreatDoorProg
import Derived.WalkKit
import Derived.Deep.SlicePairs
import Derived.Deep.DeepCutAuto
import Derived.Lib.AppendIntMem
set_option maxRecDepth 100000
set_option maxHeartbeats 8000000
set_option linter.unusedVariables false
set_option linter.unusedSimpArgs false
namespace Go.Proofs.YtlkcjmaiahnodaaGreatDoor
open Go.RowKit Go.Hw Go Tm
theorem I4 (x y:ByteArray):Op.bytesLess x.toList y.toList=blt x y:=by
 unfold blt;rw[bytesLess_eq,Lib.toList_data,Lib.toList_data]
theorem SC (x y:ByteArray) (w:World):Calls Tryz.prog 149 #[.string x,.string y] w fun e w'=>e= .returned (.int .i64 (eu x y))/\Ext w w':=by
 have hrf:=ah (uR w);have t1:=I4 x y;have t2:=I4 y x;have hb:eu x y=if blt x y=true then -1 else if blt y x=true then 1 else 0:=rfl;generalize eu x y=Z at*;cases h1:blt x y
 .rw [h1] at t1 hb;cases h2:blt y x
  .rw [h2] at t2 hb;have hz:Z=0:=hb;subst hz;have hxy:x=y:=by
    by_cases e:x=y
    .exact e
    .rcases AL x y e with h3|h3
     .rw [h3] at h1;cases h1
     .rw [h3] at h2;cases h2
   have t3:(x.toList==y.toList)=true:=by rw[hxy];simp
   clear hb h1 h2 hxy
   go_enter Tryz.func149,Tryz.ntmps149
   go_wp2_with fail
   go_ret;exact⟨rfl,hrf.out⟩
  .rw [h2] at t2 hb;have hz:Z=1:=hb;subst hz;have t3:(x.toList==y.toList)=false:=by
    rw[beq_eq_false_iff_ne];intro e;have hxy:x=y:=kZ (by rw[Lib.toList_data,Lib.toList_data] at e;exact e);rw[hxy,iD] at h2;cases h2
   clear hb h1 h2
   go_enter Tryz.func149,Tryz.ntmps149
   go_wp2_with fail
   go_ret;exact⟨rfl,hrf.out⟩
 .rw [h1] at t1 hb;have hz:Z= -1:=hb;subst hz;clear hb h1
  go_enter Tryz.func149,Tryz.ntmps149
  go_wp2_with fail
  go_ret;exact⟨rfl,hrf.out⟩
theorem WM: ∀(t u:Tm) (v v':Value) (S T:Nat->Prop) (w:World),bQ S w t v->bQ T w u v'->t.size<=1000000->
  Calls Tryz.prog 85 #[v,v'] w fun e w'=>e= .returned (.int .i64 (f_ t u))/\Ext w w':=by
 refine Tm.ind (fun n s L ih=>?_);intro u v v' S T w hR hR' hsz;obtain⟨m,r,M⟩:=u;obtain⟨aa,ca,rfl,hT⟩:=hR;obtain⟨ab,cb,rfl,hT'⟩:=hR';dsimp only[tV,Tm.name,Tm.sort,Tm.kids] at hT hT'⊢;have dH:=ah (And.intro hT hT');have HIH:=ah ih;clear ih hT hT';have HZ:=ah (((uR w).alloc (.cells #[.string n,.string s,.slice aa L.length ca] 24)).alloc (.cells #[.string m,.string r,.slice ab M.length cb] 24));have HA:=ah (aB (ay w (.cells #[.string n,.string s,.slice aa L.length ca] 24)) (.cells #[.string m,.string r,.slice ab M.length cb] 24));have HB:=ah (alloc_at (w.alloc (.cells #[.string n,.string s,.slice aa L.length ca] 24)) (.cells #[.string m,.string r,.slice ab M.length cb] 24) (n:=w.heap.size+1) (by simp));have nH:=ah (fun W=>SC n m W);have nP:=ah (fun W=>SC s r W);have ha0:=(uR _).heap HA.out (fun h=>h);have hb0:=(uR _).heap HB.out (fun h=>h);obtain⟨a0,a1,a2⟩:=ak ha0;obtain⟨b0,b1,b2⟩:=ak hb0;clear ha0 hb0;have eX:=ah (acM n s L m r M);by_cases hs:s.size=0
 .have hse:=jv _ hs;by_cases hr:r.size=0
  .have hre:=jv _ hr;subst hse hre;rw[if_neg (by simp)] at eX;by_cases h1:eu n m=0
   rotate_left
   .have t1:(eu n m !=0)=true:=by simpa using h1
    have t1':decide (eu n m=0)=false:=dF h1;have hv:f_ (.mk n ⟨#[]⟩ L) (.mk m ⟨#[]⟩ M)=eu n m:=by rw[eX.out,if_pos h1]
    rw[hv];clear hv h1 eX;generalize eu n m=Z at*
    go_enter Tryz.func85,Tryz.ntmps85
    go_wp2_with fail
    refine(nH.out _).mono ?_;rintro e w4 ⟨rfl,hw4⟩;have H4:=ah (hw4);clear hw4;clear a0 a1 a2 b0 b1 b2;have mM:=H4.out.heap HA.out (fun h=>h);have hb4:=H4.out.heap HB.out (fun h=>h);obtain⟨a0,a1,a2⟩:=ak mM;obtain⟨b0,b1,b2⟩:=ak hb4;clear mM hb4
    go_wp2_with fail
    go_ret;exact⟨rfl,HZ.out.ext H4.out⟩
   rw[if_neg (by simp[h1])] at eX;rw[h1] at nH;clear h1;by_cases h2:eu ⟨#[]⟩ ⟨#[]⟩=0
   rotate_left
   .have t1:(eu ⟨#[]⟩ ⟨#[]⟩ !=0)=true:=by simpa using h2
    have t1':decide (eu ⟨#[]⟩ ⟨#[]⟩=0)=false:=dF h2;have hv:f_ (.mk n ⟨#[]⟩ L) (.mk m ⟨#[]⟩ M)=eu ⟨#[]⟩ ⟨#[]⟩:=by rw[eX.out,if_pos h2]
    rw[hv];clear hv h2 eX;generalize eu ⟨#[]⟩ ⟨#[]⟩=Z at*
    go_enter Tryz.func85,Tryz.ntmps85
    go_wp2_with fail
    refine(nH.out _).mono ?_;rintro e w4 ⟨rfl,hw4⟩;have H4:=ah (hw4);clear hw4;clear a0 a1 a2 b0 b1 b2;have mM:=H4.out.heap HA.out (fun h=>h);have hb4:=H4.out.heap HB.out (fun h=>h);obtain⟨a0,a1,a2⟩:=ak mM;obtain⟨b0,b1,b2⟩:=ak hb4;clear mM hb4
    go_wp2_with fail
    refine(nP.out _).mono ?_;rintro e w5 ⟨rfl,hw5⟩;have H5:=ah (H4.out.ext hw5);clear hw5;clear a0 a1 a2 b0 b1 b2;have qx:=H5.out.heap HA.out (fun h=>h);have hb5:=H5.out.heap HB.out (fun h=>h);obtain⟨a0,a1,a2⟩:=ak qx;obtain⟨b0,b1,b2⟩:=ak hb5;clear qx hb5
    go_wp2_with fail
    go_ret;exact⟨rfl,HZ.out.ext H5.out⟩
   rw[if_neg (by simp[h2])] at eX;rw[h2] at nP;clear h2;by_cases h3:L.length=M.length
   rotate_left
   .have u1:((L.length:Int) !=(M.length:Int))=true:=by simp;omega
    have u1':decide ((L.length:Int)=(M.length:Int))=false:=dF (by omega);have Y8:decide (L.length=M.length)=false:=dF h3;rw[if_pos h3] at eX;by_cases h4:L.length<M.length
    .have u2:decide ((L.length:Int)< (M.length:Int))=true:=dT (by omega);have u2':decide (L.length<M.length)=true:=dT h4;have hv:f_ (.mk n ⟨#[]⟩ L) (.mk m ⟨#[]⟩ M)= -1:=by rw[eX.out,if_pos h4]
     rw[hv];clear hv eX
     go_enter Tryz.func85,Tryz.ntmps85
     go_wp2_with fail
     refine(nH.out _).mono ?_;rintro e w4 ⟨rfl,hw4⟩;have H4:=ah (hw4);clear hw4;clear a0 a1 a2 b0 b1 b2;have mM:=H4.out.heap HA.out (fun h=>h);have hb4:=H4.out.heap HB.out (fun h=>h);obtain⟨a0,a1,a2⟩:=ak mM;obtain⟨b0,b1,b2⟩:=ak hb4;clear mM hb4
     go_wp2_with fail
     refine(nP.out _).mono ?_;rintro e w5 ⟨rfl,hw5⟩;have H5:=ah (H4.out.ext hw5);clear hw5;clear a0 a1 a2 b0 b1 b2;have qx:=H5.out.heap HA.out (fun h=>h);have hb5:=H5.out.heap HB.out (fun h=>h);obtain⟨a0,a1,a2⟩:=ak qx;obtain⟨b0,b1,b2⟩:=ak hb5;clear qx hb5
     go_wp2_with fail
     go_ret;exact⟨rfl,HZ.out.ext H5.out⟩
    .have u2:decide ((L.length:Int)< (M.length:Int))=false:=dF (by omega);have u2':decide (L.length<M.length)=false:=dF h4;have hv:f_ (.mk n ⟨#[]⟩ L) (.mk m ⟨#[]⟩ M)=1:=by rw[eX.out,if_neg h4]
     rw[hv];clear hv eX
     go_enter Tryz.func85,Tryz.ntmps85
     go_wp2_with fail
     refine(nH.out _).mono ?_;rintro e w4 ⟨rfl,hw4⟩;have H4:=ah (hw4);clear hw4;clear a0 a1 a2 b0 b1 b2;have mM:=H4.out.heap HA.out (fun h=>h);have hb4:=H4.out.heap HB.out (fun h=>h);obtain⟨a0,a1,a2⟩:=ak mM;obtain⟨b0,b1,b2⟩:=ak hb4;clear mM hb4
     go_wp2_with fail
     refine(nP.out _).mono ?_;rintro e w5 ⟨rfl,hw5⟩;have H5:=ah (H4.out.ext hw5);clear hw5;clear a0 a1 a2 b0 b1 b2;have qx:=H5.out.heap HA.out (fun h=>h);have hb5:=H5.out.heap HB.out (fun h=>h);obtain⟨a0,a1,a2⟩:=ak qx;obtain⟨b0,b1,b2⟩:=ak hb5;clear qx hb5
     go_wp2_with fail
     go_ret;exact⟨rfl,HZ.out.ext H5.out⟩
   rw[if_neg (by simp[h3])] at eX;have u1:((L.length:Int) !=(M.length:Int))=false:=by simp;omega
   have u1':decide ((L.length:Int)=(M.length:Int))=true:=dT (by omega);have Y8:decide (L.length=M.length)=true:=dT h3;have H3:=ah h3;clear h3
   go_enter Tryz.func85,Tryz.ntmps85
   go_wp2_with fail
   refine(nH.out _).mono ?_;rintro e w4 ⟨rfl,hw4⟩;have H4:=ah (hw4);clear hw4;clear a0 a1 a2 b0 b1 b2;have mM:=H4.out.heap HA.out (fun h=>h);have hb4:=H4.out.heap HB.out (fun h=>h);obtain⟨a0,a1,a2⟩:=ak mM;obtain⟨b0,b1,b2⟩:=ak hb4;clear mM hb4
   go_wp2_with fail
   refine(nP.out _).mono ?_;rintro e w5 ⟨rfl,hw5⟩;have H5:=ah (H4.out.ext hw5);clear hw5;clear a0 a1 a2 b0 b1 b2;have qx:=H5.out.heap HA.out (fun h=>h);have hb5:=H5.out.heap HB.out (fun h=>h);obtain⟨a0,a1,a2⟩:=ak qx;obtain⟨b0,b1,b2⟩:=ak hb5;clear qx hb5
   go_wp2_with fail
   clear a0 a1 a2 b0 b1 b2;have j_:L.length<=1000000:=by have h1:=bG L;have h2:=hsz;rw[size_eq] at h2;exact Nat.le_trans h1 (Nat.le_of_succ_le h2)
   go_loopg [7] L.length (fun gk iv wr=> ∃k:Nat,iv= .int .i64 (k:Int)/\gk=L.length-k/\k<=L.length/\Hid (∀j,j<k->f_ (tg L j) (tg M j)=0)/\Hid (Ext ((w.alloc (.cells #[.string n,.string ⟨#[]⟩,.slice aa L.length ca] 24)).alloc (.cells #[.string m,.string ⟨#[]⟩,.slice ab M.length cb] 24)) wr))
   case atStart=>exact⟨0,rfl,rfl,Nat.zero_le _,ah (fun j h=>absurd h (Nat.not_lt_zero _)),H5⟩
   case round=>
    obtain⟨k,rfl,rfl,hk,HC,HE⟩:=hrel;have OA:=ah (HZ.out.ext HE.out);have haw:=HE.out.heap HA.out (fun h=>h);have hbw:=HE.out.heap HB.out (fun h=>h);obtain⟨a0,a1,a2⟩:=ak haw;obtain⟨b0,b1,b2⟩:=ak hbw;clear haw hbw;by_cases hlt:k<L.length
    .have sF:k<M.length:=by have:=H3.out;omega
     obtain⟨g,off,rfl,_,hat⟩:=(dH.out.1.ext OA.out).at_ (by omega);obtain⟨g',off',rfl,_,hat'⟩:=(dH.out.2.ext OA.out).at_ (by omega);obtain⟨ka,kc,q0,q1,q2,aW⟩:=hat k hlt;obtain⟨ka',kc',p0,p1,p2,pW⟩:=hat' k sF;obtain⟨z0,z1,z2,z2'⟩:=bZ hlt;have z3:(k:Int)< (M.length:Int):=by omega
     have hmem:tg L k∈L:=by unfold tg;rw[List.getD_eq_getElem?_getD,List.getElem?_eq_getElem hlt];exact List.getElem_mem hlt
     have OB:(tg L k).size<=1000000:=by have h1:=gq hmem;have h2:=hsz;rw[size_eq] at h2;exact Nat.le_trans h1 (Nat.le_of_succ_le h2)
     have bf:=ah (fun W (hW:Ext wr W)=>HIH.out (tg L k) hmem (tg M k) _ _ S T W ⟨ka,kc,rfl,aW.ext hW⟩ ⟨ka',kc',rfl,pW.ext hW⟩ OB);have HOF:=ah (Ky L M k H3.out hlt HC.out);have qK:=ah (fun h:f_ (tg L k) (tg M k)=0=>fun j (hj:j<k+1)=>by
      rcases Nat.lt_succ_iff_lt_or_eq.1 hj with h5|h5
      .exact HC.out j h5
      .rw [h5];exact h)
     dsimp only[tV] at bf;obtain⟨R,hR⟩: ∃R,f_ (tg L k) (tg M k)=R:=⟨_,rfl⟩
     rw[hR] at bf;have HRR:=ah hR;clear hR hmem hat hat' aW pW;obtain⟨x,hx⟩: ∃x,tg L k=x:=⟨_,rfl⟩
     obtain⟨y,hy⟩: ∃y,tg M k=y:=⟨_,rfl⟩
     rw[hx] at q0 q1 q2 bf;rw[hy] at p0 p1 p2 bf;clear hx hy OB sF;rw[<-Nat.add_assoc] at q1 q2 p1 p2;have xq0:=fun x:XW wr=>x.ext.cell q0 (fun h=>h);have xq1:=fun x:XW wr=>x.ext.cell q1 (fun h=>h);have xq2:=fun x:XW wr=>x.ext.cell q2 (fun h=>h);have OC:=fun x:XW wr=>x.ext.cell p0 (fun h=>h);have OD:=fun x:XW wr=>x.ext.cell p1 (fun h=>h);have OE:=fun x:XW wr=>x.ext.cell p2 (fun h=>h);have xa2:=fun x:XW wr=>x.ext.cell a2 (fun h=>h);have xb2:=fun x:XW wr=>x.ext.cell b2 (fun h=>h);have Kz:=uR wr;clear q0 q1 q2 p0 p1 p2 a0 a1 b0 b1 b2
     go_wp2_with fail
     clear a2;refine dw wr (by assumption) (by kernel_rfl) (by kernel_rfl) ?_
     repeat (first|go_big_quiet_skip|(go_big_quiet_want;go_big_quiet_op;first|go_big_quiet_on|(apply Exists.intro;refine⟨fun x=>?_,?_⟩;(go_at_call 85;exact XW.call (bf.out x.val x.ext));go_big_quiet_on)))
     refine wpQuiet_nil ?_;rintro w8 ⟨⟨_,gu⟩,rfl⟩
     try dsimp only
     have dG:=ah (HE.out.ext gu);clear xq0 xq1 xq2 OC OD OE xa2 xb2 Kz gu bf;by_cases hz:R=0
     .have hz1:(R !=0)=false:=by simp[hz]
      have HN:=ah (qK.out (HRR.out.trans hz));have hzz:=ah hz;clear hz
      go_wp2_with fail
      go_roundg (L.length- (k+1))
      case measure=>omega
      case rel=>exact⟨k+1,by go_num,rfl,by omega,HN,dG⟩
     .have hz1:(R !=0)=true:=by simpa using hz
      have HV:Hid (f_ (.mk n ⟨#[]⟩ L) (.mk m ⟨#[]⟩ M)=R):=ah (by rw[eX.out,HOF.out (by show f_ (tg L k) (tg M k)≠0;rw[HRR.out];exact hz)];exact HRR.out);have hzz:=ah hz;clear hz
      go_wp2_with fail
      go_ret;rw[HV.out];exact⟨rfl,HZ.out.ext dG.out⟩
    .obtain rfl:k=L.length:=by omega
     have HV:Hid (f_ (.mk n ⟨#[]⟩ L) (.mk m ⟨#[]⟩ M)=0):=ah (by rw[eX.out];exact Ib L M H3.out HC.out)
     go_wp2_with fail
     go_ret;rw[HV.out];exact⟨rfl,OA.out⟩
  .have hrn:r≠au:=fun e=>hr (by rw[e];rfl);have hsn: ¬s≠au:=fun h=>h hse;have hdd:decide (s≠au)≠decide (r≠au):=by rw[dF hsn,dT hrn];decide
   have hv:f_ (.mk n s L) (.mk m r M)=1:=by rw[eX.out,if_pos hdd,if_neg hsn]
   clear hsn hdd;obtain⟨e1,e2,e3,e4⟩:=iq r (Nat.pos_of_ne_zero hr);rw[hv];subst hse;clear hv eX
   go_enter Tryz.func85,Tryz.ntmps85
   go_wp2_with fail
   go_ret;exact⟨rfl,HZ.out⟩
 .have hsn:s≠au:=fun e=>hs (by rw[e];rfl);obtain⟨e1,e2,e3,e4⟩:=iq s (Nat.pos_of_ne_zero hs);by_cases hr:r.size=0
  .have hre:=jv _ hr;have hrn: ¬r≠au:=fun h=>h hre;have hdd:decide (s≠au)≠decide (r≠au):=by rw[dT hsn,dF hrn];decide
   have hv:f_ (.mk n s L) (.mk m r M)= -1:=by rw[eX.out,if_pos hdd,if_pos hsn]
   clear hrn hdd;rw[hv];subst hre;clear hv eX
   go_enter Tryz.func85,Tryz.ntmps85
   go_wp2_with fail
   go_ret;exact⟨rfl,HZ.out⟩
  .have hrn:r≠au:=fun e=>hr (by rw[e];rfl);obtain⟨f1,f2,f3,f4⟩:=iq r (Nat.pos_of_ne_zero hr);rw[if_neg (by simp[hsn,hrn])] at eX;by_cases h1:eu n m=0
   rotate_left
   .have t1:(eu n m !=0)=true:=by simpa using h1
    have t1':decide (eu n m=0)=false:=dF h1;have hv:f_ (.mk n s L) (.mk m r M)=eu n m:=by rw[eX.out,if_pos h1]
    rw[hv];clear hv h1 eX;generalize eu n m=Z at*
    go_enter Tryz.func85,Tryz.ntmps85
    go_wp2_with fail
    refine(nH.out _).mono ?_;rintro e w4 ⟨rfl,hw4⟩;have H4:=ah (hw4);clear hw4;clear a0 a1 a2 b0 b1 b2;have mM:=H4.out.heap HA.out (fun h=>h);have hb4:=H4.out.heap HB.out (fun h=>h);obtain⟨a0,a1,a2⟩:=ak mM;obtain⟨b0,b1,b2⟩:=ak hb4;clear mM hb4
    go_wp2_with fail
    go_ret;exact⟨rfl,HZ.out.ext H4.out⟩
   rw[if_neg (by simp[h1])] at eX;rw[h1] at nH;clear h1;by_cases h2:eu s r=0
   rotate_left
   .have t1:(eu s r !=0)=true:=by simpa using h2
    have t1':decide (eu s r=0)=false:=dF h2;have hv:f_ (.mk n s L) (.mk m r M)=eu s r:=by rw[eX.out,if_pos h2]
    rw[hv];clear hv h2 eX;generalize eu s r=Z at*
    go_enter Tryz.func85,Tryz.ntmps85
    go_wp2_with fail
    refine(nH.out _).mono ?_;rintro e w4 ⟨rfl,hw4⟩;have H4:=ah (hw4);clear hw4;clear a0 a1 a2 b0 b1 b2;have mM:=H4.out.heap HA.out (fun h=>h);have hb4:=H4.out.heap HB.out (fun h=>h);obtain⟨a0,a1,a2⟩:=ak mM;obtain⟨b0,b1,b2⟩:=ak hb4;clear mM hb4
    go_wp2_with fail
    refine(nP.out _).mono ?_;rintro e w5 ⟨rfl,hw5⟩;have H5:=ah (H4.out.ext hw5);clear hw5;clear a0 a1 a2 b0 b1 b2;have qx:=H5.out.heap HA.out (fun h=>h);have hb5:=H5.out.heap HB.out (fun h=>h);obtain⟨a0,a1,a2⟩:=ak qx;obtain⟨b0,b1,b2⟩:=ak hb5;clear qx hb5
    go_wp2_with fail
    go_ret;exact⟨rfl,HZ.out.ext H5.out⟩
   rw[if_neg (by simp[h2])] at eX;rw[h2] at nP;clear h2;by_cases h3:L.length=M.length
   rotate_left
   .have u1:((L.length:Int) !=(M.length:Int))=true:=by simp;omega
    have u1':decide ((L.length:Int)=(M.length:Int))=false:=dF (by omega);have Y8:decide (L.length=M.length)=false:=dF h3;rw[if_pos h3] at eX;by_cases h4:L.length<M.length
    .have u2:decide ((L.length:Int)< (M.length:Int))=true:=dT (by omega);have u2':decide (L.length<M.length)=true:=dT h4;have hv:f_ (.mk n s L) (.mk m r M)= -1:=by rw[eX.out,if_pos h4]
     rw[hv];clear hv eX
     go_enter Tryz.func85,Tryz.ntmps85
     go_wp2_with fail
     refine(nH.out _).mono ?_;rintro e w4 ⟨rfl,hw4⟩;have H4:=ah (hw4);clear hw4;clear a0 a1 a2 b0 b1 b2;have mM:=H4.out.heap HA.out (fun h=>h);have hb4:=H4.out.heap HB.out (fun h=>h);obtain⟨a0,a1,a2⟩:=ak mM;obtain⟨b0,b1,b2⟩:=ak hb4;clear mM hb4
     go_wp2_with fail
     refine(nP.out _).mono ?_;rintro e w5 ⟨rfl,hw5⟩;have H5:=ah (H4.out.ext hw5);clear hw5;clear a0 a1 a2 b0 b1 b2;have qx:=H5.out.heap HA.out (fun h=>h);have hb5:=H5.out.heap HB.out (fun h=>h);obtain⟨a0,a1,a2⟩:=ak qx;obtain⟨b0,b1,b2⟩:=ak hb5;clear qx hb5
     go_wp2_with fail
     go_ret;exact⟨rfl,HZ.out.ext H5.out⟩
    .have u2:decide ((L.length:Int)< (M.length:Int))=false:=dF (by omega);have u2':decide (L.length<M.length)=false:=dF h4;have hv:f_ (.mk n s L) (.mk m r M)=1:=by rw[eX.out,if_neg h4]
     rw[hv];clear hv eX
     go_enter Tryz.func85,Tryz.ntmps85
     go_wp2_with fail
     refine(nH.out _).mono ?_;rintro e w4 ⟨rfl,hw4⟩;have H4:=ah (hw4);clear hw4;clear a0 a1 a2 b0 b1 b2;have mM:=H4.out.heap HA.out (fun h=>h);have hb4:=H4.out.heap HB.out (fun h=>h);obtain⟨a0,a1,a2⟩:=ak mM;obtain⟨b0,b1,b2⟩:=ak hb4;clear mM hb4
     go_wp2_with fail
     refine(nP.out _).mono ?_;rintro e w5 ⟨rfl,hw5⟩;have H5:=ah (H4.out.ext hw5);clear hw5;clear a0 a1 a2 b0 b1 b2;have qx:=H5.out.heap HA.out (fun h=>h);have hb5:=H5.out.heap HB.out (fun h=>h);obtain⟨a0,a1,a2⟩:=ak qx;obtain⟨b0,b1,b2⟩:=ak hb5;clear qx hb5
     go_wp2_with fail
     go_ret;exact⟨rfl,HZ.out.ext H5.out⟩
   rw[if_neg (by simp[h3])] at eX;have u1:((L.length:Int) !=(M.length:Int))=false:=by simp;omega
   have u1':decide ((L.length:Int)=(M.length:Int))=true:=dT (by omega);have Y8:decide (L.length=M.length)=true:=dT h3;have H3:=ah h3;clear h3
   go_enter Tryz.func85,Tryz.ntmps85
   go_wp2_with fail
   refine(nH.out _).mono ?_;rintro e w4 ⟨rfl,hw4⟩;have H4:=ah (hw4);clear hw4;clear a0 a1 a2 b0 b1 b2;have mM:=H4.out.heap HA.out (fun h=>h);have hb4:=H4.out.heap HB.out (fun h=>h);obtain⟨a0,a1,a2⟩:=ak mM;obtain⟨b0,b1,b2⟩:=ak hb4;clear mM hb4
   go_wp2_with fail
   refine(nP.out _).mono ?_;rintro e w5 ⟨rfl,hw5⟩;have H5:=ah (H4.out.ext hw5);clear hw5;clear a0 a1 a2 b0 b1 b2;have qx:=H5.out.heap HA.out (fun h=>h);have hb5:=H5.out.heap HB.out (fun h=>h);obtain⟨a0,a1,a2⟩:=ak qx;obtain⟨b0,b1,b2⟩:=ak hb5;clear qx hb5
   go_wp2_with fail
   clear a0 a1 a2 b0 b1 b2;have j_:L.length<=1000000:=by have h1:=bG L;have h2:=hsz;rw[size_eq] at h2;exact Nat.le_trans h1 (Nat.le_of_succ_le h2)
   go_loopg [7] L.length (fun gk iv wr=> ∃k:Nat,iv= .int .i64 (k:Int)/\gk=L.length-k/\k<=L.length/\Hid (∀j,j<k->f_ (tg L j) (tg M j)=0)/\Hid (Ext ((w.alloc (.cells #[.string n,.string s,.slice aa L.length ca] 24)).alloc (.cells #[.string m,.string r,.slice ab M.length cb] 24)) wr))
   case atStart=>exact⟨0,rfl,rfl,Nat.zero_le _,ah (fun j h=>absurd h (Nat.not_lt_zero _)),H5⟩
   case round=>
    obtain⟨k,rfl,rfl,hk,HC,HE⟩:=hrel;have OA:=ah (HZ.out.ext HE.out);have haw:=HE.out.heap HA.out (fun h=>h);have hbw:=HE.out.heap HB.out (fun h=>h);obtain⟨a0,a1,a2⟩:=ak haw;obtain⟨b0,b1,b2⟩:=ak hbw;clear haw hbw;by_cases hlt:k<L.length
    .have sF:k<M.length:=by have:=H3.out;omega
     obtain⟨g,off,rfl,_,hat⟩:=(dH.out.1.ext OA.out).at_ (by omega);obtain⟨g',off',rfl,_,hat'⟩:=(dH.out.2.ext OA.out).at_ (by omega);obtain⟨ka,kc,q0,q1,q2,aW⟩:=hat k hlt;obtain⟨ka',kc',p0,p1,p2,pW⟩:=hat' k sF;obtain⟨z0,z1,z2,z2'⟩:=bZ hlt;have z3:(k:Int)< (M.length:Int):=by omega
     have hmem:tg L k∈L:=by unfold tg;rw[List.getD_eq_getElem?_getD,List.getElem?_eq_getElem hlt];exact List.getElem_mem hlt
     have OB:(tg L k).size<=1000000:=by have h1:=gq hmem;have h2:=hsz;rw[size_eq] at h2;exact Nat.le_trans h1 (Nat.le_of_succ_le h2)
     have bf:=ah (fun W (hW:Ext wr W)=>HIH.out (tg L k) hmem (tg M k) _ _ S T W ⟨ka,kc,rfl,aW.ext hW⟩ ⟨ka',kc',rfl,pW.ext hW⟩ OB);have HOF:=ah (Ky L M k H3.out hlt HC.out);have qK:=ah (fun h:f_ (tg L k) (tg M k)=0=>fun j (hj:j<k+1)=>by
      rcases Nat.lt_succ_iff_lt_or_eq.1 hj with h5|h5
      .exact HC.out j h5
      .rw [h5];exact h)
     dsimp only[tV] at bf;obtain⟨R,hR⟩: ∃R,f_ (tg L k) (tg M k)=R:=⟨_,rfl⟩
     rw[hR] at bf;have HRR:=ah hR;clear hR hmem hat hat' aW pW;obtain⟨x,hx⟩: ∃x,tg L k=x:=⟨_,rfl⟩
     obtain⟨y,hy⟩: ∃y,tg M k=y:=⟨_,rfl⟩
     rw[hx] at q0 q1 q2 bf;rw[hy] at p0 p1 p2 bf;clear hx hy OB sF;rw[<-Nat.add_assoc] at q1 q2 p1 p2;have xq0:=fun x:XW wr=>x.ext.cell q0 (fun h=>h);have xq1:=fun x:XW wr=>x.ext.cell q1 (fun h=>h);have xq2:=fun x:XW wr=>x.ext.cell q2 (fun h=>h);have OC:=fun x:XW wr=>x.ext.cell p0 (fun h=>h);have OD:=fun x:XW wr=>x.ext.cell p1 (fun h=>h);have OE:=fun x:XW wr=>x.ext.cell p2 (fun h=>h);have xa2:=fun x:XW wr=>x.ext.cell a2 (fun h=>h);have xb2:=fun x:XW wr=>x.ext.cell b2 (fun h=>h);have Kz:=uR wr;clear q0 q1 q2 p0 p1 p2 a0 a1 b0 b1 b2
     go_wp2_with fail
     clear a2;refine dw wr (by assumption) (by kernel_rfl) (by kernel_rfl) ?_
     repeat (first|go_big_quiet_skip|(go_big_quiet_want;go_big_quiet_op;first|go_big_quiet_on|(apply Exists.intro;refine⟨fun x=>?_,?_⟩;(go_at_call 85;exact XW.call (bf.out x.val x.ext));go_big_quiet_on)))
     refine wpQuiet_nil ?_;rintro w8 ⟨⟨_,gu⟩,rfl⟩
     try dsimp only
     have dG:=ah (HE.out.ext gu);clear xq0 xq1 xq2 OC OD OE xa2 xb2 Kz gu bf;by_cases hz:R=0
     .have hz1:(R !=0)=false:=by simp[hz]
      have HN:=ah (qK.out (HRR.out.trans hz));have hzz:=ah hz;clear hz
      go_wp2_with fail
      go_roundg (L.length- (k+1))
      case measure=>omega
      case rel=>exact⟨k+1,by go_num,rfl,by omega,HN,dG⟩
     .have hz1:(R !=0)=true:=by simpa using hz
      have HV:Hid (f_ (.mk n s L) (.mk m r M)=R):=ah (by rw[eX.out,HOF.out (by show f_ (tg L k) (tg M k)≠0;rw[HRR.out];exact hz)];exact HRR.out);have hzz:=ah hz;clear hz
      go_wp2_with fail
      go_ret;rw[HV.out];exact⟨rfl,HZ.out.ext dG.out⟩
    .obtain rfl:k=L.length:=by omega
     have HV:Hid (f_ (.mk n s L) (.mk m r M)=0):=ah (by rw[eX.out];exact Ib L M H3.out HC.out)
     go_wp2_with fail
     go_ret;rw[HV.out];exact⟨rfl,OA.out⟩
theorem yG (t u:Tm) (v v':Value) (S T:Nat->Prop) (w:World) (hR:bQ S w t v) (hR':bQ T w u v') (hsz:t.size<=1000000):
  Calls Tryz.prog 25 #[v,v'] w fun e w'=>e= .returned (.bool (decide (t=u)))/\Ext w w':=by
 have HR:=ah (And.intro hR hR');obtain⟨aa,ca,rfl,hT⟩:=hR;obtain⟨ab,cb,rfl,hT'⟩:=hR';have HC:=ah (fun W (hW:Ext w W)=>WM t u _ _ S T W (HR.out.1.ext hW) (HR.out.2.ext hW) hsz);dsimp only[tV] at HC⊢;have HZ:=ah (((uR w).alloc (tO t aa ca)).alloc (tO u ab cb));have HA:=ah (aB (ay w (tO t aa ca)) (tO u ab cb));have HB:=ah (alloc_at (w.alloc (tO t aa ca)) (tO u ab cb) (n:=w.heap.size+1) (by simp));obtain⟨a0,a1,a2⟩:=ak HA.out;obtain⟨b0,b1,b2⟩:=ak HB.out;have hz:decide (t=u)=(f_ t u==0):=by
  rw[Bool.eq_iff_iff,decide_eq_true_eq,beq_iff_eq,WO]
 rw[hz];clear hz hT hT';generalize f_ t u=Z at*
 go_enter Tryz.func25,Tryz.ntmps25
 go_wp2_with fail
 refine(HC.out _ HZ.out).mono ?_;rintro e w4 ⟨rfl,hw4⟩;have H4:=ah (HZ.out.ext hw4);clear hw4 a0 a1 a2 b0 b1 b2
 go_wp2_with fail
 go_ret;exact⟨rfl,H4.out⟩
theorem I7:(Tryz.prog.info? 116).map (fun i=>(i.zero,i.size,i.bytes))=some (some (.agg #[.string ⟨#[]⟩,.string ⟨#[]⟩]),2,32):=by kernel_rfl
theorem SE {S:Nat->Prop} {base e:Nat} {W:World} {v:Value} {l:List Vd} {f:Vd} {k:Nat} (hk:k<=l.length) (h:W.ownsRow base e 2 v (k+1+(l.length-k)) (bV (l.take k)++(bV [f]++bV (l.drop k)))):
  dL (fun j=>S j\/base<=j) W v (l.take k++f::l.drop k):=by
 have h1:(l.take k++f::l.drop k).length=k+1+(l.length-k):=by simp only[List.length_append,List.length_take,List.length_cons,List.length_drop];omega
 have h2:bV (l.take k++f::l.drop k)=bV (l.take k)++(bV [f]++bV (l.drop k)):=by
  rw[rY,show f::l.drop k=[f]++l.drop k from rfl,rY]
 unfold dL;rw[h1,h2];exact aG.weaken (aG.fM h) (fun j hj=> .inr (h.lt j hj).1)
theorem aiz (l:List Vd) (f:Vd) (v:Value) (S:Nat->Prop) (w:World) (hR:dL S w v l) (hl:l.length<=100000):
  Calls Tryz.prog 148 #[v,.agg #[.string f.1,.string f.2]] w fun e w'=> ∃r,e= .returned (.tuple #[r,.bool (iJ l f).2])/\dL (fun k=>S k\/w.heap.size<=k) w' r (iJ l f).1/\Ext w w':=by
 have HR:=ah hR;obtain⟨a,cap,rfl⟩:=hR.shape;have HZ:=ah ((uR w).alloc (.cells #[.string f.1,.string f.2] 116));have HB:=ah (ay w (.cells #[.string f.1,.string f.2] 116));have rH:=ah (SG f l);clear hR
 go_enter Tryz.func148,Tryz.ntmps148
 go_wp2_with fail
 go_loopg [6] l.length (fun gk iv wr=> ∃k:Nat,iv= .int .i64 (k:Int)/\gk=l.length-k/\k<=l.length/\Hid (∀j,j<k->blt (vg l j).1 f.1=true)/\Hid (Ext w wr)/\Hid (wr.heap[w.heap.size]?=some (.cells #[.string f.1,.string f.2] 116 (0,0))))
 case atStart=>exact⟨0,rfl,rfl,Nat.zero_le _,ah (fun j h=>absurd h (Nat.not_lt_zero _)),HZ,HB⟩
 case round=>
  obtain⟨k,rfl,rfl,hk,HC,HE,jL⟩:=hrel;obtain⟨f0,f1⟩:=bT jL.out;by_cases hlt:k<l.length
  .obtain ⟨g,off,rfl,hat⟩:=(HR.out.ext HE.out).at_ (by omega);obtain⟨q0,q1⟩:=hat k hlt;have hcap:k<=cap:=Nat.le_trans hk (aG.WQ HR.out rfl);obtain⟨z0,z1,z2,z2'⟩:=bZ hlt;have t1:=I4 (vg l k).1 f.1;have hix:=OG l f k hk HC.out;have hnx:blt (vg l k).1 f.1=true->∀j,j<k+1->blt (vg l j).1 f.1=true:=fun h j hj=>by
    rcases Nat.lt_succ_iff_lt_or_eq.1 hj with h5|h5
    .exact HC.out j h5
    .rw [h5];exact h
   have bf:=ah hix;have qK:=ah hnx;clear hix hnx hat;obtain⟨x,hx⟩: ∃x,vg l k=x:=⟨_,rfl⟩
   have Eh:=ah hx;rw[hx] at q0 q1 t1 bf qK;clear hx;cases hb:blt x.1 f.1
   .rw [hb] at t1;have iO:Hid (og l f=k):=ah (bf.out (fun _=>hb));clear hb;have eX:=ah rH.out;rw[iO.out] at eX
    go_wp2_with fail
    go_quiet (fail)
    generalize hwq:wr.drewN nq=wq at*;have HEq:Hid (Ext w wq):=ah (by rw[<-hwq];exact HE.out.drewN' nq);have SH:Hid (wq.heap[w.heap.size]?=some (.cells #[.string f.1,.string f.2] 116 (0,0))):=ah (by rw[<-hwq];exact jL.out);have q0':wq.cell? ⟨g,off+k*2,none⟩=some (.string x.1):=by rw[<-hwq];exact q0
    have q1':wq.cell? ⟨g,off+k*2+1,none⟩=some (.string x.2):=by rw[<-hwq];exact q1
    clear hwq HE jL q0 q1 f0 f1;obtain⟨f0,f1⟩:=bT SH.out;by_cases he:x.1=f.1
    .have t3:(x.1.toList==f.1.toList)=true:=by rw[he];simp
     have nZ:Hid (iJ l f=(l,decide (x.2=f.2))):=ah (by rw[eX.out,if_pos ⟨hlt,by rw[Eh.out];exact he⟩,Eh.out]);clear he;have t4:(x.2.toList==f.2.toList)=decide (x.2=f.2):=by
      rw[Bool.eq_iff_iff,beq_iff_eq,decide_eq_true_eq];exact⟨fun e=>kZ (by rw[Lib.toList_data,Lib.toList_data] at e;exact e),fun e=>by rw[e]⟩
     obtain⟨BB,WR⟩: ∃b,decide (x.2=f.2)=b:=⟨_,rfl⟩
     rw[WR] at t4 nZ;clear WR
     go_wp2_with fail
     go_quiet (fail)
     go_wp2_with fail
     go_quiet (fail)
     go_wp2_with fail
     go_ret2
     rw[nZ.out];exact⟨_,rfl,aG.weaken (aG.drewN (aG.drewN (dL.ext HR.out HEq.out) _) _) (fun k h=> .inl h),(HEq.out.drewN' _).drewN' _⟩
    .have t3:(x.1.toList==f.1.toList)=false:=by
      rw[beq_eq_false_iff_ne];intro e;exact he (kZ (by rw[Lib.toList_data,Lib.toList_data] at e;exact e))
     have nZ:Hid (iJ l f=(l.take k++f::l.drop k,true)):=ah (by rw[eX.out,if_neg (fun h=>he (by rw[<-Eh.out];exact h.2))]);clear he
     go_wp2_with fail
     go_quiet (fail)
     generalize hwq:wq.drewN nq=wz at*;have AO:Hid (Ext w wz):=ah (by rw[<-hwq];exact HEq.out.drewN' nq);have HBz:Hid (wz.heap[w.heap.size]?=some (.cells #[.string f.1,.string f.2] 116 (0,0))):=ah (by rw[<-hwq];exact SH.out);clear hwq HEq SH q0' q1' f0 f1 t1 t3;obtain⟨f0,f1⟩:=bT HBz.out;have xf0:=fun x:XW wz=>x.ext.cell f0 (fun h=>h);have xf1:=fun x:XW wz=>x.ext.cell f1 (fun h=>h);clear f0 f1
     go_wp2_with fail
     refine cu (α:=Option Addr×Nat) 7 [] 7 [(7,2),(8,2)] [[],[],[],[1,2],[0,1,2,3],[],[5],[0,1,2,3,4,5,6],[0,1,2,3,4,5,6,7]]
      [some ⟨fun x=> .slice x.1 0 0,fun x W=>W.ownsRow w.heap.size 116 2 (.slice x.1 0 0) 0 [],fun x W W' h hE=>bH h hE (fun _ _ h=>h)⟩,none,none,none,some ⟨fun x=> .slice x.1 k x.2,fun x W=>W.ownsRow w.heap.size 116 2 (.slice x.1 k x.2) k (bV (l.take k)),fun x W W' h hE=>bH h hE (fun _ _ h=>h)⟩,none,some ⟨fun x=> .slice x.1 1 x.2,fun x W=>dL (fun j=>w.heap.size<=j) W (.slice x.1 1 x.2) [f],fun x W W' h hE=>dL.ext h hE⟩]
      [true,false,false,false,true,false,true] (by kernel_rfl) (by kernel_rfl) rfl (fun _ _ d _ _ h=>by cases d<;>exact h) ?_
     simp only[List.take_succ_cons,List.take_zero,eG,List.getElem?_cons_zero,List.getElem?_cons_succ];refine aO _ rfl (by go_simp) (fun W hW hG K hK=>?_) (fun K zz0 hK=>?_)
     .go_simp;exact hK (some ⟨W.heap.size,0,none⟩,0) _ ((uR W).alloc _) (World.ownsRow_lit (base:=w.heap.size) (e:=116) (size:=2) W #[] 0 (Nat.le_trans AO.out.size hW.size) (by unfold maxLen;omega) (by simp))
     refine hK _ ?_;clear hK K;dsimp only
     iterate 3(refine aX rfl (fun K hK=>?_);go_simp;refine hK _ ?_;clear hK K)
     obtain⟨iS,hi,hz0,hz1,hz2⟩:=info_parts I7;refine aO _ rfl (by go_simp) (fun W hW hG K hK=>?_) (fun K WS hK=>?_)
     .have g0:=hG _ (List.mem_singleton.2 rfl) (by show(0:Nat)∈_;decide);have hsl:aG S W 2 (.slice (some ⟨g,off,none⟩) k cap) k (bV (l.take k)):=by
       have h:=(HR.out.ext AO.out).ext hW|>.to rfl k hk
       rw[GL] at h;exact h
      refine pX _ (.tmp 47) (.tmp 50) 111 rfl w.heap.size 116 iS (.agg #[.string ⟨#[]⟩,.string ⟨#[]⟩]) 2 32 Tryz.underlying111 hi hz0 hz1 hz2 rfl (by decide) _ rfl g0 S _ k _ rfl hsl (mP _) (by unfold maxLen;omega) (by omega) (Nat.le_trans AO.out.size hW.size) ?_;intro v' w' pU hO4;obtain⟨p4,c4,rfl⟩:=bF hO4;exact hK (p4,c4) _ pU hO4
     refine hK _ ?_;clear hK K;dsimp only;refine aX rfl (fun K hK=>?_);go_simp;refine hK _ ?_;clear hK K;refine aO _ rfl (by go_simp) (fun W hW hG K hK=>?_) (fun K WT hK=>?_)
     .go_simp;exact hK (some ⟨W.heap.size,0,none⟩,1) _ ((uR W).alloc _) (aG.weaken (aG.fM (World.ownsRow_lit (base:=w.heap.size) (e:=116) (size:=2) W #[.string f.1,.string f.2] 1 (Nat.le_trans AO.out.size hW.size) (by unfold maxLen;omega) (by simp))) (fun k hk=>by injection hk with hk;rw[<-hk];exact Nat.le_trans AO.out.size hW.size))
     refine hK _ ?_;clear hK K;dsimp only;refine iP (fun w8 hW hG=>?_);have g4:=hG _ (List.mem_append_left _ (List.mem_append_right _ (List.mem_singleton.2 rfl)));have g6:=hG _ (List.mem_append_right _ (List.mem_singleton.2 rfl));dsimp only at g4 g6;have OH:Hid (Ext w w8):=ah (AO.out.trans hW);clear hG hW;refine eP (fun K hK=>?_);rw[if_pos (by go_simp)];refine nR _ (.tmp 51) (.tmp 53) 111 rfl w.heap.size 116 iS (.agg #[.string ⟨#[]⟩,.string ⟨#[]⟩]) 2 32 Tryz.underlying111 hi hz0 hz1 hz2 rfl (by decide) (.slice WS.1 k WS.2) k _ rfl g4 (fun j=>w.heap.size<=j) (.slice WT.1 1 WT.2) 1 _ rfl g6 (mP _) (by unfold maxLen;omega) (by omega) OH.out.size ?_;intro v7 w9 bK;refine hK _ _ ?_;clear hK K;refine eP (fun K hK=>?_);go_simp;refine hK _ _ ?_;clear hK K;simp only[cO];have OI:Hid (Ext w w9):=ah (OH.out.trans' bK.upd (fun j hj h=>absurd (g4.lt j h).1 (by omega)));have g9:=ah bK.own;clear bK g4 g6 OH;obtain⟨p7,c7,rfl⟩:=bF g9.out;have WU:aG S w9 2 (.slice (some ⟨g,off,none⟩) l.length cap) l.length (bV l):=HR.out.ext OI.out;have hs9:=OI.out.size
     go_wp2_with(with_reducible (refine AP (o:=⟨some 58,_,_,_,_,_⟩) ?_))
     refine Stop.go ?_;refine xK _ rfl 111 _ _ rfl 2 (by kernel_rfl) (fun _=>by kernel_rfl) _ _ _ _ rfl WU k .i64 (k:Int) rfl rfl hk (fun sv hsv=>?_);rw[GN] at hsv;obtain⟨ps,cs,rfl⟩:=hsv.shape
     go_wp2_with(at_builtin;refine ji _ rfl (.tmp 55) (.tmp 58) 111 rfl w.heap.size 116 iS (.agg #[.string ⟨#[]⟩,.string ⟨#[]⟩]) 2 32 Tryz.underlying111 hi hz0 hz1 hz2 rfl (by decide) (.slice p7 (k+1) c7) (k+1) _ rfl g9.out S (.slice ps (l.length-k) cs) (l.length-k) (bV (l.drop k)) rfl hsv (mP _) ?c3 ?c4 hs9 ?_)
     case c3=>unfold maxLen;omega
     case c4=>omega
     intro v10 w10 hG;have SI:=ah hG.own;have LZ:Hid (Ext w w10):=ah (OI.out.trans' hG.upd (fun i hi e=>by have:=(g9.out.lt i e).1;omega));clear hG WU hs9 hsv
     go_wp2_with fail
     go_ret2
     rw[nZ.out];exact⟨v10,rfl,SE hk SI.out,LZ.out⟩
   .rw [hb] at t1;have HN:=ah (qK.out hb);clear hb
    go_wp2_with fail
    go_quiet (fail)
    go_wp2_with fail
    go_roundg (l.length- (k+1))
    case measure=>omega
    case rel=>exact⟨k+1,by go_num,rfl,by omega,HN,ah (HE.out.drewN' nq),ah jL.out⟩
  .have hkl:k=l.length:=by omega
   have iO:Hid (og l f=k):=ah (OG l f k hk HC.out (fun h=>absurd h hlt));have nZ:Hid (iJ l f=(l.take k++f::l.drop k,true)):=ah (by rw[rH.out,iO.out,if_neg (fun h=>absurd h.1 hlt)]);have z0:(0:Int)<=(k:Int):=by omega
   have z2:decide ((k:Int)< (l.length:Int))=false:=dF (by omega);have z2':decide (k<l.length)=false:=dF hlt;have hcap:k<=cap:=Nat.le_trans hk (aG.WQ HR.out rfl);clear hkl
   go_wp2_with fail
   go_quiet (fail)
   generalize hwq:wr.drewN nq=wq at*;have HEq:Hid (Ext w wq):=ah (by rw[<-hwq];exact HE.out.drewN' nq);have SH:Hid (wq.heap[w.heap.size]?=some (.cells #[.string f.1,.string f.2] 116 (0,0))):=ah (by rw[<-hwq];exact jL.out);clear hwq HE jL f0 f1
   go_wp2_with fail
   go_quiet (fail)
   generalize hwq:wq.drewN nq=wz at*;have AO:Hid (Ext w wz):=ah (by rw[<-hwq];exact HEq.out.drewN' nq);have HBz:Hid (wz.heap[w.heap.size]?=some (.cells #[.string f.1,.string f.2] 116 (0,0))):=ah (by rw[<-hwq];exact SH.out);clear hwq HEq SH;obtain⟨f0,f1⟩:=bT HBz.out;have xf0:=fun x:XW wz=>x.ext.cell f0 (fun h=>h);have xf1:=fun x:XW wz=>x.ext.cell f1 (fun h=>h);clear f0 f1
   go_wp2_with fail
   refine cu (α:=Option Addr×Nat) 7 [] 7 [(7,2),(8,2)] [[],[],[],[1,2],[0,1,2,3],[],[5],[0,1,2,3,4,5,6],[0,1,2,3,4,5,6,7]]
    [some ⟨fun x=> .slice x.1 0 0,fun x W=>W.ownsRow w.heap.size 116 2 (.slice x.1 0 0) 0 [],fun x W W' h hE=>bH h hE (fun _ _ h=>h)⟩,none,none,none,some ⟨fun x=> .slice x.1 k x.2,fun x W=>W.ownsRow w.heap.size 116 2 (.slice x.1 k x.2) k (bV (l.take k)),fun x W W' h hE=>bH h hE (fun _ _ h=>h)⟩,none,some ⟨fun x=> .slice x.1 1 x.2,fun x W=>dL (fun j=>w.heap.size<=j) W (.slice x.1 1 x.2) [f],fun x W W' h hE=>dL.ext h hE⟩]
    [true,false,false,false,true,false,true] (by kernel_rfl) (by kernel_rfl) rfl (fun _ _ d _ _ h=>by cases d<;>exact h) ?_
   simp only[List.take_succ_cons,List.take_zero,eG,List.getElem?_cons_zero,List.getElem?_cons_succ];refine aO _ rfl (by go_simp) (fun W hW hG K hK=>?_) (fun K zz0 hK=>?_)
   .go_simp;exact hK (some ⟨W.heap.size,0,none⟩,0) _ ((uR W).alloc _) (World.ownsRow_lit (base:=w.heap.size) (e:=116) (size:=2) W #[] 0 (Nat.le_trans AO.out.size hW.size) (by unfold maxLen;omega) (by simp))
   refine hK _ ?_;clear hK K;dsimp only
   iterate 3(refine aX rfl (fun K hK=>?_);go_simp;refine hK _ ?_;clear hK K)
   obtain⟨iS,hi,hz0,hz1,hz2⟩:=info_parts I7;refine aO _ rfl (by go_simp) (fun W hW hG K hK=>?_) (fun K WS hK=>?_)
   .have g0:=hG _ (List.mem_singleton.2 rfl) (by show(0:Nat)∈_;decide);have hsl:aG S W 2 (.slice a k cap) k (bV (l.take k)):=by
     have h:=(HR.out.ext AO.out).ext hW|>.to rfl k hk
     rw[GL] at h;exact h
    refine pX _ (.tmp 47) (.tmp 50) 111 rfl w.heap.size 116 iS (.agg #[.string ⟨#[]⟩,.string ⟨#[]⟩]) 2 32 Tryz.underlying111 hi hz0 hz1 hz2 rfl (by decide) _ rfl g0 S _ k _ rfl hsl (mP _) (by unfold maxLen;omega) (by omega) (Nat.le_trans AO.out.size hW.size) ?_;intro v' w' pU hO4;obtain⟨p4,c4,rfl⟩:=bF hO4;exact hK (p4,c4) _ pU hO4
   refine hK _ ?_;clear hK K;dsimp only;refine aX rfl (fun K hK=>?_);go_simp;refine hK _ ?_;clear hK K;refine aO _ rfl (by go_simp) (fun W hW hG K hK=>?_) (fun K WT hK=>?_)
   .go_simp;exact hK (some ⟨W.heap.size,0,none⟩,1) _ ((uR W).alloc _) (aG.weaken (aG.fM (World.ownsRow_lit (base:=w.heap.size) (e:=116) (size:=2) W #[.string f.1,.string f.2] 1 (Nat.le_trans AO.out.size hW.size) (by unfold maxLen;omega) (by simp))) (fun k hk=>by injection hk with hk;rw[<-hk];exact Nat.le_trans AO.out.size hW.size))
   refine hK _ ?_;clear hK K;dsimp only;refine iP (fun w8 hW hG=>?_);have g4:=hG _ (List.mem_append_left _ (List.mem_append_right _ (List.mem_singleton.2 rfl)));have g6:=hG _ (List.mem_append_right _ (List.mem_singleton.2 rfl));dsimp only at g4 g6;have OH:Hid (Ext w w8):=ah (AO.out.trans hW);clear hG hW;refine eP (fun K hK=>?_);rw[if_pos (by go_simp)];refine nR _ (.tmp 51) (.tmp 53) 111 rfl w.heap.size 116 iS (.agg #[.string ⟨#[]⟩,.string ⟨#[]⟩]) 2 32 Tryz.underlying111 hi hz0 hz1 hz2 rfl (by decide) (.slice WS.1 k WS.2) k _ rfl g4 (fun j=>w.heap.size<=j) (.slice WT.1 1 WT.2) 1 _ rfl g6 (mP _) (by unfold maxLen;omega) (by omega) OH.out.size ?_;intro v7 w9 bK;refine hK _ _ ?_;clear hK K;refine eP (fun K hK=>?_);go_simp;refine hK _ _ ?_;clear hK K;simp only[cO];have OI:Hid (Ext w w9):=ah (OH.out.trans' bK.upd (fun j hj h=>absurd (g4.lt j h).1 (by omega)));have g9:=ah bK.own;clear bK g4 g6 OH;obtain⟨p7,c7,rfl⟩:=bF g9.out;have WU:aG S w9 2 (.slice a l.length cap) l.length (bV l):=HR.out.ext OI.out;have hs9:=OI.out.size
   go_wp2_with(with_reducible (refine AP (o:=⟨some 58,_,_,_,_,_⟩) ?_))
   refine Stop.go ?_;refine xK _ rfl 111 _ _ rfl 2 (by kernel_rfl) (fun _=>by kernel_rfl) _ _ _ _ rfl WU k .i64 (k:Int) rfl rfl hk (fun sv hsv=>?_);rw[GN] at hsv;obtain⟨ps,cs,rfl⟩:=hsv.shape
   go_wp2_with(at_builtin;refine ji _ rfl (.tmp 55) (.tmp 58) 111 rfl w.heap.size 116 iS (.agg #[.string ⟨#[]⟩,.string ⟨#[]⟩]) 2 32 Tryz.underlying111 hi hz0 hz1 hz2 rfl (by decide) (.slice p7 (k+1) c7) (k+1) _ rfl g9.out S (.slice ps (l.length-k) cs) (l.length-k) (bV (l.drop k)) rfl hsv (mP _) ?c3 ?c4 hs9 ?_)
   case c3=>unfold maxLen;omega
   case c4=>omega
   intro v10 w10 hG;have SI:=ah hG.own;have LZ:Hid (Ext w w10):=ah (OI.out.trans' hG.upd (fun i hi e=>by have:=(g9.out.lt i e).1;omega));clear hG WU hs9 hsv
   go_wp2_with fail
   go_ret2
   rw[nZ.out];exact⟨v10,rfl,SE hk SI.out,LZ.out⟩
theorem Oi (f:Vd): ∀l:List Vd,(iJ l f).1.length<=l.length+1
 |[]=>by simp[iJ]
 |g::l=>by
  simp only[iJ];split
  .simp only [List.length_cons];have:=Oi f l;omega
  .split<;>simp
theorem DW: ∀(fs l:List Vd),(dO l fs).1.length<=l.length+fs.length
 |[],l=>by simp[dO]
 |f::fs,l=>by
  simp only[dO];split
  .have h1:=DW fs (iJ l f).1;have h2:=Oi f l;simp only[List.length_cons];omega
  .simp
theorem DX: ∀(fs gs l:List Vd),dO l (fs++gs)=if(dO l fs).2=true then dO (dO l fs).1 gs else dO l fs
 |[],gs,l=>by simp[dO]
 |f::fs,gs,l=>by
  by_cases h:(iJ l f).2=true
  .have e1: ∀x,dO l (f::x)=dO (iJ l f).1 x:=fun x=>by rw[dO,if_pos h]
   rw[List.cons_append,e1,e1];exact DX fs gs _
  .have e1: ∀x,dO l (f::x)=(l,false):=fun x=>by rw[dO,if_neg h]
   rw[List.cons_append,e1,e1];rfl
def VL (t:Tm):Prop:= ∀x∈bC t,x.sort≠au->x.kids=[]
theorem VL.kid {t x:Tm} (h:VL t) (hx:x∈t.kids):VL x:=fun y hy=>h y (lq hx hy)
theorem acB (n:By) (L:List Tm):vl (bC (.mk n au L))=L.flatMap (fun x=>vl (bC x)):=by
 rw[mg];have h1: ∀M:List Tm,vl (M.flatMap bC)=M.flatMap (fun x=>vl (bC x)):=by
  intro M
  induction M with
  |nil=>rfl
  |cons x M ih=>rw[List.flatMap_cons,sN,ih,List.flatMap_cons]
 have h2:vl [Tm.mk n au L]=[]:=rfl;rw[<-List.singleton_append,sN,h2,h1];rfl
theorem acC (n s:By) (h:s≠au):vl (bC (.mk n s []))=[(n,s)]:=by
 rw[mg];simp[vl,Tm.sort,Tm.name,Tm.kids,h]
theorem Wu (t:Tm):(vl (bC t)).length<=t.size:=by
 have h1:(vl (bC t)).length<=(bC t).length:=List.length_filterMap_le _ _;have h2:(bC t).length=t.size:=by rw[bC,List.length_map,kN]
 omega
abbrev tY (L:List Tm):List Vd:=L.flatMap fun x=>vl (bC x)
theorem R_: ∀L:List Tm,(tY L).length<=sizes L
 |[]=>by simp[sizes]
 |x::L=>by
  have h1:=Wu x;have h2:=R_ L;simp only[tY,List.flatMap_cons,List.length_append,sizes] at h2⊢;omega
theorem xZ (L:List Tm) (k:Nat) (h:k<L.length):L.take (k+1)=L.take k++[tg L k]:=by
 rw[List.take_add_one];have:L[k]?.toList=[tg L k]:=by unfold tg;rw[List.getD_eq_getElem?_getD,List.getElem?_eq_getElem h];rfl
 rw[this]
theorem bY (L:List Tm) (k:Nat) (h:k<L.length):tg L k∈L:=by
 unfold tg;rw[List.getD_eq_getElem?_getD,List.getElem?_eq_getElem h];exact List.getElem_mem h
theorem YT (L:List Tm) (k:Nat) (h:k<L.length):tY (L.take (k+1))=tY (L.take k)++vl (bC (tg L k)):=by
 rw[xZ L k h];unfold tY;rw[List.flatMap_append,List.flatMap_cons,List.flatMap_nil,List.append_nil]
theorem YU (L:List Tm) (k:Nat) (h:k<L.length):(tY (L.take k)).length+(tg L k).size<=sizes L:=by
 have h1:=R_ (L.take k);have h2:sizes L=sizes (L.take (k+1))+sizes (L.drop (k+1)):=by rw[<-qj,List.take_append_drop]
 rw[xZ L k h,qj] at h2;have h3:sizes [tg L k]=(tg L k).size:=by simp[sizes]
 omega
theorem YV (L:List Tm) (l cur:List Vd) (k:Nat) (h:k<L.length) (hc:dO l (tY (L.take k))=(cur,true)):
  (∀m,dO cur (vl (bC (tg L k)))=(m,true)->dO l (tY (L.take (k+1)))=(m,true))/\
  ((dO cur (vl (bC (tg L k)))).2=false->(dO l (tY L)).2=false):=by
 have h1:dO l (tY (L.take (k+1)))=dO cur (vl (bC (tg L k))):=by
  rw[YT L k h,DX,hc,if_pos rfl]
 refine⟨fun m hm=>by rw[h1,hm],fun hf=>?_⟩;have h2:tY L=tY (L.take (k+1))++tY (L.drop (k+1)):=by
  unfold tY;rw[<-List.flatMap_append,List.take_append_drop]
 rw[h2,DX,h1,if_neg (by rw[hf];simp)];exact hf
theorem Wv: ∀(t:Tm) (l:List Vd) (v v':Value) (S T:Nat->Prop) (w:World),bQ T w t v'->dL S w v l->VL t->l.length+t.size<=100000->
  Calls Tryz.prog 84 #[v,v'] w fun e w'=> ∃r,e= .returned (.tuple #[r,.bool (dO l (vl (bC t))).2])/\((dO l (vl (bC t))).2=true->dL (fun k=>S k\/w.heap.size<=k) w' r (dO l (vl (bC t))).1)/\Ext w w':=by
 refine Tm.ind (fun nm so L ih=>?_);intro l v v' S T w hT hF hV hsz;obtain⟨a,cap,rfl,hT⟩:=hT;dsimp only[tV,Tm.name,Tm.sort,Tm.kids] at hT⊢;have dH:=ah hT;have HIH:=ah ih;have HF:=ah hF;have xI:=ah hV;obtain⟨fa,fc,rfl⟩:=hF.shape;clear ih hT hF hV;have HZ:=ah ((uR w).alloc (.cells #[.string nm,.string so,.slice a L.length cap] 24));have HB:=ah (ay w (.cells #[.string nm,.string so,.slice a L.length cap] 24));by_cases hs0:so.size=0
 .have hse:=jv _ hs0;subst hse;rw[show vl (bC (.mk nm ⟨#[]⟩ L))=tY L from acB nm L];have hroom:l.length+sizes L+1<=100000:=by rw[size_eq] at hsz;exact hsz
  have HR0:=ah hroom;have j_:L.length<=100000:=by have h1:=bG L;omega
  clear hsz hroom;obtain⟨c0,c1,c2⟩:=ak HB.out;have hVK: ∀x∈L,VL x:=fun x hx=>VL.kid (t:= .mk nm ⟨#[]⟩ L) xI.out hx;have jc:=ah hVK;clear hVK xI
  go_enter Tryz.func84,Tryz.ntmps84
  go_wp2_with fail
  clear c0 c1 c2
  go_loopg [0,6] L.length (fun gk lv iv wr=> ∃(k:Nat) (cur:List Vd),iv= .int .i64 (k:Int)/\gk=L.length-k/\k<=L.length/\Hid (dO l (tY (L.take k))=(cur,true))/\Hid (dL (fun j=>S j\/w.heap.size<=j) wr lv cur)/\Hid (Ext w wr)/\Hid (wr.heap[w.heap.size]?=some (.cells #[.string nm,.string ⟨#[]⟩,.slice a L.length cap] 24 (0,0))))
  case atStart=>exact⟨0,l,rfl,rfl,Nat.zero_le _,ah rfl,ah (aG.weaken (dL.ext HF.out HZ.out) (fun j h=> .inl h)),HZ,HB⟩
  case round=>
   obtain⟨k,cur,rfl,rfl,hk,HC,HFk,HE,jL⟩:=hrel;have c2:=aj jL.out 2 (.slice a L.length cap) rfl;by_cases hlt:k<L.length
   .obtain ⟨g,off,rfl,_,hat⟩:=(dH.out.ext HE.out).at_ (by omega);obtain⟨ka,kc,q0,q1,q2,aW⟩:=hat k hlt;obtain⟨z0,z1,z2,z2'⟩:=bZ hlt;have hmem:=bY L k hlt;have hrm:=YU L k hlt;have hln:cur.length<=l.length+(tY (L.take k)).length:=by have:=DW (tY (L.take k)) l;rw[HC.out] at this;exact this
    obtain⟨hv1,hv2⟩:=YV L l cur k hlt HC.out;have bf:=ah (HIH.out (tg L k) hmem cur _ _ _ T wr ⟨ka,kc,rfl,aW⟩ HFk.out (jc.out _ hmem) (by have:=HR0.out;omega));dsimp only[tV] at bf;generalize vl (bC (tg L k))=ff at hv1 hv2 bf;obtain⟨⟨m,b⟩,hm⟩: ∃p,dO cur ff=p:=⟨_,rfl⟩
    rw[hm] at hv1 hv2 bf;have qJ:=ah hv1;have nZ:=ah hv2;obtain⟨x,hx⟩: ∃x,tg L k=x:=⟨_,rfl⟩
    rw[hx] at q0 q1 q2 bf;rw[<-Nat.add_assoc] at q1 q2;clear hmem hrm hln hv1 hv2 hm hx hat aW
    go_wp2_with fail
    refine bf.out.mono ?_;rintro e w8 ⟨r,rfl,hr,hw8⟩;have dG:=ah (HE.out.ext hw8);have kJ:=ah (hw8.heap jL.out (fun h=>h));have HFr:Hid (b=true->dL (fun j=>S j\/w.heap.size<=j) w8 r m):=ah (fun hb=>aG.weaken (hr hb) (fun j h=>by
     rcases h with h|h
     .exact h
     .exact .inr (Nat.le_trans HE.out.size h)))
    clear hr hw8 c2 q0 q1 q2 bf;cases b
    .have Si:=ah (nZ.out rfl)
     go_wp2_with fail
     go_ret2
     rw[Si.out];exact⟨_,rfl,fun h=>(by cases h),dG.out⟩
    .have HN:=ah (qJ.out m rfl)
     go_wp2_with fail
     go_roundg (L.length- (k+1))
     case measure=>omega
     case rel=>exact⟨k+1,m,by go_num,rfl,by omega,HN,ah (HFr.out trivial),dG,kJ⟩
   .obtain rfl:k=L.length:=by omega
    have HV:Hid (dO l (tY L)=(cur,true)):=ah (by rw[<-HC.out,List.take_length]);have z2:decide ((L.length:Int)< (L.length:Int))=false:=dF (by omega)
    go_wp2_with fail
    go_ret2
    rw[HV.out];exact⟨_,rfl,fun _=>HFk.out,HE.out⟩
 .have hLn:L=[]:=xI.out _ (jJ _) (fun e=>hs0 (by show so.size=0;rw[show so=au from e];rfl));subst hLn;obtain⟨e1,e2,e3,e4⟩:=iq so (Nat.pos_of_ne_zero hs0);rw[acC nm so (fun e=>hs0 (by rw[e];rfl))];have hadd:dO l [(nm,so)]=if(iJ l (nm,so)).2=true then((iJ l (nm,so)).1,true) else(l,false):=by rw[dO];rfl
  have UJ:=ah (fun W hW=>aiz l (nm,so) _ S W (HF.out.ext hW) (by omega));obtain⟨c0,c1,c2⟩:=ak HB.out;dsimp only at UJ;obtain⟨⟨m,b⟩,hm⟩: ∃p,iJ l (nm,so)=p:=⟨_,rfl⟩
  rw[hm] at UJ hadd;dsimp only at UJ hadd;have HAD:=ah hadd;clear hadd hm
  go_enter Tryz.func84,Tryz.ntmps84
  go_wp2_with fail
  refine(UJ.out _ HZ.out).mono ?_;rintro e w4 ⟨r,rfl,hr,hw4⟩;have HRR:=ah (aG.weaken hr (fun j h=>by
   rcases h with h|h
   .exact Or.inl h
   .exact Or.inr (Nat.le_trans HZ.out.size h)):dL (fun j=>S j\/w.heap.size<=j) w4 r m)
  have H4:=ah (HZ.out.ext hw4);clear hr hw4 c0 c1 c2
  go_wp2_with fail
  go_ret2
  rw[HAD.out];cases b
  .exact ⟨r,rfl,fun h=>by simp at h,H4.out⟩
  .exact ⟨r,rfl,fun _=>HRR.out,H4.out⟩
theorem WC {a b:By} (h:a≠b):(a.toList==b.toList)=false:=beq_eq_false_iff_ne.2 (fun e=>h (kZ (by rw[Lib.toList_data,Lib.toList_data] at e;exact e)))
theorem zo {t:Tm} (h:wf aJ t=true):formed aJ t=true:=by
 unfold wf at h;rw[Bool.and_eq_true] at h;exact h.1
theorem D5 {t:Tm} (h:formed aJ t=true):t.size<=1000/\∀x∈bC t,aJ x.name=true/\x.kids.length<=6/\(x.sort=au\/aJ x.sort=true/\x.kids=[]):=by
 obtain⟨h1,h2⟩:=(uh aJ t).1 h;refine⟨h1,fun x hx=>?_⟩;have hx1:x∈(dM 1 t).map (·.1):=by rw[uj t 1 0];exact hx
 obtain⟨p,hp,rfl⟩:=List.mem_map.1 hx1;have h3:=h2 p hp;unfold lC at h3;simp only[Bool.and_eq_true,Bool.or_eq_true,decide_eq_true_eq] at h3;refine⟨h3.2.1,h3.2.2.1,?_⟩;rcases h3.2.2.2 with h|h
 .exact .inl h
 .exact .inr ⟨h.1,List.eq_nil_of_length_eq_zero h.2⟩
theorem D6 {t:Tm} (h:formed aJ t=true):VL t:=fun x hx hs=>by
 rcases((D5 h).2 x hx).2.2 with e|e
 .exact absurd e hs
 .exact e.2
theorem D7 (t:Tm) (v:Value) (S:Nat->Prop) (w:World) (hR:bQ S w t v):Calls Tryz.prog 24 #[v] w fun e w'=>e= .returned (.bool (wf aJ t))/\Ext w w':=by
 have HR:=ah hR;obtain⟨a,cap,rfl,hT⟩:=hR;have sQ:=ah (fun W (hW:Ext w W)=>AA t 1 1000 _ S W (HR.out.ext hW) (by omega) (by omega) (by omega));have D8:=ah (qo aJ t);dsimp only[tV] at sQ⊢;have HZ:=ah ((uR w).alloc (tO t a cap));have HB:=ah (ay w (tO t a cap));obtain⟨c0,c1,c2⟩:=ak HB.out;by_cases hf:formed aJ t=true
 .have hsz:=(D5 hf).1;have rH:=ah (fun W (hW:Ext w W)=>Wv t [] (.slice none 0 0) _ S S W (HR.out.ext hW) (aG.nil S W 2) (D6 hf) (by show 0+t.size<=100000;omega));have HV:Hid (wf aJ t=(dO [] (vl (bC t))).2):=ah (by unfold wf;rw[hf,Bool.true_and,Oo]);have z1: ¬(small aJ 1 1000 t<0):=by
   have:=D8.out;rw[hf] at this;have:=of_decide_eq_true this.symm;omega
  dsimp only[tV] at rH;clear hT hf hsz;generalize small aJ 1 1000 t=R at*;generalize (dO [] (vl (bC t))).2=B at*
  go_enter Tryz.func24,Tryz.ntmps24
  go_wp2_with fail
  refine(sQ.out _ HZ.out).mono ?_;rintro e w4 ⟨rfl,hw4⟩;have H4:=ah (HZ.out.ext hw4);have HB4:=ah (hw4.heap HB.out (fun h=>h));clear hw4 c0 c1 c2;obtain⟨c0,c1,c2⟩:=ak HB4.out
  go_wp2_with fail
  refine(rH.out _ H4.out).mono ?_;rintro e w5 ⟨r,rfl,_,hw5⟩;have H5:=ah (H4.out.ext hw5);clear hw5 c0 c1 c2
  go_wp2_with fail
  go_ret;rw[HV.out];exact⟨rfl,H5.out⟩
 .have HV:Hid (wf aJ t=false):=ah (by unfold wf;rw[Bool.eq_false_iff.2 hf];rfl);have z1:small aJ 1 1000 t<0:=by
   have h1:=D8.out;rw[Bool.eq_false_iff.2 hf] at h1;have:=of_decide_eq_false h1.symm;omega
  clear hT hf;generalize small aJ 1 1000 t=R at*
  go_enter Tryz.func24,Tryz.ntmps24
  go_wp2_with fail
  refine(sQ.out _ HZ.out).mono ?_;rintro e w4 ⟨rfl,hw4⟩;have H4:=ah (HZ.out.ext hw4);clear hw4 c0 c1 c2
  go_wp2_with fail
  go_ret;rw[HV.out];exact⟨rfl,H4.out⟩
section
section
variable {R R' B T F:Nat->Prop} {base:Nat} {w w':World} {lv kv:Value} {N:List Nt}
end
end
section
section
variable {R B T B':Nat->Prop} {base n0:Nat} {w wr wq w5 w6 w7 w8:World} {N Nk N':List Nt} {L:List Tm} {lk kk akI lk' kk':Value} {Bk:Nat->Prop} {ks:List Nat} {k c c':Nat}
end
theorem N_:(Tryz.prog.info? 3).map (fun i=>(i.zero,i.size,i.bytes))=some (some (.int .i64 0),1,8):=by kernel_rfl
theorem um:(Tryz.prog.info? 24).map (fun i=>(i.zero,i.size,i.bytes))=some (some (.agg #[.string ⟨#[]⟩,.string ⟨#[]⟩,.slice none 0 0]),3,56):=by kernel_rfl
theorem jy (L:List Tm) (k:Nat) (h:k<L.length):sizes (L.take (k+1))=sizes (L.take k)+(tg L k).size:=by
 rw[xZ L k h,qj];simp[sizes]
theorem fF (L:List Tm) (k:Nat):sizes (L.take k)<=sizes L:=by
 have:sizes L=sizes (L.take k)+sizes (L.drop k):=by rw[<-qj,List.take_append_drop]
 omega
end
theorem aP.shape {te:TypeId} {w:World} {B:Nat->Prop} {L:List Tm} {v:Value} (h:aP te w B L v): ∃a cap,v= .slice a L.length cap:=h.read.shape
theorem zU (w:World) (u0 u1 u2:Value) (t:TypeId): ∀(j:Nat) (u:Value),[u0,u1,u2][j]?=some u->(w.alloc (.cells #[u0,u1,u2] t)).cell? ((⟨w.heap.size,0,none⟩:Addr).add j)=some u:=fun j u hj=>by
 match j,hj with
 |0,hj=>simp only[List.getElem?_cons_zero,Option.some.injEq] at hj;subst hj;simp only[Addr.add];exact aj (ay _ _) 0 _ rfl
 |1,hj=>simp at hj;subst hj;simp only[Addr.add];exact aj (ay _ _) 1 _ rfl
 |2,hj=>simp at hj;subst hj;simp only[Addr.add];exact aj (ay _ _) 2 _ rfl
structure n_ (te:TypeId) (n0:Nat) (wr:World) (L:List Tm) (lv:Value) (us:List Value) (Bk:Nat->Nat->Prop) (k:Nat):Prop where
 len:us.length=k
 own:wr.ownsRow n0 te 3 lv k (dI (L.take k) us)
 kid: ∀i,i<k->aP te wr (Bk i) (tg L i).kids (ug us i)
 blk: ∀i j,i<k->Bk i j->n0<=j/\j<wr.heap.size/\lv.ownBlock≠some j
 dis: ∀i i' j,i<k->i'<k->i≠i'->Bk i j->¬Bk i' j
theorem n_.grow {te:TypeId} {n0 n3 k:Nat} {wr wq w5 wA w7 w8:World} {L:List Tm} {lv lv' u:Value} {us:List Value} {Bk:Nat->Nat->Prop} {Bx:Nat->Prop} {x:Tm} (h:n_ te n0 wr L lv us Bk k) (hk:k<L.length) (hx:tg L k=x) (hn:n3<n0) (h0:n0<=wr.heap.size) (hq:Ext wr wq) (h5:Ext wq w5)
  (hT:aP te w5 Bx x.kids u) (hB: ∀j,Bx j->wq.heap.size<=j/\j<w5.heap.size) (hA:Ext w5 wA) (hG:Grew n0 te 3 lv (k+1) (dI (L.take k) us++[.string x.name,.string x.sort,u]) wA w7 lv') (h8:aC (fun j=>j=n3) w7 w8):
  n_ te n0 w8 L lv' (us++[u]) (fun i=>if i=k then Bx else Bk i) (k+1):=by
 have lN:aC (fun j=>lv.ownBlock=some j) wr w7:=(((hq.trans h5).trans hA).mono (fun _ _ x=>x.elim)).trans hG.upd;have hlt:=fun j hj=>h.own.lt j hj;have hF: ∀(P:Nat->Prop) (Lx:List Tm) (vx:Value),aP te w7 P Lx vx->(∀j,P j->n0<=j)->aP te w8 P Lx vx:=fun P Lx vx ht hp=>ht.kept h8 (fun j hj e=>by have:=hp j hj;omega);refine⟨by rw[List.length_append,h.len];rfl,?_,fun i hi=>?_,fun i j hi hj=>?_,fun i i' j hi hi' hne hj=>?_⟩
 .rw [xZ L k hk,GK _ _ _ _ (by rw[h.len,List.length_take];omega),hx];exact bH hG.own h8 (fun j hj e=>by have:=(hG.own.lt j hj).1;omega)
 .by_cases e:i=k
  .subst e;rw[if_pos rfl,hx];have e2:ug (us++[u]) i=u:=by unfold ug;rw[List.getD_eq_getElem?_getD,List.getElem?_append_right (by rw[h.len];exact Nat.le_refl _),h.len,Nat.sub_self];rfl
   rw[e2];refine hF _ _ _ ((hT.kept hA (fun _ _ x=>x)).kept hG.upd (fun j hj e=>?_)) (fun j hj=>by have h1:=hB j hj;have:=hq.size;omega);have h1:=(hB j hj).1;have h2:=(hlt j e).2;have:=hq.size;omega
  .rw [if_neg e];have e2:ug (us++[u]) i=ug us i:=by unfold ug;rw[List.getD_eq_getElem?_getD,List.getD_eq_getElem?_getD,List.getElem?_append_left (by rw[h.len];omega)]
   rw[e2];exact hF _ _ _ ((h.kid i (by omega)).kept lN (fun j hj e=>(h.blk i j (by omega) hj).2.2 e)) (fun j hj=>(h.blk i j (by omega) hj).1)
 .have hs8:=h8.size;have hs7:=hG.upd.size;have hsA:=hA.size;have hs5:=h5.size;have LQ:=hq.size;have hbn: ∀j,lv'.ownBlock=some j->lv.ownBlock=some j\/w5.heap.size<=j:=fun j e=>by
   rcases hG.uw with h|h
   .rw [h] at e;exact .inl e
   .rw [h] at e;injection e with e;exact .inr (by omega)
  by_cases e:i=k
  .subst e;rw[if_pos rfl] at hj;have h1:=hB j hj;refine⟨by omega,by omega,fun e=>?_⟩;rcases hbn j e with h2|h2
   .have:=(hlt j h2).2;omega
   .omega
  .rw [if_neg e] at hj;obtain⟨h1,h2,h3⟩:=h.blk i j (by omega) hj;refine⟨h1,by omega,fun e=>?_⟩;rcases hbn j e with h4|h4
   .exact h3 h4
   .omega
 .have LQ:=hq.size;by_cases e:i=k
  .subst e;rw[if_pos rfl] at hj;have h1:=hB j hj;rw[if_neg (fun e=>hne e.symm)];intro h2;have:=(h.blk i' j (by omega) h2).2.1;omega
  .rw [if_neg e] at hj;by_cases e':i'=k
   .subst e';rw[if_pos rfl];intro h2;have h3:=hB j h2;have:=(h.blk i j (by omega) hj).2.1;omega
   .rw [if_neg e'];exact h.dis i i' j (by omega) (by omega) hne hj
theorem n_.fin {te:TypeId} {n0:Nat} {wr:World} {L:List Tm} {lv:Value} {us:List Value} {Bk:Nat->Nat->Prop} (h:n_ te n0 wr L lv us Bk L.length):aP te wr (fun j=>n0<=j/\j<wr.heap.size) L lv:=by
 have ho:=h.own;rw[List.take_length] at ho;exact⟨_,L,us,lv,Bk,h.len,⟨ho.1,ho.2.imp id (fun⟨g,c,cur,e,_,h2⟩=>⟨g,c,cur,e,Nat.zero_le _,h2⟩)⟩,fun k hk=>⟨(ho.lt k hk).1,(ho.lt k hk).2⟩,fun i k hi hk=>⟨(h.blk i k hi hk).1,(h.blk i k hi hk).2.1⟩,fun i k hi hk=>(h.blk i k hi hk).2.2,fun i j k hi hj=>h.dis i j k hi hj,h.kid⟩
theorem aN {W:World} {z:Nat} {t:TypeId} {v0 v1 v2:Value} (h:W.heap[z]?=some (.cells #[v0,v1,v2] t (0,0))) (u0 u1 u2:Value):(((W.setCell ⟨z,0,none⟩ u0).setCell ⟨z,1,none⟩ u1).setCell ⟨z,2,none⟩ u2).heap[z]?=some (.cells #[u0,u1,u2] t (0,0)):=by
 have:=setBlock (setBlock (setBlock h 0 u0) 1 u1) 2 u2;simpa using this
theorem aK (W:World) (z:Nat) (u0 u1 u2:Value):aC (fun k=>k=z) W (((W.setCell ⟨z,0,none⟩ u0).setCell ⟨z,1,none⟩ u1).setCell ⟨z,2,none⟩ u2):=
 (((aC.refl (fun k=>k=z) W).setCell (p:=⟨z,0,none⟩) (.inl rfl) u0).setCell (p:=⟨z,1,none⟩) (.inl rfl) u1).setCell (p:=⟨z,2,none⟩) (.inl rfl) u2
theorem Y9: ∀(t:Tm) (v:Value) (S:Nat->Prop) (w:World),bQ S w t v->(∀k,S k->k<w.heap.size)->t.size<=100000->
  Calls Tryz.prog 172 #[v] w fun e w'=> ∃r B,e= .returned (tV t r)/\aP 24 w' B t.kids r/\(∀j,B j->w.heap.size<=j/\j<w'.heap.size)/\Ext w w':=by
 refine Tm.ind (fun nm so L ih=>?_);intro v S w hT hS hsz;obtain⟨a,cap,rfl,hT⟩:=hT;dsimp only[tV,Tm.name,Tm.sort,Tm.kids] at hT⊢;have dH:=ah hT;have HIH:=ah ih;have iE:=ah hS;have fJ:sizes L+1<=100000:=by rw[size_eq] at hsz;simp only[Tm.kids] at hsz;omega
 have HSL:=ah fJ;have j_:L.length<=100000:=by have h1:=bG L;omega
 have hx3:=(((uR w).alloc (.cells #[.string nm,.string so,.slice a L.length cap] 24)).alloc zO).alloc (.cells #[.string nm,.string so,.slice none 0 0] 24);have hb2:=aB (alloc_at (w.alloc (.cells #[.string nm,.string so,.slice a L.length cap] 24)) zO (n:=w.heap.size+1) (by simp)) (.cells #[.string nm,.string so,.slice none 0 0] 24);have hb3:=alloc_at ((w.alloc (.cells #[.string nm,.string so,.slice a L.length cap] 24)).alloc zO) (.cells #[.string nm,.string so,.slice none 0 0] 24) (n:=w.heap.size+1+1) (by simp);have hz0:(((w.alloc (.cells #[.string nm,.string so,.slice a L.length cap] 24)).alloc zO).alloc (.cells #[.string nm,.string so,.slice none 0 0] 24)).heap.size=w.heap.size+3:=by simp
 have HB2:=ah hb2;have HB3:=ah hb3;have dP:=ah hx3;have HZ0:=ah hz0;clear ih hT hS hsz fJ;clear hb2 hb3 hx3 hz0
 go_enter Tryz.func172,Tryz.ntmps172
 go_wp2_with fail
 generalize (((w.alloc (.cells #[.string nm,.string so,.slice a L.length cap] 24)).alloc zO).alloc (.cells #[.string nm,.string so,.slice none 0 0] 24))=W0 at*;obtain⟨n3,hn3⟩: ∃n3,w.heap.size+1+1=n3:=⟨_,rfl⟩
 rw[hn3] at HB3⊢;have fH:=ah hn3;clear hn3;have kL:Hid (n_ 24 (w.heap.size+3) W0 L (.slice none 0 0) [] (fun _ _=>False) 0):=ah ⟨rfl,⟨rfl,.inl ⟨rfl,rfl⟩⟩,fun i hi=>absurd hi (Nat.not_lt_zero _),fun i j hi=>absurd hi (Nat.not_lt_zero _),fun i i' j hi=>absurd hi (Nat.not_lt_zero _)⟩;have uz:Hid (w.heap.size+3<=W0.heap.size):=ah (by rw[HZ0.out];exact Nat.le_refl _);clear HZ0
 go_loopg [11] L.length (fun gk iv wr=> ∃(k:Nat) (lv:Value) (us:List Value) (Bk:Nat->Nat->Prop),iv= .int .i64 (k:Int)/\gk=L.length-k/\k<=L.length/\Hid (n_ 24 (w.heap.size+3) wr L lv us Bk k)/\Hid (wr.heap[w.heap.size+1]?=some zO)/\Hid (wr.heap[n3]?=some (.cells #[.string nm,.string so,lv] 24 (0,0)))/\Hid (Ext w wr)/\Hid (w.heap.size+3<=wr.heap.size))
 case atStart=>exact⟨0,_,_,_,rfl,rfl,Nat.zero_le _,kL,HB2,HB3,dP,uz⟩
 case round=>
  clear kL HB2 HB3 dP uz;obtain⟨k,lv,us,Bk,rfl,rfl,hk,HJ,HB2,HB3,HE,bU⟩:=hrel;obtain⟨la,lc,hlv⟩:=bF HJ.out.own;subst hlv;by_cases hlt:k<L.length
  .obtain ⟨g,off,hga,_,hat⟩:=(dH.out.ext HE.out).at_ (by omega);subst hga;obtain⟨xa,xc,q0,q1,q2,aW⟩:=hat k hlt;rw[<-Nat.add_assoc] at q1 q2;obtain⟨z0,z1,z2,z2'⟩:=bZ hlt;have bf:=ah (fun W (hW:Ext (wr.alloc (.cells #[.string (tg L k).name,.string (tg L k).sort,.slice xa (tg L k).kids.length xc] 24)) W)=>HIH.out (tg L k) (bY L k hlt) _ S W ⟨xa,xc,rfl,(aW.ext ((uR wr).alloc _)).ext hW⟩ (fun j hj=>aF (iE.out j hj) (Nat.le_trans HE.out.size (Nat.le_trans ((uR wr).alloc (.cells #[.string (tg L k).name,.string (tg L k).sort,.slice xa (tg L k).kids.length xc] 24)).size hW.size))) (by have h1:=HSL.out;have h2:=jy L k hlt;have h3:=fF L (k+1);omega));dsimp only[tV] at bf;obtain⟨x,hx⟩: ∃x,tg L k=x:=⟨_,rfl⟩
   have HX:=ah hx;rw[hx] at q0 q1 q2 bf;have hQ:=(uR wr).alloc (tO x xa xc);have mO:=ay wr (tO x xa xc);obtain⟨b0,b1,b2⟩:=ak mO;have lF:=aB HB3.out (tO x xa xc);have c2:=aj lF 2 (.slice la k lc) rfl;have zA:=ah lF;have HQ:=ah hQ;have yD:=ah (aB HB2.out (tO x xa xc));have Ed:=ah (HJ.out.own.alloc (tO x xa xc));have iV:Hid (¬(Value.slice la k lc).ownBlock=some n3):=ah (fun e=>by have h1:=(HJ.out.own.lt n3 e).1;have:=fH.out;omega);have HK:Hid (k<=100000):=ah (by omega);obtain⟨iT,hi,hz0,hz1,hz2⟩:=info_parts um;clear hat aW hx hQ mO lF
   go_wp2_with fail
   generalize wr.alloc (tO x xa xc)=wq at*;have Ee:Hid (Ext wq wq):=ah (aC.refl _ _);have sW:Hid (w.heap.size+3<=wq.heap.size):=ah (Nat.le_trans bU.out HQ.out.size);clear q0 q1 q2
   go_region_law (first
 |(refine dY _ (.tmp 16) (.tmp 19) 22 rfl (w.heap.size+3) 24 iT (.agg #[.string ⟨#[]⟩,.string ⟨#[]⟩,.slice none 0 0]) 3 56 Tryz.underlying22 hi hz0 hz1 hz2 rfl (by decide) _ _ _ rfl yE.out _ 1 1 [.string x.name,.string x.sort,.slice ya x.kids.length yc] rfl rfl oD.out kF.out iW.out.1 iW.out.2.1 iW.out.2.2 ?_;intro v7 w7 bK;obtain⟨a7,c7,hv7⟩:=bF bK.own;subst hv7;have fK:=bK.upd.heap (aB fC.out (tO x ya yc)) iV.out;have f7:=fun i=>aA fK i;have c2:=aj fK 2 (.slice la k lc) rfl;have eU:=ah fK;have jO:=ah bK;clear bK fK)
 |(go_simp;refine(bf.out wq.drew Ee.out.drew).mono ?_;rintro e w5 ⟨r,Bx,rfl,kV,hb5,hw5⟩;obtain⟨ya,yc,jP⟩:=aP.shape kV;subst jP;have dh:Hid (Ext wq w5):=ah (((uR wq).drewN' 1).trans hw5);have o7:=ah kV;have sG:Hid (∀j,Bx j->wq.heap.size<=j/\j<w5.heap.size):=ah hb5;have fC:=ah (dh.out.heap zA.out (fun h=>h));have yE:Hid ((w5.alloc (tO x ya yc)).ownsRow (w.heap.size+3) 24 3 (.slice la k lc) k (dI (L.take k) us)):=ah ((bH Ed.out dh.out (fun _ _ h=>h)).alloc _);have oD:Hid (∀(j:Nat) (u:Value),[Value.string x.name,.string x.sort,.slice ya x.kids.length yc][j]?=some u->(w5.alloc (tO x ya yc)).cell? ((⟨w5.heap.size,0,none⟩:Addr).add j)=some u):=ah (zU w5 _ _ _ 24);have kF:Hid (∀u∈[Value.string x.name,.string x.sort,.slice ya x.kids.length yc],u.oneCell'=true):=ah (fun u hu=>by simp at hu;rcases hu with h|h|h<;>(subst h;rfl));have iW:Hid (k+1<=maxLen/\(k+1)*56<=140737488355328/\w.heap.size+3<=(w5.alloc (tO x ya yc)).heap.size):=ah ⟨by unfold maxLen;have:=HK.out;omega,by have:=HK.out;omega,by have h1:=dh.out.size;have h2:=sW.out;simp;omega⟩;have c5:=dh.out.cell c2 (fun h=>h);have c6:=((uR w5).alloc (tO x ya yc)).cell c5 (fun h=>h);clear kV hb5 hw5))
   all_goals
    go_wp2_with fail
    have ig:=ah ((aC.refl (fun j=>j=n3) w7).setCell (p:=⟨n3,2,none⟩) (.inl rfl) (.slice a7 (k+1) c7));have dB:Hid (aC (fun j=>(Value.slice la k lc).ownBlock=some j\/j=n3) wq (w7.setCell ⟨n3,2,none⟩ (.slice a7 (k+1) c7))):=ah (((((dh.out.alloc (tO x ya yc)).mono (fun _ _ x=>x.elim)).trans (jO.out.upd.mono (fun _ _ e=> .inl e)))).trans (ig.out.mono (fun _ _ e=> .inr e)));have uF:=ah (HJ.out.grow hlt HX.out (by have:=fH.out;omega) bU.out HQ.out dh.out o7.out sG.out ((uR w5).alloc (tO x ya yc)) jO.out ig.out);have dG:Hid (Ext w (w7.setCell ⟨n3,2,none⟩ (.slice a7 (k+1) c7))):=ah ((HE.out.trans HQ.out).trans' dB.out (fun j hj e=>by
     rcases e with e|e
     .have h1:=(HJ.out.own.lt j e).1;omega
     .have:=fH.out;omega))
    have mY:=ah (dB.out.heap yD.out (fun e=>by
     rcases e with e|e
     .have h1:=(HJ.out.own.lt _ e).1;omega
     .have:=fH.out;omega))
    have jC:=setBlock eU.out 2 (.slice a7 (k+1) c7);have lY:Hid ((w7.setCell ⟨n3,2,none⟩ (.slice a7 (k+1) c7)).heap[n3]?=some (.cells #[.string nm,.string so,.slice a7 (k+1) c7] 24 (0,0))):=ah (by simpa using jC);have jX:Hid (w.heap.size+3<=(w7.setCell ⟨n3,2,none⟩ (.slice a7 (k+1) c7)).heap.size):=ah (Nat.le_trans sW.out dB.out.size);clear jC c2 f7
    go_roundg (L.length- (k+1))
    case measure=>omega
    case rel=>exact⟨k+1,_,_,_,by go_num,rfl,by omega,uF,mY,lY,dG,jX⟩
  .obtain rfl:k=L.length:=by omega
   have z2:decide ((L.length:Int)< (L.length:Int))=false:=dF (by omega);obtain⟨c0,c1,c2⟩:=ak HB3.out;have f2:=fun i=>aA HB2.out i;obtain⟨d0,d1,d2⟩:=ak HB2.out
   go_wp2_with fail
   have hr:=aN HB2.out (.string nm) (.string so) (.slice la L.length lc);have hu:=aK wr (w.heap.size+1) (.string nm) (.string so) (.slice la L.length lc);obtain⟨e0,e1,e2⟩:=ak hr;refine bodyPost_ret (v:= .agg #[.string nm,.string so,.slice la L.length lc]) (by simp[results,Tryz.results172,go_sem,e0,e1,e2]) rfl ⟨.slice la L.length lc,_,rfl,HJ.out.fin.kept hu (fun j hj e=>by have h1:=hj.1;omega),fun j hj=>⟨by have h1:=hj.1;omega,aF hj.2 hu.size⟩,HE.out.trans' hu (fun j hj e=>by omega)⟩
theorem Ei: ∀(t:Tm) (v:Value) (S:Nat->Prop) (w:World),bQ S w t v->(∀k,S k->k<w.heap.size)->t.size<=100000->
  Calls Tryz.prog 117 #[v] w fun e w'=> ∃r B,e= .returned (tV t r)/\aP 24 w' B t.kids r/\(∀j,B j->w.heap.size<=j/\j<w'.heap.size)/\Ext w w':=by
 refine Tm.ind (fun nm so L ih=>?_);intro v S w hT hS hsz;obtain⟨a,cap,rfl,hT⟩:=hT;dsimp only[tV,Tm.name,Tm.sort,Tm.kids] at hT⊢;have dH:=ah hT;have HIH:=ah ih;have iE:=ah hS;have fJ:sizes L+1<=100000:=by rw[size_eq] at hsz;simp only[Tm.kids] at hsz;omega
 have HSL:=ah fJ;have j_:L.length<=100000:=by have h1:=bG L;omega
 have hx3:=(((uR w).alloc (.cells #[.string nm,.string so,.slice a L.length cap] 24)).alloc zO).alloc (.cells #[.string nm,.string so,.slice none 0 0] 24);have hb2:=aB (alloc_at (w.alloc (.cells #[.string nm,.string so,.slice a L.length cap] 24)) zO (n:=w.heap.size+1) (by simp)) (.cells #[.string nm,.string so,.slice none 0 0] 24);have hb3:=alloc_at ((w.alloc (.cells #[.string nm,.string so,.slice a L.length cap] 24)).alloc zO) (.cells #[.string nm,.string so,.slice none 0 0] 24) (n:=w.heap.size+1+1) (by simp);have hz0:(((w.alloc (.cells #[.string nm,.string so,.slice a L.length cap] 24)).alloc zO).alloc (.cells #[.string nm,.string so,.slice none 0 0] 24)).heap.size=w.heap.size+3:=by simp
 have HB2:=ah hb2;have HB3:=ah hb3;have dP:=ah hx3;have HZ0:=ah hz0;clear ih hT hS hsz fJ;clear hb2 hb3 hx3 hz0
 go_enter Tryz.func117,Tryz.ntmps117
 go_wp2_with fail
 generalize (((w.alloc (.cells #[.string nm,.string so,.slice a L.length cap] 24)).alloc zO).alloc (.cells #[.string nm,.string so,.slice none 0 0] 24))=W0 at*;obtain⟨n3,hn3⟩: ∃n3,w.heap.size+1+1=n3:=⟨_,rfl⟩
 rw[hn3] at HB3⊢;have fH:=ah hn3;clear hn3;have kL:Hid (n_ 24 (w.heap.size+3) W0 L (.slice none 0 0) [] (fun _ _=>False) 0):=ah ⟨rfl,⟨rfl,.inl ⟨rfl,rfl⟩⟩,fun i hi=>absurd hi (Nat.not_lt_zero _),fun i j hi=>absurd hi (Nat.not_lt_zero _),fun i i' j hi=>absurd hi (Nat.not_lt_zero _)⟩;have uz:Hid (w.heap.size+3<=W0.heap.size):=ah (by rw[HZ0.out];exact Nat.le_refl _);clear HZ0
 go_loopg [14] L.length (fun gk iv wr=> ∃(k:Nat) (lv:Value) (us:List Value) (Bk:Nat->Nat->Prop),iv= .int .i64 (k:Int)/\gk=L.length-k/\k<=L.length/\Hid (n_ 24 (w.heap.size+3) wr L lv us Bk k)/\Hid (wr.heap[w.heap.size+1]?=some zO)/\Hid (wr.heap[n3]?=some (.cells #[.string nm,.string so,lv] 24 (0,0)))/\Hid (Ext w wr)/\Hid (w.heap.size+3<=wr.heap.size))
 case atStart=>exact⟨0,_,_,_,rfl,rfl,Nat.zero_le _,kL,HB2,HB3,dP,uz⟩
 case round=>
  clear kL HB2 HB3 dP uz;obtain⟨k,lv,us,Bk,rfl,rfl,hk,HJ,HB2,HB3,HE,bU⟩:=hrel;obtain⟨la,lc,hlv⟩:=bF HJ.out.own;subst hlv;by_cases hlt:k<L.length
  .obtain ⟨g,off,hga,_,hat⟩:=(dH.out.ext HE.out).at_ (by omega);subst hga;obtain⟨xa,xc,q0,q1,q2,aW⟩:=hat k hlt;rw[<-Nat.add_assoc] at q1 q2;obtain⟨z0,z1,z2,z2'⟩:=bZ hlt;have bf:=ah (fun W (hW:Ext (wr.alloc (.cells #[.string (tg L k).name,.string (tg L k).sort,.slice xa (tg L k).kids.length xc] 24)) W)=>HIH.out (tg L k) (bY L k hlt) _ S W ⟨xa,xc,rfl,(aW.ext ((uR wr).alloc _)).ext hW⟩ (fun j hj=>aF (iE.out j hj) (Nat.le_trans HE.out.size (Nat.le_trans ((uR wr).alloc (.cells #[.string (tg L k).name,.string (tg L k).sort,.slice xa (tg L k).kids.length xc] 24)).size hW.size))) (by have h1:=HSL.out;have h2:=jy L k hlt;have h3:=fF L (k+1);omega));dsimp only[tV] at bf;obtain⟨x,hx⟩: ∃x,tg L k=x:=⟨_,rfl⟩
   have HX:=ah hx;rw[hx] at q0 q1 q2 bf;have hQ:=(uR wr).alloc (tO x xa xc);have mO:=ay wr (tO x xa xc);obtain⟨b0,b1,b2⟩:=ak mO;have lF:=aB HB3.out (tO x xa xc);have c2:=aj lF 2 (.slice la k lc) rfl;have zA:=ah lF;have HQ:=ah hQ;have yD:=ah (aB HB2.out (tO x xa xc));have Ed:=ah (HJ.out.own.alloc (tO x xa xc));have iV:Hid (¬(Value.slice la k lc).ownBlock=some n3):=ah (fun e=>by have h1:=(HJ.out.own.lt n3 e).1;have:=fH.out;omega);have HK:Hid (k<=100000):=ah (by omega);obtain⟨iT,hi,hz0,hz1,hz2⟩:=info_parts um;clear hat aW hx hQ mO lF
   go_wp2_with fail
   generalize wr.alloc (tO x xa xc)=wq at*;have Ee:Hid (Ext wq wq):=ah (aC.refl _ _);have sW:Hid (w.heap.size+3<=wq.heap.size):=ah (Nat.le_trans bU.out HQ.out.size);clear q0 q1 q2
   go_region_law (first
 |(refine dY _ (.tmp 19) (.tmp 22) 22 rfl (w.heap.size+3) 24 iT (.agg #[.string ⟨#[]⟩,.string ⟨#[]⟩,.slice none 0 0]) 3 56 Tryz.underlying22 hi hz0 hz1 hz2 rfl (by decide) _ _ _ rfl yE.out _ 1 1 [.string x.name,.string x.sort,.slice ya x.kids.length yc] rfl rfl oD.out kF.out iW.out.1 iW.out.2.1 iW.out.2.2 ?_;intro v7 w7 bK;obtain⟨a7,c7,hv7⟩:=bF bK.own;subst hv7;have fK:=bK.upd.heap (aB fC.out (tO x ya yc)) iV.out;have f7:=fun i=>aA fK i;have c2:=aj fK 2 (.slice la k lc) rfl;have eU:=ah fK;have jO:=ah bK;clear bK fK)
 |(go_simp;refine(bf.out wq.drew Ee.out.drew).mono ?_;rintro e w5 ⟨r,Bx,rfl,kV,hb5,hw5⟩;obtain⟨ya,yc,jP⟩:=aP.shape kV;subst jP;have dh:Hid (Ext wq w5):=ah (((uR wq).drewN' 1).trans hw5);have o7:=ah kV;have sG:Hid (∀j,Bx j->wq.heap.size<=j/\j<w5.heap.size):=ah hb5;have fC:=ah (dh.out.heap zA.out (fun h=>h));have yE:Hid ((w5.alloc (tO x ya yc)).ownsRow (w.heap.size+3) 24 3 (.slice la k lc) k (dI (L.take k) us)):=ah ((bH Ed.out dh.out (fun _ _ h=>h)).alloc _);have oD:Hid (∀(j:Nat) (u:Value),[Value.string x.name,.string x.sort,.slice ya x.kids.length yc][j]?=some u->(w5.alloc (tO x ya yc)).cell? ((⟨w5.heap.size,0,none⟩:Addr).add j)=some u):=ah (zU w5 _ _ _ 24);have kF:Hid (∀u∈[Value.string x.name,.string x.sort,.slice ya x.kids.length yc],u.oneCell'=true):=ah (fun u hu=>by simp at hu;rcases hu with h|h|h<;>(subst h;rfl));have iW:Hid (k+1<=maxLen/\(k+1)*56<=140737488355328/\w.heap.size+3<=(w5.alloc (tO x ya yc)).heap.size):=ah ⟨by unfold maxLen;have:=HK.out;omega,by have:=HK.out;omega,by have h1:=dh.out.size;have h2:=sW.out;simp;omega⟩;have c5:=dh.out.cell c2 (fun h=>h);have c6:=((uR w5).alloc (tO x ya yc)).cell c5 (fun h=>h);clear kV hb5 hw5))
   all_goals
    go_wp2_with fail
    have ig:=ah ((aC.refl (fun j=>j=n3) w7).setCell (p:=⟨n3,2,none⟩) (.inl rfl) (.slice a7 (k+1) c7));have dB:Hid (aC (fun j=>(Value.slice la k lc).ownBlock=some j\/j=n3) wq (w7.setCell ⟨n3,2,none⟩ (.slice a7 (k+1) c7))):=ah (((((dh.out.alloc (tO x ya yc)).mono (fun _ _ x=>x.elim)).trans (jO.out.upd.mono (fun _ _ e=> .inl e)))).trans (ig.out.mono (fun _ _ e=> .inr e)));have uF:=ah (HJ.out.grow hlt HX.out (by have:=fH.out;omega) bU.out HQ.out dh.out o7.out sG.out ((uR w5).alloc (tO x ya yc)) jO.out ig.out);have dG:Hid (Ext w (w7.setCell ⟨n3,2,none⟩ (.slice a7 (k+1) c7))):=ah ((HE.out.trans HQ.out).trans' dB.out (fun j hj e=>by
     rcases e with e|e
     .have h1:=(HJ.out.own.lt j e).1;omega
     .have:=fH.out;omega))
    have mY:=ah (dB.out.heap yD.out (fun e=>by
     rcases e with e|e
     .have h1:=(HJ.out.own.lt _ e).1;omega
     .have:=fH.out;omega))
    have jC:=setBlock eU.out 2 (.slice a7 (k+1) c7);have lY:Hid ((w7.setCell ⟨n3,2,none⟩ (.slice a7 (k+1) c7)).heap[n3]?=some (.cells #[.string nm,.string so,.slice a7 (k+1) c7] 24 (0,0))):=ah (by simpa using jC);have jX:Hid (w.heap.size+3<=(w7.setCell ⟨n3,2,none⟩ (.slice a7 (k+1) c7)).heap.size):=ah (Nat.le_trans sW.out dB.out.size);clear jC c2 f7
    go_roundg (L.length- (k+1))
    case measure=>omega
    case rel=>exact⟨k+1,_,_,_,by go_num,rfl,by omega,uF,mY,lY,dG,jX⟩
  .obtain rfl:k=L.length:=by omega
   have z2:decide ((L.length:Int)< (L.length:Int))=false:=dF (by omega);obtain⟨c0,c1,c2⟩:=ak HB3.out;have f2:=fun i=>aA HB2.out i;obtain⟨d0,d1,d2⟩:=ak HB2.out
   go_wp2_with fail
   have hr:=aN HB2.out (.string nm) (.string so) (.slice la L.length lc);have hu:=aK wr (w.heap.size+1) (.string nm) (.string so) (.slice la L.length lc);obtain⟨e0,e1,e2⟩:=ak hr;refine bodyPost_ret (v:= .agg #[.string nm,.string so,.slice la L.length lc]) (by simp[results,Tryz.results172,go_sem,e0,e1,e2]) rfl ⟨.slice la L.length lc,_,rfl,HJ.out.fin.kept hu (fun j hj e=>by have h1:=hj.1;omega),fun j hj=>⟨by have h1:=hj.1;omega,aF hj.2 hu.size⟩,HE.out.trans' hu (fun j hj e=>by omega)⟩
section
section
variable {ops:List By} {R B B':Nat->Prop} {base n0 b:Nat} {w wr wq w5 w6 w7 w8 w9:World} {N Nk N':List Nt} {L:List Tm} {akI anH:Value} {Bk:Nat->Prop} {ks:List Nat} {k c c' q:Nat}
end
end
theorem aed {L M:List Tm} (hl:L.length=M.length) (h: ∀j,j<L.length->tg L j=tg M j):L=M:=by
 refine List.ext_getElem hl (fun i h1 h2=>?_);have:=h i h1;unfold tg at this;rw[List.getD_eq_getElem?_getD,List.getD_eq_getElem?_getD,List.getElem?_eq_getElem h1,List.getElem?_eq_getElem h2] at this;exact this
theorem aiA (L M:List Tm) (v v':Value) (S T:Nat->Prop) (w:World) (hR:aI S w L v) (hR':aI T w M v') (hl:L.length<=1000000)
  (hf: ∀t∈L,∀u v1 v2 W,Ext w W->bQ S W t v1->bQ T W u v2->Calls Tryz.prog 216 #[v1,v2] W fun e W'=>e= .returned (.bool (decide (t=u)))/\Ext W W'):
  Calls Tryz.prog 190 #[v,v',.func (.func 216) #[] #[]] w fun e w'=>e= .returned (.bool (decide (L=M)))/\Ext w w':=by
 obtain⟨aa,ca,rfl⟩:=hR.shape;obtain⟨ab,cb,rfl⟩:=hR'.shape;have dH:=ah (And.intro hR hR');have HF:=ah hf;have HL:=ah hl;clear hR hR' hf hl;by_cases hlen:L.length=M.length
 .have hz1:((L.length:Int) !=(M.length:Int))=false:=by simp[hlen]
  have H3:=ah hlen;clear hlen
  go_enter Tryz.func190,Tryz.ntmps190
  go_wp2_with fail
  clear hz1
  go_loopg [17] L.length (fun gk iv wr=> ∃k:Nat,iv= .int .i64 (k:Int)/\gk=L.length-k/\k<=L.length/\Hid (∀j,j<k->tg L j=tg M j)/\Hid (Ext w wr))
  case atStart=>exact⟨0,rfl,rfl,Nat.zero_le _,ah (fun j h=>absurd h (Nat.not_lt_zero _)),ah (aC.refl _ _)⟩
  case round=>
   obtain⟨k,rfl,rfl,hk,HC,HE⟩:=hrel;by_cases hlt:k<L.length
   .have sF:k<M.length:=by have:=H3.out;omega
    obtain⟨g,off,hga,_,hat⟩:=(dH.out.1.ext HE.out).at_ (by omega);obtain⟨g',off',OJ,_,hat'⟩:=(dH.out.2.ext HE.out).at_ (by omega);subst hga;subst OJ;obtain⟨xa,xc,q0,q1,q2,aW⟩:=hat k hlt;obtain⟨ya,yc,p0,p1,p2,pW⟩:=hat' k sF;obtain⟨z0,z1,z2,z2'⟩:=bZ hlt;have z3:(k:Int)< (M.length:Int):=by omega
    have bf:=ah (fun W (hW:Ext wr W)=>HF.out (tg L k) (bY L k hlt) (tg M k) _ _ W (HE.out.trans hW) ⟨xa,xc,rfl,aW.ext hW⟩ ⟨ya,yc,rfl,pW.ext hW⟩);have qK:Hid (tg L k=tg M k->∀j,j<k+1->tg L j=tg M j):=ah (fun h j hj=>by
     rcases Nat.lt_succ_iff_lt_or_eq.1 hj with h5|h5
     .exact HC.out j h5
     .rw [h5];exact h)
    have Ej:Hid (tg L k≠tg M k->decide (L=M)=false):=ah (fun h=>dF (fun e=>h (by rw[e])));dsimp only[tV] at bf;clear hat hat' aW pW;obtain⟨x,hx⟩: ∃x,tg L k=x:=⟨_,rfl⟩
    obtain⟨y,hy⟩: ∃y,tg M k=y:=⟨_,rfl⟩
    rw[hx] at q0 q1 q2 bf qK Ej;rw[hy] at p0 p1 p2 bf qK Ej;clear hx hy HC;rw[<-Nat.add_assoc] at q1 q2 p1 p2;have hA:=(uR wr).alloc (tO x xa xc);have p0:=hA.cell p0 (fun h=>h);have p1:=hA.cell p1 (fun h=>h);have p2:=hA.cell p2 (fun h=>h);have HZ:=ah (hA.alloc (tO y ya yc));have HA:=ah (aB (ay wr (tO x xa xc)) (tO y ya yc));have HB:=ah (alloc_at (wr.alloc (tO x xa xc)) (tO y ya yc) (n:=wr.heap.size+1) (by simp));obtain⟨a0,a1,a2⟩:=ak HA.out;obtain⟨b0,b1,b2⟩:=ak HB.out;clear hA HA HB
    go_wp2_with fail
    refine(bf.out _ HZ.out).mono ?_;rintro e w8 ⟨rfl,hw8⟩;have dG:=ah (HE.out.trans (HZ.out.trans hw8));obtain⟨b,hb⟩: ∃b,decide (x=y)=b:=⟨_,rfl⟩
    rw[hb];have jD:=ah hb;clear hw8 hb bf HZ q0 q1 q2 p0 p1 p2 a0 a1 a2 b0 b1 b2;cases b
    .have HV:=ah (Ej.out (of_decide_eq_false jD.out))
     go_wp2_with fail
     go_ret;rw[HV.out];exact⟨rfl,dG.out⟩
    .have HN:=ah (qK.out (of_decide_eq_true jD.out));have j_:=HL.out
     go_wp2_with fail
     go_roundg (L.length- (k+1))
     case measure=>omega
     case rel=>exact⟨k+1,by go_num,rfl,by omega,HN,dG⟩
   .obtain rfl:k=L.length:=by omega
    have z2:decide ((L.length:Int)< (L.length:Int))=false:=dF (by omega);have HV:Hid (decide (L=M)=true):=ah (dT (aed H3.out HC.out));clear HC
    go_wp2_with fail
    go_ret;rw[HV.out];exact⟨rfl,HE.out⟩
 .have hz1:((L.length:Int) !=(M.length:Int))=true:=by simp;exact fun e=>hlen (Int.ofNat.inj e)
  have HV:Hid (decide (L=M)=false):=ah (dF (fun e=>hlen (by rw[e])));clear hlen
  go_enter Tryz.func190,Tryz.ntmps190
  go_wp2_with fail
  go_ret;rw[HV.out];exact⟨rfl,aC.refl _ _⟩
theorem acN: ∀(t u:Tm) (v v':Value) (S T:Nat->Prop) (w:World),bQ S w t v->bQ T w u v'->t.size<=1000000->
  Calls Tryz.prog 216 #[v,v'] w fun e w'=>e= .returned (.bool (decide (t=u)))/\Ext w w':=by
 refine Tm.ind (fun n s L ih=>?_);intro u v v' S T w hR hR' hsz;obtain⟨m,r,M⟩:=u;obtain⟨aa,ca,rfl,hT⟩:=hR;obtain⟨ab,cb,rfl,hT'⟩:=hR';dsimp only[tV,Tm.name,Tm.sort,Tm.kids] at hT hT'⊢;have j_:L.length<=1000000:=by have h1:=bG L;have h2:=hsz;rw[size_eq] at h2;exact Nat.le_trans h1 (Nat.le_of_succ_le h2)
 have HC:=ah (fun W (hW:Ext w W)=>aiA L M _ _ S T W (hT.ext hW) (hT'.ext hW) j_ (fun t ht u v1 v2 W' hW' h1 h2=>ih t ht u v1 v2 S T W' h1 h2 (by have h1:=gq ht;have h2:=hsz;rw[size_eq] at h2;exact Nat.le_trans h1 (Nat.le_of_succ_le h2))));have HZ:=ah (((uR w).alloc (.cells #[.string n,.string s,.slice aa L.length ca] 24)).alloc (.cells #[.string m,.string r,.slice ab M.length cb] 24));have HA:=ah (aB (ay w (.cells #[.string n,.string s,.slice aa L.length ca] 24)) (.cells #[.string m,.string r,.slice ab M.length cb] 24));have HB:=ah (alloc_at (w.alloc (.cells #[.string n,.string s,.slice aa L.length ca] 24)) (.cells #[.string m,.string r,.slice ab M.length cb] 24) (n:=w.heap.size+1) (by simp));obtain⟨a0,a1,a2⟩:=ak HA.out;obtain⟨b0,b1,b2⟩:=ak HB.out;have hz:decide (Tm.mk n s L= .mk m r M)=(decide (n=m)&&(decide (s=r)&&decide (L=M))):=by
  rw[Bool.eq_iff_iff];simp
 rw[hz];clear hz hT hT' ih hsz;by_cases h1:n=m
 .have t1:(n.toList==m.toList)=true:=by rw[h1];simp
  have d1:decide (n=m)=true:=dT h1;rw[d1];clear h1 d1;by_cases h2:s=r
  .have t2:(s.toList==r.toList)=true:=by rw[h2];simp
   have d2:decide (s=r)=true:=dT h2;rw[d2];clear h2 d2;generalize decide (L=M)=Z at*
   go_enter Tryz.func216,Tryz.ntmps216
   go_wp2_with fail
   refine(HC.out _ HZ.out).mono ?_;rintro e w4 ⟨rfl,hw4⟩;have H4:=ah (HZ.out.trans hw4);clear hw4 a0 a1 a2 b0 b1 b2
   go_wp2_with fail
   go_ret;exact⟨rfl,H4.out⟩
  .have t2:(s.toList==r.toList)=false:=by rw[beq_eq_false_iff_ne];exact fun e=>h2 (kZ (by rw[Lib.toList_data,Lib.toList_data] at e;exact e))
   have d2:decide (s=r)=false:=dF h2;rw[d2];clear h2 d2
   go_enter Tryz.func216,Tryz.ntmps216
   go_wp2_with fail
   go_ret;exact⟨rfl,HZ.out⟩
 .have t1:(n.toList==m.toList)=false:=by rw[beq_eq_false_iff_ne];exact fun e=>h1 (kZ (by rw[Lib.toList_data,Lib.toList_data] at e;exact e))
  have d1:decide (n=m)=false:=dF h1;rw[d1];clear h1 d1
  go_enter Tryz.func216,Tryz.ntmps216
  go_wp2_with fail
  go_ret;exact⟨rfl,HZ.out⟩
end Go.Proofs.YtlkcjmaiahnodaaGreatDoor
