/- The texts I7 I8 I9 I10 I11 I12 I13 I14 I15 I16 I17 I70 I90 I30 I31 I32 I33 I34 I35 I36 I37 I38 I91, one behind the other. -/
import Derived.Test.YtlkcjmaiahnodaaGreatDoorYAB
import Derived.Test.YtlkcjmaiahnodaaGreatDoorYAF
import Derived.Sort.Walk0
import Derived.Laws.Cover1
import Derived.BigQuiet
import Derived.Test.YtlkcjmaiahnodaaGreatDoorYAC
import Derived.Test.YtlkcjmaiahnodaaGreatDoorYAD
import Derived.Deep.RegionHeld3
import Derived.Test.YtlkcjmaiahnodaaGreatDoorProg
import Derived.WalkKit
import Derived.Deep.SlicePairs
import Derived.Deep.DeepCutAuto
import Derived.Lib.AppendIntMem
set_option maxRecDepth 100000
set_option maxHeartbeats 8000000
set_option linter.unusedVariables false
set_option linter.unusedSimpArgs false
namespace Go.Proofs.YtlkcjmaiahnodaaGreatDoor
open Go.RowKit Go.Hw Go Tm
theorem Gz (x y:ByteArray):Op.bytesLess x.toList y.toList=blt x y:=by
 unfold blt;rw[bytesLess_eq,Lib.toList_data,Lib.toList_data]
theorem P7 (x y:ByteArray) (w:World):Calls Tryz.prog 149 #[.string x,.string y] w fun e w'=>e= .returned (.int .i64 (dO x y))/\Ext w w':=by
 have hrf:=ae (uR w);have t1:=Gz x y;have t2:=Gz y x;have hb:dO x y=if blt x y=true then -1 else if blt y x=true then 1 else 0:=rfl;generalize dO x y=Z at*;cases h1:blt x y
 .rw [h1] at t1 hb;cases h2:blt y x
  .rw [h2] at t2 hb;have hz:Z=0:=hb;subst hz;have hxy:x=y:=by
    by_cases e:x=y
    .exact e
    .rcases y_ x y e with h3|h3
     .rw [h3] at h1;cases h1
     .rw [h3] at h2;cases h2
   have t3:(x.toList==y.toList)=true:=by rw[hxy];simp
   clear hb h1 h2 hxy
   go_enter Tryz.func149,Tryz.ntmps149
   go_wp2_with fail
   go_ret;exact⟨rfl,hrf.out⟩
  .rw [h2] at t2 hb;have hz:Z=1:=hb;subst hz;have t3:(x.toList==y.toList)=false:=by
    rw[beq_eq_false_iff_ne];intro e;have hxy:x=y:=kD (by rw[Lib.toList_data,Lib.toList_data] at e;exact e);rw[hxy,f_] at h2;cases h2
   clear hb h1 h2
   go_enter Tryz.func149,Tryz.ntmps149
   go_wp2_with fail
   go_ret;exact⟨rfl,hrf.out⟩
 .rw [h1] at t1 hb;have hz:Z= -1:=hb;subst hz;clear hb h1
  go_enter Tryz.func149,Tryz.ntmps149
  go_wp2_with fail
  go_ret;exact⟨rfl,hrf.out⟩
theorem UD: ∀(t u:Tm) (v v':Value) (S T:Nat->Prop) (w:World),bG S w t v->bG T w u v'->t.size<=1000000->
  Calls Tryz.prog 85 #[v,v'] w fun e w'=>e= .returned (.int .i64 (eQ t u))/\Ext w w':=by
 refine Tm.ind (fun n s L ih=>?_);intro u v v' S T w hR hR' hsz;obtain⟨m,r,M⟩:=u;obtain⟨aa,ca,rfl,hT⟩:=hR;obtain⟨ab,cb,rfl,hT'⟩:=hR';dsimp only[tV,Tm.name,Tm.sort,Tm.kids] at hT hT'⊢;have cZ:=ae (And.intro hT hT');have HIH:=ae ih;clear ih hT hT';have HZ:=ae (((uR w).alloc (.cells #[.string n,.string s,.slice aa L.length ca] 24)).alloc (.cells #[.string m,.string r,.slice ab M.length cb] 24));have HA:=ae (ak (aj w (.cells #[.string n,.string s,.slice aa L.length ca] 24)) (.cells #[.string m,.string r,.slice ab M.length cb] 24));have HB:=ae (alloc_at (w.alloc (.cells #[.string n,.string s,.slice aa L.length ca] 24)) (.cells #[.string m,.string r,.slice ab M.length cb] 24) (n:=w.heap.size+1) (by simp));have lY:=ae (fun W=>P7 n m W);have l_:=ae (fun W=>P7 s r W);have ha0:=(uR _).heap HA.out (fun h=>h);have hb0:=(uR _).heap HB.out (fun h=>h);obtain⟨a0,a1,a2⟩:=af ha0;obtain⟨b0,b1,b2⟩:=af hb0;clear ha0 hb0;have eF:=ae (aaR n s L m r M);by_cases hs:s.size=0
 .have hse:=iH _ hs;by_cases hr:r.size=0
  .have hre:=iH _ hr;subst hse hre;rw[if_neg (by simp)] at eF;by_cases h1:dO n m=0
   rotate_left
   .have t1:(dO n m !=0)=true:=by simpa using h1
    have t1':decide (dO n m=0)=false:=dF h1;have hv:eQ (.mk n ⟨#[]⟩ L) (.mk m ⟨#[]⟩ M)=dO n m:=by rw[eF.out,if_pos h1]
    rw[hv];clear hv h1 eF;generalize dO n m=Z at*
    go_enter Tryz.func85,Tryz.ntmps85
    go_wp2_with fail
    refine(lY.out _).mono ?_;rintro e w4 ⟨rfl,hw4⟩;have H4:=ae (hw4);clear hw4;clear a0 a1 a2 b0 b1 b2;have lD:=H4.out.heap HA.out (fun h=>h);have hb4:=H4.out.heap HB.out (fun h=>h);obtain⟨a0,a1,a2⟩:=af lD;obtain⟨b0,b1,b2⟩:=af hb4;clear lD hb4
    go_wp2_with fail
    go_ret;exact⟨rfl,HZ.out.ext H4.out⟩
   rw[if_neg (by simp[h1])] at eF;rw[h1] at lY;clear h1;by_cases h2:dO ⟨#[]⟩ ⟨#[]⟩=0
   rotate_left
   .have t1:(dO ⟨#[]⟩ ⟨#[]⟩ !=0)=true:=by simpa using h2
    have t1':decide (dO ⟨#[]⟩ ⟨#[]⟩=0)=false:=dF h2;have hv:eQ (.mk n ⟨#[]⟩ L) (.mk m ⟨#[]⟩ M)=dO ⟨#[]⟩ ⟨#[]⟩:=by rw[eF.out,if_pos h2]
    rw[hv];clear hv h2 eF;generalize dO ⟨#[]⟩ ⟨#[]⟩=Z at*
    go_enter Tryz.func85,Tryz.ntmps85
    go_wp2_with fail
    refine(lY.out _).mono ?_;rintro e w4 ⟨rfl,hw4⟩;have H4:=ae (hw4);clear hw4;clear a0 a1 a2 b0 b1 b2;have lD:=H4.out.heap HA.out (fun h=>h);have hb4:=H4.out.heap HB.out (fun h=>h);obtain⟨a0,a1,a2⟩:=af lD;obtain⟨b0,b1,b2⟩:=af hb4;clear lD hb4
    go_wp2_with fail
    refine(l_.out _).mono ?_;rintro e w5 ⟨rfl,hw5⟩;have H5:=ae (H4.out.ext hw5);clear hw5;clear a0 a1 a2 b0 b1 b2;have oW:=H5.out.heap HA.out (fun h=>h);have hb5:=H5.out.heap HB.out (fun h=>h);obtain⟨a0,a1,a2⟩:=af oW;obtain⟨b0,b1,b2⟩:=af hb5;clear oW hb5
    go_wp2_with fail
    go_ret;exact⟨rfl,HZ.out.ext H5.out⟩
   rw[if_neg (by simp[h2])] at eF;rw[h2] at l_;clear h2;by_cases h3:L.length=M.length
   rotate_left
   .have u1:((L.length:Int) !=(M.length:Int))=true:=by simp;omega
    have u1':decide ((L.length:Int)=(M.length:Int))=false:=dF (by omega);have Xn:decide (L.length=M.length)=false:=dF h3;rw[if_pos h3] at eF;by_cases h4:L.length<M.length
    .have u2:decide ((L.length:Int)< (M.length:Int))=true:=dT (by omega);have u2':decide (L.length<M.length)=true:=dT h4;have hv:eQ (.mk n ⟨#[]⟩ L) (.mk m ⟨#[]⟩ M)= -1:=by rw[eF.out,if_pos h4]
     rw[hv];clear hv eF
     go_enter Tryz.func85,Tryz.ntmps85
     go_wp2_with fail
     refine(lY.out _).mono ?_;rintro e w4 ⟨rfl,hw4⟩;have H4:=ae (hw4);clear hw4;clear a0 a1 a2 b0 b1 b2;have lD:=H4.out.heap HA.out (fun h=>h);have hb4:=H4.out.heap HB.out (fun h=>h);obtain⟨a0,a1,a2⟩:=af lD;obtain⟨b0,b1,b2⟩:=af hb4;clear lD hb4
     go_wp2_with fail
     refine(l_.out _).mono ?_;rintro e w5 ⟨rfl,hw5⟩;have H5:=ae (H4.out.ext hw5);clear hw5;clear a0 a1 a2 b0 b1 b2;have oW:=H5.out.heap HA.out (fun h=>h);have hb5:=H5.out.heap HB.out (fun h=>h);obtain⟨a0,a1,a2⟩:=af oW;obtain⟨b0,b1,b2⟩:=af hb5;clear oW hb5
     go_wp2_with fail
     go_ret;exact⟨rfl,HZ.out.ext H5.out⟩
    .have u2:decide ((L.length:Int)< (M.length:Int))=false:=dF (by omega);have u2':decide (L.length<M.length)=false:=dF h4;have hv:eQ (.mk n ⟨#[]⟩ L) (.mk m ⟨#[]⟩ M)=1:=by rw[eF.out,if_neg h4]
     rw[hv];clear hv eF
     go_enter Tryz.func85,Tryz.ntmps85
     go_wp2_with fail
     refine(lY.out _).mono ?_;rintro e w4 ⟨rfl,hw4⟩;have H4:=ae (hw4);clear hw4;clear a0 a1 a2 b0 b1 b2;have lD:=H4.out.heap HA.out (fun h=>h);have hb4:=H4.out.heap HB.out (fun h=>h);obtain⟨a0,a1,a2⟩:=af lD;obtain⟨b0,b1,b2⟩:=af hb4;clear lD hb4
     go_wp2_with fail
     refine(l_.out _).mono ?_;rintro e w5 ⟨rfl,hw5⟩;have H5:=ae (H4.out.ext hw5);clear hw5;clear a0 a1 a2 b0 b1 b2;have oW:=H5.out.heap HA.out (fun h=>h);have hb5:=H5.out.heap HB.out (fun h=>h);obtain⟨a0,a1,a2⟩:=af oW;obtain⟨b0,b1,b2⟩:=af hb5;clear oW hb5
     go_wp2_with fail
     go_ret;exact⟨rfl,HZ.out.ext H5.out⟩
   rw[if_neg (by simp[h3])] at eF;have u1:((L.length:Int) !=(M.length:Int))=false:=by simp;omega
   have u1':decide ((L.length:Int)=(M.length:Int))=true:=dT (by omega);have Xn:decide (L.length=M.length)=true:=dT h3;have H3:=ae h3;clear h3
   go_enter Tryz.func85,Tryz.ntmps85
   go_wp2_with fail
   refine(lY.out _).mono ?_;rintro e w4 ⟨rfl,hw4⟩;have H4:=ae (hw4);clear hw4;clear a0 a1 a2 b0 b1 b2;have lD:=H4.out.heap HA.out (fun h=>h);have hb4:=H4.out.heap HB.out (fun h=>h);obtain⟨a0,a1,a2⟩:=af lD;obtain⟨b0,b1,b2⟩:=af hb4;clear lD hb4
   go_wp2_with fail
   refine(l_.out _).mono ?_;rintro e w5 ⟨rfl,hw5⟩;have H5:=ae (H4.out.ext hw5);clear hw5;clear a0 a1 a2 b0 b1 b2;have oW:=H5.out.heap HA.out (fun h=>h);have hb5:=H5.out.heap HB.out (fun h=>h);obtain⟨a0,a1,a2⟩:=af oW;obtain⟨b0,b1,b2⟩:=af hb5;clear oW hb5
   go_wp2_with fail
   clear a0 a1 a2 b0 b1 b2;have jW:L.length<=1000000:=by have h1:=aX L;have h2:=hsz;rw[size_eq] at h2;exact Nat.le_trans h1 (Nat.le_of_succ_le h2)
   go_loopg [7] L.length (fun gk iv wr=> ∃k:Nat,iv= .int .i64 (k:Int)/\gk=L.length-k/\k<=L.length/\Hid (∀j,j<k->eQ (tg L j) (tg M j)=0)/\Hid (Ext ((w.alloc (.cells #[.string n,.string ⟨#[]⟩,.slice aa L.length ca] 24)).alloc (.cells #[.string m,.string ⟨#[]⟩,.slice ab M.length cb] 24)) wr))
   case atStart=>exact⟨0,rfl,rfl,Nat.zero_le _,ae (fun j h=>absurd h (Nat.not_lt_zero _)),H5⟩
   case round=>
    obtain⟨k,rfl,rfl,hk,HC,HE⟩:=hrel;have LZ:=ae (HZ.out.ext HE.out);have haw:=HE.out.heap HA.out (fun h=>h);have hbw:=HE.out.heap HB.out (fun h=>h);obtain⟨a0,a1,a2⟩:=af haw;obtain⟨b0,b1,b2⟩:=af hbw;clear haw hbw;by_cases hlt:k<L.length
    .have qG:k<M.length:=by have:=H3.out;omega
     obtain⟨g,off,rfl,_,hat⟩:=(cZ.out.1.ext LZ.out).at_ (by omega);obtain⟨g',off',rfl,_,hat'⟩:=(cZ.out.2.ext LZ.out).at_ (by omega);obtain⟨ka,kc,q0,q1,q2,aQ⟩:=hat k hlt;obtain⟨ka',kc',p0,p1,p2,ou⟩:=hat' k qG;obtain⟨z0,z1,z2,z2'⟩:=bJ hlt;have z3:(k:Int)< (M.length:Int):=by omega
     have hmem:tg L k∈L:=by unfold tg;rw[List.getD_eq_getElem?_getD,List.getElem?_eq_getElem hlt];exact List.getElem_mem hlt
     have L6:(tg L k).size<=1000000:=by have h1:=eU hmem;have h2:=hsz;rw[size_eq] at h2;exact Nat.le_trans h1 (Nat.le_of_succ_le h2)
     have aW:=ae (fun W (hW:Ext wr W)=>HIH.out (tg L k) hmem (tg M k) _ _ S T W ⟨ka,kc,rfl,aQ.ext hW⟩ ⟨ka',kc',rfl,ou.ext hW⟩ L6);have HOF:=ae (IY L M k H3.out hlt HC.out);have pz:=ae (fun h:eQ (tg L k) (tg M k)=0=>fun j (hj:j<k+1)=>by
      rcases Nat.lt_succ_iff_lt_or_eq.1 hj with h5|h5
      .exact HC.out j h5
      .rw [h5];exact h)
     dsimp only[tV] at aW;obtain⟨R,hR⟩: ∃R,eQ (tg L k) (tg M k)=R:=⟨_,rfl⟩
     rw[hR] at aW;have HRR:=ae hR;clear hR hmem hat hat' aQ ou;obtain⟨x,hx⟩: ∃x,tg L k=x:=⟨_,rfl⟩
     obtain⟨y,hy⟩: ∃y,tg M k=y:=⟨_,rfl⟩
     rw[hx] at q0 q1 q2 aW;rw[hy] at p0 p1 p2 aW;clear hx hy L6 qG;rw[<-Nat.add_assoc] at q1 q2 p1 p2;have xq0:=fun x:XW wr=>x.ext.cell q0 (fun h=>h);have xq1:=fun x:XW wr=>x.ext.cell q1 (fun h=>h);have xq2:=fun x:XW wr=>x.ext.cell q2 (fun h=>h);have L8:=fun x:XW wr=>x.ext.cell p0 (fun h=>h);have L9:=fun x:XW wr=>x.ext.cell p1 (fun h=>h);have L_:=fun x:XW wr=>x.ext.cell p2 (fun h=>h);have Mc:=fun x:XW wr=>x.ext.cell a2 (fun h=>h);have xb2:=fun x:XW wr=>x.ext.cell b2 (fun h=>h);have IZ:=uR wr;clear q0 q1 q2 p0 p1 p2 a0 a1 b0 b1 b2
     go_wp2_with fail
     clear a2;refine dC wr (by assumption) (by kernel_rfl) (by kernel_rfl) ?_
     repeat (first|go_big_quiet_skip|(go_big_quiet_want;go_big_quiet_op;first|go_big_quiet_on|(apply Exists.intro;refine⟨fun x=>?_,?_⟩;(go_at_call 85;exact XW.call (aW.out x.val x.ext));go_big_quiet_on)))
     refine wpQuiet_nil ?_;rintro w8 ⟨⟨_,gB⟩,rfl⟩
     try dsimp only
     have bU:=ae (HE.out.ext gB);clear xq0 xq1 xq2 L8 L9 L_ Mc xb2 IZ gB aW;by_cases hz:R=0
     .have hz1:(R !=0)=false:=by simp[hz]
      have HN:=ae (pz.out (HRR.out.trans hz));have hzz:=ae hz;clear hz
      go_wp2_with fail
      go_roundg (L.length- (k+1))
      case measure=>omega
      case rel=>exact⟨k+1,by go_num,rfl,by omega,HN,bU⟩
     .have hz1:(R !=0)=true:=by simpa using hz
      have HV:Hid (eQ (.mk n ⟨#[]⟩ L) (.mk m ⟨#[]⟩ M)=R):=ae (by rw[eF.out,HOF.out (by show eQ (tg L k) (tg M k)≠0;rw[HRR.out];exact hz)];exact HRR.out);have hzz:=ae hz;clear hz
      go_wp2_with fail
      go_ret;rw[HV.out];exact⟨rfl,HZ.out.ext bU.out⟩
    .obtain rfl:k=L.length:=by omega
     have HV:Hid (eQ (.mk n ⟨#[]⟩ L) (.mk m ⟨#[]⟩ M)=0):=ae (by rw[eF.out];exact FN L M H3.out HC.out)
     go_wp2_with fail
     go_ret;rw[HV.out];exact⟨rfl,LZ.out⟩
  .have hrn:r≠ah:=fun e=>hr (by rw[e];rfl);have hsn: ¬s≠ah:=fun h=>h hse;have hdd:decide (s≠ah)≠decide (r≠ah):=by rw[dF hsn,dT hrn];decide
   have hv:eQ (.mk n s L) (.mk m r M)=1:=by rw[eF.out,if_pos hdd,if_neg hsn]
   clear hsn hdd;obtain⟨e1,e2,e3,e4⟩:=fV r (Nat.pos_of_ne_zero hr);rw[hv];subst hse;clear hv eF
   go_enter Tryz.func85,Tryz.ntmps85
   go_wp2_with fail
   go_ret;exact⟨rfl,HZ.out⟩
 .have hsn:s≠ah:=fun e=>hs (by rw[e];rfl);obtain⟨e1,e2,e3,e4⟩:=fV s (Nat.pos_of_ne_zero hs);by_cases hr:r.size=0
  .have hre:=iH _ hr;have hrn: ¬r≠ah:=fun h=>h hre;have hdd:decide (s≠ah)≠decide (r≠ah):=by rw[dT hsn,dF hrn];decide
   have hv:eQ (.mk n s L) (.mk m r M)= -1:=by rw[eF.out,if_pos hdd,if_pos hsn]
   clear hrn hdd;rw[hv];subst hre;clear hv eF
   go_enter Tryz.func85,Tryz.ntmps85
   go_wp2_with fail
   go_ret;exact⟨rfl,HZ.out⟩
  .have hrn:r≠ah:=fun e=>hr (by rw[e];rfl);obtain⟨f1,f2,f3,f4⟩:=fV r (Nat.pos_of_ne_zero hr);rw[if_neg (by simp[hsn,hrn])] at eF;by_cases h1:dO n m=0
   rotate_left
   .have t1:(dO n m !=0)=true:=by simpa using h1
    have t1':decide (dO n m=0)=false:=dF h1;have hv:eQ (.mk n s L) (.mk m r M)=dO n m:=by rw[eF.out,if_pos h1]
    rw[hv];clear hv h1 eF;generalize dO n m=Z at*
    go_enter Tryz.func85,Tryz.ntmps85
    go_wp2_with fail
    refine(lY.out _).mono ?_;rintro e w4 ⟨rfl,hw4⟩;have H4:=ae (hw4);clear hw4;clear a0 a1 a2 b0 b1 b2;have lD:=H4.out.heap HA.out (fun h=>h);have hb4:=H4.out.heap HB.out (fun h=>h);obtain⟨a0,a1,a2⟩:=af lD;obtain⟨b0,b1,b2⟩:=af hb4;clear lD hb4
    go_wp2_with fail
    go_ret;exact⟨rfl,HZ.out.ext H4.out⟩
   rw[if_neg (by simp[h1])] at eF;rw[h1] at lY;clear h1;by_cases h2:dO s r=0
   rotate_left
   .have t1:(dO s r !=0)=true:=by simpa using h2
    have t1':decide (dO s r=0)=false:=dF h2;have hv:eQ (.mk n s L) (.mk m r M)=dO s r:=by rw[eF.out,if_pos h2]
    rw[hv];clear hv h2 eF;generalize dO s r=Z at*
    go_enter Tryz.func85,Tryz.ntmps85
    go_wp2_with fail
    refine(lY.out _).mono ?_;rintro e w4 ⟨rfl,hw4⟩;have H4:=ae (hw4);clear hw4;clear a0 a1 a2 b0 b1 b2;have lD:=H4.out.heap HA.out (fun h=>h);have hb4:=H4.out.heap HB.out (fun h=>h);obtain⟨a0,a1,a2⟩:=af lD;obtain⟨b0,b1,b2⟩:=af hb4;clear lD hb4
    go_wp2_with fail
    refine(l_.out _).mono ?_;rintro e w5 ⟨rfl,hw5⟩;have H5:=ae (H4.out.ext hw5);clear hw5;clear a0 a1 a2 b0 b1 b2;have oW:=H5.out.heap HA.out (fun h=>h);have hb5:=H5.out.heap HB.out (fun h=>h);obtain⟨a0,a1,a2⟩:=af oW;obtain⟨b0,b1,b2⟩:=af hb5;clear oW hb5
    go_wp2_with fail
    go_ret;exact⟨rfl,HZ.out.ext H5.out⟩
   rw[if_neg (by simp[h2])] at eF;rw[h2] at l_;clear h2;by_cases h3:L.length=M.length
   rotate_left
   .have u1:((L.length:Int) !=(M.length:Int))=true:=by simp;omega
    have u1':decide ((L.length:Int)=(M.length:Int))=false:=dF (by omega);have Xn:decide (L.length=M.length)=false:=dF h3;rw[if_pos h3] at eF;by_cases h4:L.length<M.length
    .have u2:decide ((L.length:Int)< (M.length:Int))=true:=dT (by omega);have u2':decide (L.length<M.length)=true:=dT h4;have hv:eQ (.mk n s L) (.mk m r M)= -1:=by rw[eF.out,if_pos h4]
     rw[hv];clear hv eF
     go_enter Tryz.func85,Tryz.ntmps85
     go_wp2_with fail
     refine(lY.out _).mono ?_;rintro e w4 ⟨rfl,hw4⟩;have H4:=ae (hw4);clear hw4;clear a0 a1 a2 b0 b1 b2;have lD:=H4.out.heap HA.out (fun h=>h);have hb4:=H4.out.heap HB.out (fun h=>h);obtain⟨a0,a1,a2⟩:=af lD;obtain⟨b0,b1,b2⟩:=af hb4;clear lD hb4
     go_wp2_with fail
     refine(l_.out _).mono ?_;rintro e w5 ⟨rfl,hw5⟩;have H5:=ae (H4.out.ext hw5);clear hw5;clear a0 a1 a2 b0 b1 b2;have oW:=H5.out.heap HA.out (fun h=>h);have hb5:=H5.out.heap HB.out (fun h=>h);obtain⟨a0,a1,a2⟩:=af oW;obtain⟨b0,b1,b2⟩:=af hb5;clear oW hb5
     go_wp2_with fail
     go_ret;exact⟨rfl,HZ.out.ext H5.out⟩
    .have u2:decide ((L.length:Int)< (M.length:Int))=false:=dF (by omega);have u2':decide (L.length<M.length)=false:=dF h4;have hv:eQ (.mk n s L) (.mk m r M)=1:=by rw[eF.out,if_neg h4]
     rw[hv];clear hv eF
     go_enter Tryz.func85,Tryz.ntmps85
     go_wp2_with fail
     refine(lY.out _).mono ?_;rintro e w4 ⟨rfl,hw4⟩;have H4:=ae (hw4);clear hw4;clear a0 a1 a2 b0 b1 b2;have lD:=H4.out.heap HA.out (fun h=>h);have hb4:=H4.out.heap HB.out (fun h=>h);obtain⟨a0,a1,a2⟩:=af lD;obtain⟨b0,b1,b2⟩:=af hb4;clear lD hb4
     go_wp2_with fail
     refine(l_.out _).mono ?_;rintro e w5 ⟨rfl,hw5⟩;have H5:=ae (H4.out.ext hw5);clear hw5;clear a0 a1 a2 b0 b1 b2;have oW:=H5.out.heap HA.out (fun h=>h);have hb5:=H5.out.heap HB.out (fun h=>h);obtain⟨a0,a1,a2⟩:=af oW;obtain⟨b0,b1,b2⟩:=af hb5;clear oW hb5
     go_wp2_with fail
     go_ret;exact⟨rfl,HZ.out.ext H5.out⟩
   rw[if_neg (by simp[h3])] at eF;have u1:((L.length:Int) !=(M.length:Int))=false:=by simp;omega
   have u1':decide ((L.length:Int)=(M.length:Int))=true:=dT (by omega);have Xn:decide (L.length=M.length)=true:=dT h3;have H3:=ae h3;clear h3
   go_enter Tryz.func85,Tryz.ntmps85
   go_wp2_with fail
   refine(lY.out _).mono ?_;rintro e w4 ⟨rfl,hw4⟩;have H4:=ae (hw4);clear hw4;clear a0 a1 a2 b0 b1 b2;have lD:=H4.out.heap HA.out (fun h=>h);have hb4:=H4.out.heap HB.out (fun h=>h);obtain⟨a0,a1,a2⟩:=af lD;obtain⟨b0,b1,b2⟩:=af hb4;clear lD hb4
   go_wp2_with fail
   refine(l_.out _).mono ?_;rintro e w5 ⟨rfl,hw5⟩;have H5:=ae (H4.out.ext hw5);clear hw5;clear a0 a1 a2 b0 b1 b2;have oW:=H5.out.heap HA.out (fun h=>h);have hb5:=H5.out.heap HB.out (fun h=>h);obtain⟨a0,a1,a2⟩:=af oW;obtain⟨b0,b1,b2⟩:=af hb5;clear oW hb5
   go_wp2_with fail
   clear a0 a1 a2 b0 b1 b2;have jW:L.length<=1000000:=by have h1:=aX L;have h2:=hsz;rw[size_eq] at h2;exact Nat.le_trans h1 (Nat.le_of_succ_le h2)
   go_loopg [7] L.length (fun gk iv wr=> ∃k:Nat,iv= .int .i64 (k:Int)/\gk=L.length-k/\k<=L.length/\Hid (∀j,j<k->eQ (tg L j) (tg M j)=0)/\Hid (Ext ((w.alloc (.cells #[.string n,.string s,.slice aa L.length ca] 24)).alloc (.cells #[.string m,.string r,.slice ab M.length cb] 24)) wr))
   case atStart=>exact⟨0,rfl,rfl,Nat.zero_le _,ae (fun j h=>absurd h (Nat.not_lt_zero _)),H5⟩
   case round=>
    obtain⟨k,rfl,rfl,hk,HC,HE⟩:=hrel;have LZ:=ae (HZ.out.ext HE.out);have haw:=HE.out.heap HA.out (fun h=>h);have hbw:=HE.out.heap HB.out (fun h=>h);obtain⟨a0,a1,a2⟩:=af haw;obtain⟨b0,b1,b2⟩:=af hbw;clear haw hbw;by_cases hlt:k<L.length
    .have qG:k<M.length:=by have:=H3.out;omega
     obtain⟨g,off,rfl,_,hat⟩:=(cZ.out.1.ext LZ.out).at_ (by omega);obtain⟨g',off',rfl,_,hat'⟩:=(cZ.out.2.ext LZ.out).at_ (by omega);obtain⟨ka,kc,q0,q1,q2,aQ⟩:=hat k hlt;obtain⟨ka',kc',p0,p1,p2,ou⟩:=hat' k qG;obtain⟨z0,z1,z2,z2'⟩:=bJ hlt;have z3:(k:Int)< (M.length:Int):=by omega
     have hmem:tg L k∈L:=by unfold tg;rw[List.getD_eq_getElem?_getD,List.getElem?_eq_getElem hlt];exact List.getElem_mem hlt
     have L6:(tg L k).size<=1000000:=by have h1:=eU hmem;have h2:=hsz;rw[size_eq] at h2;exact Nat.le_trans h1 (Nat.le_of_succ_le h2)
     have aW:=ae (fun W (hW:Ext wr W)=>HIH.out (tg L k) hmem (tg M k) _ _ S T W ⟨ka,kc,rfl,aQ.ext hW⟩ ⟨ka',kc',rfl,ou.ext hW⟩ L6);have HOF:=ae (IY L M k H3.out hlt HC.out);have pz:=ae (fun h:eQ (tg L k) (tg M k)=0=>fun j (hj:j<k+1)=>by
      rcases Nat.lt_succ_iff_lt_or_eq.1 hj with h5|h5
      .exact HC.out j h5
      .rw [h5];exact h)
     dsimp only[tV] at aW;obtain⟨R,hR⟩: ∃R,eQ (tg L k) (tg M k)=R:=⟨_,rfl⟩
     rw[hR] at aW;have HRR:=ae hR;clear hR hmem hat hat' aQ ou;obtain⟨x,hx⟩: ∃x,tg L k=x:=⟨_,rfl⟩
     obtain⟨y,hy⟩: ∃y,tg M k=y:=⟨_,rfl⟩
     rw[hx] at q0 q1 q2 aW;rw[hy] at p0 p1 p2 aW;clear hx hy L6 qG;rw[<-Nat.add_assoc] at q1 q2 p1 p2;have xq0:=fun x:XW wr=>x.ext.cell q0 (fun h=>h);have xq1:=fun x:XW wr=>x.ext.cell q1 (fun h=>h);have xq2:=fun x:XW wr=>x.ext.cell q2 (fun h=>h);have L8:=fun x:XW wr=>x.ext.cell p0 (fun h=>h);have L9:=fun x:XW wr=>x.ext.cell p1 (fun h=>h);have L_:=fun x:XW wr=>x.ext.cell p2 (fun h=>h);have Mc:=fun x:XW wr=>x.ext.cell a2 (fun h=>h);have xb2:=fun x:XW wr=>x.ext.cell b2 (fun h=>h);have IZ:=uR wr;clear q0 q1 q2 p0 p1 p2 a0 a1 b0 b1 b2
     go_wp2_with fail
     clear a2;refine dC wr (by assumption) (by kernel_rfl) (by kernel_rfl) ?_
     repeat (first|go_big_quiet_skip|(go_big_quiet_want;go_big_quiet_op;first|go_big_quiet_on|(apply Exists.intro;refine⟨fun x=>?_,?_⟩;(go_at_call 85;exact XW.call (aW.out x.val x.ext));go_big_quiet_on)))
     refine wpQuiet_nil ?_;rintro w8 ⟨⟨_,gB⟩,rfl⟩
     try dsimp only
     have bU:=ae (HE.out.ext gB);clear xq0 xq1 xq2 L8 L9 L_ Mc xb2 IZ gB aW;by_cases hz:R=0
     .have hz1:(R !=0)=false:=by simp[hz]
      have HN:=ae (pz.out (HRR.out.trans hz));have hzz:=ae hz;clear hz
      go_wp2_with fail
      go_roundg (L.length- (k+1))
      case measure=>omega
      case rel=>exact⟨k+1,by go_num,rfl,by omega,HN,bU⟩
     .have hz1:(R !=0)=true:=by simpa using hz
      have HV:Hid (eQ (.mk n s L) (.mk m r M)=R):=ae (by rw[eF.out,HOF.out (by show eQ (tg L k) (tg M k)≠0;rw[HRR.out];exact hz)];exact HRR.out);have hzz:=ae hz;clear hz
      go_wp2_with fail
      go_ret;rw[HV.out];exact⟨rfl,HZ.out.ext bU.out⟩
    .obtain rfl:k=L.length:=by omega
     have HV:Hid (eQ (.mk n s L) (.mk m r M)=0):=ae (by rw[eF.out];exact FN L M H3.out HC.out)
     go_wp2_with fail
     go_ret;rw[HV.out];exact⟨rfl,LZ.out⟩
theorem wZ (t u:Tm) (v v':Value) (S T:Nat->Prop) (w:World) (hR:bG S w t v) (hR':bG T w u v') (hsz:t.size<=1000000):
  Calls Tryz.prog 25 #[v,v'] w fun e w'=>e= .returned (.bool (decide (t=u)))/\Ext w w':=by
 have HR:=ae (And.intro hR hR');obtain⟨aa,ca,rfl,hT⟩:=hR;obtain⟨ab,cb,rfl,hT'⟩:=hR';have HC:=ae (fun W (hW:Ext w W)=>UD t u _ _ S T W (HR.out.1.ext hW) (HR.out.2.ext hW) hsz);dsimp only[tV] at HC⊢;have HZ:=ae (((uR w).alloc (tO t aa ca)).alloc (tO u ab cb));have HA:=ae (ak (aj w (tO t aa ca)) (tO u ab cb));have HB:=ae (alloc_at (w.alloc (tO t aa ca)) (tO u ab cb) (n:=w.heap.size+1) (by simp));obtain⟨a0,a1,a2⟩:=af HA.out;obtain⟨b0,b1,b2⟩:=af HB.out;have hz:decide (t=u)=(eQ t u==0):=by
  rw[Bool.eq_iff_iff,decide_eq_true_eq,beq_iff_eq,UF]
 rw[hz];clear hz hT hT';generalize eQ t u=Z at*
 go_enter Tryz.func25,Tryz.ntmps25
 go_wp2_with fail
 refine(HC.out _ HZ.out).mono ?_;rintro e w4 ⟨rfl,hw4⟩;have H4:=ae (HZ.out.ext hw4);clear hw4 a0 a1 a2 b0 b1 b2
 go_wp2_with fail
 go_ret;exact⟨rfl,H4.out⟩
theorem GK:(Tryz.prog.info? 116).map (fun i=>(i.zero,i.size,i.bytes))=some (some (.agg #[.string ⟨#[]⟩,.string ⟨#[]⟩]),2,32):=by kernel_rfl
theorem P8 {S:Nat->Prop} {base e:Nat} {W:World} {v:Value} {l:List Vd} {f:Vd} {k:Nat} (hk:k<=l.length) (h:W.ownsRow base e 2 v (k+1+(l.length-k)) (bH (l.take k)++(bH [f]++bH (l.drop k)))):
  b_ (fun j=>S j\/base<=j) W v (l.take k++f::l.drop k):=by
 have h1:(l.take k++f::l.drop k).length=k+1+(l.length-k):=by simp only[List.length_append,List.length_take,List.length_cons,List.length_drop];omega
 have h2:bH (l.take k++f::l.drop k)=bH (l.take k)++(bH [f]++bH (l.drop k)):=by
  rw[qx,show f::l.drop k=[f]++l.drop k from rfl,qx]
 unfold b_;rw[h1,h2];exact aA.weaken (aA.fC h) (fun j hj=> .inr (h.lt j hj).1)
theorem agE (l:List Vd) (f:Vd) (v:Value) (S:Nat->Prop) (w:World) (hR:b_ S w v l) (hl:l.length<=100000):
  Calls Tryz.prog 148 #[v,.agg #[.string f.1,.string f.2]] w fun e w'=> ∃r,e= .returned (.tuple #[r,.bool (gy l f).2])/\b_ (fun k=>S k\/w.heap.size<=k) w' r (gy l f).1/\Ext w w':=by
 have HR:=ae hR;obtain⟨a,cap,rfl⟩:=hR.shape;have HZ:=ae ((uR w).alloc (.cells #[.string f.1,.string f.2] 116));have HB:=ae (aj w (.cells #[.string f.1,.string f.2] 116));have pY:=ae (P9 f l);clear hR
 go_enter Tryz.func148,Tryz.ntmps148
 go_wp2_with fail
 go_loopg [6] l.length (fun gk iv wr=> ∃k:Nat,iv= .int .i64 (k:Int)/\gk=l.length-k/\k<=l.length/\Hid (∀j,j<k->blt (vg l j).1 f.1=true)/\Hid (Ext w wr)/\Hid (wr.heap[w.heap.size]?=some (.cells #[.string f.1,.string f.2] 116 (0,0))))
 case atStart=>exact⟨0,rfl,rfl,Nat.zero_le _,ae (fun j h=>absurd h (Nat.not_lt_zero _)),HZ,HB⟩
 case round=>
  obtain⟨k,rfl,rfl,hk,HC,HE,jf⟩:=hrel;obtain⟨f0,f1⟩:=df jf.out;by_cases hlt:k<l.length
  .obtain ⟨g,off,rfl,hat⟩:=(HR.out.ext HE.out).at_ (by omega);obtain⟨q0,q1⟩:=hat k hlt;have hcap:k<=cap:=Nat.le_trans hk (aA.UG HR.out rfl);obtain⟨z0,z1,z2,z2'⟩:=bJ hlt;have t1:=Gz (vg l k).1 f.1;have hix:=MC l f k hk HC.out;have hnx:blt (vg l k).1 f.1=true->∀j,j<k+1->blt (vg l j).1 f.1=true:=fun h j hj=>by
    rcases Nat.lt_succ_iff_lt_or_eq.1 hj with h5|h5
    .exact HC.out j h5
    .rw [h5];exact h
   have aW:=ae hix;have pz:=ae hnx;clear hix hnx hat;obtain⟨x,hx⟩: ∃x,vg l k=x:=⟨_,rfl⟩
   have CP:=ae hx;rw[hx] at q0 q1 t1 aW pz;clear hx;cases hb:blt x.1 f.1
   .rw [hb] at t1;have jg:Hid (mV l f=k):=ae (aW.out (fun _=>hb));clear hb;have eF:=ae pY.out;rw[jg.out] at eF
    go_wp2_with fail
    go_quiet (fail)
    generalize hwq:wr.drewN nq=wq at*;have HEq:Hid (Ext w wq):=ae (by rw[<-hwq];exact HE.out.drewN' nq);have P_:Hid (wq.heap[w.heap.size]?=some (.cells #[.string f.1,.string f.2] 116 (0,0))):=ae (by rw[<-hwq];exact jf.out);have q0':wq.cell? ⟨g,off+k*2,none⟩=some (.string x.1):=by rw[<-hwq];exact q0
    have q1':wq.cell? ⟨g,off+k*2+1,none⟩=some (.string x.2):=by rw[<-hwq];exact q1
    clear hwq HE jf q0 q1 f0 f1;obtain⟨f0,f1⟩:=df P_.out;by_cases he:x.1=f.1
    .have t3:(x.1.toList==f.1.toList)=true:=by rw[he];simp
     have oK:Hid (gy l f=(l,decide (x.2=f.2))):=ae (by rw[eF.out,if_pos ⟨hlt,by rw[CP.out];exact he⟩,CP.out]);clear he;have t4:(x.2.toList==f.2.toList)=decide (x.2=f.2):=by
      rw[Bool.eq_iff_iff,beq_iff_eq,decide_eq_true_eq];exact⟨fun e=>kD (by rw[Lib.toList_data,Lib.toList_data] at e;exact e),fun e=>by rw[e]⟩
     obtain⟨BB,UH⟩: ∃b,decide (x.2=f.2)=b:=⟨_,rfl⟩
     rw[UH] at t4 oK;clear UH
     go_wp2_with fail
     go_quiet (fail)
     go_wp2_with fail
     go_quiet (fail)
     go_wp2_with fail
     go_ret2
     rw[oK.out];exact⟨_,rfl,aA.weaken (aA.drewN (aA.drewN (b_.ext HR.out HEq.out) _) _) (fun k h=> .inl h),(HEq.out.drewN' _).drewN' _⟩
    .have t3:(x.1.toList==f.1.toList)=false:=by
      rw[beq_eq_false_iff_ne];intro e;exact he (kD (by rw[Lib.toList_data,Lib.toList_data] at e;exact e))
     have oK:Hid (gy l f=(l.take k++f::l.drop k,true)):=ae (by rw[eF.out,if_neg (fun h=>he (by rw[<-CP.out];exact h.2))]);clear he
     go_wp2_with fail
     go_quiet (fail)
     generalize hwq:wq.drewN nq=wz at*;have zf:Hid (Ext w wz):=ae (by rw[<-hwq];exact HEq.out.drewN' nq);have HBz:Hid (wz.heap[w.heap.size]?=some (.cells #[.string f.1,.string f.2] 116 (0,0))):=ae (by rw[<-hwq];exact P_.out);clear hwq HEq P_ q0' q1' f0 f1 t1 t3;obtain⟨f0,f1⟩:=df HBz.out;have xf0:=fun x:XW wz=>x.ext.cell f0 (fun h=>h);have xf1:=fun x:XW wz=>x.ext.cell f1 (fun h=>h);clear f0 f1
     go_wp2_with fail
     refine bP (α:=Option Addr×Nat) 7 [] 7 [(7,2),(8,2)] [[],[],[],[1,2],[0,1,2,3],[],[5],[0,1,2,3,4,5,6],[0,1,2,3,4,5,6,7]]
      [some ⟨fun x=> .slice x.1 0 0,fun x W=>W.ownsRow w.heap.size 116 2 (.slice x.1 0 0) 0 [],fun x W W' h hE=>bI h hE (fun _ _ h=>h)⟩,none,none,none,some ⟨fun x=> .slice x.1 k x.2,fun x W=>W.ownsRow w.heap.size 116 2 (.slice x.1 k x.2) k (bH (l.take k)),fun x W W' h hE=>bI h hE (fun _ _ h=>h)⟩,none,some ⟨fun x=> .slice x.1 1 x.2,fun x W=>b_ (fun j=>w.heap.size<=j) W (.slice x.1 1 x.2) [f],fun x W W' h hE=>b_.ext h hE⟩]
      [true,false,false,false,true,false,true] (by kernel_rfl) (by kernel_rfl) rfl (fun _ _ d _ _ h=>by cases d<;>exact h) ?_
     simp only[List.take_succ_cons,List.take_zero,fF,List.getElem?_cons_zero,List.getElem?_cons_succ];refine aH _ rfl (by go_simp) (fun W hW hG K hK=>?_) (fun K zz0 hK=>?_)
     .go_simp;exact hK (some ⟨W.heap.size,0,none⟩,0) _ ((uR W).alloc _) (World.ownsRow_lit (base:=w.heap.size) (e:=116) (size:=2) W #[] 0 (Nat.le_trans zf.out.size hW.size) (by unfold maxLen;omega) (by simp))
     refine hK _ ?_;clear hK K;dsimp only
     iterate 3(refine aS rfl (fun K hK=>?_);go_simp;refine hK _ ?_;clear hK K)
     obtain⟨iS,hi,hz0,hz1,hz2⟩:=info_parts GK;refine aH _ rfl (by go_simp) (fun W hW hG K hK=>?_) (fun K UI hK=>?_)
     .have g0:=hG _ (List.mem_singleton.2 rfl) (by show(0:Nat)∈_;decide);have hsl:aA S W 2 (.slice (some ⟨g,off,none⟩) k cap) k (bH (l.take k)):=by
       have h:=(HR.out.ext zf.out).ext hW|>.to rfl k hk
       rw[EU] at h;exact h
      refine oC _ (.tmp 47) (.tmp 50) 111 rfl w.heap.size 116 iS (.agg #[.string ⟨#[]⟩,.string ⟨#[]⟩]) 2 32 Tryz.underlying111 hi hz0 hz1 hz2 rfl (by decide) _ rfl g0 S _ k _ rfl hsl (lG _) (by unfold maxLen;omega) (by omega) (Nat.le_trans zf.out.size hW.size) ?_;intro v' w' oq hO4;obtain⟨p4,c4,rfl⟩:=aY hO4;exact hK (p4,c4) _ oq hO4
     refine hK _ ?_;clear hK K;dsimp only;refine aS rfl (fun K hK=>?_);go_simp;refine hK _ ?_;clear hK K;refine aH _ rfl (by go_simp) (fun W hW hG K hK=>?_) (fun K UJ hK=>?_)
     .go_simp;exact hK (some ⟨W.heap.size,0,none⟩,1) _ ((uR W).alloc _) (aA.weaken (aA.fC (World.ownsRow_lit (base:=w.heap.size) (e:=116) (size:=2) W #[.string f.1,.string f.2] 1 (Nat.le_trans zf.out.size hW.size) (by unfold maxLen;omega) (by simp))) (fun k hk=>by injection hk with hk;rw[<-hk];exact Nat.le_trans zf.out.size hW.size))
     refine hK _ ?_;clear hK K;dsimp only;refine gJ (fun w8 hW hG=>?_);have g4:=hG _ (List.mem_append_left _ (List.mem_append_right _ (List.mem_singleton.2 rfl)));have g6:=hG _ (List.mem_append_right _ (List.mem_singleton.2 rfl));dsimp only at g4 g6;have MF:Hid (Ext w w8):=ae (zf.out.trans hW);clear hG hW;refine dM (fun K hK=>?_);rw[if_pos (by go_simp)];refine mf _ (.tmp 51) (.tmp 53) 111 rfl w.heap.size 116 iS (.agg #[.string ⟨#[]⟩,.string ⟨#[]⟩]) 2 32 Tryz.underlying111 hi hz0 hz1 hz2 rfl (by decide) (.slice UI.1 k UI.2) k _ rfl g4 (fun j=>w.heap.size<=j) (.slice UJ.1 1 UJ.2) 1 _ rfl g6 (lG _) (by unfold maxLen;omega) (by omega) MF.out.size ?_;intro v7 w9 bF;refine hK _ _ ?_;clear hK K;refine dM (fun K hK=>?_);go_simp;refine hK _ _ ?_;clear hK K;simp only[bW];have MG:Hid (Ext w w9):=ae (MF.out.trans' bF.upd (fun j hj h=>absurd (g4.lt j h).1 (by omega)));have g9:=ae bF.own;clear bF g4 g6 MF;obtain⟨p7,c7,rfl⟩:=aY g9.out;have UK:aA S w9 2 (.slice (some ⟨g,off,none⟩) l.length cap) l.length (bH l):=HR.out.ext MG.out;have hs9:=MG.out.size
     go_wp2_with(with_reducible (refine zg (o:=⟨some 58,_,_,_,_,_⟩) ?_))
     refine Stop.go ?_;refine vU _ rfl 111 _ _ rfl 2 (by kernel_rfl) (fun _=>by kernel_rfl) _ _ _ _ rfl UK k .i64 (k:Int) rfl rfl hk (fun sv hsv=>?_);rw[EW] at hsv;obtain⟨ps,cs,rfl⟩:=hsv.shape
     go_wp2_with(at_builtin;refine jm _ rfl (.tmp 55) (.tmp 58) 111 rfl w.heap.size 116 iS (.agg #[.string ⟨#[]⟩,.string ⟨#[]⟩]) 2 32 Tryz.underlying111 hi hz0 hz1 hz2 rfl (by decide) (.slice p7 (k+1) c7) (k+1) _ rfl g9.out S (.slice ps (l.length-k) cs) (l.length-k) (bH (l.drop k)) rfl hsv (lG _) ?c3 ?c4 hs9 ?_)
     case c3=>unfold maxLen;omega
     case c4=>omega
     intro v10 w10 hG;have Qa:=ae hG.own;have JJ:Hid (Ext w w10):=ae (MG.out.trans' hG.upd (fun i hi e=>by have:=(g9.out.lt i e).1;omega));clear hG UK hs9 hsv
     go_wp2_with fail
     go_ret2
     rw[oK.out];exact⟨v10,rfl,P8 hk Qa.out,JJ.out⟩
   .rw [hb] at t1;have HN:=ae (pz.out hb);clear hb
    go_wp2_with fail
    go_quiet (fail)
    go_wp2_with fail
    go_roundg (l.length- (k+1))
    case measure=>omega
    case rel=>exact⟨k+1,by go_num,rfl,by omega,HN,ae (HE.out.drewN' nq),ae jf.out⟩
  .have hkl:k=l.length:=by omega
   have jg:Hid (mV l f=k):=ae (MC l f k hk HC.out (fun h=>absurd h hlt));have oK:Hid (gy l f=(l.take k++f::l.drop k,true)):=ae (by rw[pY.out,jg.out,if_neg (fun h=>absurd h.1 hlt)]);have z0:(0:Int)<=(k:Int):=by omega
   have z2:decide ((k:Int)< (l.length:Int))=false:=dF (by omega);have z2':decide (k<l.length)=false:=dF hlt;have hcap:k<=cap:=Nat.le_trans hk (aA.UG HR.out rfl);clear hkl
   go_wp2_with fail
   go_quiet (fail)
   generalize hwq:wr.drewN nq=wq at*;have HEq:Hid (Ext w wq):=ae (by rw[<-hwq];exact HE.out.drewN' nq);have P_:Hid (wq.heap[w.heap.size]?=some (.cells #[.string f.1,.string f.2] 116 (0,0))):=ae (by rw[<-hwq];exact jf.out);clear hwq HE jf f0 f1
   go_wp2_with fail
   go_quiet (fail)
   generalize hwq:wq.drewN nq=wz at*;have zf:Hid (Ext w wz):=ae (by rw[<-hwq];exact HEq.out.drewN' nq);have HBz:Hid (wz.heap[w.heap.size]?=some (.cells #[.string f.1,.string f.2] 116 (0,0))):=ae (by rw[<-hwq];exact P_.out);clear hwq HEq P_;obtain⟨f0,f1⟩:=df HBz.out;have xf0:=fun x:XW wz=>x.ext.cell f0 (fun h=>h);have xf1:=fun x:XW wz=>x.ext.cell f1 (fun h=>h);clear f0 f1
   go_wp2_with fail
   refine bP (α:=Option Addr×Nat) 7 [] 7 [(7,2),(8,2)] [[],[],[],[1,2],[0,1,2,3],[],[5],[0,1,2,3,4,5,6],[0,1,2,3,4,5,6,7]]
    [some ⟨fun x=> .slice x.1 0 0,fun x W=>W.ownsRow w.heap.size 116 2 (.slice x.1 0 0) 0 [],fun x W W' h hE=>bI h hE (fun _ _ h=>h)⟩,none,none,none,some ⟨fun x=> .slice x.1 k x.2,fun x W=>W.ownsRow w.heap.size 116 2 (.slice x.1 k x.2) k (bH (l.take k)),fun x W W' h hE=>bI h hE (fun _ _ h=>h)⟩,none,some ⟨fun x=> .slice x.1 1 x.2,fun x W=>b_ (fun j=>w.heap.size<=j) W (.slice x.1 1 x.2) [f],fun x W W' h hE=>b_.ext h hE⟩]
    [true,false,false,false,true,false,true] (by kernel_rfl) (by kernel_rfl) rfl (fun _ _ d _ _ h=>by cases d<;>exact h) ?_
   simp only[List.take_succ_cons,List.take_zero,fF,List.getElem?_cons_zero,List.getElem?_cons_succ];refine aH _ rfl (by go_simp) (fun W hW hG K hK=>?_) (fun K zz0 hK=>?_)
   .go_simp;exact hK (some ⟨W.heap.size,0,none⟩,0) _ ((uR W).alloc _) (World.ownsRow_lit (base:=w.heap.size) (e:=116) (size:=2) W #[] 0 (Nat.le_trans zf.out.size hW.size) (by unfold maxLen;omega) (by simp))
   refine hK _ ?_;clear hK K;dsimp only
   iterate 3(refine aS rfl (fun K hK=>?_);go_simp;refine hK _ ?_;clear hK K)
   obtain⟨iS,hi,hz0,hz1,hz2⟩:=info_parts GK;refine aH _ rfl (by go_simp) (fun W hW hG K hK=>?_) (fun K UI hK=>?_)
   .have g0:=hG _ (List.mem_singleton.2 rfl) (by show(0:Nat)∈_;decide);have hsl:aA S W 2 (.slice a k cap) k (bH (l.take k)):=by
     have h:=(HR.out.ext zf.out).ext hW|>.to rfl k hk
     rw[EU] at h;exact h
    refine oC _ (.tmp 47) (.tmp 50) 111 rfl w.heap.size 116 iS (.agg #[.string ⟨#[]⟩,.string ⟨#[]⟩]) 2 32 Tryz.underlying111 hi hz0 hz1 hz2 rfl (by decide) _ rfl g0 S _ k _ rfl hsl (lG _) (by unfold maxLen;omega) (by omega) (Nat.le_trans zf.out.size hW.size) ?_;intro v' w' oq hO4;obtain⟨p4,c4,rfl⟩:=aY hO4;exact hK (p4,c4) _ oq hO4
   refine hK _ ?_;clear hK K;dsimp only;refine aS rfl (fun K hK=>?_);go_simp;refine hK _ ?_;clear hK K;refine aH _ rfl (by go_simp) (fun W hW hG K hK=>?_) (fun K UJ hK=>?_)
   .go_simp;exact hK (some ⟨W.heap.size,0,none⟩,1) _ ((uR W).alloc _) (aA.weaken (aA.fC (World.ownsRow_lit (base:=w.heap.size) (e:=116) (size:=2) W #[.string f.1,.string f.2] 1 (Nat.le_trans zf.out.size hW.size) (by unfold maxLen;omega) (by simp))) (fun k hk=>by injection hk with hk;rw[<-hk];exact Nat.le_trans zf.out.size hW.size))
   refine hK _ ?_;clear hK K;dsimp only;refine gJ (fun w8 hW hG=>?_);have g4:=hG _ (List.mem_append_left _ (List.mem_append_right _ (List.mem_singleton.2 rfl)));have g6:=hG _ (List.mem_append_right _ (List.mem_singleton.2 rfl));dsimp only at g4 g6;have MF:Hid (Ext w w8):=ae (zf.out.trans hW);clear hG hW;refine dM (fun K hK=>?_);rw[if_pos (by go_simp)];refine mf _ (.tmp 51) (.tmp 53) 111 rfl w.heap.size 116 iS (.agg #[.string ⟨#[]⟩,.string ⟨#[]⟩]) 2 32 Tryz.underlying111 hi hz0 hz1 hz2 rfl (by decide) (.slice UI.1 k UI.2) k _ rfl g4 (fun j=>w.heap.size<=j) (.slice UJ.1 1 UJ.2) 1 _ rfl g6 (lG _) (by unfold maxLen;omega) (by omega) MF.out.size ?_;intro v7 w9 bF;refine hK _ _ ?_;clear hK K;refine dM (fun K hK=>?_);go_simp;refine hK _ _ ?_;clear hK K;simp only[bW];have MG:Hid (Ext w w9):=ae (MF.out.trans' bF.upd (fun j hj h=>absurd (g4.lt j h).1 (by omega)));have g9:=ae bF.own;clear bF g4 g6 MF;obtain⟨p7,c7,rfl⟩:=aY g9.out;have UK:aA S w9 2 (.slice a l.length cap) l.length (bH l):=HR.out.ext MG.out;have hs9:=MG.out.size
   go_wp2_with(with_reducible (refine zg (o:=⟨some 58,_,_,_,_,_⟩) ?_))
   refine Stop.go ?_;refine vU _ rfl 111 _ _ rfl 2 (by kernel_rfl) (fun _=>by kernel_rfl) _ _ _ _ rfl UK k .i64 (k:Int) rfl rfl hk (fun sv hsv=>?_);rw[EW] at hsv;obtain⟨ps,cs,rfl⟩:=hsv.shape
   go_wp2_with(at_builtin;refine jm _ rfl (.tmp 55) (.tmp 58) 111 rfl w.heap.size 116 iS (.agg #[.string ⟨#[]⟩,.string ⟨#[]⟩]) 2 32 Tryz.underlying111 hi hz0 hz1 hz2 rfl (by decide) (.slice p7 (k+1) c7) (k+1) _ rfl g9.out S (.slice ps (l.length-k) cs) (l.length-k) (bH (l.drop k)) rfl hsv (lG _) ?c3 ?c4 hs9 ?_)
   case c3=>unfold maxLen;omega
   case c4=>omega
   intro v10 w10 hG;have Qa:=ae hG.own;have JJ:Hid (Ext w w10):=ae (MG.out.trans' hG.upd (fun i hi e=>by have:=(g9.out.lt i e).1;omega));clear hG UK hs9 hsv
   go_wp2_with fail
   go_ret2
   rw[oK.out];exact⟨v10,rfl,P8 hk Qa.out,JJ.out⟩
theorem Ls (f:Vd): ∀l:List Vd,(gy l f).1.length<=l.length+1
 |[]=>by simp[gy]
 |g::l=>by
  simp only[gy];split
  .simp only [List.length_cons];have:=Ls f l;omega
  .split<;>simp
theorem BU: ∀(fs l:List Vd),(dm l fs).1.length<=l.length+fs.length
 |[],l=>by simp[dm]
 |f::fs,l=>by
  simp only[dm];split
  .have h1:=BU fs (gy l f).1;have h2:=Ls f l;simp only[List.length_cons];omega
  .simp
theorem BV: ∀(fs gs l:List Vd),dm l (fs++gs)=if(dm l fs).2=true then dm (dm l fs).1 gs else dm l fs
 |[],gs,l=>by simp[dm]
 |f::fs,gs,l=>by
  by_cases h:(gy l f).2=true
  .have e1: ∀x,dm l (f::x)=dm (gy l f).1 x:=fun x=>by rw[dm,if_pos h]
   rw[List.cons_append,e1,e1];exact BV fs gs _
  .have e1: ∀x,dm l (f::x)=(l,false):=fun x=>by rw[dm,if_neg h]
   rw[List.cons_append,e1,e1];rfl
def VL (t:Tm):Prop:= ∀x∈aV t,x.sort≠ah->x.kids=[]
theorem VL.kid {t x:Tm} (h:VL t) (hx:x∈t.kids):VL x:=fun y hy=>h y (kG hx hy)
theorem aaH (n:By) (L:List Tm):vl (aV (.mk n ah L))=L.flatMap (fun x=>vl (aV x)):=by
 rw[lq];have h1: ∀M:List Tm,vl (M.flatMap aV)=M.flatMap (fun x=>vl (aV x)):=by
  intro M
  induction M with
  |nil=>rfl
  |cons x M ih=>rw[List.flatMap_cons,qW,ih,List.flatMap_cons]
 have h2:vl [Tm.mk n ah L]=[]:=rfl;rw[<-List.singleton_append,qW,h2,h1];rfl
theorem aaI (n s:By) (h:s≠ah):vl (aV (.mk n s []))=[(n,s)]:=by
 rw[lq];simp[vl,Tm.sort,Tm.name,Tm.kids,h]
theorem Un (t:Tm):(vl (aV t)).length<=t.size:=by
 have h1:(vl (aV t)).length<=(aV t).length:=List.length_filterMap_le _ _;have h2:(aV t).length=t.size:=by rw[aV,List.length_map,jR]
 omega
abbrev rM (L:List Tm):List Vd:=L.flatMap fun x=>vl (aV x)
theorem PT: ∀L:List Tm,(rM L).length<=sizes L
 |[]=>by simp[sizes]
 |x::L=>by
  have h1:=Un x;have h2:=PT L;simp only[rM,List.flatMap_cons,List.length_append,sizes] at h2⊢;omega
theorem wJ (L:List Tm) (k:Nat) (h:k<L.length):L.take (k+1)=L.take k++[tg L k]:=by
 rw[List.take_add_one];have:L[k]?.toList=[tg L k]:=by unfold tg;rw[List.getD_eq_getElem?_getD,List.getElem?_eq_getElem h];rfl
 rw[this]
theorem bM (L:List Tm) (k:Nat) (h:k<L.length):tg L k∈L:=by
 unfold tg;rw[List.getD_eq_getElem?_getD,List.getElem?_eq_getElem h];exact List.getElem_mem h
theorem W_ (L:List Tm) (k:Nat) (h:k<L.length):rM (L.take (k+1))=rM (L.take k)++vl (aV (tg L k)):=by
 rw[wJ L k h];unfold rM;rw[List.flatMap_append,List.flatMap_cons,List.flatMap_nil,List.append_nil]
theorem Xa (L:List Tm) (k:Nat) (h:k<L.length):(rM (L.take k)).length+(tg L k).size<=sizes L:=by
 have h1:=PT (L.take k);have h2:sizes L=sizes (L.take (k+1))+sizes (L.drop (k+1)):=by rw[<-oJ,List.take_append_drop]
 rw[wJ L k h,oJ] at h2;have h3:sizes [tg L k]=(tg L k).size:=by simp[sizes]
 omega
theorem Xb (L:List Tm) (l cur:List Vd) (k:Nat) (h:k<L.length) (hc:dm l (rM (L.take k))=(cur,true)):
  (∀m,dm cur (vl (aV (tg L k)))=(m,true)->dm l (rM (L.take (k+1)))=(m,true))/\
  ((dm cur (vl (aV (tg L k)))).2=false->(dm l (rM L)).2=false):=by
 have h1:dm l (rM (L.take (k+1)))=dm cur (vl (aV (tg L k))):=by
  rw[W_ L k h,BV,hc,if_pos rfl]
 refine⟨fun m hm=>by rw[h1,hm],fun hf=>?_⟩;have h2:rM L=rM (L.take (k+1))++rM (L.drop (k+1)):=by
  unfold rM;rw[<-List.flatMap_append,List.take_append_drop]
 rw[h2,BV,h1,if_neg (by rw[hf];simp)];exact hf
theorem Uo: ∀(t:Tm) (l:List Vd) (v v':Value) (S T:Nat->Prop) (w:World),bG T w t v'->b_ S w v l->VL t->l.length+t.size<=100000->
  Calls Tryz.prog 84 #[v,v'] w fun e w'=> ∃r,e= .returned (.tuple #[r,.bool (dm l (vl (aV t))).2])/\((dm l (vl (aV t))).2=true->b_ (fun k=>S k\/w.heap.size<=k) w' r (dm l (vl (aV t))).1)/\Ext w w':=by
 refine Tm.ind (fun nm so L ih=>?_);intro l v v' S T w hT hF hV hsz;obtain⟨a,cap,rfl,hT⟩:=hT;dsimp only[tV,Tm.name,Tm.sort,Tm.kids] at hT⊢;have cZ:=ae hT;have HIH:=ae ih;have HF:=ae hF;have vP:=ae hV;obtain⟨fa,fc,rfl⟩:=hF.shape;clear ih hT hF hV;have HZ:=ae ((uR w).alloc (.cells #[.string nm,.string so,.slice a L.length cap] 24));have HB:=ae (aj w (.cells #[.string nm,.string so,.slice a L.length cap] 24));by_cases hs0:so.size=0
 .have hse:=iH _ hs0;subst hse;rw[show vl (aV (.mk nm ⟨#[]⟩ L))=rM L from aaH nm L];have hroom:l.length+sizes L+1<=100000:=by rw[size_eq] at hsz;exact hsz
  have HR0:=ae hroom;have jW:L.length<=100000:=by have h1:=aX L;omega
  clear hsz hroom;obtain⟨c0,c1,c2⟩:=af HB.out;have hVK: ∀x∈L,VL x:=fun x hx=>VL.kid (t:= .mk nm ⟨#[]⟩ L) vP.out hx;have jX:=ae hVK;clear hVK vP
  go_enter Tryz.func84,Tryz.ntmps84
  go_wp2_with fail
  clear c0 c1 c2
  go_loopg [0,6] L.length (fun gk lv iv wr=> ∃(k:Nat) (cur:List Vd),iv= .int .i64 (k:Int)/\gk=L.length-k/\k<=L.length/\Hid (dm l (rM (L.take k))=(cur,true))/\Hid (b_ (fun j=>S j\/w.heap.size<=j) wr lv cur)/\Hid (Ext w wr)/\Hid (wr.heap[w.heap.size]?=some (.cells #[.string nm,.string ⟨#[]⟩,.slice a L.length cap] 24 (0,0))))
  case atStart=>exact⟨0,l,rfl,rfl,Nat.zero_le _,ae rfl,ae (aA.weaken (b_.ext HF.out HZ.out) (fun j h=> .inl h)),HZ,HB⟩
  case round=>
   obtain⟨k,cur,rfl,rfl,hk,HC,HFk,HE,jf⟩:=hrel;have c2:=ag jf.out 2 (.slice a L.length cap) rfl;by_cases hlt:k<L.length
   .obtain ⟨g,off,rfl,_,hat⟩:=(cZ.out.ext HE.out).at_ (by omega);obtain⟨ka,kc,q0,q1,q2,aQ⟩:=hat k hlt;obtain⟨z0,z1,z2,z2'⟩:=bJ hlt;have hmem:=bM L k hlt;have hrm:=Xa L k hlt;have hln:cur.length<=l.length+(rM (L.take k)).length:=by have:=BU (rM (L.take k)) l;rw[HC.out] at this;exact this
    obtain⟨hv1,hv2⟩:=Xb L l cur k hlt HC.out;have aW:=ae (HIH.out (tg L k) hmem cur _ _ _ T wr ⟨ka,kc,rfl,aQ⟩ HFk.out (jX.out _ hmem) (by have:=HR0.out;omega));dsimp only[tV] at aW;generalize vl (aV (tg L k))=ff at hv1 hv2 aW;obtain⟨⟨m,b⟩,hm⟩: ∃p,dm cur ff=p:=⟨_,rfl⟩
    rw[hm] at hv1 hv2 aW;have pq:=ae hv1;have oK:=ae hv2;obtain⟨x,hx⟩: ∃x,tg L k=x:=⟨_,rfl⟩
    rw[hx] at q0 q1 q2 aW;rw[<-Nat.add_assoc] at q1 q2;clear hmem hrm hln hv1 hv2 hm hx hat aQ
    go_wp2_with fail
    refine aW.out.mono ?_;rintro e w8 ⟨r,rfl,hr,hw8⟩;have bU:=ae (HE.out.ext hw8);have jK:=ae (hw8.heap jf.out (fun h=>h));have HFr:Hid (b=true->b_ (fun j=>S j\/w.heap.size<=j) w8 r m):=ae (fun hb=>aA.weaken (hr hb) (fun j h=>by
     rcases h with h|h
     .exact h
     .exact .inr (Nat.le_trans HE.out.size h)))
    clear hr hw8 c2 q0 q1 q2 aW;cases b
    .have PU:=ae (oK.out rfl)
     go_wp2_with fail
     go_ret2
     rw[PU.out];exact⟨_,rfl,fun h=>(by cases h),bU.out⟩
    .have HN:=ae (pq.out m rfl)
     go_wp2_with fail
     go_roundg (L.length- (k+1))
     case measure=>omega
     case rel=>exact⟨k+1,m,by go_num,rfl,by omega,HN,ae (HFr.out trivial),bU,jK⟩
   .obtain rfl:k=L.length:=by omega
    have HV:Hid (dm l (rM L)=(cur,true)):=ae (by rw[<-HC.out,List.take_length]);have z2:decide ((L.length:Int)< (L.length:Int))=false:=dF (by omega)
    go_wp2_with fail
    go_ret2
    rw[HV.out];exact⟨_,rfl,fun _=>HFk.out,HE.out⟩
 .have hLn:L=[]:=vP.out _ (iZ _) (fun e=>hs0 (by show so.size=0;rw[show so=ah from e];rfl));subst hLn;obtain⟨e1,e2,e3,e4⟩:=fV so (Nat.pos_of_ne_zero hs0);rw[aaI nm so (fun e=>hs0 (by rw[e];rfl))];have hadd:dm l [(nm,so)]=if(gy l (nm,so)).2=true then((gy l (nm,so)).1,true) else(l,false):=by rw[dm];rfl
  have RN:=ae (fun W hW=>agE l (nm,so) _ S W (HF.out.ext hW) (by omega));obtain⟨c0,c1,c2⟩:=af HB.out;dsimp only at RN;obtain⟨⟨m,b⟩,hm⟩: ∃p,gy l (nm,so)=p:=⟨_,rfl⟩
  rw[hm] at RN hadd;dsimp only at RN hadd;have HAD:=ae hadd;clear hadd hm
  go_enter Tryz.func84,Tryz.ntmps84
  go_wp2_with fail
  refine(RN.out _ HZ.out).mono ?_;rintro e w4 ⟨r,rfl,hr,hw4⟩;have HRR:=ae (aA.weaken hr (fun j h=>by
   rcases h with h|h
   .exact Or.inl h
   .exact Or.inr (Nat.le_trans HZ.out.size h)):b_ (fun j=>S j\/w.heap.size<=j) w4 r m)
  have H4:=ae (HZ.out.ext hw4);clear hr hw4 c0 c1 c2
  go_wp2_with fail
  go_ret2
  rw[HAD.out];cases b
  .exact ⟨r,rfl,fun h=>by simp at h,H4.out⟩
  .exact ⟨r,rfl,fun _=>HRR.out,H4.out⟩
theorem Uw {a b:By} (h:a≠b):(a.toList==b.toList)=false:=beq_eq_false_iff_ne.2 (fun e=>h (kD (by rw[Lib.toList_data,Lib.toList_data] at e;exact e)))
theorem xQ {t:Tm} (h:wf aB t=true):formed aB t=true:=by
 unfold wf at h;rw[Bool.and_eq_true] at h;exact h.1
theorem BX {t:Tm} (h:formed aB t=true):t.size<=1000/\∀x∈aV t,aB x.name=true/\x.kids.length<=6/\(x.sort=ah\/aB x.sort=true/\x.kids=[]):=by
 obtain⟨h1,h2⟩:=(rO aB t).1 h;refine⟨h1,fun x hx=>?_⟩;have hx1:x∈(dh 1 t).map (·.1):=by rw[rP t 1 0];exact hx
 obtain⟨p,hp,rfl⟩:=List.mem_map.1 hx1;have h3:=h2 p hp;unfold kJ at h3;simp only[Bool.and_eq_true,Bool.or_eq_true,decide_eq_true_eq] at h3;refine⟨h3.2.1,h3.2.2.1,?_⟩;rcases h3.2.2.2 with h|h
 .exact .inl h
 .exact .inr ⟨h.1,List.eq_nil_of_length_eq_zero h.2⟩
theorem BZ {t:Tm} (h:formed aB t=true):VL t:=fun x hx hs=>by
 rcases((BX h).2 x hx).2.2 with e|e
 .exact absurd e hs
 .exact e.2
theorem B_ (t:Tm) (v:Value) (S:Nat->Prop) (w:World) (hR:bG S w t v):Calls Tryz.prog 24 #[v] w fun e w'=>e= .returned (.bool (wf aB t))/\Ext w w':=by
 have HR:=ae hR;obtain⟨a,cap,rfl,hT⟩:=hR;have qY:=ae (fun W (hW:Ext w W)=>yZ t 1 1000 _ S W (HR.out.ext hW) (by omega) (by omega) (by omega));have Cb:=ae (oQ aB t);dsimp only[tV] at qY⊢;have HZ:=ae ((uR w).alloc (tO t a cap));have HB:=ae (aj w (tO t a cap));obtain⟨c0,c1,c2⟩:=af HB.out;by_cases hf:formed aB t=true
 .have hsz:=(BX hf).1;have pY:=ae (fun W (hW:Ext w W)=>Uo t [] (.slice none 0 0) _ S S W (HR.out.ext hW) (aA.nil S W 2) (BZ hf) (by show 0+t.size<=100000;omega));have HV:Hid (wf aB t=(dm [] (vl (aV t))).2):=ae (by unfold wf;rw[hf,Bool.true_and,LH]);have z1: ¬(small aB 1 1000 t<0):=by
   have:=Cb.out;rw[hf] at this;have:=of_decide_eq_true this.symm;omega
  dsimp only[tV] at pY;clear hT hf hsz;generalize small aB 1 1000 t=R at*;generalize (dm [] (vl (aV t))).2=B at*
  go_enter Tryz.func24,Tryz.ntmps24
  go_wp2_with fail
  refine(qY.out _ HZ.out).mono ?_;rintro e w4 ⟨rfl,hw4⟩;have H4:=ae (HZ.out.ext hw4);have HB4:=ae (hw4.heap HB.out (fun h=>h));clear hw4 c0 c1 c2;obtain⟨c0,c1,c2⟩:=af HB4.out
  go_wp2_with fail
  refine(pY.out _ H4.out).mono ?_;rintro e w5 ⟨r,rfl,_,hw5⟩;have H5:=ae (H4.out.ext hw5);clear hw5 c0 c1 c2
  go_wp2_with fail
  go_ret;rw[HV.out];exact⟨rfl,H5.out⟩
 .have HV:Hid (wf aB t=false):=ae (by unfold wf;rw[Bool.eq_false_iff.2 hf];rfl);have z1:small aB 1 1000 t<0:=by
   have h1:=Cb.out;rw[Bool.eq_false_iff.2 hf] at h1;have:=of_decide_eq_false h1.symm;omega
  clear hT hf;generalize small aB 1 1000 t=R at*
  go_enter Tryz.func24,Tryz.ntmps24
  go_wp2_with fail
  refine(qY.out _ HZ.out).mono ?_;rintro e w4 ⟨rfl,hw4⟩;have H4:=ae (HZ.out.ext hw4);clear hw4 c0 c1 c2
  go_wp2_with fail
  go_ret;rw[HV.out];exact⟨rfl,H4.out⟩
theorem Za:(Tryz.prog.info? 3).map (fun i=>(i.zero,i.size,i.bytes))=some (some (.int .i64 0),1,8):=by kernel_rfl
theorem rQ:(Tryz.prog.info? 24).map (fun i=>(i.zero,i.size,i.bytes))=some (some (.agg #[.string ⟨#[]⟩,.string ⟨#[]⟩,.slice none 0 0]),3,56):=by kernel_rfl
theorem jq (L:List Tm) (k:Nat) (h:k<L.length):sizes (L.take (k+1))=sizes (L.take k)+(tg L k).size:=by
 rw[wJ L k h,oJ];simp[sizes]
theorem fA (L:List Tm) (k:Nat):sizes (L.take k)<=sizes L:=by
 have:sizes L=sizes (L.take k)+sizes (L.drop k):=by rw[<-oJ,List.take_append_drop]
 omega
theorem aG.shape {te:TypeId} {w:World} {B:Nat->Prop} {L:List Tm} {v:Value} (h:aG te w B L v): ∃a cap,v= .slice a L.length cap:=h.read.shape
theorem yC (w:World) (u0 u1 u2:Value) (t:TypeId): ∀(j:Nat) (u:Value),[u0,u1,u2][j]?=some u->(w.alloc (.cells #[u0,u1,u2] t)).cell? ((⟨w.heap.size,0,none⟩:Addr).add j)=some u:=fun j u hj=>by
 match j,hj with
 |0,hj=>simp only[List.getElem?_cons_zero,Option.some.injEq] at hj;subst hj;simp only[Addr.add];exact ag (aj _ _) 0 _ rfl
 |1,hj=>simp at hj;subst hj;simp only[Addr.add];exact ag (aj _ _) 1 _ rfl
 |2,hj=>simp at hj;subst hj;simp only[Addr.add];exact ag (aj _ _) 2 _ rfl
structure mP (te:TypeId) (n0:Nat) (wr:World) (L:List Tm) (lv:Value) (us:List Value) (Bk:Nat->Nat->Prop) (k:Nat):Prop where
 len:us.length=k
 own:wr.ownsRow n0 te 3 lv k (bY (L.take k) us)
 kid: ∀i,i<k->aG te wr (Bk i) (tg L i).kids (ug us i)
 blk: ∀i j,i<k->Bk i j->n0<=j/\j<wr.heap.size/\lv.ownBlock≠some j
 dis: ∀i i' j,i<k->i'<k->i≠i'->Bk i j->¬Bk i' j
theorem mP.grow {te:TypeId} {n0 n3 k:Nat} {wr wq w5 wA w7 w8:World} {L:List Tm} {lv lv' u:Value} {us:List Value} {Bk:Nat->Nat->Prop} {Bx:Nat->Prop} {x:Tm} (h:mP te n0 wr L lv us Bk k) (hk:k<L.length) (hx:tg L k=x) (hn:n3<n0) (h0:n0<=wr.heap.size) (hq:Ext wr wq) (h5:Ext wq w5)
  (hT:aG te w5 Bx x.kids u) (hB: ∀j,Bx j->wq.heap.size<=j/\j<w5.heap.size) (hA:Ext w5 wA) (hG:Grew n0 te 3 lv (k+1) (bY (L.take k) us++[.string x.name,.string x.sort,u]) wA w7 lv') (h8:au (fun j=>j=n3) w7 w8):
  mP te n0 w8 L lv' (us++[u]) (fun i=>if i=k then Bx else Bk i) (k+1):=by
 have Md:au (fun j=>lv.ownBlock=some j) wr w7:=(((hq.trans h5).trans hA).mono (fun _ _ x=>x.elim)).trans hG.upd;have hlt:=fun j hj=>h.own.lt j hj;have hF: ∀(P:Nat->Prop) (Lx:List Tm) (vx:Value),aG te w7 P Lx vx->(∀j,P j->n0<=j)->aG te w8 P Lx vx:=fun P Lx vx ht hp=>ht.kept h8 (fun j hj e=>by have:=hp j hj;omega);refine⟨by rw[List.length_append,h.len];rfl,?_,fun i hi=>?_,fun i j hi hj=>?_,fun i i' j hi hi' hne hj=>?_⟩
 .rw [wJ L k hk,ET _ _ _ _ (by rw[h.len,List.length_take];omega),hx];exact bI hG.own h8 (fun j hj e=>by have:=(hG.own.lt j hj).1;omega)
 .by_cases e:i=k
  .subst e;rw[if_pos rfl,hx];have e2:ug (us++[u]) i=u:=by unfold ug;rw[List.getD_eq_getElem?_getD,List.getElem?_append_right (by rw[h.len];exact Nat.le_refl _),h.len,Nat.sub_self];rfl
   rw[e2];refine hF _ _ _ ((hT.kept hA (fun _ _ x=>x)).kept hG.upd (fun j hj e=>?_)) (fun j hj=>by have h1:=hB j hj;have:=hq.size;omega);have h1:=(hB j hj).1;have h2:=(hlt j e).2;have:=hq.size;omega
  .rw [if_neg e];have e2:ug (us++[u]) i=ug us i:=by unfold ug;rw[List.getD_eq_getElem?_getD,List.getD_eq_getElem?_getD,List.getElem?_append_left (by rw[h.len];omega)]
   rw[e2];exact hF _ _ _ ((h.kid i (by omega)).kept Md (fun j hj e=>(h.blk i j (by omega) hj).2.2 e)) (fun j hj=>(h.blk i j (by omega) hj).1)
 .have hs8:=h8.size;have hs7:=hG.upd.size;have hsA:=hA.size;have hs5:=h5.size;have JG:=hq.size;have hbn: ∀j,lv'.ownBlock=some j->lv.ownBlock=some j\/w5.heap.size<=j:=fun j e=>by
   rcases hG.uT with h|h
   .rw [h] at e;exact .inl e
   .rw [h] at e;injection e with e;exact .inr (by omega)
  by_cases e:i=k
  .subst e;rw[if_pos rfl] at hj;have h1:=hB j hj;refine⟨by omega,by omega,fun e=>?_⟩;rcases hbn j e with h2|h2
   .have:=(hlt j h2).2;omega
   .omega
  .rw [if_neg e] at hj;obtain⟨h1,h2,h3⟩:=h.blk i j (by omega) hj;refine⟨h1,by omega,fun e=>?_⟩;rcases hbn j e with h4|h4
   .exact h3 h4
   .omega
 .have JG:=hq.size;by_cases e:i=k
  .subst e;rw[if_pos rfl] at hj;have h1:=hB j hj;rw[if_neg (fun e=>hne e.symm)];intro h2;have:=(h.blk i' j (by omega) h2).2.1;omega
  .rw [if_neg e] at hj;by_cases e':i'=k
   .subst e';rw[if_pos rfl];intro h2;have h3:=hB j h2;have:=(h.blk i j (by omega) hj).2.1;omega
   .rw [if_neg e'];exact h.dis i i' j (by omega) (by omega) hne hj
theorem mP.fin {te:TypeId} {n0:Nat} {wr:World} {L:List Tm} {lv:Value} {us:List Value} {Bk:Nat->Nat->Prop} (h:mP te n0 wr L lv us Bk L.length):aG te wr (fun j=>n0<=j/\j<wr.heap.size) L lv:=by
 have ho:=h.own;rw[List.take_length] at ho;exact⟨_,L,us,lv,Bk,h.len,⟨ho.1,ho.2.imp id (fun⟨g,c,cur,e,_,h2⟩=>⟨g,c,cur,e,Nat.zero_le _,h2⟩)⟩,fun k hk=>⟨(ho.lt k hk).1,(ho.lt k hk).2⟩,fun i k hi hk=>⟨(h.blk i k hi hk).1,(h.blk i k hi hk).2.1⟩,fun i k hi hk=>(h.blk i k hi hk).2.2,fun i j k hi hj=>h.dis i j k hi hj,h.kid⟩
theorem aF {W:World} {z:Nat} {t:TypeId} {v0 v1 v2:Value} (h:W.heap[z]?=some (.cells #[v0,v1,v2] t (0,0))) (u0 u1 u2:Value):(((W.setCell ⟨z,0,none⟩ u0).setCell ⟨z,1,none⟩ u1).setCell ⟨z,2,none⟩ u2).heap[z]?=some (.cells #[u0,u1,u2] t (0,0)):=by
 have:=setBlock (setBlock (setBlock h 0 u0) 1 u1) 2 u2;simpa using this
theorem aC (W:World) (z:Nat) (u0 u1 u2:Value):au (fun k=>k=z) W (((W.setCell ⟨z,0,none⟩ u0).setCell ⟨z,1,none⟩ u1).setCell ⟨z,2,none⟩ u2):=
 (((au.refl (fun k=>k=z) W).setCell (p:=⟨z,0,none⟩) (.inl rfl) u0).setCell (p:=⟨z,1,none⟩) (.inl rfl) u1).setCell (p:=⟨z,2,none⟩) (.inl rfl) u2
theorem Me: ∀(t:Tm) (v:Value) (S:Nat->Prop) (w:World),bG S w t v->(∀k,S k->k<w.heap.size)->t.size<=100000->
  Calls Tryz.prog 172 #[v] w fun e w'=> ∃r B,e= .returned (tV t r)/\aG 24 w' B t.kids r/\(∀j,B j->w.heap.size<=j/\j<w'.heap.size)/\Ext w w':=by
 refine Tm.ind (fun nm so L ih=>?_);intro v S w hT hS hsz;obtain⟨a,cap,rfl,hT⟩:=hT;dsimp only[tV,Tm.name,Tm.sort,Tm.kids] at hT⊢;have cZ:=ae hT;have HIH:=ae ih;have gm:=ae hS;have fB:sizes L+1<=100000:=by rw[size_eq] at hsz;simp only[Tm.kids] at hsz;omega
 have kK:=ae fB;have jW:L.length<=100000:=by have h1:=aX L;omega
 have hx3:=(((uR w).alloc (.cells #[.string nm,.string so,.slice a L.length cap] 24)).alloc zO).alloc (.cells #[.string nm,.string so,.slice none 0 0] 24);have hb2:=ak (alloc_at (w.alloc (.cells #[.string nm,.string so,.slice a L.length cap] 24)) zO (n:=w.heap.size+1) (by simp)) (.cells #[.string nm,.string so,.slice none 0 0] 24);have hb3:=alloc_at ((w.alloc (.cells #[.string nm,.string so,.slice a L.length cap] 24)).alloc zO) (.cells #[.string nm,.string so,.slice none 0 0] 24) (n:=w.heap.size+1+1) (by simp);have hz0:(((w.alloc (.cells #[.string nm,.string so,.slice a L.length cap] 24)).alloc zO).alloc (.cells #[.string nm,.string so,.slice none 0 0] 24)).heap.size=w.heap.size+3:=by simp
 have HB2:=ae hb2;have HB3:=ae hb3;have dB:=ae hx3;have HZ0:=ae hz0;clear ih hT hS hsz fB;clear hb2 hb3 hx3 hz0
 go_enter Tryz.func172,Tryz.ntmps172
 go_wp2_with fail
 generalize (((w.alloc (.cells #[.string nm,.string so,.slice a L.length cap] 24)).alloc zO).alloc (.cells #[.string nm,.string so,.slice none 0 0] 24))=W0 at*;obtain⟨n3,hn3⟩: ∃n3,w.heap.size+1+1=n3:=⟨_,rfl⟩
 rw[hn3] at HB3⊢;have fM:=ae hn3;clear hn3;have jP:Hid (mP 24 (w.heap.size+3) W0 L (.slice none 0 0) [] (fun _ _=>False) 0):=ae ⟨rfl,⟨rfl,.inl ⟨rfl,rfl⟩⟩,fun i hi=>absurd hi (Nat.not_lt_zero _),fun i j hi=>absurd hi (Nat.not_lt_zero _),fun i i' j hi=>absurd hi (Nat.not_lt_zero _)⟩;have rV:Hid (w.heap.size+3<=W0.heap.size):=ae (by rw[HZ0.out];exact Nat.le_refl _);clear HZ0
 go_loopg [11] L.length (fun gk iv wr=> ∃(k:Nat) (lv:Value) (us:List Value) (Bk:Nat->Nat->Prop),iv= .int .i64 (k:Int)/\gk=L.length-k/\k<=L.length/\Hid (mP 24 (w.heap.size+3) wr L lv us Bk k)/\Hid (wr.heap[w.heap.size+1]?=some zO)/\Hid (wr.heap[n3]?=some (.cells #[.string nm,.string so,lv] 24 (0,0)))/\Hid (Ext w wr)/\Hid (w.heap.size+3<=wr.heap.size))
 case atStart=>exact⟨0,_,_,_,rfl,rfl,Nat.zero_le _,jP,HB2,HB3,dB,rV⟩
 case round=>
  clear jP HB2 HB3 dB rV;obtain⟨k,lv,us,Bk,rfl,rfl,hk,HJ,HB2,HB3,HE,bT⟩:=hrel;obtain⟨la,lc,hlv⟩:=aY HJ.out.own;subst hlv;by_cases hlt:k<L.length
  .obtain ⟨g,off,hga,_,hat⟩:=(cZ.out.ext HE.out).at_ (by omega);subst hga;obtain⟨xa,xc,q0,q1,q2,aQ⟩:=hat k hlt;rw[<-Nat.add_assoc] at q1 q2;obtain⟨z0,z1,z2,z2'⟩:=bJ hlt;have aW:=ae (fun W (hW:Ext (wr.alloc (.cells #[.string (tg L k).name,.string (tg L k).sort,.slice xa (tg L k).kids.length xc] 24)) W)=>HIH.out (tg L k) (bM L k hlt) _ S W ⟨xa,xc,rfl,(aQ.ext ((uR wr).alloc _)).ext hW⟩ (fun j hj=>ax (gm.out j hj) (Nat.le_trans HE.out.size (Nat.le_trans ((uR wr).alloc (.cells #[.string (tg L k).name,.string (tg L k).sort,.slice xa (tg L k).kids.length xc] 24)).size hW.size))) (by have h1:=kK.out;have h2:=jq L k hlt;have h3:=fA L (k+1);omega));dsimp only[tV] at aW;obtain⟨x,hx⟩: ∃x,tg L k=x:=⟨_,rfl⟩
   have HX:=ae hx;rw[hx] at q0 q1 q2 aW;have hQ:=(uR wr).alloc (tO x xa xc);have lF:=aj wr (tO x xa xc);obtain⟨b0,b1,b2⟩:=af lF;have kL:=ak HB3.out (tO x xa xc);have c2:=ag kL 2 (.slice la k lc) rfl;have xW:=ae kL;have HQ:=ae hQ;have wW:=ae (ak HB2.out (tO x xa xc));have CB:=ae (HJ.out.own.alloc (tO x xa xc));have g_:Hid (¬(Value.slice la k lc).ownBlock=some n3):=ae (fun e=>by have h1:=(HJ.out.own.lt n3 e).1;have:=fM.out;omega);have HK:Hid (k<=100000):=ae (by omega);obtain⟨iT,hi,hz0,hz1,hz2⟩:=info_parts rQ;clear hat aQ hx hQ lF kL
   go_wp2_with fail
   generalize wr.alloc (tO x xa xc)=wq at*;have CE:Hid (Ext wq wq):=ae (au.refl _ _);have rq:Hid (w.heap.size+3<=wq.heap.size):=ae (Nat.le_trans bT.out HQ.out.size);clear q0 q1 q2
   go_region_law (first
 |(refine dJ _ (.tmp 16) (.tmp 19) 22 rfl (w.heap.size+3) 24 iT (.agg #[.string ⟨#[]⟩,.string ⟨#[]⟩,.slice none 0 0]) 3 56 Tryz.underlying22 hi hz0 hz1 hz2 rfl (by decide) _ _ _ rfl wX.out _ 1 1 [.string x.name,.string x.sort,.slice ya x.kids.length yc] rfl rfl ni.out kM.out iM.out.1 iM.out.2.1 iM.out.2.2 ?_;intro v7 w7 bF;obtain⟨a7,c7,hv7⟩:=aY bF.own;subst hv7;have d_:=bF.upd.heap (ak dW.out (tO x ya yc)) g_.out;have f7:=fun i=>ai d_ i;have c2:=ag d_ 2 (.slice la k lc) rfl;have dZ:=ae d_;have jw:=ae bF;clear bF d_)
 |(go_simp;refine(aW.out wq.drew CE.out.drew).mono ?_;rintro e w5 ⟨r,Bx,rfl,j_,hb5,hw5⟩;obtain⟨ya,yc,iO⟩:=aG.shape j_;subst iO;have bV:Hid (Ext wq w5):=ae (((uR wq).drewN' 1).trans hw5);have p_:=ae j_;have qH:Hid (∀j,Bx j->wq.heap.size<=j/\j<w5.heap.size):=ae hb5;have dW:=ae (bV.out.heap xW.out (fun h=>h));have wX:Hid ((w5.alloc (tO x ya yc)).ownsRow (w.heap.size+3) 24 3 (.slice la k lc) k (bY (L.take k) us)):=ae ((bI CB.out bV.out (fun _ _ h=>h)).alloc _);have ni:Hid (∀(j:Nat) (u:Value),[Value.string x.name,.string x.sort,.slice ya x.kids.length yc][j]?=some u->(w5.alloc (tO x ya yc)).cell? ((⟨w5.heap.size,0,none⟩:Addr).add j)=some u):=ae (yC w5 _ _ _ 24);have kM:Hid (∀u∈[Value.string x.name,.string x.sort,.slice ya x.kids.length yc],u.oneCell'=true):=ae (fun u hu=>by simp at hu;rcases hu with h|h|h<;>(subst h;rfl));have iM:Hid (k+1<=maxLen/\(k+1)*56<=140737488355328/\w.heap.size+3<=(w5.alloc (tO x ya yc)).heap.size):=ae ⟨by unfold maxLen;have:=HK.out;omega,by have:=HK.out;omega,by have h1:=bV.out.size;have h2:=rq.out;simp;omega⟩;have c5:=bV.out.cell c2 (fun h=>h);have c6:=((uR w5).alloc (tO x ya yc)).cell c5 (fun h=>h);clear j_ hb5 hw5))
   all_goals
    go_wp2_with fail
    have fO:=ae ((au.refl (fun j=>j=n3) w7).setCell (p:=⟨n3,2,none⟩) (.inl rfl) (.slice a7 (k+1) c7));have bQ:Hid (au (fun j=>(Value.slice la k lc).ownBlock=some j\/j=n3) wq (w7.setCell ⟨n3,2,none⟩ (.slice a7 (k+1) c7))):=ae (((((bV.out.alloc (tO x ya yc)).mono (fun _ _ x=>x.elim)).trans (jw.out.upd.mono (fun _ _ e=> .inl e)))).trans (fO.out.mono (fun _ _ e=> .inr e)));have rW:=ae (HJ.out.grow hlt HX.out (by have:=fM.out;omega) bT.out HQ.out bV.out p_.out qH.out ((uR w5).alloc (tO x ya yc)) jw.out fO.out);have bU:Hid (Ext w (w7.setCell ⟨n3,2,none⟩ (.slice a7 (k+1) c7))):=ae ((HE.out.trans HQ.out).trans' bQ.out (fun j hj e=>by
     rcases e with e|e
     .have h1:=(HJ.out.own.lt j e).1;omega
     .have:=fM.out;omega))
    have lL:=ae (bQ.out.heap wW.out (fun e=>by
     rcases e with e|e
     .have h1:=(HJ.out.own.lt _ e).1;omega
     .have:=fM.out;omega))
    have iP:=setBlock dZ.out 2 (.slice a7 (k+1) c7);have kX:Hid ((w7.setCell ⟨n3,2,none⟩ (.slice a7 (k+1) c7)).heap[n3]?=some (.cells #[.string nm,.string so,.slice a7 (k+1) c7] 24 (0,0))):=ae (by simpa using iP);have jy:Hid (w.heap.size+3<=(w7.setCell ⟨n3,2,none⟩ (.slice a7 (k+1) c7)).heap.size):=ae (Nat.le_trans rq.out bQ.out.size);clear iP c2 f7
    go_roundg (L.length- (k+1))
    case measure=>omega
    case rel=>exact⟨k+1,_,_,_,by go_num,rfl,by omega,rW,lL,kX,bU,jy⟩
  .obtain rfl:k=L.length:=by omega
   have z2:decide ((L.length:Int)< (L.length:Int))=false:=dF (by omega);obtain⟨c0,c1,c2⟩:=af HB3.out;have f2:=fun i=>ai HB2.out i;obtain⟨d0,d1,d2⟩:=af HB2.out
   go_wp2_with fail
   have hr:=aF HB2.out (.string nm) (.string so) (.slice la L.length lc);have hu:=aC wr (w.heap.size+1) (.string nm) (.string so) (.slice la L.length lc);obtain⟨e0,e1,e2⟩:=af hr;refine bodyPost_ret (v:= .agg #[.string nm,.string so,.slice la L.length lc]) (by simp[results,Tryz.results172,go_sem,e0,e1,e2]) rfl ⟨.slice la L.length lc,_,rfl,HJ.out.fin.kept hu (fun j hj e=>by have h1:=hj.1;omega),fun j hj=>⟨by have h1:=hj.1;omega,ax hj.2 hu.size⟩,HE.out.trans' hu (fun j hj e=>by omega)⟩
theorem xY: ∀(t:Tm) (v:Value) (S:Nat->Prop) (w:World),bG S w t v->(∀k,S k->k<w.heap.size)->t.size<=100000->
  Calls Tryz.prog 117 #[v] w fun e w'=> ∃r B,e= .returned (tV t r)/\aG 24 w' B t.kids r/\(∀j,B j->w.heap.size<=j/\j<w'.heap.size)/\Ext w w':=by
 refine Tm.ind (fun nm so L ih=>?_);intro v S w hT hS hsz;obtain⟨a,cap,rfl,hT⟩:=hT;dsimp only[tV,Tm.name,Tm.sort,Tm.kids] at hT⊢;have cZ:=ae hT;have HIH:=ae ih;have gm:=ae hS;have fB:sizes L+1<=100000:=by rw[size_eq] at hsz;simp only[Tm.kids] at hsz;omega
 have kK:=ae fB;have jW:L.length<=100000:=by have h1:=aX L;omega
 have hx3:=(((uR w).alloc (.cells #[.string nm,.string so,.slice a L.length cap] 24)).alloc zO).alloc (.cells #[.string nm,.string so,.slice none 0 0] 24);have hb2:=ak (alloc_at (w.alloc (.cells #[.string nm,.string so,.slice a L.length cap] 24)) zO (n:=w.heap.size+1) (by simp)) (.cells #[.string nm,.string so,.slice none 0 0] 24);have hb3:=alloc_at ((w.alloc (.cells #[.string nm,.string so,.slice a L.length cap] 24)).alloc zO) (.cells #[.string nm,.string so,.slice none 0 0] 24) (n:=w.heap.size+1+1) (by simp);have hz0:(((w.alloc (.cells #[.string nm,.string so,.slice a L.length cap] 24)).alloc zO).alloc (.cells #[.string nm,.string so,.slice none 0 0] 24)).heap.size=w.heap.size+3:=by simp
 have HB2:=ae hb2;have HB3:=ae hb3;have dB:=ae hx3;have HZ0:=ae hz0;clear ih hT hS hsz fB;clear hb2 hb3 hx3 hz0
 go_enter Tryz.func117,Tryz.ntmps117
 go_wp2_with fail
 generalize (((w.alloc (.cells #[.string nm,.string so,.slice a L.length cap] 24)).alloc zO).alloc (.cells #[.string nm,.string so,.slice none 0 0] 24))=W0 at*;obtain⟨n3,hn3⟩: ∃n3,w.heap.size+1+1=n3:=⟨_,rfl⟩
 rw[hn3] at HB3⊢;have fM:=ae hn3;clear hn3;have jP:Hid (mP 24 (w.heap.size+3) W0 L (.slice none 0 0) [] (fun _ _=>False) 0):=ae ⟨rfl,⟨rfl,.inl ⟨rfl,rfl⟩⟩,fun i hi=>absurd hi (Nat.not_lt_zero _),fun i j hi=>absurd hi (Nat.not_lt_zero _),fun i i' j hi=>absurd hi (Nat.not_lt_zero _)⟩;have rV:Hid (w.heap.size+3<=W0.heap.size):=ae (by rw[HZ0.out];exact Nat.le_refl _);clear HZ0
 go_loopg [14] L.length (fun gk iv wr=> ∃(k:Nat) (lv:Value) (us:List Value) (Bk:Nat->Nat->Prop),iv= .int .i64 (k:Int)/\gk=L.length-k/\k<=L.length/\Hid (mP 24 (w.heap.size+3) wr L lv us Bk k)/\Hid (wr.heap[w.heap.size+1]?=some zO)/\Hid (wr.heap[n3]?=some (.cells #[.string nm,.string so,lv] 24 (0,0)))/\Hid (Ext w wr)/\Hid (w.heap.size+3<=wr.heap.size))
 case atStart=>exact⟨0,_,_,_,rfl,rfl,Nat.zero_le _,jP,HB2,HB3,dB,rV⟩
 case round=>
  clear jP HB2 HB3 dB rV;obtain⟨k,lv,us,Bk,rfl,rfl,hk,HJ,HB2,HB3,HE,bT⟩:=hrel;obtain⟨la,lc,hlv⟩:=aY HJ.out.own;subst hlv;by_cases hlt:k<L.length
  .obtain ⟨g,off,hga,_,hat⟩:=(cZ.out.ext HE.out).at_ (by omega);subst hga;obtain⟨xa,xc,q0,q1,q2,aQ⟩:=hat k hlt;rw[<-Nat.add_assoc] at q1 q2;obtain⟨z0,z1,z2,z2'⟩:=bJ hlt;have aW:=ae (fun W (hW:Ext (wr.alloc (.cells #[.string (tg L k).name,.string (tg L k).sort,.slice xa (tg L k).kids.length xc] 24)) W)=>HIH.out (tg L k) (bM L k hlt) _ S W ⟨xa,xc,rfl,(aQ.ext ((uR wr).alloc _)).ext hW⟩ (fun j hj=>ax (gm.out j hj) (Nat.le_trans HE.out.size (Nat.le_trans ((uR wr).alloc (.cells #[.string (tg L k).name,.string (tg L k).sort,.slice xa (tg L k).kids.length xc] 24)).size hW.size))) (by have h1:=kK.out;have h2:=jq L k hlt;have h3:=fA L (k+1);omega));dsimp only[tV] at aW;obtain⟨x,hx⟩: ∃x,tg L k=x:=⟨_,rfl⟩
   have HX:=ae hx;rw[hx] at q0 q1 q2 aW;have hQ:=(uR wr).alloc (tO x xa xc);have lF:=aj wr (tO x xa xc);obtain⟨b0,b1,b2⟩:=af lF;have kL:=ak HB3.out (tO x xa xc);have c2:=ag kL 2 (.slice la k lc) rfl;have xW:=ae kL;have HQ:=ae hQ;have wW:=ae (ak HB2.out (tO x xa xc));have CB:=ae (HJ.out.own.alloc (tO x xa xc));have g_:Hid (¬(Value.slice la k lc).ownBlock=some n3):=ae (fun e=>by have h1:=(HJ.out.own.lt n3 e).1;have:=fM.out;omega);have HK:Hid (k<=100000):=ae (by omega);obtain⟨iT,hi,hz0,hz1,hz2⟩:=info_parts rQ;clear hat aQ hx hQ lF kL
   go_wp2_with fail
   generalize wr.alloc (tO x xa xc)=wq at*;have CE:Hid (Ext wq wq):=ae (au.refl _ _);have rq:Hid (w.heap.size+3<=wq.heap.size):=ae (Nat.le_trans bT.out HQ.out.size);clear q0 q1 q2
   go_region_law (first
 |(refine dJ _ (.tmp 19) (.tmp 22) 22 rfl (w.heap.size+3) 24 iT (.agg #[.string ⟨#[]⟩,.string ⟨#[]⟩,.slice none 0 0]) 3 56 Tryz.underlying22 hi hz0 hz1 hz2 rfl (by decide) _ _ _ rfl wX.out _ 1 1 [.string x.name,.string x.sort,.slice ya x.kids.length yc] rfl rfl ni.out kM.out iM.out.1 iM.out.2.1 iM.out.2.2 ?_;intro v7 w7 bF;obtain⟨a7,c7,hv7⟩:=aY bF.own;subst hv7;have d_:=bF.upd.heap (ak dW.out (tO x ya yc)) g_.out;have f7:=fun i=>ai d_ i;have c2:=ag d_ 2 (.slice la k lc) rfl;have dZ:=ae d_;have jw:=ae bF;clear bF d_)
 |(go_simp;refine(aW.out wq.drew CE.out.drew).mono ?_;rintro e w5 ⟨r,Bx,rfl,j_,hb5,hw5⟩;obtain⟨ya,yc,iO⟩:=aG.shape j_;subst iO;have bV:Hid (Ext wq w5):=ae (((uR wq).drewN' 1).trans hw5);have p_:=ae j_;have qH:Hid (∀j,Bx j->wq.heap.size<=j/\j<w5.heap.size):=ae hb5;have dW:=ae (bV.out.heap xW.out (fun h=>h));have wX:Hid ((w5.alloc (tO x ya yc)).ownsRow (w.heap.size+3) 24 3 (.slice la k lc) k (bY (L.take k) us)):=ae ((bI CB.out bV.out (fun _ _ h=>h)).alloc _);have ni:Hid (∀(j:Nat) (u:Value),[Value.string x.name,.string x.sort,.slice ya x.kids.length yc][j]?=some u->(w5.alloc (tO x ya yc)).cell? ((⟨w5.heap.size,0,none⟩:Addr).add j)=some u):=ae (yC w5 _ _ _ 24);have kM:Hid (∀u∈[Value.string x.name,.string x.sort,.slice ya x.kids.length yc],u.oneCell'=true):=ae (fun u hu=>by simp at hu;rcases hu with h|h|h<;>(subst h;rfl));have iM:Hid (k+1<=maxLen/\(k+1)*56<=140737488355328/\w.heap.size+3<=(w5.alloc (tO x ya yc)).heap.size):=ae ⟨by unfold maxLen;have:=HK.out;omega,by have:=HK.out;omega,by have h1:=bV.out.size;have h2:=rq.out;simp;omega⟩;have c5:=bV.out.cell c2 (fun h=>h);have c6:=((uR w5).alloc (tO x ya yc)).cell c5 (fun h=>h);clear j_ hb5 hw5))
   all_goals
    go_wp2_with fail
    have fO:=ae ((au.refl (fun j=>j=n3) w7).setCell (p:=⟨n3,2,none⟩) (.inl rfl) (.slice a7 (k+1) c7));have bQ:Hid (au (fun j=>(Value.slice la k lc).ownBlock=some j\/j=n3) wq (w7.setCell ⟨n3,2,none⟩ (.slice a7 (k+1) c7))):=ae (((((bV.out.alloc (tO x ya yc)).mono (fun _ _ x=>x.elim)).trans (jw.out.upd.mono (fun _ _ e=> .inl e)))).trans (fO.out.mono (fun _ _ e=> .inr e)));have rW:=ae (HJ.out.grow hlt HX.out (by have:=fM.out;omega) bT.out HQ.out bV.out p_.out qH.out ((uR w5).alloc (tO x ya yc)) jw.out fO.out);have bU:Hid (Ext w (w7.setCell ⟨n3,2,none⟩ (.slice a7 (k+1) c7))):=ae ((HE.out.trans HQ.out).trans' bQ.out (fun j hj e=>by
     rcases e with e|e
     .have h1:=(HJ.out.own.lt j e).1;omega
     .have:=fM.out;omega))
    have lL:=ae (bQ.out.heap wW.out (fun e=>by
     rcases e with e|e
     .have h1:=(HJ.out.own.lt _ e).1;omega
     .have:=fM.out;omega))
    have iP:=setBlock dZ.out 2 (.slice a7 (k+1) c7);have kX:Hid ((w7.setCell ⟨n3,2,none⟩ (.slice a7 (k+1) c7)).heap[n3]?=some (.cells #[.string nm,.string so,.slice a7 (k+1) c7] 24 (0,0))):=ae (by simpa using iP);have jy:Hid (w.heap.size+3<=(w7.setCell ⟨n3,2,none⟩ (.slice a7 (k+1) c7)).heap.size):=ae (Nat.le_trans rq.out bQ.out.size);clear iP c2 f7
    go_roundg (L.length- (k+1))
    case measure=>omega
    case rel=>exact⟨k+1,_,_,_,by go_num,rfl,by omega,rW,lL,kX,bU,jy⟩
  .obtain rfl:k=L.length:=by omega
   have z2:decide ((L.length:Int)< (L.length:Int))=false:=dF (by omega);obtain⟨c0,c1,c2⟩:=af HB3.out;have f2:=fun i=>ai HB2.out i;obtain⟨d0,d1,d2⟩:=af HB2.out
   go_wp2_with fail
   have hr:=aF HB2.out (.string nm) (.string so) (.slice la L.length lc);have hu:=aC wr (w.heap.size+1) (.string nm) (.string so) (.slice la L.length lc);obtain⟨e0,e1,e2⟩:=af hr;refine bodyPost_ret (v:= .agg #[.string nm,.string so,.slice la L.length lc]) (by simp[results,Tryz.results172,go_sem,e0,e1,e2]) rfl ⟨.slice la L.length lc,_,rfl,HJ.out.fin.kept hu (fun j hj e=>by have h1:=hj.1;omega),fun j hj=>⟨by have h1:=hj.1;omega,ax hj.2 hu.size⟩,HE.out.trans' hu (fun j hj e=>by omega)⟩
theorem acr {L M:List Tm} (hl:L.length=M.length) (h: ∀j,j<L.length->tg L j=tg M j):L=M:=by
 refine List.ext_getElem hl (fun i h1 h2=>?_);have:=h i h1;unfold tg at this;rw[List.getD_eq_getElem?_getD,List.getD_eq_getElem?_getD,List.getElem?_eq_getElem h1,List.getElem?_eq_getElem h2] at this;exact this
theorem agF (L M:List Tm) (v v':Value) (S T:Nat->Prop) (w:World) (hR:ay S w L v) (hR':ay T w M v') (hl:L.length<=1000000)
  (hf: ∀t∈L,∀u v1 v2 W,Ext w W->bG S W t v1->bG T W u v2->Calls Tryz.prog 216 #[v1,v2] W fun e W'=>e= .returned (.bool (decide (t=u)))/\Ext W W'):
  Calls Tryz.prog 190 #[v,v',.func (.func 216) #[] #[]] w fun e w'=>e= .returned (.bool (decide (L=M)))/\Ext w w':=by
 obtain⟨aa,ca,rfl⟩:=hR.shape;obtain⟨ab,cb,rfl⟩:=hR'.shape;have cZ:=ae (And.intro hR hR');have HF:=ae hf;have HL:=ae hl;clear hR hR' hf hl;by_cases hlen:L.length=M.length
 .have hz1:((L.length:Int) !=(M.length:Int))=false:=by simp[hlen]
  have H3:=ae hlen;clear hlen
  go_enter Tryz.func190,Tryz.ntmps190
  go_wp2_with fail
  clear hz1
  go_loopg [17] L.length (fun gk iv wr=> ∃k:Nat,iv= .int .i64 (k:Int)/\gk=L.length-k/\k<=L.length/\Hid (∀j,j<k->tg L j=tg M j)/\Hid (Ext w wr))
  case atStart=>exact⟨0,rfl,rfl,Nat.zero_le _,ae (fun j h=>absurd h (Nat.not_lt_zero _)),ae (au.refl _ _)⟩
  case round=>
   obtain⟨k,rfl,rfl,hk,HC,HE⟩:=hrel;by_cases hlt:k<L.length
   .have qG:k<M.length:=by have:=H3.out;omega
    obtain⟨g,off,hga,_,hat⟩:=(cZ.out.1.ext HE.out).at_ (by omega);obtain⟨g',off',MH,_,hat'⟩:=(cZ.out.2.ext HE.out).at_ (by omega);subst hga;subst MH;obtain⟨xa,xc,q0,q1,q2,aQ⟩:=hat k hlt;obtain⟨ya,yc,p0,p1,p2,ou⟩:=hat' k qG;obtain⟨z0,z1,z2,z2'⟩:=bJ hlt;have z3:(k:Int)< (M.length:Int):=by omega
    have aW:=ae (fun W (hW:Ext wr W)=>HF.out (tg L k) (bM L k hlt) (tg M k) _ _ W (HE.out.trans hW) ⟨xa,xc,rfl,aQ.ext hW⟩ ⟨ya,yc,rfl,ou.ext hW⟩);have pz:Hid (tg L k=tg M k->∀j,j<k+1->tg L j=tg M j):=ae (fun h j hj=>by
     rcases Nat.lt_succ_iff_lt_or_eq.1 hj with h5|h5
     .exact HC.out j h5
     .rw [h5];exact h)
    have CQ:Hid (tg L k≠tg M k->decide (L=M)=false):=ae (fun h=>dF (fun e=>h (by rw[e])));dsimp only[tV] at aW;clear hat hat' aQ ou;obtain⟨x,hx⟩: ∃x,tg L k=x:=⟨_,rfl⟩
    obtain⟨y,hy⟩: ∃y,tg M k=y:=⟨_,rfl⟩
    rw[hx] at q0 q1 q2 aW pz CQ;rw[hy] at p0 p1 p2 aW pz CQ;clear hx hy HC;rw[<-Nat.add_assoc] at q1 q2 p1 p2;have hA:=(uR wr).alloc (tO x xa xc);have p0:=hA.cell p0 (fun h=>h);have p1:=hA.cell p1 (fun h=>h);have p2:=hA.cell p2 (fun h=>h);have HZ:=ae (hA.alloc (tO y ya yc));have HA:=ae (ak (aj wr (tO x xa xc)) (tO y ya yc));have HB:=ae (alloc_at (wr.alloc (tO x xa xc)) (tO y ya yc) (n:=wr.heap.size+1) (by simp));obtain⟨a0,a1,a2⟩:=af HA.out;obtain⟨b0,b1,b2⟩:=af HB.out;clear hA HA HB
    go_wp2_with fail
    refine(aW.out _ HZ.out).mono ?_;rintro e w8 ⟨rfl,hw8⟩;have bU:=ae (HE.out.trans (HZ.out.trans hw8));obtain⟨b,hb⟩: ∃b,decide (x=y)=b:=⟨_,rfl⟩
    rw[hb];have gW:=ae hb;clear hw8 hb aW HZ q0 q1 q2 p0 p1 p2 a0 a1 a2 b0 b1 b2;cases b
    .have HV:=ae (CQ.out (of_decide_eq_false gW.out))
     go_wp2_with fail
     go_ret;rw[HV.out];exact⟨rfl,bU.out⟩
    .have HN:=ae (pz.out (of_decide_eq_true gW.out));have jW:=HL.out
     go_wp2_with fail
     go_roundg (L.length- (k+1))
     case measure=>omega
     case rel=>exact⟨k+1,by go_num,rfl,by omega,HN,bU⟩
   .obtain rfl:k=L.length:=by omega
    have z2:decide ((L.length:Int)< (L.length:Int))=false:=dF (by omega);have HV:Hid (decide (L=M)=true):=ae (dT (acr H3.out HC.out));clear HC
    go_wp2_with fail
    go_ret;rw[HV.out];exact⟨rfl,HE.out⟩
 .have hz1:((L.length:Int) !=(M.length:Int))=true:=by simp;exact fun e=>hlen (Int.ofNat.inj e)
  have HV:Hid (decide (L=M)=false):=ae (dF (fun e=>hlen (by rw[e])));clear hlen
  go_enter Tryz.func190,Tryz.ntmps190
  go_wp2_with fail
  go_ret;rw[HV.out];exact⟨rfl,au.refl _ _⟩
theorem aaS: ∀(t u:Tm) (v v':Value) (S T:Nat->Prop) (w:World),bG S w t v->bG T w u v'->t.size<=1000000->
  Calls Tryz.prog 216 #[v,v'] w fun e w'=>e= .returned (.bool (decide (t=u)))/\Ext w w':=by
 refine Tm.ind (fun n s L ih=>?_);intro u v v' S T w hR hR' hsz;obtain⟨m,r,M⟩:=u;obtain⟨aa,ca,rfl,hT⟩:=hR;obtain⟨ab,cb,rfl,hT'⟩:=hR';dsimp only[tV,Tm.name,Tm.sort,Tm.kids] at hT hT'⊢;have jW:L.length<=1000000:=by have h1:=aX L;have h2:=hsz;rw[size_eq] at h2;exact Nat.le_trans h1 (Nat.le_of_succ_le h2)
 have HC:=ae (fun W (hW:Ext w W)=>agF L M _ _ S T W (hT.ext hW) (hT'.ext hW) jW (fun t ht u v1 v2 W' hW' h1 h2=>ih t ht u v1 v2 S T W' h1 h2 (by have h1:=eU ht;have h2:=hsz;rw[size_eq] at h2;exact Nat.le_trans h1 (Nat.le_of_succ_le h2))));have HZ:=ae (((uR w).alloc (.cells #[.string n,.string s,.slice aa L.length ca] 24)).alloc (.cells #[.string m,.string r,.slice ab M.length cb] 24));have HA:=ae (ak (aj w (.cells #[.string n,.string s,.slice aa L.length ca] 24)) (.cells #[.string m,.string r,.slice ab M.length cb] 24));have HB:=ae (alloc_at (w.alloc (.cells #[.string n,.string s,.slice aa L.length ca] 24)) (.cells #[.string m,.string r,.slice ab M.length cb] 24) (n:=w.heap.size+1) (by simp));obtain⟨a0,a1,a2⟩:=af HA.out;obtain⟨b0,b1,b2⟩:=af HB.out;have hz:decide (Tm.mk n s L= .mk m r M)=(decide (n=m)&&(decide (s=r)&&decide (L=M))):=by
  rw[Bool.eq_iff_iff];simp
 rw[hz];clear hz hT hT' ih hsz;by_cases h1:n=m
 .have t1:(n.toList==m.toList)=true:=by rw[h1];simp
  have d1:decide (n=m)=true:=dT h1;rw[d1];clear h1 d1;by_cases h2:s=r
  .have t2:(s.toList==r.toList)=true:=by rw[h2];simp
   have d2:decide (s=r)=true:=dT h2;rw[d2];clear h2 d2;generalize decide (L=M)=Z at*
   go_enter Tryz.func216,Tryz.ntmps216
   go_wp2_with fail
   refine(HC.out _ HZ.out).mono ?_;rintro e w4 ⟨rfl,hw4⟩;have H4:=ae (HZ.out.trans hw4);clear hw4 a0 a1 a2 b0 b1 b2
   go_wp2_with fail
   go_ret;exact⟨rfl,H4.out⟩
  .have t2:(s.toList==r.toList)=false:=by rw[beq_eq_false_iff_ne];exact fun e=>h2 (kD (by rw[Lib.toList_data,Lib.toList_data] at e;exact e))
   have d2:decide (s=r)=false:=dF h2;rw[d2];clear h2 d2
   go_enter Tryz.func216,Tryz.ntmps216
   go_wp2_with fail
   go_ret;exact⟨rfl,HZ.out⟩
 .have t1:(n.toList==m.toList)=false:=by rw[beq_eq_false_iff_ne];exact fun e=>h1 (kD (by rw[Lib.toList_data,Lib.toList_data] at e;exact e))
  have d1:decide (n=m)=false:=dF h1;rw[d1];clear h1 d1
  go_enter Tryz.func216,Tryz.ntmps216
  go_wp2_with fail
  go_ret;exact⟨rfl,HZ.out⟩
end Go.Proofs.YtlkcjmaiahnodaaGreatDoor
