/- The texts I1 Shelf LX LN I2 I3 I4 I5 I6, one behind the other. -/
import Derived.RangeFuncNested
import Derived.RangeFuncBound
import Derived.RangeFuncCalls
import Derived.RangeFuncLeaves
import Derived.Shelf.Abstract
import Derived.Shelf.RegionOpen
import Derived.WalkKit
import Derived.OwnWalkIn
import Derived.TacticsInMore
import Derived.LoopNIn
import Derived.LoopIn
import Derived.Sort.LoopGhostIn
import Derived.Laws.EntriesVeiled
import Derived.Test.YtlkcjmaiahnodaaGreatDoorYAB
import Derived.Test.YtlkcjmaiahnodaaGreatDoorProg
import Derived.Shelf.Small.Bits
import Derived.Shelf.Small.Strs
import Derived.Shelf.Strconv.Itoa0
import Derived.Shelf.Strings.Fields
import Derived.Shelf.Slices.Turned
import Derived.Shelf.Slices.Equal
import Derived.Ground.Names2Prog
import Derived.Shelf.Slices.Clone
import Derived.Shelf.Slices.Empties2
import Derived.Ground.SlgnProg
import Derived.Shelf.SlicesE.Clone
import Derived.Shelf.Spec.SearchS
import Derived.Lib.Strings
import Derived.Lib.SlicesS
set_option maxRecDepth 100000
set_option maxHeartbeats 8000000
set_option linter.unusedVariables false
set_option linter.unusedSimpArgs false
namespace Go.Proofs.YtlkcjmaiahnodaaGreatDoor
open Go.RowKit Go.Hw Go Tm
section
open Go.Shelf
attribute [local go_sem] Oper.semAt_some
theorem room_of_none {F:Fence} (hd:F.depth=none) (k:Nat):F.room k:=fun d h=>by rw[hd] at h;cases h
theorem RoundIn.anyDepth {F:Fence} (hd:F.depth=none) {m m':Nat} {P:Program} {l:Nat} {f:FuncId} {tmps:Array Value} {assign body:Code} {w:World} {R:Ending->World->Prop}
  (h:RoundIn F m P l f tmps assign body w R):RoundIn F m' P l f tmps assign body w R:=⟨h.1,fun c cs _=>h.2 c cs (room_of_none hd _)⟩
theorem YieldAt.anyDepth {F:Fence} (hd:F.depth=none) {m:Nat} (m':Nat) {P:Program} {l:Nat} {args:Array Value} {W:World} {R:Ending->World->Prop} (h:YieldAt F m P l args W R):YieldAt F m' P l args W R:=by
 obtain⟨fn,tmps,assign,body,hy,hR⟩:=h;exact⟨fn,tmps,assign,body,hy,RoundIn.anyDepth hd hR⟩
structure Nd where
 t:Tm
 a:Option Addr
 cap:Nat
 d:Nat
def Nd.encs (x:Nd):Array Value:= #[tV x.t (.slice x.a x.t.kids.length x.cap),.int .i64 (x.d:Int)]
def Nd.pr (x:Nd):Tm×Nat:=(x.t,x.d)
theorem BR {J:List Nd->World->Prop} {B:Nat} (h:AbidesFrom B J) {pre:List Nd} {W:World} (o:Obj) (hj:J pre W):J pre (W.alloc o):=h pre W _ none hj (World.grownBy_alloc W o none) (fun r e=>by cases e)
theorem W9 (F:Fence) (hd:F.depth=none) (hf: ∀k,F.fn k) (hro:F.round=none) (l Bv n₁ N B0:Nat) (G S:Nat->Prop) (hS: ∀k,S k->¬G k) (Ul: ¬G Bv) (hG: ∀k,G k->k<n₁) (J Jx:List Nd->World->Prop) (hJ:AbidesFrom B0 J)
  (hY: ∀m pre x W,J pre W->pre.length<N->YieldAt F m Tryz.prog l x.encs W fun e W'=>(e= .returned (.bool true)/\J (pre++[x]) W'/\gU G W W')\/(e= .returned (.bool false)/\Jx (pre++[x]) W')):
  ∀(t:Tm) (n:Nat) (a:Option Addr) (cap d:Nat) (pre:List Nd) (W:World),ay S W t.kids (.slice a t.kids.length cap)->W.heap[Bv]?=some (.cells #[(.func (.func 187) #[] #[.pointer (some ⟨Bv,0,none⟩)])] 219 (0,0))->J pre W->n₁<=W.heap.size->pre.length+t.size<=N->((d+t.size:Nat):Int)<=4611686018427387904->
   CallsIn F n Tryz.prog 187 #[tV t (.slice a t.kids.length cap),.int .i64 (d:Int),.func (.yield l) #[] #[],.pointer (some ⟨Bv,0,none⟩)] W fun e W'=>
    (e= .returned (.bool true)/\∃xs:List Nd,xs.map Nd.pr=dh d t/\J (pre++xs) W'/\gU G W W')\/(e= .returned (.bool false)/\∃q:List Nd,q.map Nd.pr <+:dh d t/\Jx (pre++q) W'):=by
 have hdd: ∀k:Nat,(F.depth.isSome=true->1<=k):=fun k h=>by rw[hd] at h;cases h
 refine Tm.ind (fun nm so L ih=>?_);intro n a cap d pre W hR hV hJ0 hn1 hN hdb;have hsz:=size_eq (.mk nm so L);dsimp only[tV,Tm.name,Tm.sort,Tm.kids] at hR hsz⊢;rw[hsz] at hN hdb;have hb:=aj W (.cells #[.string nm,.string so,.slice a L.length cap] 24);obtain⟨c0,c1,c2⟩:=af hb;have hU0:gU G W (W.alloc (.cells #[.string nm,.string so,.slice a L.length cap] 24)):=gU.yU ((au.refl _ W).alloc _);have hGB: ¬G W.heap.size:=fun h=>by have:=hG _ h;omega
 obtain⟨fn,tmps,assign,body,hy,hR1⟩:=hY (n-1) pre ⟨.mk nm so L,a,cap,d⟩ (W.alloc (.cells #[.string nm,.string so,.slice a L.length cap] 24)) (BR hJ _ hJ0) (by omega);dsimp only[Nd.encs,tV,Tm.name,Tm.sort,Tm.kids] at hy;refine callsIn_of_wp Tryz.func187 rfl (hf 187) ?_ hro;simp only[Tryz.ntmps187,List.size_toArray,List.length_cons,List.length_nil,Nat.reduceAdd,Nat.reduceSub,Array.replicate_succ,Array.replicate_zero,List.push_toArray,List.append_toArray,List.nil_append,List.cons_append]
 gi_wp2
 refine hR1.mono ?_;clear hR1;rintro e W1 (⟨rfl,hJ1,hk1⟩|⟨rfl,hx1⟩)
 .have hb1:=hk1.cells _ _ _ _ hGB hb;have d2:=ag hb1 2 (.slice a L.length cap) rfl
  gi_wp2
  gi_loopg [18] (L.length) (fun gk iv wr=> ∃(k:Nat) (xs:List Nd),iv= .int .i64 (k:Int)/\gk=L.length-k/\k<=L.length/\xs.map Nd.pr=bZ (d+1) (L.take k)/\J (pre++[⟨.mk nm so L,a,cap,d⟩]++xs) wr/\gU G W wr)
  case atStart=>exact⟨0,[],rfl,rfl,Nat.zero_le _,rfl,by simpa using hJ1,hU0.trans hk1⟩
  case round=>
   obtain⟨k,xs,rfl,rfl,hk,hxs,hJr,hkr⟩:=hrel;by_cases hlt:k<L.length
   .obtain ⟨g,off,rfl,_,hat⟩:=(hR.Le hkr hS).at_ (by omega);obtain⟨a',cap',q0,q1,q2,aQ⟩:=hat k hlt;have z0:(0:Int)<=(k:Int):=by omega
    have z1:(k:Int)< (L.length:Int):=by omega
    have z2:decide ((k:Int)< (L.length:Int))=true:=dT z1;have hv:=hkr.cells _ _ _ _ Ul hV;have hmem:tg L k∈L:=by unfold tg;rw[List.getD_eq_getElem?_getD,List.getElem?_eq_getElem hlt];exact List.getElem_mem hlt
    have hsz2:sizes (L.take k)+(tg L k).size<=sizes L:=by
     have h1:L=L.take k++tg L k::L.drop (k+1):=by
      unfold tg;rw[List.getD_eq_getElem?_getD,List.getElem?_eq_getElem hlt];simp
     have h2:=congrArg sizes h1;rw[oJ] at h2;simp only[sizes] at h2;omega
    have hxl:xs.length=sizes (L.take k):=by have:=congrArg List.length hxs;rw[List.length_map,Pz] at this;exact this
    obtain⟨x,hx⟩: ∃x,tg L k=x:=⟨_,rfl⟩
    rw[hx] at q0 q1 q2 aQ hmem hsz2;rw[<-Nat.add_assoc] at q1 q2;have hb4:=aj wr (tO x a' cap');obtain⟨e0,e1,e2⟩:=af hb4;have e3:=ag (ak hv (tO x a' cap')) 0 (.func (.func 187) #[] #[.pointer (some ⟨Bv,0,none⟩)]) rfl;have hk4:gU G wr (wr.alloc (tO x a' cap')):=gU.yU ((au.refl _ wr).alloc _);have hlen:(L.length:Int)<=4611686018427387904:=by have:=aX L;omega
    have ihk:=ih x hmem (n-1) a' cap' (d+1) _ _ (aQ.Le hk4 hS) (ak hv (tO x a' cap')) (BR hJ _ hJr) (by have h1:=hkr.size;have h2:=hk4.size;omega) (by simp only[List.length_append,List.length_singleton];omega) (by omega);have hw1:IntKind.i64.wrap ((d:Int)+1)=(d:Int)+1:=IntWalk.i64_in _ (by omega);have hw2:wrap64 ((d:Int)+1)=(d:Int)+1:=IntWalk.wrap64_in _ (by omega);rw[show(((d+1:Nat)):Int)=(d:Int)+1 by omega] at ihk;dsimp only[tV] at ihk
    gi_wp2_with (gi_at_call 187;refine ihk.mono ?_;clear ihk;rintro e W4 (⟨rfl,ys,hys,hJ4,hk5⟩|⟨rfl,q,hq,hx4⟩))
    .gi_roundg (L.length- (k+1))
     case measure=>omega
     case rel=>
      refine⟨k+1,xs++ys,by go_num,rfl,by omega,?_,by rw[<-List.append_assoc];exact hJ4,(hkr.trans hk4).trans hk5⟩;rw[List.map_append,hxs,hys,List.take_add_one,yV];have:L[k]?.toList=[x]:=by rw[<-hx];unfold tg;rw[List.getD_eq_getElem?_getD,List.getElem?_eq_getElem hlt];rfl
      rw[this];simp[bZ]
    .go_ret;refine .inr ⟨rfl,⟨.mk nm so L,some ⟨g,off,none⟩,cap,d⟩::(xs++q),?_,by simpa using hx4⟩;obtain⟨r,hr⟩:=hq;refine⟨r++bZ (d+1) (L.drop (k+1)),?_⟩;rw[jV];simp only[Tm.kids,List.map_cons,List.map_append,hxs,List.cons_append,List.append_assoc];rw[<-List.append_assoc (List.map Nd.pr q) r,hr];have h1:L=L.take k++x::L.drop (k+1):=by
      rw[<-hx];unfold tg;rw[List.getD_eq_getElem?_getD,List.getElem?_eq_getElem hlt];simp
     have h2:=congrArg (bZ (d+1)) h1;rw[yV] at h2;simp only[bZ] at h2;rw[h2];rfl
   .obtain rfl:k=L.length:=by omega
    gi_wp2
    go_ret;refine .inl ⟨rfl,⟨.mk nm so L,a,cap,d⟩::xs,?_,by simpa using hJr,hkr⟩;rw[List.map_cons,hxs,List.take_length,jV];rfl
 .gi_wp2
  go_ret;exact .inr ⟨rfl,[⟨.mk nm so L,a,cap,d⟩],⟨bZ (d+1) L,by rw[jV];rfl⟩,hx1⟩
theorem Um (F:Fence) (hd:F.depth=none) (n:Nat) (hf: ∀k,F.fn k) (hro:F.round=none) (l Bv Bt n₁ B0:Nat) (G S:Nat->Prop) (hS: ∀k,S k->¬G k) (Ul: ¬G Bv) (hG: ∀k,G k->k<n₁) (J Jx:List Nd->World->Prop) (hJ:AbidesFrom B0 J)
  (t:Tm) (a:Option Addr) (cap:Nat)
  (hY: ∀pre x W,J pre W->pre.length<t.size->YieldAt F (n-1) Tryz.prog l x.encs W fun e W'=>(e= .returned (.bool true)/\J (pre++[x]) W'/\gU G W W')\/(e= .returned (.bool false)/\Jx (pre++[x]) W'))
  (W:World) (hR:ay S W t.kids (.slice a t.kids.length cap)) (hV:W.heap[Bv]?=some (.cells #[(.func (.func 187) #[] #[.pointer (some ⟨Bv,0,none⟩)])] 219 (0,0))) (hT:W.heap[Bt]?=some (tO t a cap)) (h0:J [] W) (hnW:n₁<=W.heap.size) (hsz:((1+t.size:Nat):Int)<=4611686018427387904):
  CallsIn F n Tryz.prog 188 #[.func (.yield l) #[] #[],.pointer (some ⟨Bv,0,none⟩),.pointer (some ⟨Bt,0,none⟩)] W fun e W'=>(∃v,e= .returned v)/\((∃xs:List Nd,xs.map Nd.pr=dh 1 t/\J xs W')\/(∃pre:List Nd,pre.map Nd.pr <+:dh 1 t/\Jx pre W')):=by
 have hdd: ∀k:Nat,(F.depth.isSome=true->1<=k):=fun k h=>by rw[hd] at h;cases h
 have hp:=W9 F hd hf hro l Bv n₁ t.size B0 G S hS Ul hG J Jx hJ (fun m pre x W hj hl=>YieldAt.anyDepth hd m (hY pre x W hj hl)) t (n-1) a cap 1 [] W hR hV h0 hnW (by simp) hsz;obtain⟨c0,c1,c2⟩:=af hT;have v0:=ag hV 0 (.func (.func 187) #[] #[.pointer (some ⟨Bv,0,none⟩)]) rfl;dsimp only[tV] at hp;refine callsIn_of_wp Tryz.func188 rfl (hf 188) ?_ hro;simp only[Tryz.ntmps188,List.size_toArray,List.length_cons,List.length_nil,Nat.reduceAdd,Nat.reduceSub,Array.replicate_succ,Array.replicate_zero,List.push_toArray,List.append_toArray,List.nil_append,List.cons_append]
 gi_wp2_with (gi_at_call 187;refine hp.mono ?_;clear hp;rintro e W1 (⟨rfl,xs,hxs,hJ1,_⟩|⟨rfl,q,hq,hx⟩))
 .go_end0
  exact⟨⟨_,rfl⟩,.inl ⟨xs,hxs,by simpa using hJ1⟩⟩
 .go_end0
  exact⟨⟨_,rfl⟩,.inr ⟨q,hq,by simpa using hx⟩⟩
theorem IQ (t:Tm) (u:Value) (w:World) (hu: ∃a k c,u= .slice a k c):
  Calls Tryz.prog 129 #[tV t u] w fun e w'=>e= .returned (.func (.func 188) #[] #[.pointer (some ⟨w.heap.size+1,0,none⟩),.pointer (some ⟨w.heap.size,0,none⟩)])/\Ext w w'/\w'.heap.size=w.heap.size+2/\
   w'.heap[w.heap.size]?=some (.cells #[.string t.name,.string t.sort,u] 24 (0,0))/\w'.heap[w.heap.size+1]?=some (.cells #[.func (.func 187) #[] #[.pointer (some ⟨w.heap.size+1,0,none⟩)]] 219 (0,0)):=by
 obtain⟨a,k,c,rfl⟩:=hu;dsimp only[tV];have hb:=alloc_at (w.alloc (.cells #[.string t.name,.string t.sort,.slice a k c] 24)) (.cells #[.nilFunc] 219) (n:=w.heap.size+1) (by simp);have v0:=ag hb 0 .nilFunc rfl;have f0:=ai hb 0
 go_enter Tryz.func129,Tryz.ntmps129
 go_wp2_with fail
 go_ret;exact⟨rfl,((uR w).alloc _).alloc _,by simp,ak (aj _ _) _,alloc_at _ _ (by simp)⟩
theorem yB (F:Fence) (hd:F.depth=none) (n:Nat) (hf: ∀k,F.fn k) (hro:F.round=none) (Bv Bt:Nat) (G S:Nat->Prop) (w:World) (hS: ∀k,S k->¬G k) (Ul: ¬G Bv) (hG: ∀k,G k->k<w.heap.size) (hSw: ∀k,S k->k<w.heap.size) (t:Tm) (a:Option Addr) (cap:Nat)
  (hR:ay S w t.kids (.slice a t.kids.length cap)) (hV:w.heap[Bv]?=some (.cells #[(.func (.func 187) #[] #[.pointer (some ⟨Bv,0,none⟩)])] 219 (0,0))) (hT:w.heap[Bt]?=some (tO t a cap)) (hsz:((1+t.size:Nat):Int)<=4611686018427387904):
  SeqStopsK F n Tryz.prog 188 #[.pointer (some ⟨Bv,0,none⟩),.pointer (some ⟨Bt,0,none⟩)] Nd.encs (gU G) (fun xs=>xs.map Nd.pr=dh 1 t) (fun pre=>pre.map Nd.pr <+:dh 1 t) t.size w:=fun l J Jx W hW hJ _ hY h0=>
 have hE:Ext w W:=⟨hW.os,hW.tape,hW.output,hW.size,fun k hk _=>hW.block k hk⟩
 Um F hd n hf hro l Bv Bt w.heap.size W.heap.size G S hS Ul hG J Jx hJ t a cap hY W (hR.ext hE) (hE.heap hV (fun h=>h)) (hE.heap hT (fun h=>h)) h0 hW.size hsz
end
end Go.Proofs.YtlkcjmaiahnodaaGreatDoor
namespace Go.Proofs
section
open Go.Shelf
def Tryz.lays106_ren:Go.Shelf.Ren:=⟨fun|106=>99|213=>161|265=>209|n=>n,fun|9=>9|3=>3|n=>n,fun|n=>n⟩
theorem Tryz.lays106:Go.Proofs.Lays.n106 Tryz.prog Tryz.lays106_ren:={
 mixed:=by kernel_rfl
 f106:=Tryz.func99.trans (congrArg some (by kernel_rfl))
 f213:=Tryz.func161.trans (congrArg some (by kernel_rfl))
 f265:=Tryz.func209.trans (congrArg some (by kernel_rfl))
 t3:=Tryz.underlying3
 a3:=Tryz.isAgg3
 z3:=Tryz.sizeOf3
 v3:=Tryz.zeroValue3
 t9:=Tryz.underlying9
 a9:=Tryz.isAgg9
 z9:=Tryz.sizeOf9
 v9:=Tryz.zeroValue9}
open Go.RowKit in
theorem Tryz.strings_Compare (a b:ByteArray) (w:World):
  Calls Tryz.prog 99 #[.string a,.string b] w fun e w'=>e= .returned (.int .i64 (Lib.compareBytes a.data.toList b.data.toList))/\w'=w:=Any.strings_Compare Tryz.lays106 a b w
def Tryz.lays157_ren:Go.Shelf.Ren:=⟨fun|157=>230|229=>242|199=>243|261=>246|311=>247|312=>248|n=>n,fun|9=>9|31=>71|3=>3|5=>5|4=>4|119=>260|0=>0|40=>262|152=>266|21=>21|154=>268|51=>236|141=>270|196=>274|193=>271|198=>277|49=>275|194=>272|201=>280|226=>282|46=>195|227=>283|n=>n,fun|0=>1|6=>2|n=>n⟩
theorem Tryz.lays157:Go.Proofs.Lays.n157 Tryz.prog Tryz.lays157_ren:={
 mixed:=by kernel_rfl
 f157:=Tryz.func230.trans (congrArg some (by kernel_rfl))
 f199:=Tryz.func243.trans (congrArg some (by kernel_rfl))
 f229:=Tryz.func242.trans (congrArg some (by kernel_rfl))
 f261:=Tryz.func246.trans (congrArg some (by kernel_rfl))
 f311:=Tryz.func247.trans (congrArg some (by kernel_rfl))
 f312:=Tryz.func248.trans (congrArg some (by kernel_rfl))
 t0:=Tryz.underlying0
 a0:=Tryz.isAgg0
 z0:=Tryz.sizeOf0
 v0:=Tryz.zeroValue0
 t3:=Tryz.underlying3
 a3:=Tryz.isAgg3
 z3:=Tryz.sizeOf3
 v3:=Tryz.zeroValue3
 t4:=Tryz.underlying4
 a4:=Tryz.isAgg4
 z4:=Tryz.sizeOf4
 v4:=Tryz.zeroValue4
 t5:=Tryz.underlying5
 a5:=Tryz.isAgg5
 z5:=Tryz.sizeOf5
 v5:=Tryz.zeroValue5
 t9:=Tryz.underlying9
 a9:=Tryz.isAgg9
 z9:=Tryz.sizeOf9
 v9:=Tryz.zeroValue9
 t21:=Tryz.underlying21
 a21:=Tryz.isAgg21
 z21:=Tryz.sizeOf21
 v21:=Tryz.zeroValue21
 t31:=Tryz.underlying71
 a31:=Tryz.isAgg71
 z31:=Tryz.sizeOf71
 v31:=Tryz.zeroValue71
 t40:=Tryz.underlying262
 a40:=Tryz.isAgg262
 z40:=Tryz.sizeOf262
 v40:=Tryz.zeroValue262
 t46:=Tryz.underlying195
 a46:=Tryz.isAgg195
 z46:=Tryz.sizeOf195
 v46:=Tryz.zeroValue195
 t49:=Tryz.underlying275
 a49:=Tryz.isAgg275
 z49:=Tryz.sizeOf275
 v49:=Tryz.zeroValue275
 t51:=Tryz.underlying236
 a51:=Tryz.isAgg236
 z51:=Tryz.sizeOf236
 v51:=Tryz.zeroValue236
 t119:=Tryz.underlying260
 a119:=Tryz.isAgg260
 z119:=Tryz.sizeOf260
 t141:=Tryz.underlying270
 a141:=Tryz.isAgg270
 z141:=Tryz.sizeOf270
 v141:=Tryz.zeroValue270
 t152:=Tryz.underlying266
 a152:=Tryz.isAgg266
 z152:=Tryz.sizeOf266
 v152:=Tryz.zeroValue266
 t154:=Tryz.underlying268
 a154:=Tryz.isAgg268
 z154:=Tryz.sizeOf268
 v154:=Tryz.zeroValue268
 t193:=Tryz.underlying271
 a193:=Tryz.isAgg271
 z193:=Tryz.sizeOf271
 v193:=Tryz.zeroValue271
 t194:=Tryz.underlying272
 a194:=Tryz.isAgg272
 z194:=Tryz.sizeOf272
 v194:=Tryz.zeroValue272
 t196:=Tryz.underlying274
 a196:=Tryz.isAgg274
 z196:=Tryz.sizeOf274
 v196:=Tryz.zeroValue274
 t198:=Tryz.underlying277
 a198:=Tryz.isAgg277
 z198:=Tryz.sizeOf277
 v198:=Tryz.zeroValue277
 t201:=Tryz.underlying280
 a201:=Tryz.isAgg280
 z201:=Tryz.sizeOf280
 v201:=Tryz.zeroValue280
 t226:=Tryz.underlying282
 a226:=Tryz.isAgg282
 z226:=Tryz.sizeOf282
 v226:=Tryz.zeroValue282
 t227:=Tryz.underlying283
 a227:=Tryz.isAgg283
 z227:=Tryz.sizeOf283
 v227:=Tryz.zeroValue283
 g0:=by kernel_rfl
 g6:=by kernel_rfl}
open Go.RowKit Go.Lib in
theorem Tryz.strings_Fields (s:ByteArray) (w:World) (hs:s.size<4294967281) (hascii: ∀(j:Nat) b,s.data.toList[j]?=some b->b.toNat<128) (htab:Lib.TabIs Tryz.prog w "strings.asciiSpace" .u8 Lib.asciiSpaceTab):
  Calls Tryz.prog 230 #[.string s] w fun e w'=>
   e= .returned (.slice (some ⟨w.heap.size,0,none⟩) (Lib.fields s.data.toList).length (Lib.fields s.data.toList).length)/\w'=w.alloc (.cells ((Lib.fields s.data.toList).map fun l=>Value.string ⟨l.toArray⟩).toArray 9):=Any.strings_Fields Tryz.lays157 (by kernel_rfl) (by kernel_rfl) s w hs hascii htab
def Tryz.laysNm215_ren:Go.Shelf.Ren:=⟨fun|15=>210|n=>n,fun|22=>63|3=>3|4=>4|n=>n,fun|n=>n⟩
theorem Tryz.laysNm215:Go.Proofs.Lays2.n15 Tryz.prog Tryz.laysNm215_ren:={
 mixed:=by kernel_rfl
 f15:=Tryz.func210.trans (congrArg some (by kernel_rfl))
 t3:=Tryz.underlying3
 a3:=Tryz.isAgg3
 z3:=Tryz.sizeOf3
 v3:=Tryz.zeroValue3
 t4:=Tryz.underlying4
 a4:=Tryz.isAgg4
 z4:=Tryz.sizeOf4
 v4:=Tryz.zeroValue4
 t22:=Tryz.underlying63
 a22:=Tryz.isAgg63
 z22:=Tryz.sizeOf63
 v22:=Tryz.zeroValue63
 i3:=by kernel_rfl}
open Go.RowKit Go.Lib in
theorem Tryz.slices_Clone_int (b off n c:Nat) (zs:List Int) (w:World) (hz:n<=zs.length) (hbig:n*8<=140737488355328) (hc: ∀j,j<zs.length->w.cell? ⟨b,off+j,none⟩=some (.int .i64 (zs.getD j 0))):
  Calls Tryz.prog 210 #[.slice (some ⟨b,off,none⟩) n c] w fun e w'=> ∃v',e= .returned v'/\w'.ownsRow w.heap.size 3 1 v' n ((zs.take n).map (Value.int .i64))/\v'≠ .slice none 0 0/\Below w.heap.size w w':=Any.slices_Clone_int Tryz.laysNm215 b off n c zs w hz hbig hc
open Go.RowKit Go.Lib in
theorem Tryz.slices_Clone_int_nil (n c:Nat) (w:World):
  Calls Tryz.prog 210 #[.slice none n c] w fun e w'=>e= .returned (.slice none 0 0)/\w'=w:=Any.slices_Clone_int_nil Tryz.laysNm215 n c w
open Go.RowKit Go.Lib in
theorem Tryz.slices_Clone_int_zero (a:Addr) (c:Nat) (w:World):
  Calls Tryz.prog 210 #[.slice (some a) 0 c] w fun e w'=> ∃v',e= .returned v'/\w'.ownsRow w.heap.size 3 1 v' 0 []/\v'≠ .slice none 0 0/\Below w.heap.size w w':=Any.slices_Clone_int_zero Tryz.laysNm215 a c w
def Tryz.laysNm226_ren:Go.Shelf.Ren:=⟨fun|26=>195|33=>228|34=>229|38=>241|n=>n,fun|24=>71|9=>9|3=>3|4=>4|40=>195|0=>0|n=>n,fun|n=>n⟩
theorem Tryz.laysNm226:Go.Proofs.Lays2.n26 Tryz.prog Tryz.laysNm226_ren:={
 mixed:=by kernel_rfl
 f26:=Tryz.func195.trans (congrArg some (by kernel_rfl))
 f33:=Tryz.func228.trans (congrArg some (by kernel_rfl))
 f34:=Tryz.func229.trans (congrArg some (by kernel_rfl))
 f38:=Tryz.func241.trans (congrArg some (by kernel_rfl))
 t0:=Tryz.underlying0
 a0:=Tryz.isAgg0
 z0:=Tryz.sizeOf0
 v0:=Tryz.zeroValue0
 t3:=Tryz.underlying3
 a3:=Tryz.isAgg3
 z3:=Tryz.sizeOf3
 v3:=Tryz.zeroValue3
 t4:=Tryz.underlying4
 a4:=Tryz.isAgg4
 z4:=Tryz.sizeOf4
 v4:=Tryz.zeroValue4
 t9:=Tryz.underlying9
 a9:=Tryz.isAgg9
 z9:=Tryz.sizeOf9
 v9:=Tryz.zeroValue9
 t24:=Tryz.underlying71
 a24:=Tryz.isAgg71
 z24:=Tryz.sizeOf71
 v24:=Tryz.zeroValue71
 t40:=Tryz.underlying195
 a40:=Tryz.isAgg195
 z40:=Tryz.sizeOf195
 v40:=Tryz.zeroValue195}
theorem Tryz.slices_BinarySearch_string (b off n c:Nat) (Sx:Nat->ByteArray) (x:ByteArray) (w:World) (hbig:n<4611686018427387904) (hc: ∀j,j<n->w.cell? ⟨b,off+j,none⟩=some (.string (Sx j))):
  Calls Tryz.prog 195 #[.slice (some ⟨b,off,none⟩) n c,.string x] w fun e w'=>
   e= .returned (.tuple #[.int .i64 (Lib.bsGo (fun t=>Op.bytesLess (Sx t).toList x.toList) n 0 n:Nat),.bool (decide (Lib.bsGo (fun t=>Op.bytesLess (Sx t).toList x.toList) n 0 n<n/\Sx (Lib.bsGo (fun t=>Op.bytesLess (Sx t).toList x.toList) n 0 n)=x))])/\∃q,w'=w.drewN q:=Any2.slices_BinarySearch_string Tryz.laysNm226 b off n c Sx x w hbig hc
end
end Go.Proofs
namespace Go.Proofs.YtlkcjmaiahnodaaGreatDoor
open Go.RowKit Go.Hw Go Tm
def uY:List (List UInt8):=[[97,110,100],[98,111,111,108],[98,111,117,110,100],[100,101,115,99],[101,108,115,101],[102,97,108,115,101],[105,102],[105,110,116],[105,110,118,97,114,105,97,110,116],[108,111,99,97,108],[108,111,103],[109,97,120],[109,101,97,115,117,114,101],[109,105,110],[110,101,119],[110,105,108],[110,111,116],[111,112],[111,114],[112,111,116,101,110,116,105,97,108],[112,114,111,99],[114,101,116,117,114,110],[114,117,108,101],[115,99,114,105,112,116],[115,111,114,116],[115,112,101,99],[116,104,105,115],[116,114,117,101],[116,121,112,101],[118,97,114],[119,104,105,108,101]]
def Hg:List (List UInt8):=[[116,121,112,101],[118,97,114],[112,114,111,99],[108,111,99,97,108],[109,101,97,115,117,114,101],[105,110,118,97,114,105,97,110,116],[112,111,116,101,110,116,105,97,108],[98,111,117,110,100],[105,102],[101,108,115,101],[119,104,105,108,101],[114,101,116,117,114,110],[110,101,119],[110,105,108],[116,114,117,101],[102,97,108,115,101],[97,110,100],[111,114],[110,111,116],[109,97,120],[109,105,110],[108,111,103],[105,110,116],[98,111,111,108],[116,104,105,115],[115,111,114,116],[111,112],[114,117,108,101],[115,112,101,99],[100,101,115,99],[115,99,114,105,112,116]]
def Fa (s:ByteArray):Bool:=decide (s.data.toList∈uY)
def ed (c:Nat):Bool:=(decide (97<=c)&&decide (c<=122))||(decide (65<=c)&&decide (c<=90))
def fK (c:Nat):Bool:=decide (48<=c)&&decide (c<=57)
def sF (c:Nat):Bool:=ed c||fK c||decide (c=95)
def fJ (c:Nat):Nat:=if c=32\/c=9\/c=13\/c=10 then 1 else if ed c=true then 2 else if fK c=true then 3 else if c=95 then 4 else 0
def aB (s:ByteArray):Bool:=decide (0<s.size/\s.size<=40)&&(ed ((s.data.toList.getD 0 0).toNat)&&(s.data.toList.all (fun b=>sF b.toNat)&&!Fa s))
theorem ac1 (l:List UInt8):l∈Hg<->l∈uY:=by
 have h1: ∀x∈Hg,x∈uY:=by decide+kernel
 have h2: ∀x∈uY,x∈Hg:=by decide+kernel
 exact⟨h1 l,h2 l⟩
theorem Dk:uY.length=31:=by decide+kernel
theorem agH: ∀m:Fin 31,Lib.bsGo (fun t=>Op.bytesLess (uY.getD t []) (uY.getD m.val [])) 31 0 31=m.val:=by decide+kernel
theorem kD {a b:ByteArray} (h:a.data.toList=b.data.toList):a=b:=by
 cases a;cases b;rw[ByteArray.mk.injEq];exact Array.toList_inj.1 h
def Hl (t:Nat):ByteArray:=⟨(uY.getD t []).toArray⟩
theorem FY (t:Nat):(Hl t).data.toList=uY.getD t []:=rfl
theorem agI (x:ByteArray):decide (Lib.bsGo (fun t=>Op.bytesLess (Hl t).toList x.toList) 31 0 31<31/\Hl (Lib.bsGo (fun t=>Op.bytesLess (Hl t).toList x.toList) 31 0 31)=x)=Fa x:=by
 have e:(fun t=>Op.bytesLess (Hl t).toList x.toList)=fun t=>Op.bytesLess (uY.getD t []) x.data.toList:=by
  funext t;rw[Lib.toList_data,Lib.toList_data,FY]
 rw[e];unfold Fa;rw[decide_eq_decide];constructor
 .rintro ⟨h1,h2⟩;generalize Lib.bsGo (fun t=>Op.bytesLess (uY.getD t []) x.data.toList) 31 0 31=m at*;rw[<-h2,FY];have:m<uY.length:=by rw[Dk];exact h1
  simp[this]
 .intro h;obtain⟨m,hm,he⟩:=List.getElem_of_mem h;rw[Dk] at hm;have h1:=agH ⟨m,hm⟩;have h2:uY.getD m []=x.data.toList:=by
   rw[<-he,List.getD_eq_getElem?_getD,List.getElem?_eq_getElem (by rw[Dk];exact hm)];rfl
  dsimp only at h1;rw[h2] at h1;rw[h1];exact⟨hm,kD (by rw[FY,h2])⟩
abbrev cO (w:World):Prop:=Lib.TabIs Tryz.prog w "strings.asciiSpace" .u8 Lib.asciiSpaceTab
theorem aJ {w w':World} (h:cO w) (hb:Ext w w'):cO w':=by
 unfold cO Lib.TabIs World.var? at*;cases hg:Tryz.prog.globalNamed "strings.asciiSpace" with
 |none=>simp[hg] at h
 |some g=>
  simp only[hg,Option.bind_some] at h⊢;have hlt:g<w.heap.size:=by
   rcases Nat.lt_or_ge g w.heap.size with h'|h'
   .exact h'
   .rw [Array.getElem?_eq_none h'] at h;simp at h
  rw[hb.block g hlt (fun x=>x)];exact h
def Qr:Obj:= .cells (uY.map fun l=>Value.string ⟨l.toArray⟩).toArray 9
theorem U8 (s:ByteArray) (w:World) (h1:Lib.fields s.data.toList=uY) (h2:(s.data.toList.all fun b=>decide (b.toNat<128))=true) (h3:s.size<4294967281) (htab:cO w):
  Calls Tryz.prog 230 #[.string s] w fun e w'=>e= .returned (.slice (some ⟨w.heap.size,0,none⟩) 31 31)/\w'=w.alloc Qr:=by
 have h:=Tryz.strings_Fields s w h3 (fun j b hb=>by have:=List.all_eq_true.1 h2 b (List.mem_of_getElem? hb);simpa using this) htab;rw[h1,Dk] at h;exact h
theorem SG (w:World) (htab:cO w):Calls Tryz.prog 196 #[] w fun e w'=>e= .returned (.slice (some ⟨w.heap.size,0,none⟩) 31 31)/\w'=w.alloc Qr:=by
 have HT:=ae htab;clear htab
 go_enter Tryz.func196,Tryz.ntmps196
 go_wp2_with fail
 refine(U8 _ _ (by kernel_rfl) (by kernel_rfl) (by decide+kernel) HT.out).mono ?_;rintro e w' ⟨rfl,rfl⟩
 go_wp2_with fail
 go_ret;exact⟨rfl,rfl⟩
theorem XB (w:World) (j:Nat) (hj:j<31):(w.alloc Qr).cell? ⟨w.heap.size,0+j,none⟩=some (.string (Hl j)):=by
 refine ag (t:=9) (cs:=(uY.map fun l=>Value.string ⟨l.toArray⟩).toArray) (aj w Qr) _ _ ?_;have:j<uY.length:=by rw[Dk];exact hj
 simp[Hl,this]
theorem PL (x:ByteArray) (w:World) (htab:cO w):Calls Tryz.prog 147 #[.string x] w fun e w'=>e= .returned (.bool (Fa x))/\Ext w w':=by
 have HK:=ae (SG w htab);have HB:=ae (Tryz.slices_BinarySearch_string w.heap.size 0 31 31 Hl x (w.alloc Qr) (by decide) (fun j hj=>XB w j hj));have HS:=ae (agI x);have HE:Hid (Ext w (w.alloc Qr)):=(au.refl _ w).alloc _;clear htab
 go_enter Tryz.func147,Tryz.ntmps147
 go_wp2_with fail
 refine HK.out.mono ?_;rintro e w' ⟨rfl,rfl⟩
 go_wp2_with fail
 refine HB.out.mono ?_;rintro e w' ⟨rfl,q,rfl⟩;rw[HS.out];generalize Lib.bsGo (fun t=>Op.bytesLess (Hl t).toList x.toList) 31 0 31=Y at*
 go_wp2_with fail
 go_ret;exact⟨rfl,HE.out.drewN' _⟩
theorem Qp (c:Nat) (w:World) (hc:c<=255):Calls Tryz.prog 146 #[.int .u8 c] w fun e w'=>e= .returned (.int .i64 (fJ c:Nat))/\w=w':=by
 by_cases h:0<=c/\c<=8
 .obtain ⟨h1,h2⟩:=h;have e32:((c:Int)==32)=false:=beq_eq_false_iff_ne.2 (by omega);have d32: ¬(c=32):=by omega
  have e9:((c:Int)==9)=false:=beq_eq_false_iff_ne.2 (by omega);have d9: ¬(c=9):=by omega
  have e13:((c:Int)==13)=false:=beq_eq_false_iff_ne.2 (by omega);have d13: ¬(c=13):=by omega
  have e10:((c:Int)==10)=false:=beq_eq_false_iff_ne.2 (by omega);have d10: ¬(c=10):=by omega
  have Bl:((c:Int)==95)=false:=beq_eq_false_iff_ne.2 (by omega);have d95: ¬(c=95):=by omega
  have sG: ¬(97<=(c:Int)):=by omega
  have nC: ¬(97<=c):=by omega
  have nD:((c:Int)<=122):=by omega
  have jU:(c<=122):=by omega
  have sH: ¬(65<=(c:Int)):=by omega
  have nG: ¬(65<=c):=by omega
  have sJ:((c:Int)<=90):=by omega
  have nH:(c<=90):=by omega
  have g48: ¬(48<=(c:Int)):=by omega
  have nI: ¬(48<=c):=by omega
  have sK:((c:Int)<=57):=by omega
  have nJ:(c<=57):=by omega
  rw[show fJ c=0 by{unfold fJ;simp[ed,fK, *]}];clear h1 h2 hc
  go_enter Tryz.func146,Tryz.ntmps146
  go_wp2_with fail
  go_ret;exact⟨rfl,rfl⟩
 by_cases h:c=9
 .subst h
  go_enter Tryz.func146,Tryz.ntmps146
  go_wp2_with fail
  go_ret;exact⟨rfl,rfl⟩
 by_cases h:c=10
 .subst h
  go_enter Tryz.func146,Tryz.ntmps146
  go_wp2_with fail
  go_ret;exact⟨rfl,rfl⟩
 by_cases h:11<=c/\c<=12
 .obtain ⟨h1,h2⟩:=h;have e32:((c:Int)==32)=false:=beq_eq_false_iff_ne.2 (by omega);have d32: ¬(c=32):=by omega
  have e9:((c:Int)==9)=false:=beq_eq_false_iff_ne.2 (by omega);have d9: ¬(c=9):=by omega
  have e13:((c:Int)==13)=false:=beq_eq_false_iff_ne.2 (by omega);have d13: ¬(c=13):=by omega
  have e10:((c:Int)==10)=false:=beq_eq_false_iff_ne.2 (by omega);have d10: ¬(c=10):=by omega
  have Bl:((c:Int)==95)=false:=beq_eq_false_iff_ne.2 (by omega);have d95: ¬(c=95):=by omega
  have sG: ¬(97<=(c:Int)):=by omega
  have nC: ¬(97<=c):=by omega
  have nD:((c:Int)<=122):=by omega
  have jU:(c<=122):=by omega
  have sH: ¬(65<=(c:Int)):=by omega
  have nG: ¬(65<=c):=by omega
  have sJ:((c:Int)<=90):=by omega
  have nH:(c<=90):=by omega
  have g48: ¬(48<=(c:Int)):=by omega
  have nI: ¬(48<=c):=by omega
  have sK:((c:Int)<=57):=by omega
  have nJ:(c<=57):=by omega
  rw[show fJ c=0 by{unfold fJ;simp[ed,fK, *]}];clear h1 h2 hc
  go_enter Tryz.func146,Tryz.ntmps146
  go_wp2_with fail
  go_ret;exact⟨rfl,rfl⟩
 by_cases h:c=13
 .subst h
  go_enter Tryz.func146,Tryz.ntmps146
  go_wp2_with fail
  go_ret;exact⟨rfl,rfl⟩
 by_cases h:14<=c/\c<=31
 .obtain ⟨h1,h2⟩:=h;have e32:((c:Int)==32)=false:=beq_eq_false_iff_ne.2 (by omega);have d32: ¬(c=32):=by omega
  have e9:((c:Int)==9)=false:=beq_eq_false_iff_ne.2 (by omega);have d9: ¬(c=9):=by omega
  have e13:((c:Int)==13)=false:=beq_eq_false_iff_ne.2 (by omega);have d13: ¬(c=13):=by omega
  have e10:((c:Int)==10)=false:=beq_eq_false_iff_ne.2 (by omega);have d10: ¬(c=10):=by omega
  have Bl:((c:Int)==95)=false:=beq_eq_false_iff_ne.2 (by omega);have d95: ¬(c=95):=by omega
  have sG: ¬(97<=(c:Int)):=by omega
  have nC: ¬(97<=c):=by omega
  have nD:((c:Int)<=122):=by omega
  have jU:(c<=122):=by omega
  have sH: ¬(65<=(c:Int)):=by omega
  have nG: ¬(65<=c):=by omega
  have sJ:((c:Int)<=90):=by omega
  have nH:(c<=90):=by omega
  have g48: ¬(48<=(c:Int)):=by omega
  have nI: ¬(48<=c):=by omega
  have sK:((c:Int)<=57):=by omega
  have nJ:(c<=57):=by omega
  rw[show fJ c=0 by{unfold fJ;simp[ed,fK, *]}];clear h1 h2 hc
  go_enter Tryz.func146,Tryz.ntmps146
  go_wp2_with fail
  go_ret;exact⟨rfl,rfl⟩
 by_cases h:c=32
 .subst h
  go_enter Tryz.func146,Tryz.ntmps146
  go_wp2_with fail
  go_ret;exact⟨rfl,rfl⟩
 by_cases h:33<=c/\c<=47
 .obtain ⟨h1,h2⟩:=h;have e32:((c:Int)==32)=false:=beq_eq_false_iff_ne.2 (by omega);have d32: ¬(c=32):=by omega
  have e9:((c:Int)==9)=false:=beq_eq_false_iff_ne.2 (by omega);have d9: ¬(c=9):=by omega
  have e13:((c:Int)==13)=false:=beq_eq_false_iff_ne.2 (by omega);have d13: ¬(c=13):=by omega
  have e10:((c:Int)==10)=false:=beq_eq_false_iff_ne.2 (by omega);have d10: ¬(c=10):=by omega
  have Bl:((c:Int)==95)=false:=beq_eq_false_iff_ne.2 (by omega);have d95: ¬(c=95):=by omega
  have sG: ¬(97<=(c:Int)):=by omega
  have nC: ¬(97<=c):=by omega
  have nD:((c:Int)<=122):=by omega
  have jU:(c<=122):=by omega
  have sH: ¬(65<=(c:Int)):=by omega
  have nG: ¬(65<=c):=by omega
  have sJ:((c:Int)<=90):=by omega
  have nH:(c<=90):=by omega
  have g48: ¬(48<=(c:Int)):=by omega
  have nI: ¬(48<=c):=by omega
  have sK:((c:Int)<=57):=by omega
  have nJ:(c<=57):=by omega
  rw[show fJ c=0 by{unfold fJ;simp[ed,fK, *]}];clear h1 h2 hc
  go_enter Tryz.func146,Tryz.ntmps146
  go_wp2_with fail
  go_ret;exact⟨rfl,rfl⟩
 by_cases h:48<=c/\c<=57
 .obtain ⟨h1,h2⟩:=h;have e32:((c:Int)==32)=false:=beq_eq_false_iff_ne.2 (by omega);have d32: ¬(c=32):=by omega
  have e9:((c:Int)==9)=false:=beq_eq_false_iff_ne.2 (by omega);have d9: ¬(c=9):=by omega
  have e13:((c:Int)==13)=false:=beq_eq_false_iff_ne.2 (by omega);have d13: ¬(c=13):=by omega
  have e10:((c:Int)==10)=false:=beq_eq_false_iff_ne.2 (by omega);have d10: ¬(c=10):=by omega
  have Bl:((c:Int)==95)=false:=beq_eq_false_iff_ne.2 (by omega);have d95: ¬(c=95):=by omega
  have sG: ¬(97<=(c:Int)):=by omega
  have nC: ¬(97<=c):=by omega
  have nD:((c:Int)<=122):=by omega
  have jU:(c<=122):=by omega
  have sH: ¬(65<=(c:Int)):=by omega
  have nG: ¬(65<=c):=by omega
  have sJ:((c:Int)<=90):=by omega
  have nH:(c<=90):=by omega
  have g48:(48<=(c:Int)):=by omega
  have nI:(48<=c):=by omega
  have sK:((c:Int)<=57):=by omega
  have nJ:(c<=57):=by omega
  rw[show fJ c=3 by{unfold fJ;simp[ed,fK, *]}];clear h1 h2 hc
  go_enter Tryz.func146,Tryz.ntmps146
  go_wp2_with fail
  go_ret;exact⟨rfl,rfl⟩
 by_cases h:58<=c/\c<=64
 .obtain ⟨h1,h2⟩:=h;have e32:((c:Int)==32)=false:=beq_eq_false_iff_ne.2 (by omega);have d32: ¬(c=32):=by omega
  have e9:((c:Int)==9)=false:=beq_eq_false_iff_ne.2 (by omega);have d9: ¬(c=9):=by omega
  have e13:((c:Int)==13)=false:=beq_eq_false_iff_ne.2 (by omega);have d13: ¬(c=13):=by omega
  have e10:((c:Int)==10)=false:=beq_eq_false_iff_ne.2 (by omega);have d10: ¬(c=10):=by omega
  have Bl:((c:Int)==95)=false:=beq_eq_false_iff_ne.2 (by omega);have d95: ¬(c=95):=by omega
  have sG: ¬(97<=(c:Int)):=by omega
  have nC: ¬(97<=c):=by omega
  have nD:((c:Int)<=122):=by omega
  have jU:(c<=122):=by omega
  have sH: ¬(65<=(c:Int)):=by omega
  have nG: ¬(65<=c):=by omega
  have sJ:((c:Int)<=90):=by omega
  have nH:(c<=90):=by omega
  have g48:(48<=(c:Int)):=by omega
  have nI:(48<=c):=by omega
  have sK: ¬((c:Int)<=57):=by omega
  have nJ: ¬(c<=57):=by omega
  rw[show fJ c=0 by{unfold fJ;simp[ed,fK, *]}];clear h1 h2 hc
  go_enter Tryz.func146,Tryz.ntmps146
  go_wp2_with fail
  go_ret;exact⟨rfl,rfl⟩
 by_cases h:65<=c/\c<=90
 .obtain ⟨h1,h2⟩:=h;have e32:((c:Int)==32)=false:=beq_eq_false_iff_ne.2 (by omega);have d32: ¬(c=32):=by omega
  have e9:((c:Int)==9)=false:=beq_eq_false_iff_ne.2 (by omega);have d9: ¬(c=9):=by omega
  have e13:((c:Int)==13)=false:=beq_eq_false_iff_ne.2 (by omega);have d13: ¬(c=13):=by omega
  have e10:((c:Int)==10)=false:=beq_eq_false_iff_ne.2 (by omega);have d10: ¬(c=10):=by omega
  have Bl:((c:Int)==95)=false:=beq_eq_false_iff_ne.2 (by omega);have d95: ¬(c=95):=by omega
  have sG: ¬(97<=(c:Int)):=by omega
  have nC: ¬(97<=c):=by omega
  have nD:((c:Int)<=122):=by omega
  have jU:(c<=122):=by omega
  have sH:(65<=(c:Int)):=by omega
  have nG:(65<=c):=by omega
  have sJ:((c:Int)<=90):=by omega
  have nH:(c<=90):=by omega
  have g48:(48<=(c:Int)):=by omega
  have nI:(48<=c):=by omega
  have sK: ¬((c:Int)<=57):=by omega
  have nJ: ¬(c<=57):=by omega
  rw[show fJ c=2 by{unfold fJ;simp[ed,fK, *]}];clear h1 h2 hc
  go_enter Tryz.func146,Tryz.ntmps146
  go_wp2_with fail
  go_ret;exact⟨rfl,rfl⟩
 by_cases h:91<=c/\c<=94
 .obtain ⟨h1,h2⟩:=h;have e32:((c:Int)==32)=false:=beq_eq_false_iff_ne.2 (by omega);have d32: ¬(c=32):=by omega
  have e9:((c:Int)==9)=false:=beq_eq_false_iff_ne.2 (by omega);have d9: ¬(c=9):=by omega
  have e13:((c:Int)==13)=false:=beq_eq_false_iff_ne.2 (by omega);have d13: ¬(c=13):=by omega
  have e10:((c:Int)==10)=false:=beq_eq_false_iff_ne.2 (by omega);have d10: ¬(c=10):=by omega
  have Bl:((c:Int)==95)=false:=beq_eq_false_iff_ne.2 (by omega);have d95: ¬(c=95):=by omega
  have sG: ¬(97<=(c:Int)):=by omega
  have nC: ¬(97<=c):=by omega
  have nD:((c:Int)<=122):=by omega
  have jU:(c<=122):=by omega
  have sH:(65<=(c:Int)):=by omega
  have nG:(65<=c):=by omega
  have sJ: ¬((c:Int)<=90):=by omega
  have nH: ¬(c<=90):=by omega
  have g48:(48<=(c:Int)):=by omega
  have nI:(48<=c):=by omega
  have sK: ¬((c:Int)<=57):=by omega
  have nJ: ¬(c<=57):=by omega
  rw[show fJ c=0 by{unfold fJ;simp[ed,fK, *]}];clear h1 h2 hc
  go_enter Tryz.func146,Tryz.ntmps146
  go_wp2_with fail
  go_ret;exact⟨rfl,rfl⟩
 by_cases h:c=95
 .subst h
  go_enter Tryz.func146,Tryz.ntmps146
  go_wp2_with fail
  go_ret;exact⟨rfl,rfl⟩
 by_cases h:c=96
 .subst h
  go_enter Tryz.func146,Tryz.ntmps146
  go_wp2_with fail
  go_ret;exact⟨rfl,rfl⟩
 by_cases h:97<=c/\c<=122
 .obtain ⟨h1,h2⟩:=h;have e32:((c:Int)==32)=false:=beq_eq_false_iff_ne.2 (by omega);have d32: ¬(c=32):=by omega
  have e9:((c:Int)==9)=false:=beq_eq_false_iff_ne.2 (by omega);have d9: ¬(c=9):=by omega
  have e13:((c:Int)==13)=false:=beq_eq_false_iff_ne.2 (by omega);have d13: ¬(c=13):=by omega
  have e10:((c:Int)==10)=false:=beq_eq_false_iff_ne.2 (by omega);have d10: ¬(c=10):=by omega
  have Bl:((c:Int)==95)=false:=beq_eq_false_iff_ne.2 (by omega);have d95: ¬(c=95):=by omega
  have sG:(97<=(c:Int)):=by omega
  have nC:(97<=c):=by omega
  have nD:((c:Int)<=122):=by omega
  have jU:(c<=122):=by omega
  have sH:(65<=(c:Int)):=by omega
  have nG:(65<=c):=by omega
  have sJ: ¬((c:Int)<=90):=by omega
  have nH: ¬(c<=90):=by omega
  have g48:(48<=(c:Int)):=by omega
  have nI:(48<=c):=by omega
  have sK: ¬((c:Int)<=57):=by omega
  have nJ: ¬(c<=57):=by omega
  rw[show fJ c=2 by{unfold fJ;simp[ed,fK, *]}];clear h1 h2 hc
  go_enter Tryz.func146,Tryz.ntmps146
  go_wp2_with fail
  go_ret;exact⟨rfl,rfl⟩
 by_cases h:123<=c/\c<=255
 .obtain ⟨h1,h2⟩:=h;have e32:((c:Int)==32)=false:=beq_eq_false_iff_ne.2 (by omega);have d32: ¬(c=32):=by omega
  have e9:((c:Int)==9)=false:=beq_eq_false_iff_ne.2 (by omega);have d9: ¬(c=9):=by omega
  have e13:((c:Int)==13)=false:=beq_eq_false_iff_ne.2 (by omega);have d13: ¬(c=13):=by omega
  have e10:((c:Int)==10)=false:=beq_eq_false_iff_ne.2 (by omega);have d10: ¬(c=10):=by omega
  have Bl:((c:Int)==95)=false:=beq_eq_false_iff_ne.2 (by omega);have d95: ¬(c=95):=by omega
  have sG:(97<=(c:Int)):=by omega
  have nC:(97<=c):=by omega
  have nD: ¬((c:Int)<=122):=by omega
  have jU: ¬(c<=122):=by omega
  have sH:(65<=(c:Int)):=by omega
  have nG:(65<=c):=by omega
  have sJ: ¬((c:Int)<=90):=by omega
  have nH: ¬(c<=90):=by omega
  have g48:(48<=(c:Int)):=by omega
  have nI:(48<=c):=by omega
  have sK: ¬((c:Int)<=57):=by omega
  have nJ: ¬(c<=57):=by omega
  rw[show fJ c=0 by{unfold fJ;simp[ed,fK, *]}];clear h1 h2 hc
  go_enter Tryz.func146,Tryz.ntmps146
  go_wp2_with fail
  go_ret;exact⟨rfl,rfl⟩
 omega
theorem Nc (c:Nat) (w:World) (hc:c<=255):Calls Tryz.prog 156 #[.int .u8 c] w fun e w'=>e= .returned (.bool (ed c))/\w=w':=by
 by_cases h:0<=c/\c<=8
 .obtain ⟨h1,h2⟩:=h;have sG: ¬(97<=(c:Int)):=by omega
  have nC: ¬(97<=c):=by omega
  have nD:((c:Int)<=122):=by omega
  have jU:(c<=122):=by omega
  have sH: ¬(65<=(c:Int)):=by omega
  have nG: ¬(65<=c):=by omega
  have sJ:((c:Int)<=90):=by omega
  have nH:(c<=90):=by omega
  rw[show ed c=false by{unfold ed;simp[*]}];clear h1 h2 hc
  go_enter Tryz.func156,Tryz.ntmps156
  go_wp2_with fail
  go_ret;exact⟨rfl,rfl⟩
 by_cases h:c=9
 .subst h
  go_enter Tryz.func156,Tryz.ntmps156
  go_wp2_with fail
  go_ret;exact⟨rfl,rfl⟩
 by_cases h:c=10
 .subst h
  go_enter Tryz.func156,Tryz.ntmps156
  go_wp2_with fail
  go_ret;exact⟨rfl,rfl⟩
 by_cases h:11<=c/\c<=12
 .obtain ⟨h1,h2⟩:=h;have sG: ¬(97<=(c:Int)):=by omega
  have nC: ¬(97<=c):=by omega
  have nD:((c:Int)<=122):=by omega
  have jU:(c<=122):=by omega
  have sH: ¬(65<=(c:Int)):=by omega
  have nG: ¬(65<=c):=by omega
  have sJ:((c:Int)<=90):=by omega
  have nH:(c<=90):=by omega
  rw[show ed c=false by{unfold ed;simp[*]}];clear h1 h2 hc
  go_enter Tryz.func156,Tryz.ntmps156
  go_wp2_with fail
  go_ret;exact⟨rfl,rfl⟩
 by_cases h:c=13
 .subst h
  go_enter Tryz.func156,Tryz.ntmps156
  go_wp2_with fail
  go_ret;exact⟨rfl,rfl⟩
 by_cases h:14<=c/\c<=31
 .obtain ⟨h1,h2⟩:=h;have sG: ¬(97<=(c:Int)):=by omega
  have nC: ¬(97<=c):=by omega
  have nD:((c:Int)<=122):=by omega
  have jU:(c<=122):=by omega
  have sH: ¬(65<=(c:Int)):=by omega
  have nG: ¬(65<=c):=by omega
  have sJ:((c:Int)<=90):=by omega
  have nH:(c<=90):=by omega
  rw[show ed c=false by{unfold ed;simp[*]}];clear h1 h2 hc
  go_enter Tryz.func156,Tryz.ntmps156
  go_wp2_with fail
  go_ret;exact⟨rfl,rfl⟩
 by_cases h:c=32
 .subst h
  go_enter Tryz.func156,Tryz.ntmps156
  go_wp2_with fail
  go_ret;exact⟨rfl,rfl⟩
 by_cases h:33<=c/\c<=47
 .obtain ⟨h1,h2⟩:=h;have sG: ¬(97<=(c:Int)):=by omega
  have nC: ¬(97<=c):=by omega
  have nD:((c:Int)<=122):=by omega
  have jU:(c<=122):=by omega
  have sH: ¬(65<=(c:Int)):=by omega
  have nG: ¬(65<=c):=by omega
  have sJ:((c:Int)<=90):=by omega
  have nH:(c<=90):=by omega
  rw[show ed c=false by{unfold ed;simp[*]}];clear h1 h2 hc
  go_enter Tryz.func156,Tryz.ntmps156
  go_wp2_with fail
  go_ret;exact⟨rfl,rfl⟩
 by_cases h:48<=c/\c<=57
 .obtain ⟨h1,h2⟩:=h;have sG: ¬(97<=(c:Int)):=by omega
  have nC: ¬(97<=c):=by omega
  have nD:((c:Int)<=122):=by omega
  have jU:(c<=122):=by omega
  have sH: ¬(65<=(c:Int)):=by omega
  have nG: ¬(65<=c):=by omega
  have sJ:((c:Int)<=90):=by omega
  have nH:(c<=90):=by omega
  rw[show ed c=false by{unfold ed;simp[*]}];clear h1 h2 hc
  go_enter Tryz.func156,Tryz.ntmps156
  go_wp2_with fail
  go_ret;exact⟨rfl,rfl⟩
 by_cases h:58<=c/\c<=64
 .obtain ⟨h1,h2⟩:=h;have sG: ¬(97<=(c:Int)):=by omega
  have nC: ¬(97<=c):=by omega
  have nD:((c:Int)<=122):=by omega
  have jU:(c<=122):=by omega
  have sH: ¬(65<=(c:Int)):=by omega
  have nG: ¬(65<=c):=by omega
  have sJ:((c:Int)<=90):=by omega
  have nH:(c<=90):=by omega
  rw[show ed c=false by{unfold ed;simp[*]}];clear h1 h2 hc
  go_enter Tryz.func156,Tryz.ntmps156
  go_wp2_with fail
  go_ret;exact⟨rfl,rfl⟩
 by_cases h:65<=c/\c<=90
 .obtain ⟨h1,h2⟩:=h;have sG: ¬(97<=(c:Int)):=by omega
  have nC: ¬(97<=c):=by omega
  have nD:((c:Int)<=122):=by omega
  have jU:(c<=122):=by omega
  have sH:(65<=(c:Int)):=by omega
  have nG:(65<=c):=by omega
  have sJ:((c:Int)<=90):=by omega
  have nH:(c<=90):=by omega
  rw[show ed c=true by{unfold ed;simp[*]}];clear h1 h2 hc
  go_enter Tryz.func156,Tryz.ntmps156
  go_wp2_with fail
  go_ret;exact⟨rfl,rfl⟩
 by_cases h:91<=c/\c<=94
 .obtain ⟨h1,h2⟩:=h;have sG: ¬(97<=(c:Int)):=by omega
  have nC: ¬(97<=c):=by omega
  have nD:((c:Int)<=122):=by omega
  have jU:(c<=122):=by omega
  have sH:(65<=(c:Int)):=by omega
  have nG:(65<=c):=by omega
  have sJ: ¬((c:Int)<=90):=by omega
  have nH: ¬(c<=90):=by omega
  rw[show ed c=false by{unfold ed;simp[*]}];clear h1 h2 hc
  go_enter Tryz.func156,Tryz.ntmps156
  go_wp2_with fail
  go_ret;exact⟨rfl,rfl⟩
 by_cases h:c=95
 .subst h
  go_enter Tryz.func156,Tryz.ntmps156
  go_wp2_with fail
  go_ret;exact⟨rfl,rfl⟩
 by_cases h:c=96
 .subst h
  go_enter Tryz.func156,Tryz.ntmps156
  go_wp2_with fail
  go_ret;exact⟨rfl,rfl⟩
 by_cases h:97<=c/\c<=122
 .obtain ⟨h1,h2⟩:=h;have sG:(97<=(c:Int)):=by omega
  have nC:(97<=c):=by omega
  have nD:((c:Int)<=122):=by omega
  have jU:(c<=122):=by omega
  have sH:(65<=(c:Int)):=by omega
  have nG:(65<=c):=by omega
  have sJ: ¬((c:Int)<=90):=by omega
  have nH: ¬(c<=90):=by omega
  rw[show ed c=true by{unfold ed;simp[*]}];clear h1 h2 hc
  go_enter Tryz.func156,Tryz.ntmps156
  go_wp2_with fail
  go_ret;exact⟨rfl,rfl⟩
 by_cases h:123<=c/\c<=255
 .obtain ⟨h1,h2⟩:=h;have sG:(97<=(c:Int)):=by omega
  have nC:(97<=c):=by omega
  have nD: ¬((c:Int)<=122):=by omega
  have jU: ¬(c<=122):=by omega
  have sH:(65<=(c:Int)):=by omega
  have nG:(65<=c):=by omega
  have sJ: ¬((c:Int)<=90):=by omega
  have nH: ¬(c<=90):=by omega
  rw[show ed c=false by{unfold ed;simp[*]}];clear h1 h2 hc
  go_enter Tryz.func156,Tryz.ntmps156
  go_wp2_with fail
  go_ret;exact⟨rfl,rfl⟩
 omega
theorem aa2 (c:Nat) (w:World) (hc:c<=255):Calls Tryz.prog 197 #[.int .u8 c] w fun e w'=>e= .returned (.bool (fK c))/\w=w':=by
 by_cases h:0<=c/\c<=8
 .obtain ⟨h1,h2⟩:=h;have g48: ¬(48<=(c:Int)):=by omega
  have nI: ¬(48<=c):=by omega
  have sK:((c:Int)<=57):=by omega
  have nJ:(c<=57):=by omega
  rw[show fK c=false by{unfold fK;simp[*]}];clear h1 h2 hc
  go_enter Tryz.func197,Tryz.ntmps197
  go_wp2_with fail
  go_ret;exact⟨rfl,rfl⟩
 by_cases h:c=9
 .subst h
  go_enter Tryz.func197,Tryz.ntmps197
  go_wp2_with fail
  go_ret;exact⟨rfl,rfl⟩
 by_cases h:c=10
 .subst h
  go_enter Tryz.func197,Tryz.ntmps197
  go_wp2_with fail
  go_ret;exact⟨rfl,rfl⟩
 by_cases h:11<=c/\c<=12
 .obtain ⟨h1,h2⟩:=h;have g48: ¬(48<=(c:Int)):=by omega
  have nI: ¬(48<=c):=by omega
  have sK:((c:Int)<=57):=by omega
  have nJ:(c<=57):=by omega
  rw[show fK c=false by{unfold fK;simp[*]}];clear h1 h2 hc
  go_enter Tryz.func197,Tryz.ntmps197
  go_wp2_with fail
  go_ret;exact⟨rfl,rfl⟩
 by_cases h:c=13
 .subst h
  go_enter Tryz.func197,Tryz.ntmps197
  go_wp2_with fail
  go_ret;exact⟨rfl,rfl⟩
 by_cases h:14<=c/\c<=31
 .obtain ⟨h1,h2⟩:=h;have g48: ¬(48<=(c:Int)):=by omega
  have nI: ¬(48<=c):=by omega
  have sK:((c:Int)<=57):=by omega
  have nJ:(c<=57):=by omega
  rw[show fK c=false by{unfold fK;simp[*]}];clear h1 h2 hc
  go_enter Tryz.func197,Tryz.ntmps197
  go_wp2_with fail
  go_ret;exact⟨rfl,rfl⟩
 by_cases h:c=32
 .subst h
  go_enter Tryz.func197,Tryz.ntmps197
  go_wp2_with fail
  go_ret;exact⟨rfl,rfl⟩
 by_cases h:33<=c/\c<=47
 .obtain ⟨h1,h2⟩:=h;have g48: ¬(48<=(c:Int)):=by omega
  have nI: ¬(48<=c):=by omega
  have sK:((c:Int)<=57):=by omega
  have nJ:(c<=57):=by omega
  rw[show fK c=false by{unfold fK;simp[*]}];clear h1 h2 hc
  go_enter Tryz.func197,Tryz.ntmps197
  go_wp2_with fail
  go_ret;exact⟨rfl,rfl⟩
 by_cases h:48<=c/\c<=57
 .obtain ⟨h1,h2⟩:=h;have g48:(48<=(c:Int)):=by omega
  have nI:(48<=c):=by omega
  have sK:((c:Int)<=57):=by omega
  have nJ:(c<=57):=by omega
  rw[show fK c=true by{unfold fK;simp[*]}];clear h1 h2 hc
  go_enter Tryz.func197,Tryz.ntmps197
  go_wp2_with fail
  go_ret;exact⟨rfl,rfl⟩
 by_cases h:58<=c/\c<=64
 .obtain ⟨h1,h2⟩:=h;have g48:(48<=(c:Int)):=by omega
  have nI:(48<=c):=by omega
  have sK: ¬((c:Int)<=57):=by omega
  have nJ: ¬(c<=57):=by omega
  rw[show fK c=false by{unfold fK;simp[*]}];clear h1 h2 hc
  go_enter Tryz.func197,Tryz.ntmps197
  go_wp2_with fail
  go_ret;exact⟨rfl,rfl⟩
 by_cases h:65<=c/\c<=90
 .obtain ⟨h1,h2⟩:=h;have g48:(48<=(c:Int)):=by omega
  have nI:(48<=c):=by omega
  have sK: ¬((c:Int)<=57):=by omega
  have nJ: ¬(c<=57):=by omega
  rw[show fK c=false by{unfold fK;simp[*]}];clear h1 h2 hc
  go_enter Tryz.func197,Tryz.ntmps197
  go_wp2_with fail
  go_ret;exact⟨rfl,rfl⟩
 by_cases h:91<=c/\c<=94
 .obtain ⟨h1,h2⟩:=h;have g48:(48<=(c:Int)):=by omega
  have nI:(48<=c):=by omega
  have sK: ¬((c:Int)<=57):=by omega
  have nJ: ¬(c<=57):=by omega
  rw[show fK c=false by{unfold fK;simp[*]}];clear h1 h2 hc
  go_enter Tryz.func197,Tryz.ntmps197
  go_wp2_with fail
  go_ret;exact⟨rfl,rfl⟩
 by_cases h:c=95
 .subst h
  go_enter Tryz.func197,Tryz.ntmps197
  go_wp2_with fail
  go_ret;exact⟨rfl,rfl⟩
 by_cases h:c=96
 .subst h
  go_enter Tryz.func197,Tryz.ntmps197
  go_wp2_with fail
  go_ret;exact⟨rfl,rfl⟩
 by_cases h:97<=c/\c<=122
 .obtain ⟨h1,h2⟩:=h;have g48:(48<=(c:Int)):=by omega
  have nI:(48<=c):=by omega
  have sK: ¬((c:Int)<=57):=by omega
  have nJ: ¬(c<=57):=by omega
  rw[show fK c=false by{unfold fK;simp[*]}];clear h1 h2 hc
  go_enter Tryz.func197,Tryz.ntmps197
  go_wp2_with fail
  go_ret;exact⟨rfl,rfl⟩
 by_cases h:123<=c/\c<=255
 .obtain ⟨h1,h2⟩:=h;have g48:(48<=(c:Int)):=by omega
  have nI:(48<=c):=by omega
  have sK: ¬((c:Int)<=57):=by omega
  have nJ: ¬(c<=57):=by omega
  rw[show fK c=false by{unfold fK;simp[*]}];clear h1 h2 hc
  go_enter Tryz.func197,Tryz.ntmps197
  go_wp2_with fail
  go_ret;exact⟨rfl,rfl⟩
 omega
theorem acZ (c:Nat) (w:World) (hc:c<=255):Calls Tryz.prog 157 #[.int .u8 c] w fun e w'=>e= .returned (.bool (sF c))/\w=w':=by
 have C1:=ae (Nc c w hc);have C2:=ae (aa2 c w hc);unfold sF;cases h1:ed c with
 |true=>
  rw[h1] at C1;clear h1 C2
  go_enter Tryz.func157,Tryz.ntmps157
  go_wp2_with fail
  refine C1.out.mono ?_;rintro e w' ⟨rfl,rfl⟩
  go_wp2_with fail
  go_ret;exact⟨rfl,rfl⟩
 |false=>
  rw[h1] at C1;clear h1;cases h2:fK c with
  |true=>
   rw[h2] at C2;clear h2
   go_enter Tryz.func157,Tryz.ntmps157
   go_wp2_with fail
   refine C1.out.mono ?_;rintro e w' ⟨rfl,rfl⟩
   go_wp2_with fail
   refine C2.out.mono ?_;rintro e w' ⟨rfl,rfl⟩
   go_wp2_with fail
   go_ret;exact⟨rfl,rfl⟩
  |false=>
   rw[h2] at C2;clear h2;have Bl:((c:Int)==95)=decide (c=95):=by
    by_cases h:c=95
    .rw [dT h,h];rfl
    .rw [dF h];exact beq_eq_false_iff_ne.2 (by omega)
   have HB:Hid (((c:Int)==95)=decide (c=95)):=Bl;clear Bl
   go_enter Tryz.func157,Tryz.ntmps157
   go_wp2_with fail
   refine C1.out.mono ?_;rintro e w' ⟨rfl,rfl⟩
   go_wp2_with fail
   refine C2.out.mono ?_;rintro e w' ⟨rfl,rfl⟩
   go_wp2_with fail
   go_ret
   first|exact⟨rfl,rfl⟩|exact⟨by rw[HB.out];rfl,rfl⟩|(refine⟨?_,rfl⟩;simp[<-HB.out])
def Qs (t:Nat):ByteArray:=⟨(Hg.getD t []).toArray⟩
def U9:Obj:= .cells (Hg.map fun l=>Value.string ⟨l.toArray⟩).toArray 9
theorem Nj:Hg.length=31:=by decide+kernel
theorem XC (w:World) (j:Nat) (hj:j<31):(w.alloc U9).cell? ⟨w.heap.size,0+j,none⟩=some (.string (Qs j)):=by
 refine ag (t:=9) (cs:=(Hg.map fun l=>Value.string ⟨l.toArray⟩).toArray) (aj w U9) _ _ ?_;have:j<Hg.length:=by rw[Nj];exact hj
 simp[Qs,this]
theorem PM (w:World):Calls Tryz.prog 198 #[] w fun e w'=>e= .returned (.slice (some ⟨w.heap.size,0,none⟩) 31 31)/\w'=w.alloc U9:=by
 go_enter Tryz.func198,Tryz.ntmps198
 go_wp2_with fail
 go_ret;exact⟨rfl,rfl⟩
def hasB (n:Nat) (S:Nat->ByteArray) (x:ByteArray):Bool:=decide (∃j,j<n/\S j=x)
theorem agJ (g off n cap:Nat) (S:Nat->ByteArray) (x:ByteArray) (w:World) (hn:n<=1000000) (hcap:n<=cap) (hc: ∀j,j<n->w.cell? ⟨g,off+j,none⟩=some (.string (S j))):
  Calls Tryz.prog 192 #[.slice (some ⟨g,off,none⟩) n cap,.string x] w fun e w'=>e= .returned (.bool (hasB n S x))/\w=w':=by
 obtain⟨R,hR⟩: ∃R,decide (∃j,j<n/\S j=x)=R:=⟨_,rfl⟩
 unfold hasB;rw[hR];have HR:=ae hR;have HC:=ae hc;clear hR hc
 go_enter Tryz.func192,Tryz.ntmps192
 go_wp2_with fail
 go_loopg [5] n (fun gk i wr=> ∃j:Nat,i= .int .i64 j/\gk=n-j/\j<=n/\Hid (∀i,i<j->S i≠x)/\wr=w)
 case atStart=>exact⟨0,rfl,rfl,Nat.zero_le _,fun i h=>absurd h (Nat.not_lt_zero _),rfl⟩
 case round=>
  obtain⟨j,rfl,rfl,hj,Hj,rfl⟩:=hrel;by_cases hlt:j<n
  .have c0:=HC.out j hlt;have i0':(0:Int)<=(j:Int):=by omega
   have i1':(j:Int)< (n:Int):=by omega
   by_cases he:S j=x
   .have t1:=(Lib.bytes_beq_iff _ _).2 he;obtain rfl:R=true:=by rw[<-HR.out];exact dT ⟨j,hlt,he⟩
    clear he HR;generalize S j=X at*
    go_wp2_with fail
    go_ret;exact⟨rfl,rfl⟩
   .have t1:=(Lib.bytes_beq_false_iff _ _).2 he;have HJ2:Hid (∀i,i<j+1->S i≠x):=fun i hi=>by
     by_cases e:i=j
     .subst e;exact he
     .exact Hj.out i (by omega)
    clear he
    go_wp2_with fail
    go_roundg (n- (j+1))
    case measure=>omega
    case rel=>exact⟨j+1,by go_num,rfl,by omega,HJ2,rfl⟩
  .obtain rfl:R=false:=by
    rw[<-HR.out];exact dF (fun⟨i,h1,h2⟩=>Hj.out i (by omega) h2)
   clear HR
   go_wp2_with fail
   go_ret;exact⟨rfl,rfl⟩
theorem agK (x:ByteArray):hasB 31 Qs x=Fa x:=by
 unfold Fa hasB;rw[decide_eq_decide,<-ac1];constructor
 .rintro ⟨j,hj,rfl⟩;have:j<Hg.length:=by rw[Nj];exact hj
  simp[Qs,this]
 .intro h;obtain⟨m,hm,he⟩:=List.getElem_of_mem h;refine⟨m,by rw[<-Nj];exact hm,kD ?_⟩;rw[<-he];simp[Qs,hm]
theorem Nh (x:ByteArray) (w:World):Calls Tryz.prog 158 #[.string x] w fun e w'=>e= .returned (.bool (Fa x))/\Ext w w':=by
 have HK:=ae (PM w);have HB:=ae (agJ w.heap.size 0 31 31 Qs x (w.alloc U9) (by decide) (Nat.le_refl _) (fun j hj=>XC w j hj));rw[agK] at HB;have HE:Hid (Ext w (w.alloc U9)):=(au.refl _ w).alloc _
 go_enter Tryz.func158,Tryz.ntmps158
 go_wp2_with fail
 refine HK.out.mono ?_;rintro e w' ⟨rfl,rfl⟩
 go_wp2_with fail
 refine HB.out.mono ?_;rintro e w' ⟨rfl,rfl⟩
 go_wp2_with fail
 go_ret;exact⟨rfl,HE.out⟩
theorem aa0 (s:ByteArray) (k:Nat) (h:k<s.size):s.data.toList.getD k 0=s[k]'h:=by
 have hl:k<s.data.toList.length:=h;rw[List.getD_eq_getElem?_getD,List.getElem?_eq_getElem hl];rfl
theorem Na (s:ByteArray) (k:Nat) (h:k<s.size) (p:UInt8->Bool):(s.data.toList.take (k+1)).all p=((s.data.toList.take k).all p&&p (s[k]'h)):=by
 rw[List.take_succ_eq_append_getElem (by exact h),List.all_append];simp;rfl
theorem Nb (s:ByteArray) (k:Nat) (h:k<s.size) (p:UInt8->Bool) (hp:p (s[k]'h)=false):s.data.toList.all p=false:=by
 rw[List.all_eq_false];have hl:k<s.data.toList.length:=h;have hm:s.data.toList[k]'hl∈s.data.toList:=List.getElem_mem hl;exact⟨s[k]'h,hm,by rw[hp];decide⟩
theorem aa1 (c:Nat):sF c=decide (2<=fJ c):=by
 unfold sF fJ;by_cases h1:c=32\/c=9\/c=13\/c=10
 .rw [if_pos h1];rcases h1 with rfl|rfl|rfl|rfl<;>rfl
 .rw [if_neg h1];cases ed c with
  |true=>rfl
  |false=>
   cases fK c with
   |true=>rfl
   |false=>by_cases h:c=95<;>simp[h]
theorem Qq (c:Nat):ed c=decide (fJ c=2):=by
 unfold fJ;by_cases h1:c=32\/c=9\/c=13\/c=10
 .rw [if_pos h1];rcases h1 with rfl|rfl|rfl|rfl<;>rfl
 .rw [if_neg h1];cases ed c with
  |true=>rfl
  |false=>
   cases fK c with
   |true=>rfl
   |false=>by_cases h:c=95<;>simp[h]
theorem MX (s:ByteArray) (h0:0<s.size):aB s=(decide (s.size<=40)&&(ed ((s[0]'h0).toNat)&&(s.data.toList.all (fun b=>sF b.toNat)&&!Fa s))):=by
 unfold aB;rw[aa0 s 0 h0];simp[h0]
theorem MZ (s:ByteArray) (h0:s.size=0):aB s=false:=by unfold aB;simp[h0]
theorem iH (s:ByteArray) (h0:s.size=0):s=⟨#[]⟩:=kD (List.eq_nil_of_length_eq_zero h0)
theorem fV (s:ByteArray) (h0:0<s.size):s.toList.isEmpty=false/\¬(s.toList=[])/\(s.toList==[])=false/\(s.toList==(⟨#[]⟩:ByteArray).toList)=false:=by
 have e:s.toList≠[]:=fun e=>by rw[Lib.toList_data] at e;have:s.data.toList.length=s.size:=rfl;rw[e] at this;simp at this;omega
 have e2:(⟨#[]⟩:ByteArray).toList=[]:=by rw[Lib.toList_data]
 refine⟨by simpa using e,e,by simpa using e,by rw[e2];simpa using e⟩
theorem zT (s:ByteArray) (w:World) (htab:cO w):Calls Tryz.prog 79 #[.string s] w fun e w'=>e= .returned (.bool (aB s))/\Ext w w':=by
 by_cases h0:0<s.size
 .rw [MX s h0];obtain⟨z1,z2,z3,z4⟩:=fV s h0;by_cases U7:s.size<=40
  .rw [dT U7,Bool.true_and];have t1:decide ((40:Int)< (s.size:Int))=false:=dF (by omega);have t1':decide (40<s.size)=false:=dF (by omega);obtain⟨c,hc⟩: ∃c:Nat,(s[0]'h0).toNat=c:=⟨_,rfl⟩
   have hc255:c<=255:=by rw[<-hc];have:=(s[0]'h0).toNat_lt;omega
   rw[hc];have CL:=ae (Qp c w hc255);have KW:=ae (PL s w htab);cases hl:ed c with
   |false=>
    have hl2:((fJ c:Nat):Int)≠2:=by
     rw[Qq] at hl;have:=of_decide_eq_false hl;omega
    have t2:(((fJ c:Nat):Int) !=2)=true:=bne_iff_ne.2 hl2;have t2':(((fJ c:Nat):Int)==2)=false:=beq_eq_false_iff_ne.2 hl2;clear hl hl2 KW;generalize ((fJ c:Nat):Int)=Y at*
    go_enter Tryz.func79,Tryz.ntmps79
    go_wp2_with fail
    refine CL.out.mono ?_;rintro e w' ⟨rfl,rfl⟩
    go_wp2_with fail
    go_ret;exact⟨rfl,au.refl _ _⟩
   |true=>
    have hl2:fJ c=2:=by
     rw[Qq] at hl;exact of_decide_eq_true hl
    rw[hl2] at CL;clear hl hl2;cases hk:Fa s with
    |true=>
     rw[hk] at KW;clear hk
     go_enter Tryz.func79,Tryz.ntmps79
     go_wp2_with fail
     refine CL.out.mono ?_;rintro e w' ⟨rfl,rfl⟩
     go_wp2_with fail
     refine KW.out.mono ?_;rintro e w' ⟨rfl,hE⟩;have HE:=ae hE;clear hE
     go_wp2_with fail
     go_ret;exact⟨by simp,HE.out⟩
    |false=>
     rw[hk] at KW;rw[Bool.not_false,Bool.and_true,Bool.true_and];obtain⟨R,hR⟩: ∃R,s.data.toList.all (fun b=>sF b.toNat)=R:=⟨_,rfl⟩
     rw[hR];have HR:=ae hR;clear hk hR
     go_enter Tryz.func79,Tryz.ntmps79
     go_wp2_with fail
     refine CL.out.mono ?_;rintro e w' ⟨rfl,rfl⟩
     go_wp2_with fail
     refine KW.out.mono ?_;rintro e w' ⟨rfl,hE⟩;have HE:=ae hE;clear hE hc CL KW t1 t1' z1 z2 z3 z4
     go_wp2_with fail
     go_loopg [3,23] s.size (fun gk _ i wr=> ∃j:Nat,i= .int .i64 j/\gk=s.size-j/\j<=s.size/\Hid ((s.data.toList.take j).all (fun b=>sF b.toNat)=true)/\wr=w')
     case atStart=>exact⟨0,rfl,rfl,Nat.zero_le _,rfl,rfl⟩
     case round=>
      obtain⟨j,rfl,rfl,hj,Hj,rfl⟩:=hrel;by_cases hlt:j<s.size
      .obtain ⟨d,hd⟩: ∃d:Nat,(s[j]'hlt).toNat=d:=⟨_,rfl⟩
       have SE:d<=255:=by rw[<-hd];have:=(s[j]'hlt).toNat_lt;omega
       have CD:=ae (Qp d wr SE);have hw:=aa1 d;have i0':(0:Int)<=(j:Int):=by omega
       have i1':(j:Int)< (s.size:Int):=by omega
       cases hx:sF d with
       |true=>
        rw[hx] at hw;have hw2:=of_decide_eq_true hw.symm;have HJ2:Hid ((s.data.toList.take (j+1)).all (fun b=>sF b.toNat)=true):=by
         show _=_;rw[Na s j hlt,hd,Hj.out,hx];rfl
        have t3:decide (((fJ d:Nat):Int)<2)=false:=dF (by omega);have P6:decide (fJ d<2)=false:=dF (by omega);clear hx hw hw2 Hj;generalize fJ d=Y at*
        go_wp2_with fail
        refine CD.out.mono ?_;rintro e w' ⟨rfl,rfl⟩
        go_wp2_with fail
        go_roundg (s.size- (j+1))
        case measure=>omega
        case rel=>exact⟨j+1,by go_num,rfl,by omega,HJ2,rfl⟩
       |false=>
        rw[hx] at hw;have hw2:=of_decide_eq_false hw.symm;obtain rfl:R=false:=HR.out.symm.trans (Nb s j hlt _ (by rw[hd];exact hx));have t3:decide (((fJ d:Nat):Int)<2)=true:=dT (by omega);have P6:decide (fJ d<2)=true:=dT (by omega);clear hx hw hw2 Hj HR;generalize fJ d=Y at*
        go_wp2_with fail
        refine CD.out.mono ?_;rintro e w' ⟨rfl,rfl⟩
        go_wp2_with fail
        go_ret;exact⟨rfl,HE.out⟩
      .obtain rfl:R=true:=by
        rw[<-HR.out,<-Hj.out,List.take_of_length_le (by show s.size<=j;omega)]
       clear HR Hj
       go_wp2_with fail
       go_ret;exact⟨rfl,HE.out⟩
  .rw [dF U7,Bool.false_and];have t1:decide ((40:Int)< (s.size:Int))=true:=dT (by omega);have t1':decide (40<s.size)=true:=dT (by omega)
   go_enter Tryz.func79,Tryz.ntmps79
   go_wp2_with fail
   go_ret;exact⟨rfl,au.refl _ _⟩
 .rw [MZ s (by omega)];obtain rfl:=iH s (by omega)
  go_enter Tryz.func79,Tryz.ntmps79
  go_wp2_with fail
  go_ret;exact⟨rfl,au.refl _ _⟩
theorem JF (s:ByteArray) (w:World):Calls Tryz.prog 92 #[.string s] w fun e w'=>e= .returned (.bool (aB s))/\Ext w w':=by
 by_cases h0:0<s.size
 .rw [MX s h0];have g1:((s.size:Int)==0)=false:=beq_eq_false_iff_ne.2 (by omega);have g2: ¬(s.size=0):=by omega
  have g3:(s.size==0)=false:=beq_eq_false_iff_ne.2 g2;by_cases U7:s.size<=40
  .rw [dT U7,Bool.true_and];have t1:decide ((40:Int)< (s.size:Int))=false:=dF (by omega);have t1':decide (40<s.size)=false:=dF (by omega);obtain⟨c,hc⟩: ∃c:Nat,(s[0]'h0).toNat=c:=⟨_,rfl⟩
   have hc255:c<=255:=by rw[<-hc];have:=(s[0]'h0).toNat_lt;omega
   rw[hc];have CL:=ae (Nc c w hc255);cases hl:ed c with
   |false=>
    rw[hl] at CL;clear hl
    go_enter Tryz.func92,Tryz.ntmps92
    go_wp2_with fail
    refine CL.out.mono ?_;rintro e w' ⟨rfl,rfl⟩
    go_wp2_with fail
    go_ret;exact⟨rfl,au.refl _ _⟩
   |true=>
    rw[hl] at CL;rw[Bool.true_and];have KW:=ae (Nh s w);obtain⟨R,hR⟩: ∃R,s.data.toList.all (fun b=>sF b.toNat)=R:=⟨_,rfl⟩
    rw[hR];have HR:=ae hR;clear hl hR
    go_enter Tryz.func92,Tryz.ntmps92
    go_wp2_with fail
    refine CL.out.mono ?_;rintro e w' ⟨rfl,rfl⟩;clear hc CL
    go_wp2_with fail
    go_loopg [3] s.size (fun gk i wr=> ∃j:Nat,i= .int .i64 j/\gk=s.size-j/\j<=s.size/\Hid ((s.data.toList.take j).all (fun b=>sF b.toNat)=true)/\wr=w)
    case atStart=>exact⟨0,rfl,rfl,Nat.zero_le _,rfl,rfl⟩
    case round=>
     obtain⟨j,rfl,rfl,hj,Hj,rfl⟩:=hrel;by_cases hlt:j<s.size
     .obtain ⟨d,hd⟩: ∃d:Nat,(s[j]'hlt).toNat=d:=⟨_,rfl⟩
      have SE:d<=255:=by rw[<-hd];have:=(s[j]'hlt).toNat_lt;omega
      have CD:=ae (acZ d wr SE);have i0':(0:Int)<=(j:Int):=by omega
      have i1':(j:Int)< (s.size:Int):=by omega
      cases hx:sF d with
      |true=>
       rw[hx] at CD;have HJ2:Hid ((s.data.toList.take (j+1)).all (fun b=>sF b.toNat)=true):=by
        show _=_;rw[Na s j hlt,hd,Hj.out,hx];rfl
       clear hx Hj
       go_wp2_with fail
       refine CD.out.mono ?_;rintro e w' ⟨rfl,rfl⟩
       go_wp2_with fail
       go_roundg (s.size- (j+1))
       case measure=>omega
       case rel=>exact⟨j+1,by go_num,rfl,by omega,HJ2,rfl⟩
      |false=>
       rw[hx] at CD;obtain rfl:R=false:=HR.out.symm.trans (Nb s j hlt _ (by rw[hd];exact hx));clear hx Hj HR
       go_wp2_with fail
       refine CD.out.mono ?_;rintro e w' ⟨rfl,rfl⟩
       go_wp2_with fail
       go_ret;exact⟨rfl,au.refl _ _⟩
     .obtain rfl:R=true:=by
       rw[<-HR.out,<-Hj.out,List.take_of_length_le (by show s.size<=j;omega)]
      clear HR Hj;cases hk:Fa s with
      |true=>
       rw[hk] at KW;have HKW:=ae hk;clear hk
       go_wp2_with fail
       refine KW.out.mono ?_;rintro e w' ⟨rfl,hE⟩;have HE:=ae hE;clear hE
       go_wp2_with fail
       go_ret;exact⟨by simp[HKW.out],HE.out⟩
      |false=>
       rw[hk] at KW;have HKW:=ae hk;clear hk
       go_wp2_with fail
       refine KW.out.mono ?_;rintro e w' ⟨rfl,hE⟩;have HE:=ae hE;clear hE
       go_wp2_with fail
       go_ret;exact⟨by simp[HKW.out],HE.out⟩
  .rw [dF U7,Bool.false_and];have t1:decide ((40:Int)< (s.size:Int))=true:=dT (by omega);have t1':decide (40<s.size)=true:=dT (by omega)
   go_enter Tryz.func92,Tryz.ntmps92
   go_wp2_with fail
   go_ret;exact⟨rfl,au.refl _ _⟩
 .rw [MZ s (by omega)];obtain rfl:=iH s (by omega)
  go_enter Tryz.func92,Tryz.ntmps92
  go_wp2_with fail
  go_ret;exact⟨rfl,au.refl _ _⟩
section
open Go.Shelf
attribute [local go_sem] Oper.semAt_some
theorem xR {n:Nat} {w W:World} (h:Below n w W) (hn:w.heap.size<=n):Ext w W:=⟨h.os,h.tape,h.output,h.size,fun k hk _=>h.block k (by omega)⟩
def vI (pre:List Nd):Bool:=pre.all fun x=>kJ aB x.pr
theorem Ux (pre:List Nd) (x:Nd):vI (pre++[x])=(vI pre&&kJ aB x.pr):=by unfold vI;rw[List.all_append];simp
theorem ja {F:Nat->Prop} {W W':World} (B:Nat) (h:au F W W') (hF: ∀k o,F k->W.heap[k]?=some o->o.isCells=true):KeepsFrom B W W':=
 ⟨h.size,fun k o _ hk ho=>by
  by_cases hf:F k
  .rw [hF k o hf hk] at ho;cases ho
  .exact h.heap hk hf⟩
theorem jZ {W W':World} (B:Nat) (h:Ext W W'):KeepsFrom B W W':=ja B h (fun _ _ h=>h.elim)
theorem Xg {pre:List Nd} {t:Tm} (hp:pre.map Nd.pr <+:dh 1 t) (h:vI pre=false\/1000<pre.length):formed aB t=false:=by
 rw[Bool.eq_false_iff];intro hc;obtain⟨h1,h2⟩:=(rO aB t).1 hc;obtain⟨r,hr⟩:=hp;rcases h with h|h
 .have h3:vI pre=true:=by
   unfold vI;rw[List.all_eq_true];intro x hx;refine h2 x.pr ?_;rw[<-hr];exact List.mem_append_left _ (List.mem_map_of_mem hx)
  rw[h] at h3;cases h3
 .have h4:=congrArg List.length hr;rw[List.length_append,List.length_map,jR] at h4;omega
theorem Xh {xs:List Nd} {t:Tm} (hp:xs.map Nd.pr=dh 1 t) (h:vI xs=true) (hl:xs.length<=1000):formed aB t=true:=by
 rw[rO];have h4:=congrArg List.length hp;rw[List.length_map,jR] at h4;refine⟨by omega,fun p hpm=>?_⟩;rw[<-hp] at hpm;obtain⟨x,hx,rfl⟩:=List.mem_map.1 hpm;unfold vI at h;rw[List.all_eq_true] at h;exact h x hx
theorem LJ (t:Tm) (v:Value) (w:World) (htab:cO w) (hR:bG (fun k=>k<w.heap.size) w t v) (hsz:(t.size:Int)<=1000000000000):Calls Tryz.prog 138 #[v] w fun e w'=>e= .returned (.bool (formed aB t))/\Ext w w':=by
 obtain⟨a,cap,rfl,hR⟩:=hR;dsimp only[tV];have ha0:=aj w (tO t a cap);refine(callsIn_wide (n:=9)).1 ?_;have hro:Fence.wide.round=none:=rfl;have hd:Fence.wide.depth=none:=rfl;have hf: ∀k,Fence.wide.fn k:=fun _=>trivial;have h1:1<=9:=by omega
 refine callsIn_of_wp_marks Tryz.func138 rfl trivial ?_ hro;have PX:Ext w (((w.alloc (tO t a cap)).alloc (.cells #[.bool false] 4)).alloc (.cells #[.int .i64 0] 3)):=(((au.refl _ w).alloc _).alloc _).alloc _;have hs3:(((w.alloc (tO t a cap)).alloc (.cells #[.bool false] 4)).alloc (.cells #[.int .i64 0] 3)).heap.size=w.heap.size+3:=by simp
 have hbR:(((w.alloc (tO t a cap)).alloc (.cells #[.bool false] 4)).alloc (.cells #[.int .i64 0] 3)).heap[w.heap.size+1]?=some (.cells #[.bool false] 4 (0,0)):=ak (alloc_at _ _ (by simp)) _;have hbN:(((w.alloc (tO t a cap)).alloc (.cells #[.bool false] 4)).alloc (.cells #[.int .i64 0] 3)).heap[w.heap.size+2]?=some (.cells #[.int .i64 0] 3 (0,0)):=alloc_at _ _ (by simp);simp only[Tryz.ntmps138,List.size_toArray,List.length_cons,List.length_nil,Nat.reduceAdd,Nat.reduceSub,Array.replicate_succ,Array.replicate_zero,List.push_toArray,List.append_toArray,List.nil_append,List.cons_append]
 gi_wp2
 generalize (((w.alloc (tO t a cap)).alloc (.cells #[.bool false] 4)).alloc (.cells #[.int .i64 0] 3))=w3 at*;refine(callsIn_wide.2 (IQ t (.slice a t.kids.length cap) w3 ⟨_,_,_,rfl⟩)).mono ?_;rintro e w4 ⟨rfl,oq,hs4,hb4,hv4⟩;rw[hs3] at hs4 hb4 hv4⊢;have hE:=PX.ext oq;have aiZ:=oq.heap hbR (fun h=>h);have ab5:=oq.heap hbN (fun h=>h);clear PX hs3 hbR hbN oq
 gi_wp2
 rw[show w.heap.size+2=w.heap.size+1+1 from rfl] at ab5;generalize hB2:w.heap.size+1+1=B2 at*;generalize hB1:w.heap.size+1=B1 at*;generalize hB4:w.heap.size+3+1=B4 at*;generalize hB3:w.heap.size+3=B3 at*;generalize hB0:w.heap.size=B0 at*;refine wpIn_rangeFunc_ownH hro h1 (gf:=188) (lb:= #[.pointer (some ⟨B4,0,none⟩),.pointer (some ⟨B3,0,none⟩)]) rfl trivial (enters_of Tryz.func188 (by kernel_rfl) rfl)
  (yB Fence.wide hd (9-1) hf hro B4 B3 (fun k=>k=B1\/k=B2) (fun k=>k<B0) w4 (by omega) (by omega) (by omega) (by omega) t a cap (hR.ext hE) hv4 hb4 (by omega)) (fun h k=>gU.trans h k) (fun W l o o' _ hl hc _=>gU.putObj W l o o' hl hc) (Below.refl _ _) (fun _=>rfl)
  (fun pre W=>(((vI pre=true/\pre.length<=1000)/\Boxed W B1 4 (.bool false))/\Boxed W B2 3 (.int .i64 (pre.length:Int)))/\(Boxed W B4 219 (.func (.func 187) #[] #[.pointer (some ⟨B4,0,none⟩)])/\Below B0 w W))
  (fun c pre W=>((c= .ret/\(vI pre=false\/1000<pre.length))/\Boxed W B1 4 (.bool false))/\Below B0 w W)
  (OwnFrom.and (OwnFrom.and (OwnFrom.and (ownFrom_pure _ _) (Own.from (boxed_own _ _ _) _)) (Own.from (boxed_own B2 3 (fun pre:List Nd=>Value.int .i64 (pre.length:Int))) _)) (OwnFrom.and (Own.from (boxed_own _ _ _) _) (ownFrom_below (by omega) (by omega))))
  (fun c=>OwnFrom.and (OwnFrom.and (ownFrom_pure _ _) (Own.from (boxed_own _ _ _) _)) (ownFrom_below (by omega) (by omega)))
  ⟨⟨⟨⟨rfl,by decide⟩,aiZ⟩,ab5⟩,hv4,hB0▸Ext.below hE⟩
  (fun x a' W=> ∃Bx,B4<Bx/\W.heap[Bx]?=some (.cells #[.string x.t.name,.string x.t.sort,.slice x.a x.t.kids.length x.cap] 24 (0,0))/\a'={tmps:= #[(.agg #[.string t.name,.string t.sort,.slice a t.kids.length cap]),.pointer (some ⟨B0,0,none⟩),.pointer (some ⟨B1,0,none⟩),.pointer (some ⟨B2,0,none⟩),.pointer (some ⟨Bx,0,none⟩),.int .i64 (x.d:Int),(.agg #[.string t.name,.string t.sort,.slice a t.kids.length cap]),(.func (.func 188) #[] #[.pointer (some ⟨B4,0,none⟩),.pointer (some ⟨B3,0,none⟩)]),(.agg #[.string x.t.name,.string x.t.sort,.slice x.a x.t.kids.length x.cap]),.int .i64 (x.d:Int),undef,undef,undef,undef,undef,undef,undef,undef,undef,undef,undef,undef,undef,undef,undef,undef,undef,undef,undef,undef,undef,undef,undef,undef,undef,undef,undef,undef,undef,undef,undef,undef,undef,undef,undef],defers:=[]})
  (fun x a' _ X Y row hs hg hr=>by
   obtain⟨Bx,e1,e2,e3⟩:=hs;refine⟨Bx,e1,(au.m_ hg).heap e2 (fun e=>?_),e3⟩;obtain⟨o,ho,hc⟩:=(hr Bx e.symm).2;rw[e2] at ho;cases ho;cases hc) ?assign ?body ?done ?stop
 case assign=>
  rintro l pre x W K ⟨⟨⟨hok,hb1⟩,hb2⟩,hb4,hB⟩ hK;dsimp only[Nd.encs,tV];have hbx:=aj W (.cells #[.string x.t.name,.string x.t.sort,.slice x.a x.t.kids.length x.cap] 24);have hlt:=hb2.lt
  gi_wp2
  exact hK _ _ (jZ _ ((au.refl _ W).alloc _)) (gU.yU ((au.refl _ W).alloc _)) ⟨⟨⟨hok,hb1.alloc _⟩,hb2.alloc _⟩,hb4.alloc _,hB.alloc (by have:=hB.size;omega) _⟩ ⟨W.heap.size,hb4.lt,hbx,rfl⟩
 case body=>
  rintro l pre x a' W hl hrec ⟨⟨⟨⟨hok,hlen⟩,hb1⟩,hb2⟩,hb4,hB⟩ ⟨Bx,hBx,hbx,rfl⟩ hlt;have hE0:=xR hB (by omega);have hu:au (fun k=>k=B2) W (W.setCell ⟨B2,0,none⟩ (.int .i64 ((pre.length:Int)+1))):=(au.refl (fun k=>k=B2) W).setCell (p:=⟨B2,0,none⟩) (.inl rfl) _;have n0:=hb2.cell;have n1:=hb2.frozen;have hwn:IntKind.i64.wrap ((pre.length:Int)+1)=(pre.length:Int)+1:=IntWalk.i64_in _ (by omega);have hlt4:=hb4.lt;have hE1:Ext w (W.setCell ⟨B2,0,none⟩ (.int .i64 ((pre.length:Int)+1))):=hE0.trans' hu (fun i hi e=>by omega);have IW:=hu.heap hbx (by omega);have Xi:Boxed (W.setCell ⟨B2,0,none⟩ (.int .i64 ((pre.length:Int)+1))) B2 3 (.int .i64 ((pre.length:Int)+1)):=setBlock hb2 0 _;have kW:Boxed (W.setCell ⟨B2,0,none⟩ (.int .i64 ((pre.length:Int)+1))) B1 4 (.bool false):=hu.heap hb1 (by omega);have ab6:Boxed (W.setCell ⟨B2,0,none⟩ (.int .i64 ((pre.length:Int)+1))) B4 219 (.func (.func 187) #[] #[.pointer (some ⟨B4,0,none⟩)]):=hu.heap hb4 (by omega);have m0:=Xi.cell;obtain⟨x0,x1,x2⟩:=af IW;have r0:=kW.cell;have r1:=kW.frozen;have hkg:gU (fun k=>k=B1\/k=B2) W (W.setCell ⟨B2,0,none⟩ (.int .i64 ((pre.length:Int)+1))):=gU.Ce hu (fun k _ e=> .inr e);have JD:KeepsFrom w4.heap.size W (W.setCell ⟨B2,0,none⟩ (.int .i64 ((pre.length:Int)+1))):=ja _ hu (fun k o e ho=>by subst e;rw[show W.heap[k]?=_ from hb2] at ho;cases ho;rfl);have hBl:Below B0 w (W.setCell ⟨B2,0,none⟩ (.int .i64 ((pre.length:Int)+1))):=hB0▸Ext.below hE1;have Gv:=ae (fun s W' (hW':Ext w W')=>zT s W' (aJ htab hW'));have aaN:1000<pre.length+1->1000< (pre++[x]).length:=fun h=>by rw[List.length_append];exact h
  have hsn:=Ux pre x;rw[hok,Bool.true_and] at hsn;have iD:=ae hsn;have alZ:=ae hrec;clear hrec hsn hE0 hok hb1 hb2 hb4 hbx hB hu;by_cases h1:1000<pre.length+1
  .have t1:decide ((1000:Int)< (pre.length:Int)+1)=true:=dT (by omega)
   gi_wp2
   have st:=(au.refl (fun k=>k=B1) (W.setCell ⟨B2,0,none⟩ (.int .i64 ((pre.length:Int)+1)))).setCell (p:=⟨B1,0,none⟩) (.inl rfl) (.bool false);have hbz:Boxed (W.setCell ⟨B2,0,none⟩ (.int .i64 ((pre.length:Int)+1))) B1 4 (.bool false):=(uR (W.setCell ⟨B2,0,none⟩ (.int .i64 ((pre.length:Int)+1)))).heap kW (fun h=>h);refine⟨JD.trans ((jZ _ (uR (W.setCell ⟨B2,0,none⟩ (.int .i64 ((pre.length:Int)+1))))).trans (ja _ st (fun k o e ho=>by subst e;rw[show(W.setCell ⟨B2,0,none⟩ (.int .i64 ((pre.length:Int)+1))).heap[k]?=_ from hbz] at ho;cases ho;rfl))),⟨⟨rfl,.inr (aaN h1)⟩,setBlock hbz 0 (.bool false)⟩,hB0▸Ext.below ((hE1.ext (uR (W.setCell ⟨B2,0,none⟩ (.int .i64 ((pre.length:Int)+1))))).lC (show w.heap.size<=B1 by omega) _)⟩
  have t1:decide ((1000:Int)< (pre.length:Int)+1)=false:=dF (by omega);by_cases h2:60<x.d
  .have t2:decide ((60:Int)< (x.d:Int))=true:=dT (by omega);have t2':decide (60<x.d)=true:=dT h2
   gi_wp2
   have st:=(au.refl (fun k=>k=B1) (W.setCell ⟨B2,0,none⟩ (.int .i64 ((pre.length:Int)+1)))).setCell (p:=⟨B1,0,none⟩) (.inl rfl) (.bool false);have hbz:Boxed (W.setCell ⟨B2,0,none⟩ (.int .i64 ((pre.length:Int)+1))) B1 4 (.bool false):=(uR (W.setCell ⟨B2,0,none⟩ (.int .i64 ((pre.length:Int)+1)))).heap kW (fun h=>h);refine⟨JD.trans ((jZ _ (uR (W.setCell ⟨B2,0,none⟩ (.int .i64 ((pre.length:Int)+1))))).trans (ja _ st (fun k o e ho=>by subst e;rw[show(W.setCell ⟨B2,0,none⟩ (.int .i64 ((pre.length:Int)+1))).heap[k]?=_ from hbz] at ho;cases ho;rfl))),⟨⟨rfl,.inl (by rw[iD.out];unfold kJ Nd.pr;simp only[dF (show ¬x.d<=60 by omega),Bool.false_and])⟩,setBlock hbz 0 (.bool false)⟩,hB0▸Ext.below ((hE1.ext (uR (W.setCell ⟨B2,0,none⟩ (.int .i64 ((pre.length:Int)+1))))).lC (show w.heap.size<=B1 by omega) _)⟩
  have t2:decide ((60:Int)< (x.d:Int))=false:=dF (by omega);have t2':decide (60<x.d)=false:=dF h2;have k2:decide (x.d<=60)=true:=dT (by omega);have lV:=ae (Gv.out x.t.name (W.setCell ⟨B2,0,none⟩ (.int .i64 ((pre.length:Int)+1))) hE1);cases hnm:aB x.t.name
  .rw [hnm] at lV
   gi_wp2
   refine(CallsIn.inRound l (callsIn_wide.2 lV.out)).mono ?_;rintro e W2 ⟨rfl,hW2⟩;have Gw:=(hW2).heap IW (fun h=>h);obtain⟨Zb,Uy,Zc⟩:=af Gw;have Cf:Boxed _ B1 4 (.bool false):=(hW2).heap kW (fun h=>h);have Zd:=Cf.cell;have Ze:=Cf.frozen;clear x0 x1 x2 r0 r1
   gi_wp2
   have st:=(au.refl (fun k=>k=B1) W2).setCell (p:=⟨B1,0,none⟩) (.inl rfl) (.bool false);have hbz:Boxed W2 B1 4 (.bool false):=(hW2).heap kW (fun h=>h);refine⟨JD.trans ((jZ _ (hW2)).trans (ja _ st (fun k o e ho=>by subst e;rw[show W2.heap[k]?=_ from hbz] at ho;cases ho;rfl))),⟨⟨rfl,.inl (by rw[iD.out];unfold kJ Nd.pr;simp only[k2,hnm,Bool.true_and,Bool.false_and])⟩,setBlock hbz 0 (.bool false)⟩,hB0▸Ext.below ((hE1.ext (hW2)).lC (show w.heap.size<=B1 by omega) _)⟩
  rw[hnm] at lV;by_cases h4:6<x.t.kids.length
  .have t4:decide ((6:Int)< (x.t.kids.length:Int))=true:=dT (by omega);have Zf:decide (6<x.t.kids.length)=true:=dT h4
   gi_wp2
   refine(CallsIn.inRound l (callsIn_wide.2 lV.out)).mono ?_;rintro e W2 ⟨rfl,hW2⟩;have Gw:=(hW2).heap IW (fun h=>h);obtain⟨Zb,Uy,Zc⟩:=af Gw;have Cf:Boxed _ B1 4 (.bool false):=(hW2).heap kW (fun h=>h);have Zd:=Cf.cell;have Ze:=Cf.frozen;clear x0 x1 x2 r0 r1
   gi_wp2
   have st:=(au.refl (fun k=>k=B1) W2).setCell (p:=⟨B1,0,none⟩) (.inl rfl) (.bool false);have hbz:Boxed W2 B1 4 (.bool false):=(hW2).heap kW (fun h=>h);refine⟨JD.trans ((jZ _ (hW2)).trans (ja _ st (fun k o e ho=>by subst e;rw[show W2.heap[k]?=_ from hbz] at ho;cases ho;rfl))),⟨⟨rfl,.inl (by rw[iD.out];unfold kJ Nd.pr;simp only[k2,hnm,dF (show ¬x.t.kids.length<=6 by omega),Bool.true_and,Bool.false_and])⟩,setBlock hbz 0 (.bool false)⟩,hB0▸Ext.below ((hE1.ext (hW2)).lC (show w.heap.size<=B1 by omega) _)⟩
  have t4:decide ((6:Int)< (x.t.kids.length:Int))=false:=dF (by omega);have Zf:decide (6<x.t.kids.length)=false:=dF h4;have k4:decide (x.t.kids.length<=6)=true:=dT (by omega)
  gi_wp2
  refine(CallsIn.inRound l (callsIn_wide.2 lV.out)).mono ?_;rintro e W2 ⟨rfl,hW2⟩;have Gw:=(hW2).heap IW (fun h=>h);obtain⟨Zb,Uy,Zc⟩:=af Gw;have Cf:Boxed _ B1 4 (.bool false):=(hW2).heap kW (fun h=>h);have Zd:=Cf.cell;have Ze:=Cf.frozen;clear x0 x1 x2 r0 r1;by_cases hs0:x.t.sort.size=0
  .have hse:=iH _ hs0;rw[hse] at Uy
   gi_wp2
   any_goals (first|exact⟨JD.trans (jZ _ (hW2)),hkg.trans (gU.yU (hW2)),⟨⟨⟨⟨by rw[iD.out];unfold kJ Nd.pr;simp only[k2,hnm,k4,dT (show x.t.sort=ah from hse),Bool.true_and,Bool.true_or],by rw[List.length_append];exact Nat.le_of_not_lt h1⟩,(hW2).heap kW (fun h=>h)⟩,by rw[List.length_append];exact(hW2).heap Xi (fun h=>h)⟩,(hW2).heap ab6 (fun h=>h),hB0▸Ext.below (hE1.ext (hW2))⟩⟩|fail)
   all_goals (rename_i hq _;exact absurd hq (by simp[undef]))
  have k5:decide (x.t.sort=ah)=false:=dF (fun e=>hs0 (by rw[e];rfl));obtain⟨e1,e2,e3,e4⟩:=fV x.t.sort (Nat.pos_of_ne_zero hs0);have fM:=ae (Gv.out x.t.sort W2 (hE1.ext hW2));cases hns:aB x.t.sort
  .rw [hns] at fM
   gi_wp2
   refine(CallsIn.inRound l (callsIn_wide.2 fM.out)).mono ?_;rintro e W3 ⟨rfl,hW3⟩;have RX:=(hW2.ext hW3).heap IW (fun h=>h);obtain⟨x0c,x1c,x2c⟩:=af RX;have LK:Boxed _ B1 4 (.bool false):=(hW2.ext hW3).heap kW (fun h=>h);have r0c:=LK.cell;have r1c:=LK.frozen;clear Zb Uy Zc Zd Ze
   gi_wp2
   have st:=(au.refl (fun k=>k=B1) W3).setCell (p:=⟨B1,0,none⟩) (.inl rfl) (.bool false);have hbz:Boxed W3 B1 4 (.bool false):=(hW2.ext hW3).heap kW (fun h=>h);refine⟨JD.trans ((jZ _ (hW2.ext hW3)).trans (ja _ st (fun k o e ho=>by subst e;rw[show W3.heap[k]?=_ from hbz] at ho;cases ho;rfl))),⟨⟨rfl,.inl (by rw[iD.out];unfold kJ Nd.pr;simp only[k2,hnm,k4,k5,hns,Bool.true_and,Bool.false_and,Bool.or_false])⟩,setBlock hbz 0 (.bool false)⟩,hB0▸Ext.below ((hE1.ext (hW2.ext hW3)).lC (show w.heap.size<=B1 by omega) _)⟩
  rw[hns] at fM
  gi_wp2
  refine(CallsIn.inRound l (callsIn_wide.2 fM.out)).mono ?_;rintro e W3 ⟨rfl,hW3⟩;have RX:=(hW2.ext hW3).heap IW (fun h=>h);obtain⟨x0c,x1c,x2c⟩:=af RX;have LK:Boxed _ B1 4 (.bool false):=(hW2.ext hW3).heap kW (fun h=>h);have r0c:=LK.cell;have r1c:=LK.frozen;clear Zb Uy Zc Zd Ze;by_cases h7:0<x.t.kids.length
  .have t7:decide ((0:Int)< (x.t.kids.length:Int))=true:=dT (by omega);have t7':decide (0<x.t.kids.length)=true:=dT h7;have k7:decide (x.t.kids.length=0)=false:=dF (by omega);have jO:vI (pre++[x])=false:=by rw[iD.out];unfold kJ Nd.pr;simp only[k2,hnm,k4,k5,hns,k7,Bool.true_and,Bool.and_false,Bool.false_and,Bool.or_false]
   generalize x.t.kids.length=KL at*
   gi_wp2
   have st:=(au.refl (fun k=>k=B1) W3).setCell (p:=⟨B1,0,none⟩) (.inl rfl) (.bool false);have hbz:Boxed W3 B1 4 (.bool false):=(hW2.ext hW3).heap kW (fun h=>h);refine⟨JD.trans ((jZ _ (hW2.ext hW3)).trans (ja _ st (fun k o e ho=>by subst e;rw[show W3.heap[k]?=_ from hbz] at ho;cases ho;rfl))),⟨⟨rfl,.inl jO⟩,setBlock hbz 0 (.bool false)⟩,hB0▸Ext.below ((hE1.ext (hW2.ext hW3)).lC (show w.heap.size<=B1 by omega) _)⟩
  have t7:decide ((0:Int)< (x.t.kids.length:Int))=false:=dF (by omega);have t7':decide (0<x.t.kids.length)=false:=dF h7;have k7:decide (x.t.kids.length=0)=true:=dT (by omega);have jO:vI (pre++[x])=true:=by rw[iD.out];unfold kJ Nd.pr;simp only[k2,hnm,k4,k5,hns,k7,Bool.true_and,Bool.or_true]
  generalize x.t.kids.length=KL at*
  gi_wp2
  exact⟨JD.trans (jZ _ (hW2.ext hW3)),hkg.trans (gU.yU (hW2.ext hW3)),⟨⟨⟨⟨jO,by rw[List.length_append];exact Nat.le_of_not_lt h1⟩,(hW2.ext hW3).heap kW (fun h=>h)⟩,by rw[List.length_append];exact(hW2.ext hW3).heap Xi (fun h=>h)⟩,(hW2.ext hW3).heap ab6 (fun h=>h),hB0▸Ext.below (hE1.ext (hW2.ext hW3))⟩⟩
 case done=>
  rintro D xs W hD hS ⟨⟨⟨⟨hok,hlen⟩,hb1⟩,hb2⟩,hb4,hB⟩ hK;have r0:=hb1.cell;have r1:=hb1.frozen;have hfm:=Xh hS hok hlen
  gi_wp2
  have hK':=(KeepsOthers.setCell W ⟨B1,0,none⟩ (.bool true)).same D _ hK rfl;refine⟨by simp,.inl ⟨_,_,rfl,run_takeDeferred hK',?_⟩⟩;have hc5:=cell_kept (hb1.set (.bool true)).cell (grownBy_putObj' _ D (.deferred none)) (fun r e=>by cases e;exact⟨_,hK',rfl⟩);refine⟨.bool true,?_,by rw[hfm],xR ((hB.setCell (p:=⟨B1,0,none⟩) (by show B0<=B1;omega) _).trans (belowK_b (w:=w) (by omega) _ D _ _ (by omega) hK' rfl rfl)) (by omega)⟩;simp[results,Tryz.f138,go_sem,hc5]
 case stop=>
  rintro D c pre W hD hS ⟨⟨⟨rfl,hbad⟩,hb1⟩,hB⟩ hK;have hfm:=Xg hS hbad
  gi_wp2
  refine⟨by simp,.inl ⟨_,_,rfl,run_takeDeferred hK,?_⟩⟩;have hc5:=cell_kept hb1.cell (grownBy_putObj' _ D (.deferred none)) (fun r e=>by cases e;exact⟨_,hK,rfl⟩);refine⟨.bool false,?_,by rw[hfm],xR (hB.trans (belowK_b (w:=w) (by omega) _ D _ _ (by omega) hK rfl rfl)) (by omega)⟩;simp[results,Tryz.f138,go_sem,hc5]
attribute [local go_sem] Oper.semAt_some
theorem JE {W W':World} {B b:Nat} (h:au (fun k=>k=b) W W') (hb:b<B):KeepsFrom B W W':=
 ⟨h.size,fun k o hk hh _=>h.heap hh (fun e=>by subst e;omega)⟩
abbrev qZ (m:List Vd):List (ByteArray×Value):=m.map fun f=>(f.1,.string f.2)
theorem Uz (m:List Vd) (n:By):jr (qZ m) n=(fZ m n).map .string:=by
 induction m with
 |nil=>rfl
 |cons a m ih=>
  rw[show qZ (a::m)=(a.1,.string a.2)::qZ m from rfl,jS,fU,ih];split<;>rfl
theorem LP (m:List Vd) (f:Vd) (h:fZ m f.1=none):nV (qZ m) f.1 (.string f.2)=qZ (m++[f]):=by
 induction m with
 |nil=>rfl
 |cons a m ih=>
  rw[fU] at h;by_cases e:a.1=f.1
  .rw [if_pos e] at h;cases h
  .rw [if_neg e] at h;rw[show qZ (a::m)=(a.1,.string a.2)::qZ m from rfl];unfold nV;rw[if_neg e,ih h];rfl
theorem LQ (m:List Vd) (f:Vd) (h:fZ m f.1=some f.2):nV (qZ m) f.1 (.string f.2)=qZ m:=by
 induction m with
 |nil=>cases h
 |cons a m ih=>
  rw[fU] at h;rw[show qZ (a::m)=(a.1,.string a.2)::qZ m from rfl];unfold nV;by_cases e:a.1=f.1
  .rw [if_pos e] at h⊢;injection h with h
   rw[h,e]
  .rw [if_neg e] at h⊢;rw[ih h]
def EO (pre:List Nd):List Vd:=vl (pre.map (·.t))
theorem Xj (pre:List Nd) (x:Nd):EO (pre++[x])=EO pre++(if x.t.sort=ah then[] else[(x.t.name,x.t.sort)]):=by
 unfold EO;rw[List.map_append,qW]
 congr 1
 show List.filterMap _ [x.t]=_;by_cases h:x.t.sort=ah
 .simp [h]
 .simp [h]
theorem aaO {xs:List Nd} {t:Tm} (h:xs.map Nd.pr=dh 1 t):EO xs=vl (aV t):=by
 unfold EO aV;rw[rP t 0 1,<-h,List.map_map];rfl
theorem aaP {xs:List Nd} {t:Tm} (h:xs.map Nd.pr <+:dh 1 t): ∃r,vl (aV t)=EO xs++r:=by
 obtain⟨r,hr⟩:=h;refine⟨vl (r.map (·.1)),?_⟩;unfold EO aV;rw[rP t 0 1,<-hr,List.map_append,List.map_map,qW];rfl
def Ci (B:Nat) (o:Option (List Vd)) (e:Ending) (w':World):Prop:=match o with
 |some m=> ∃b,e= .returned (.tuple #[.map (some b),.bool true])/\B<=b/\dP (fun s:ByteArray=>Value.string s) w' b (qZ m)
 |none=>e= .returned (.tuple #[.map none,.bool false])
theorem PY (t:Tm) (g off cap a cp:Nat) (ad:Option Addr) (w:World) (hc:w.cell? ⟨g,off,none⟩=some (.string t.name)/\w.cell? ⟨g,off+1,none⟩=some (.string t.sort)/\w.cell? ⟨g,off+2,none⟩=some (.slice ad t.kids.length cp)) (hR:ay (fun k=>k<w.heap.size) w t.kids (.slice ad t.kids.length cp)) (hsz:(t.size:Int)<=1000000000000):
  Calls Tryz.prog 139 #[.slice (some ⟨g,off,none⟩) 1 cap] w fun e w'=>Ci w.heap.size (jv t) e w'/\Ext w w':=by
 obtain⟨q0,q1,q2⟩:=hc;have hmm:= @run_makeMap Tryz.prog;refine(callsIn_wide (n:=9)).1 ?_;have hro:Fence.wide.round=none:=rfl;have hd:Fence.wide.depth=none:=rfl;have hf: ∀k,Fence.wide.fn k:=fun _=>trivial;have h1:1<=9:=by omega
 refine callsIn_of_wp_marks Tryz.func139 rfl trivial ?_ hro;simp only[Tryz.ntmps139,List.size_toArray,List.length_cons,List.length_nil,Nat.reduceAdd,Nat.reduceSub,Array.replicate_succ,Array.replicate_zero,List.push_toArray,List.append_toArray,List.nil_append,List.cons_append]
 gi_wp2
 have rU:Ext w ((((w.alloc (.cells #[.map none] 178)).alloc (.cells #[.bool false] 4)).alloc (.map #[] 0)).alloc (.cells #[.map (some (w.heap.size+1+1))] 178)):=((((uR w).alloc _).alloc _).alloc _).alloc _;have hs5:((((w.alloc (.cells #[.map none] 178)).alloc (.cells #[.bool false] 4)).alloc (.map #[] 0)).alloc (.cells #[.map (some (w.heap.size+1+1))] 178)).heap.size=w.heap.size+4:=by simp
 have hb2:Boxed ((((w.alloc (.cells #[.map none] 178)).alloc (.cells #[.bool false] 4)).alloc (.map #[] 0)).alloc (.cells #[.map (some (w.heap.size+1+1))] 178)) w.heap.size 178 (.map none):=ak (ak (ak (aj _ _) _) _) _;have hb3:Boxed ((((w.alloc (.cells #[.map none] 178)).alloc (.cells #[.bool false] 4)).alloc (.map #[] 0)).alloc (.cells #[.map (some (w.heap.size+1+1))] 178)) (w.heap.size+1) 4 (.bool false):=ak (ak (alloc_at _ _ (by simp)) _) _;have hmp:dP (fun s:ByteArray=>Value.string s) ((((w.alloc (.cells #[.map none] 178)).alloc (.cells #[.bool false] 4)).alloc (.map #[] 0)).alloc (.cells #[.map (some (w.heap.size+1+1))] 178)) (w.heap.size+1+1) []:=⟨#[],0,ak (alloc_at _ _ (by simp)) _,rfl,List.Pairwise.nil,fun _ h=>by cases h⟩
 have hb4:Boxed ((((w.alloc (.cells #[.map none] 178)).alloc (.cells #[.bool false] 4)).alloc (.map #[] 0)).alloc (.cells #[.map (some (w.heap.size+1+1))] 178)) (w.heap.size+1+1+1) 178 (.map (some (w.heap.size+1+1))):=alloc_at _ _ (by simp);generalize ((((w.alloc (.cells #[.map none] 178)).alloc (.cells #[.bool false] 4)).alloc (.map #[] 0)).alloc (.cells #[.map (some (w.heap.size+1+1))] 178))=w5 at*;generalize hB4:w.heap.size+1+1+1=B4 at*;generalize hM:w.heap.size+1+1=M at*;generalize hB3:w.heap.size+1=B3 at*;generalize hB2:w.heap.size=B2 at*;refine wpIn_loop_rounds 2 ?_;rw[roundsIn_succ];obtain⟨wr,hwr⟩: ∃wr,wr=w5:=⟨_,rfl⟩
 subst hwr;have p0:=rU.cell q0 (fun h=>h);have p1:=rU.cell q1 (fun h=>h);have p2:=rU.cell q2 (fun h=>h);have PZ:Ext wr (wr.alloc (tO t ad cp)):=(uR wr).alloc _;have hb6:=aj wr (tO t ad cp);obtain⟨x0,x1,x2⟩:=af hb6
 gi_wp2
 refine(callsIn_wide.2 (IQ t (.slice ad t.kids.length cp) _ ⟨_,_,_,rfl⟩)).mono ?_;rintro e w7 ⟨rfl,P5,hs7,hb7,hv7⟩;have hs6:(wr.alloc (tO t ad cp)).heap.size=B2+5:=by simp[hs5]
 rw[hs6] at hs7 hb7 hv7⊢;have hE:=rU.ext (PZ.ext P5);have hc2:Boxed w7 B2 178 (.map none):=P5.heap (PZ.heap hb2 (fun h=>h)) (fun h=>h);have hc3:Boxed w7 B3 4 (.bool false):=P5.heap (PZ.heap hb3 (fun h=>h)) (fun h=>h);have hc4:Boxed w7 B4 178 (.map (some M)):=P5.heap (PZ.heap hb4 (fun h=>h)) (fun h=>h);have ai0:=(hmp.ext PZ).ext P5;clear PZ P5 hb6 hs6 x0 x1 x2
 gi_wp2
 refine wpIn_rangeFunc_ownH hro h1 (gf:=188) (lb:= #[.pointer (some ⟨B2+5+1,0,none⟩),.pointer (some ⟨B2+5,0,none⟩)]) rfl trivial (enters_of Tryz.func188 (by kernel_rfl) rfl)
  (yB Fence.wide hd (9-1) hf hro (B2+5+1) (B2+5) (fun k=>k=B2\/k=B3\/k=M) (fun k=>k<B2) w7 (by omega) (by omega) (by omega) (by omega) t ad cp (hB2▸hR.ext hE) hv7 hb7 (by omega)) (fun h k=>gU.trans h k) (fun W l o o' _ hl hc _=>gU.putObj W l o o' hl hc) (Below.refl _ _) (fun _=>rfl)
  (fun pre W=> ∃m,iL [] (EO pre)=some m/\dP (fun s:ByteArray=>Value.string s) W M (qZ m)/\Boxed W B2 178 (.map none)/\Boxed W B3 4 (.bool false)/\Boxed W B4 178 (.map (some M))/\Ext w W/\w7.heap.size<=W.heap.size)
  (fun c pre W=>c= .ret/\iL [] (EO pre)=none/\Boxed W B2 178 (.map none)/\Boxed W B3 4 (.bool false)/\Ext w W)
  (fun s A B row hs hg hr=>by
   obtain⟨m,h1,h2,h3,h4,h5,h6,h7⟩:=hs;have hu:=au.m_ hg;have hne: ∀k,k<B2+7->¬some k=row:=fun k hk e=>by have:=(hr k e.symm).1;omega
   exact⟨m,h1,h2.kept hu (hne _ (by omega)),hu.heap h3 (hne _ (by omega)),hu.heap h4 (hne _ (by omega)),hu.heap h5 (hne _ (by omega)),h6.trans' hu (fun i hi e=>hne i (by omega) e),Nat.le_trans h7 hu.size⟩)
  (fun c s A B row hs hg hr=>by
   obtain⟨h1,h2,h3,h4,h6⟩:=hs;have hu:=au.m_ hg;have hne: ∀k,k<B2+7->¬some k=row:=fun k hk e=>by have:=(hr k e.symm).1;omega
   exact⟨h1,h2,hu.heap h3 (hne _ (by omega)),hu.heap h4 (hne _ (by omega)),h6.trans' hu (fun i hi e=>hne i (by omega) e)⟩)
  ⟨[],rfl,ai0,hc2,hc3,hc4,hE,Nat.le_refl _⟩
  (fun x a' W=> ∃Bx,B2+6<Bx/\W.heap[Bx]?=some (.cells #[.string x.t.name,.string x.t.sort,.slice x.a x.t.kids.length x.cap] 24 (0,0))/\a'={tmps:= #[.slice (some ⟨g,off,none⟩) 1 cap,undef,.pointer (some ⟨B2,0,none⟩),.pointer (some ⟨B3,0,none⟩),.pointer (some ⟨B4,0,none⟩),undef,.pointer (some ⟨B2+4,0,none⟩),.pointer (some ⟨Bx,0,none⟩),undef,undef,.map (some M),.slice (some ⟨g,off,none⟩) 1 cap,.int .i64 1,.int .i64 0,.bool true,.pointer (some ⟨g,off,none⟩),(.agg #[.string t.name,.string t.sort,.slice ad t.kids.length cp]),(.agg #[.string t.name,.string t.sort,.slice ad t.kids.length cp]),(.func (.func 188) #[] #[.pointer (some ⟨B2+5+1,0,none⟩),.pointer (some ⟨B2+5,0,none⟩)]),(.agg #[.string x.t.name,.string x.t.sort,.slice x.a x.t.kids.length x.cap]),.int .i64 (x.d:Int),undef,undef,undef,undef,undef,undef,undef,undef,undef,undef,undef,undef,undef,undef,undef,undef,undef,undef,undef,undef,undef,undef,undef,undef],defers:=[]})
  (fun x a' _ X Y row hs hg hr=>by
   obtain⟨Bx,e1,e2,e3⟩:=hs;refine⟨Bx,e1,(au.m_ hg).heap e2 (fun e=>?_),e3⟩;obtain⟨o,ho,hc⟩:=(hr Bx e.symm).2;rw[e2] at ho;cases ho;cases hc) ?assign ?body ?done ?stop
 case assign=>
  rintro l pre x W K ⟨m,i1,i2,i3,i4,i5,i6,i7⟩ hK;dsimp only[Nd.encs,tV];have hbx:=aj W (.cells #[.string x.t.name,.string x.t.sort,.slice x.a x.t.kids.length x.cap] 24);have hal:Ext W (W.alloc (.cells #[.string x.t.name,.string x.t.sort,.slice x.a x.t.kids.length x.cap] 24)):=(au.refl _ W).alloc _
  gi_wp2
  exact hK _ _ (jZ _ hal) (gU.yU hal) ⟨m,i1,i2.ext hal,i3.alloc _,i4.alloc _,i5.alloc _,i6.ext hal,Nat.le_trans i7 hal.size⟩ ⟨W.heap.size,by omega,hbx,rfl⟩
 case body=>
  rintro l pre x a' W hl hrec ⟨m,i1,i2,i3,i4,i5,i6,i7⟩ ⟨Bx,hBx,hbx,rfl⟩ hlt;have al0:=hE.size;obtain⟨x0,x1,x2⟩:=af hbx;have b4:=i5.cell;have r2:=i3.cell;have r3:=i4.cell;have s2:=i3.frozen;have s3:=i4.frozen;have hvs:=Xj pre x;by_cases hs0:x.t.sort.size=0
  .have hse:=iH _ hs0;rw[if_pos (show x.t.sort=ah from hse),List.append_nil] at hvs;rw[hse] at x1
   gi_wp2
   exact⟨KeepsFrom.refl _ _,gU.refl _ _,m,by rw[hvs];exact i1,i2,i3,i4,i5,i6,i7⟩
  have hne:x.t.sort≠ah:=fun e=>hs0 (by rw[e];rfl);rw[if_neg hne] at hvs;have hsf:iL [] (EO (pre++[x]))=(match fZ m x.t.name with|none=>some (m++[(x.t.name,x.t.sort)])|some s=>if s=x.t.sort then some m else none):=by
   rw[hvs,Cj,i1];show iL m [(x.t.name,x.t.sort)]=_;unfold iL;cases fZ m x.t.name with
   |none=>rfl
   |some s=>
    simp only;split<;>rfl
  have Cb:=ae hsf;obtain⟨e1,e2,e3,e4⟩:=fV x.t.sort (Nat.pos_of_ne_zero hs0);have hlk:=i2.get (P:=Tryz.prog) (t:=178) (oU Tryz.underlying9) Tryz.underlying178 (z:= .string ⟨#[]⟩) (Tryz.zeroValue9 W) x.t.name true;rw[Uz] at hlk;simp only[if_true] at hlk;have hM7:M<w7.heap.size:=by omega
  obtain⟨W2,hput,uu,hu2⟩:=i2.put (P:=Tryz.prog) (t:=178) (oU Tryz.underlying9) Tryz.underlying178 x.t.name (.string x.t.sort);cases hg:fZ m x.t.name with
  |none=>
   rw[hg] at hlk;have hv2:=LP m (x.t.name,x.t.sort) hg;simp only at hv2;rw[hv2] at uu;have oV:=Cb.out;rw[hg] at oV;clear hsf
   gi_wp2
   exact⟨JE hu2 (by omega),gU.Ce hu2 (fun k _ e=> .inr (.inr e)),_,oV,uu,hu2.heap i3 (by omega),hu2.heap i4 (by omega),hu2.heap i5 (by omega),i6.trans' hu2 (fun i hi e=>by omega),by have h9:=hu2.size;omega⟩
  |some s=>
   rw[hg] at hlk;have oV:=Cb.out;rw[hg] at oV;clear hsf;simp only at oV;by_cases hse:s=x.t.sort
   .rw [if_pos hse] at oV;have hv2:=LQ m (x.t.name,x.t.sort) (by rw[hg,hse]);simp only at hv2;rw[hv2] at uu;subst hse;have hbb:(x.t.sort.toList==x.t.sort.toList)=true:=by simp
    have Xk:=ae oV;clear oV
    gi_wp2
    exact⟨JE hu2 (by omega),gU.Ce hu2 (fun k _ e=> .inr (.inr e)),m,Xk.out,uu,hu2.heap i3 (by omega),hu2.heap i4 (by omega),hu2.heap i5 (by omega),i6.trans' hu2 (fun i hi e=>by omega),by have h9:=hu2.size;omega⟩
   .rw [if_neg hse] at oV;have hbb:(s.toList==x.t.sort.toList)=false:=by
     rw[beq_eq_false_iff_ne];intro e;exact hse (kD (by rw[Lib.toList_data,Lib.toList_data] at e;exact e))
    have Xk:=ae oV;clear oV
    gi_wp2
    have st:=((au.refl (fun k=>k=B2\/k=B3) W).setCell (p:=⟨B2,0,none⟩) (.inl (.inl rfl)) (.map none)).setCell (p:=⟨B3,0,none⟩) (.inl (.inr rfl)) (.bool false);have UA:Boxed (W.setCell ⟨B2,0,none⟩ (.map none)) B2 178 (.map none):=setBlock i3 0 (.map none);have i4':Boxed (W.setCell ⟨B2,0,none⟩ (.map none)) B3 4 (.bool false):=Boxed.other i4 (by omega) _;refine⟨ja _ st (fun k o e ho=>?_),rfl,Xk.out,Boxed.other UA (by omega) _,setBlock i4' 0 (.bool false),(i6.lC (show w.heap.size<=B2 by omega) _).lC (show w.heap.size<=B3 by omega) _⟩;rcases e with e|e
    .subst e;rw[show W.heap[k]?=_ from i3] at ho;cases ho;rfl
    .subst e;rw[show W.heap[k]?=_ from i4] at ho;cases ho;rfl
 case done=>
  rintro D xs W hD hS ⟨m,i1,i2,i3,i4,i5,i6,i7⟩ hK;have hso:jv t=some m:=by rw[aaO hS] at i1;exact i1
  have b4:=i5.cell;have r2:=i3.cell;have r3:=i4.cell;have s2:=i3.frozen;have s3:=i4.frozen
  gi_wp2
  rw[roundsIn_succ]
  gi_wp2
  have st:=((au.refl (fun k=>k=B2\/k=B3) W).setCell (p:=⟨B2,0,none⟩) (.inl (.inl rfl)) (.map (some M))).setCell (p:=⟨B3,0,none⟩) (.inl (.inr rfl)) (.bool true);have UA:Boxed (W.setCell ⟨B2,0,none⟩ (.map (some M))) B2 178 (.map (some M)):=setBlock i3 0 (.map (some M));have i4':Boxed (W.setCell ⟨B2,0,none⟩ (.map (some M))) B3 4 (.bool false):=Boxed.other i4 (by omega) _;have ai1:Boxed ((W.setCell ⟨B2,0,none⟩ (.map (some M))).setCell ⟨B3,0,none⟩ (.bool true)) B2 178 (.map (some M)):=Boxed.other UA (by omega) _;have ai2:Boxed ((W.setCell ⟨B2,0,none⟩ (.map (some M))).setCell ⟨B3,0,none⟩ (.bool true)) B3 4 (.bool true):=setBlock i4' 0 (.bool true);have hK':=(ja 0 st (fun k o e ho=>by
   rcases e with e|e
   .subst e;rw[show W.heap[k]?=_ from i3] at ho;cases ho;rfl
   .subst e;rw[show W.heap[k]?=_ from i4] at ho;cases ho;rfl)).same D _ (Nat.zero_le _) hK rfl
  refine⟨by simp,.inl ⟨_,_,rfl,run_takeDeferred hK',?_⟩⟩;have hc2:=cell_kept ai1.cell (grownBy_putObj' _ D (.deferred none)) (fun r e=>by cases e;exact⟨_,hK',rfl⟩);have hc3:=cell_kept ai2.cell (grownBy_putObj' _ D (.deferred none)) (fun r e=>by cases e;exact⟨_,hK',rfl⟩);have hM:=(i2.kept st (by omega)).kept (au.m_ (grownBy_putObj' _ D (.deferred none))) (fun e=>by cases e;omega);refine⟨.tuple #[.map (some M),.bool true],?_,?_⟩
  .simp [results,Tryz.f139,go_sem,hc2,hc3]
  .refine ⟨?_,((i6.lC (show w.heap.size<=B2 by omega) _).lC (show w.heap.size<=B3 by omega) _).trans' (au.m_ (grownBy_putObj' _ D (.deferred none))) (fun i hi e=>by cases e;omega)⟩;unfold Ci;rw[hso];exact⟨M,rfl,by omega,hM⟩
 case stop=>
  rintro D c pre W hD hS ⟨rfl,i1,i3,i4,i6⟩ hK;have hso:jv t=none:=by
   obtain⟨r,hr⟩:=aaP hS;unfold jv;rw[hr,Cj,i1];rfl
  gi_wp2
  refine⟨by simp,.inl ⟨_,_,rfl,run_takeDeferred hK,?_⟩⟩;have hc2:=cell_kept i3.cell (grownBy_putObj' _ D (.deferred none)) (fun r e=>by cases e;exact⟨_,hK,rfl⟩);have hc3:=cell_kept i4.cell (grownBy_putObj' _ D (.deferred none)) (fun r e=>by cases e;exact⟨_,hK,rfl⟩);refine⟨.tuple #[.map none,.bool false],?_,?_⟩
  .simp [results,Tryz.f139,go_sem,hc2,hc3]
  .refine ⟨?_,i6.trans' (au.m_ (grownBy_putObj' _ D (.deferred none))) (fun i hi e=>by cases e;omega)⟩;unfold Ci;rw[hso]
end
theorem LU {t:Tm} (h:formed aB t=false):wf aB t=false:=by unfold wf;rw[h,Bool.false_and]
theorem wV (t:Tm) (v:Value) (w:World) (htab:cO w) (hR:bG (fun k=>k<w.heap.size) w t v) (hsz:(t.size:Int)<=1000000000000):Calls Tryz.prog 128 #[v] w fun e w'=>e= .returned (.bool (wf aB t))/\Ext w w':=by
 have HR:=ae hR;obtain⟨a,cap,rfl,hT⟩:=hR;have cZ:=ae hT;dsimp only[tV];have HZ:=ae ((uR w).alloc (tO t a cap));have HB:=ae (aj w (tO t a cap));have HF:=ae (fun W (hW:Ext w W)=>LJ t _ W (aJ htab hW) ((HR.out.ext hW).weaken (fun k hk=>ax hk hW.size)) hsz);dsimp only[tV] at HF;obtain⟨c0,c1,c2⟩:=af HB.out;clear hT;cases hfm:formed aB t
 .rw [hfm] at HF;have hwf:=LU hfm;rw[hwf];clear hwf hfm
  go_enter Tryz.func128,Tryz.ntmps128
  go_wp2_with fail
  refine(HF.out _ HZ.out).mono ?_;rintro e w4 ⟨rfl,hw4⟩;have H4:=ae (HZ.out.ext hw4);clear hw4 c0 c1 c2
  go_wp2_with fail
  go_ret;exact⟨rfl,H4.out⟩
 rw[hfm] at HF;have EP:Hid (wf aB t=(jv t).isSome):=ae (by unfold wf;rw[hfm,Bool.true_and]);clear hfm;rw[EP.out]
 go_enter Tryz.func128,Tryz.ntmps128
 go_wp2_with fail
 refine(HF.out _ HZ.out).mono ?_;rintro e w4 ⟨rfl,hw4⟩;have H4:=ae (HZ.out.ext hw4);have HB4:=ae (hw4.heap HB.out (fun h=>h));clear hw4 c0 c1 c2;obtain⟨c0,c1,c2⟩:=af HB4.out;have jo:=ae (aj w4 (tO t a cap));have di:=ae (H4.out.alloc (tO t a cap))
 go_wp2_with fail
 generalize (w4.alloc (tO t a cap))=w5 at*;obtain⟨x0,x1,x2⟩:=af jo.out;have vS:=ae (PY t w4.heap.size 0 1 0 cap a w5 ⟨x0,x1,x2⟩ ((cZ.out.ext di.out).weaken (fun k hk=>ax hk di.out.size)) hsz);clear x0 x1 x2 c0 c1 c2;refine vS.out.mono ?_;rintro e w6 ⟨hp,hw6⟩;have H6:=ae (di.out.ext hw6);unfold Ci at hp;clear hw6 vS;cases hso:jv t with
 |none=>
  rw[hso] at hp;simp only at hp;subst hp
  go_wp2_with fail
  go_ret;rw[hso];exact⟨rfl,H6.out⟩
 |some m=>
  rw[hso] at hp;simp only at hp;obtain⟨b,rfl,_,_⟩:=hp
  go_wp2_with fail
  go_ret;rw[hso];exact⟨rfl,H6.out⟩
section
open Go.Shelf
attribute [local go_sem] Oper.semAt_some
def rf (pre:List Nd):Nat:=pre.foldl (fun m x=>max m x.d) 0
theorem Xl (pre:List Nd) (x:Nd):rf (pre++[x])=max (rf pre) x.d:=by unfold rf;rw[List.foldl_append];rfl
theorem UB: ∀(t:Tm) (d m:Nat),d<=m+1->((dh d t).map (·.2)).foldl max m=max m (d+t.depth-1):=by
 refine Tm.ind (fun nm so L ih d m hm=>?_);have hL: ∀(L:List Tm) (d m:Nat),1<=d->d<=m+1->(∀x∈L,∀(d m:Nat),d<=m+1->((dh d x).map (·.2)).foldl max m=max m (d+x.depth-1))->((bZ d L).map (·.2)).foldl max m=max m (d-1+depths L):=by
  intro L
  induction L with
  |nil=>intro d m h1 h2 _;simp[bZ,depths];omega
  |cons a L ihL=>
   intro d m h1 h2 h;simp only[bZ,List.map_append,List.foldl_append,depths];rw[h a (List.mem_cons_self ..) d m h2,ihL d _ h1 (by omega) (fun x hx=>h x (List.mem_cons_of_mem _ hx))];omega
 rw[jV,jH];simp only[List.map_cons,List.foldl_cons,Tm.kids];rw[hL L (d+1) (max m d) (by omega) (by omega) ih];omega
theorem aaQ {xs:List Nd} {t:Tm} (h:xs.map Nd.pr=dh 1 t):rf xs=t.depth:=by
 have h1:=UB t 1 0 (by omega);rw[<-h,List.map_map] at h1;have h2:rf xs=(xs.map ((fun x=>x.2)∘Nd.pr)).foldl max 0:=by
  unfold rf;rw[List.foldl_map];rfl
 rw[h2,h1];have:=jH t;omega
def vT (t:Tm):Nat:=if wf aB t then t.size else 0
def ER (t:Tm):Nat:=if wf aB t then t.depth else 0
theorem UC (t:Tm) (v:Value) (w:World) (htab:cO w) (hR:bG (fun k=>k<w.heap.size) w t v) (hsz:(t.size:Int)<=1000000000000):Calls Tryz.prog 194 #[v] w fun e w'=>e= .returned (.tuple #[.int .i64 (vT t:Nat),.int .i64 (ER t:Nat)])/\Ext w w':=by
 have HR:=ae hR;obtain⟨a,cap,rfl,hT⟩:=hR;dsimp only[tV];have lX:=ae (fun W (hW:Ext w W)=>wV t _ W (aJ htab hW) ((HR.out.ext hW).weaken (fun k hk=>ax hk hW.size)) hsz);dsimp only[tV] at lX;have PX:Ext w (((w.alloc (tO t a cap)).alloc (.cells #[.int .i64 0] 3)).alloc (.cells #[.int .i64 0] 3)):=(((uR w).alloc _).alloc _).alloc _;have hs3:(((w.alloc (tO t a cap)).alloc (.cells #[.int .i64 0] 3)).alloc (.cells #[.int .i64 0] 3)).heap.size=w.heap.size+3:=by simp
 have hb1:(((w.alloc (tO t a cap)).alloc (.cells #[.int .i64 0] 3)).alloc (.cells #[.int .i64 0] 3)).heap[w.heap.size]?=some (tO t a cap):=ak (ak (aj _ _) _) _;have hb2:Boxed (((w.alloc (tO t a cap)).alloc (.cells #[.int .i64 0] 3)).alloc (.cells #[.int .i64 0] 3)) (w.heap.size+1) 3 (.int .i64 0):=ak (alloc_at _ _ (by simp)) _;have hb3:Boxed (((w.alloc (tO t a cap)).alloc (.cells #[.int .i64 0] 3)).alloc (.cells #[.int .i64 0] 3)) (w.heap.size+1+1) 3 (.int .i64 0):=alloc_at _ _ (by simp);refine(callsIn_wide (n:=9)).1 ?_;have hro:Fence.wide.round=none:=rfl;have hd:Fence.wide.depth=none:=rfl;have hf: ∀k,Fence.wide.fn k:=fun _=>trivial;have h1:1<=9:=by omega
 refine callsIn_of_wp_marks Tryz.func194 rfl trivial ?_ hro;obtain⟨c0,c1,c2⟩:=af hb1;simp only[Tryz.ntmps194,List.size_toArray,List.length_cons,List.length_nil,Nat.reduceAdd,Nat.reduceSub,Array.replicate_succ,Array.replicate_zero,List.push_toArray,List.append_toArray,List.nil_append,List.cons_append]
 gi_wp2
 generalize (((w.alloc (tO t a cap)).alloc (.cells #[.int .i64 0] 3)).alloc (.cells #[.int .i64 0] 3))=w3 at*;generalize hB1:w.heap.size+1=B1 at*;generalize hB0:w.heap.size=B0 at*;refine(callsIn_wide.2 (lX.out _ PX)).mono ?_;rintro e w4 ⟨rfl,oq⟩;have ab8:=oq.heap hb1 (fun h=>h);have LV:Boxed w4 B1 3 (.int .i64 0):=oq.heap hb2 (fun h=>h);have IX:Boxed w4 (B1+1) 3 (.int .i64 0):=oq.heap hb3 (fun h=>h);have hE:=PX.ext oq;have RY:=oq.size;obtain⟨c0,c1,c2⟩:=af ab8;have r2:=LV.cell;have r3:=IX.cell;have s2:=LV.frozen;have s3:=IX.frozen;clear oq PX hb1 hb2 hb3;cases hwf:wf aB t
 .have e1:vT t=0:=by unfold vT;rw[hwf];rfl
  have e2:ER t=0:=by unfold ER;rw[hwf];rfl
  gi_wp2
  have i2:Boxed (w4.setCell ⟨B1,0,none⟩ (.int .i64 0)) B1 3 (.int .i64 0):=setBlock LV 0 (.int .i64 0);have i3:Boxed (w4.setCell ⟨B1,0,none⟩ (.int .i64 0)) (B1+1) 3 (.int .i64 0):=Boxed.other IX (by omega) _;have i2':Boxed ((w4.setCell ⟨B1,0,none⟩ (.int .i64 0)).setCell ⟨B1+1,0,none⟩ (.int .i64 0)) B1 3 (.int .i64 0):=Boxed.other i2 (by omega) _;have UA:Boxed ((w4.setCell ⟨B1,0,none⟩ (.int .i64 0)).setCell ⟨B1+1,0,none⟩ (.int .i64 0)) (B1+1) 3 (.int .i64 0):=setBlock i3 0 (.int .i64 0);have q2:=i2'.cell;have q3:=UA.cell;refine⟨.tuple #[.int .i64 0,.int .i64 0],by simp[results,Tryz.f194,go_sem,q2,q3],by rw[e1,e2];rfl,(hE.lC (show w.heap.size<=B1 by omega) _).lC (show w.heap.size<=B1+1 by omega) _⟩
 have e1:vT t=t.size:=by unfold vT;rw[hwf];rfl
 have e2:ER t=t.depth:=by unfold ER;rw[hwf];rfl
 gi_wp2
 refine(callsIn_wide.2 (IQ t (.slice a t.kids.length cap) w4 ⟨_,_,_,rfl⟩)).mono ?_;rintro e w5 ⟨rfl,rU,hs5,hb5,hv5⟩;have hc2:Boxed w5 B1 3 (.int .i64 0):=rU.heap LV (fun h=>h);have hc3:Boxed w5 (B1+1) 3 (.int .i64 0):=rU.heap IX (fun h=>h);have hEE:=hE.ext rU;have Cm:=IX.lt;clear r2 r3 s2 s3 c0 c1 c2 ab8 LV IX;obtain⟨Z,hZ⟩: ∃Z,w4.heap.size=Z:=⟨_,rfl⟩
 rw[hZ] at hs5 hb5 hv5 RY Cm⊢
 gi_wp2
 refine wpIn_rangeFunc_ownH hro h1 (gf:=188) (lb:= #[.pointer (some ⟨Z+1,0,none⟩),.pointer (some ⟨Z,0,none⟩)]) rfl trivial (enters_of Tryz.func188 (by kernel_rfl) rfl)
  (yB Fence.wide hd (9-1) hf hro (Z+1) Z (fun k=>k=B1\/k=B1+1) (fun k=>k<B0) w5 (by omega) (by omega) (by omega) (by omega) t a cap (hB0▸hT.ext hEE) hv5 hb5 (by omega)) (fun h k=>gU.trans h k) (fun W l o o' _ hl hc _=>gU.putObj W l o o' hl hc) (Below.refl _ _) (fun _=>rfl)
  (fun pre W=>(Boxed W B1 3 (.int .i64 (pre.length:Int))/\Boxed W (B1+1) 3 (.int .i64 (rf pre:Int)))/\Below B0 w W)
  (fun _ _ _=>False)
  (OwnFrom.and (OwnFrom.and (Own.from (boxed_own B1 3 (fun pre:List Nd=>Value.int .i64 (pre.length:Int))) _) (Own.from (boxed_own (B1+1) 3 (fun pre:List Nd=>Value.int .i64 (rf pre:Int))) _)) (ownFrom_below (by omega) (by omega)))
  (fun _ _ _ _ _ hs _ _=>hs)
  ⟨⟨hc2,hc3⟩,hB0▸Ext.below hEE⟩
  (fun x a' W=>a'={tmps:= #[(.agg #[.string t.name,.string t.sort,.slice a t.kids.length cap]),.pointer (some ⟨B0,0,none⟩),.pointer (some ⟨B1,0,none⟩),.pointer (some ⟨B1+1,0,none⟩),undef,.int .i64 (x.d:Int),(.agg #[.string t.name,.string t.sort,.slice a t.kids.length cap]),.bool true,.bool false,(.agg #[.string t.name,.string t.sort,.slice a t.kids.length cap]),(.func (.func 188) #[] #[.pointer (some ⟨Z+1,0,none⟩),.pointer (some ⟨Z,0,none⟩)]),(.agg #[.string x.t.name,.string x.t.sort,.slice x.a x.t.kids.length x.cap]),.int .i64 (x.d:Int),undef,undef,undef,undef,undef,undef,undef],defers:=[]})
  (fun x a' _ X Y row hs hg hr=>hs) ?assign ?body ?done ?stop
 case assign=>
  rintro l pre x W K ⟨⟨i1,i2⟩,i3⟩ hK;dsimp only[Nd.encs,tV]
  gi_wp2
  exact hK _ _ (KeepsFrom.refl _ _) (gU.refl _ _) ⟨⟨i1,i2⟩,i3⟩ rfl
 case body=>
  rintro l pre x a' W hl hrec ⟨⟨i1,i2⟩,i3⟩ rfl hlt;have hd1:=Xl pre x;have r2:=i1.cell;have r3:=i2.cell;have s2:=i1.frozen;have s3:=i2.frozen;have hwn:IntKind.i64.wrap ((pre.length:Int)+1)=(pre.length:Int)+1:=IntWalk.i64_in _ (by omega);have u2:Boxed (W.setCell ⟨B1,0,none⟩ (.int .i64 ((pre.length:Int)+1))) (B1+1) 3 (.int .i64 (rf pre:Int)):=Boxed.other i2 (by omega) _;have u3:=u2.cell;have u4:=u2.frozen
  gi_wp2
  have st:=((au.refl (fun k=>k=B1\/k=B1+1) W).setCell (p:=⟨B1,0,none⟩) (.inl (.inl rfl)) (.int .i64 ((pre.length:Int)+1))).setCell (p:=⟨B1+1,0,none⟩) (.inl (.inr rfl)) (.int .i64 (max (rf pre:Int) (x.d:Int)));have e3:((rf (pre++[x]):Nat):Int)=max (rf pre:Int) (x.d:Int):=by rw[hd1];omega
  have u1:Boxed (W.setCell ⟨B1,0,none⟩ (.int .i64 ((pre.length:Int)+1))) B1 3 (.int .i64 ((pre.length:Int)+1)):=setBlock i1 0 _;refine⟨ja _ st (fun k o e ho=>?_),gU.Ce st (fun k _ e=>e),⟨?_,?_⟩,(i3.setCell (p:=⟨B1,0,none⟩) (by show B0<=B1;omega) _).setCell (p:=⟨B1+1,0,none⟩) (by show B0<=B1+1;omega) _⟩
  .rcases e with e|e
   .subst e;rw[show W.heap[k]?=_ from i1] at ho;cases ho;rfl
   .subst e;rw[show W.heap[B1+1]?=_ from i2] at ho;cases ho;rfl
  .rw [List.length_append];exact Boxed.other u1 (by omega) _
  .rw [e3];exact setBlock u2 0 _
 case done=>
  rintro D xs W hD hS ⟨⟨i1,i2⟩,i3⟩ hK;have r2:=i1.cell;have r3:=i2.cell;have s2:=i1.frozen;have s3:=i2.frozen
  gi_wp2
  refine wpIn_wide.2 ?_
  go_region
  gi_wp2
  have st:=((au.refl (fun k=>k=B1\/k=B1+1) W).setCell (p:=⟨B1,0,none⟩) (.inl (.inl rfl)) (.int .i64 (xs.length:Int))).setCell (p:=⟨B1+1,0,none⟩) (.inl (.inr rfl)) (.int .i64 (rf xs:Int));have hK1:=(ja 0 st (fun k o e ho=>by
   rcases e with e|e
   .subst e;rw[show W.heap[k]?=_ from i1] at ho;cases ho;rfl
   .subst e;rw[show W.heap[B1+1]?=_ from i2] at ho;cases ho;rfl)).same D _ (Nat.zero_le _) hK rfl
  have hK':((W.setCell ⟨B1,0,none⟩ (.int .i64 (xs.length:Int))).setCell ⟨B1+1,0,none⟩ (.int .i64 (rf xs:Int))).drew.heap[D]?=some (.deferred (some [])):=hK1;have u1:Boxed (W.setCell ⟨B1,0,none⟩ (.int .i64 (xs.length:Int))) B1 3 (.int .i64 (xs.length:Int)):=setBlock i1 0 _;have u2:Boxed (W.setCell ⟨B1,0,none⟩ (.int .i64 (xs.length:Int))) (B1+1) 3 (.int .i64 (rf xs:Int)):=Boxed.other i2 (by omega) _;have u3:Boxed ((W.setCell ⟨B1,0,none⟩ (.int .i64 (xs.length:Int))).setCell ⟨B1+1,0,none⟩ (.int .i64 (rf xs:Int))).drew B1 3 (.int .i64 (xs.length:Int)):=Boxed.other u1 (by omega) _;have u4:Boxed ((W.setCell ⟨B1,0,none⟩ (.int .i64 (xs.length:Int))).setCell ⟨B1+1,0,none⟩ (.int .i64 (rf xs:Int))).drew (B1+1) 3 (.int .i64 (rf xs:Int)):=setBlock u2 0 _;refine⟨by simp,.inl ⟨_,_,rfl,run_takeDeferred hK',?_⟩⟩;have hc2:=cell_kept u3.cell (grownBy_putObj' _ D (.deferred none)) (fun r e=>by cases e;exact⟨_,hK',rfl⟩);have hc3:=cell_kept u4.cell (grownBy_putObj' _ D (.deferred none)) (fun r e=>by cases e;exact⟨_,hK',rfl⟩);have hl:xs.length=t.size:=by have:=congrArg List.length hS;rw[List.length_map,jR] at this;exact this
  refine⟨.tuple #[.int .i64 (xs.length:Int),.int .i64 (rf xs:Int)],?_,?_⟩
  .simp [results,Tryz.f194,go_sem,hc2,hc3]
  .refine ⟨by rw[e1,e2,hl,aaQ hS],?_⟩;have hEW:Ext w ((W.setCell ⟨B1,0,none⟩ (.int .i64 (xs.length:Int))).setCell ⟨B1+1,0,none⟩ (.int .i64 (rf xs:Int))).drew:=((xR i3 (by omega)).lC (show w.heap.size<=B1 by omega) _).lC (show w.heap.size<=B1+1 by omega) _|>.drew
   exact hEW.trans' (au.m_ (grownBy_putObj' _ D (.deferred none))) (fun i hi e=>by cases e;omega)
 case stop=>
  rintro D c pre W _ _ h _;exact h.elim
end
theorem ES (d:Nat) (x:Tm): ∀(L:List Tm) (left:Int),0<=left->smalls aB d left (L++[x])=if smalls aB d left L<0 then smalls aB d left L else small aB d (smalls aB d left L) x
 |[],left,h=>by
  simp only[List.nil_append,smalls];have hn: ¬left<0:=by omega
  simp only[hn,if_false];split<;>rfl
 |a::L,left,h=>by
  simp only[List.cons_append,smalls];by_cases hn:small aB d left a<0
  .simp only [hn,if_true]
  .simp only [hn,if_false];exact ES d x L _ (by omega)
theorem Gx (d:Nat) (M:List Tm): ∀(L:List Tm) (left:Int),0<=left->smalls aB d left L<0->smalls aB d left (L++M)=smalls aB d left L
 |[],left,h,h2=>by simp only[smalls] at h2;omega
 |a::L,left,h,h2=>by
  simp only[List.cons_append,smalls] at h2⊢;by_cases hn:small aB d left a<0
  .rw [if_pos hn,if_pos hn]
  .rw [if_neg hn] at h2⊢;rw[if_neg hn];exact Gx d M L _ (by omega) h2
theorem Xm (d:Nat) (left:Int) (t:Tm): -1<=small aB d left t/\(small aB d left t<=left\/small aB d left t= -1):=by
 rw[Gy];have:=size_pos t;split
 .rename_i h;exact⟨by omega,.inl (by omega)⟩
 .exact ⟨by omega,.inr rfl⟩
theorem LW (t:Tm) (v:Value) (w:World) (htab:cO w) (hR:bG (fun k=>k<w.heap.size) w t v) (hsz:(t.size:Int)<=1000000000000):Calls Tryz.prog 145 #[v] w fun e w'=>e= .returned (.int .i64 (vT t:Nat))/\Ext w w':=by
 have HR:=ae hR;obtain⟨a,cap,rfl,hT⟩:=hR;dsimp only[tV];have HZ:=ae ((uR w).alloc (tO t a cap));have hb:=aj w (tO t a cap);have HF:=ae (fun W (hW:Ext w W)=>UC t _ W (aJ htab hW) ((HR.out.ext hW).weaken (fun k hk=>ax hk hW.size)) hsz);dsimp only[tV] at HF;obtain⟨c0,c1,c2⟩:=af hb;clear hT hb;generalize vT t=X at*;generalize ER t=Y at*
 go_enter Tryz.func145,Tryz.ntmps145
 go_wp2_with fail
 refine(HF.out _ HZ.out).mono ?_;rintro e w4 ⟨rfl,hw4⟩;have H4:=ae (HZ.out.ext hw4);clear hw4 c0 c1 c2
 go_wp2_with fail
 go_ret;exact⟨rfl,H4.out⟩
theorem yZ: ∀(t:Tm) (d:Nat) (left:Int) (v:Value) (S:Nat->Prop) (w:World),bG S w t v->d<=1000-> -1<=left->left<=1000->
  Calls Tryz.prog 83 #[v,.int .i64 (d:Int),.int .i64 left] w fun e w'=>e= .returned (.int .i64 (small aB d left t))/\Ext w w':=by
 refine Tm.ind (fun nm so L ih=>?_);intro d left v S w hR hd hl0 hl1;obtain⟨a,cap,rfl,hT⟩:=hR;dsimp only[tV,Tm.name,Tm.sort,Tm.kids] at hT⊢;have cZ:=ae hT;have HIH:=ae ih;clear ih hT;have HZ:=ae ((uR w).alloc (.cells #[.string nm,.string so,.slice a L.length cap] 24));have HB:=ae (aj w (.cells #[.string nm,.string so,.slice a L.length cap] 24));obtain⟨c0,c1,c2⟩:=af HB.out;have hok: ∀b,kJ aB (.mk nm so L,d)=b->kJ aB (.mk nm so L,d)=b:=fun _ h=>h;have ab9:kJ aB (.mk nm so L,d)=(decide (d<=60)&&(aB nm&&(decide (L.length<=6)&&(decide (so=ah)||(aB so&&decide (L.length=0)))))):=rfl;have jO:=ae ab9;clear hok ab9;by_cases h1:left<=0
 .have t1:decide (left<=0)=true:=dT h1;have hr:small aB d left (.mk nm so L)= -1:=by
   rw[ng,if_pos (.inl h1)]
  rw[hr]
  go_enter Tryz.func83,Tryz.ntmps83
  go_wp2_with fail
  go_ret;exact⟨rfl,HZ.out⟩
 have t1:decide (left<=0)=false:=dF h1;by_cases h2:60<d
 .have t2:decide ((60:Int)< (d:Int))=true:=dT (by omega);have t2':decide (60<d)=true:=dT h2;have hr:small aB d left (.mk nm so L)= -1:=by
   rw[ng,if_pos (.inr (by rw[jO.out,dF (show ¬d<=60 by omega),Bool.false_and]))]
  rw[hr]
  go_enter Tryz.func83,Tryz.ntmps83
  go_wp2_with fail
  go_ret;exact⟨rfl,HZ.out⟩
 have t2:decide ((60:Int)< (d:Int))=false:=dF (by omega);have t2':decide (60<d)=false:=dF h2;have k2:decide (d<=60)=true:=dT (by omega);by_cases h3:6<L.length
 .have t3:decide ((6:Int)< (L.length:Int))=true:=dT (by omega);have P6:decide (6<L.length)=true:=dT h3;have hr:small aB d left (.mk nm so L)= -1:=by
   rw[ng,if_pos (.inr (by rw[jO.out,dF (show ¬L.length<=6 by omega)];simp))]
  rw[hr]
  go_enter Tryz.func83,Tryz.ntmps83
  go_wp2_with fail
  go_ret;exact⟨rfl,HZ.out⟩
 have t3:decide ((6:Int)< (L.length:Int))=false:=dF (by omega);have P6:decide (6<L.length)=false:=dF h3;have k3:decide (L.length<=6)=true:=dT (by omega);have lV:=ae (fun W=>JF nm W);cases hnm:aB nm
 .rw [hnm] at lV;have hr:small aB d left (.mk nm so L)= -1:=by
   rw[ng,if_pos (.inr (by rw[jO.out,hnm];simp))]
  rw[hr]
  go_enter Tryz.func83,Tryz.ntmps83
  go_wp2_with fail
  refine(lV.out _).mono ?_;rintro e w4 ⟨rfl,hw4⟩;have H4:=ae (HZ.out.ext hw4);have hb4:=HB.out;have HB4:=ae (hw4.heap hb4 (fun h=>h));clear hw4 hb4 c0 c1 c2;obtain⟨c0,c1,c2⟩:=af HB4.out
  go_wp2_with fail
  go_ret;exact⟨rfl,H4.out⟩
 rw[hnm] at lV;by_cases hs0:so.size=0
 .have hse:=iH _ hs0;have A_:small aB d left (.mk nm so L)=smalls aB (d+1) (left-1) L:=by
   rw[ng];refine if_neg ?_;rintro(h|h)
   .omega
   .rw [jO.out,k2,hnm,k3,dT (show so=ah from hse)] at h;cases h
  subst hse
  go_enter Tryz.func83,Tryz.ntmps83
  go_wp2_with fail
  refine(lV.out _).mono ?_;rintro e w4 ⟨rfl,hw4⟩;have H4:=ae (HZ.out.ext hw4);have hb4:=HB.out;have HB4:=ae (hw4.heap hb4 (fun h=>h));clear hw4 hb4 c0 c1 c2;obtain⟨c0,c1,c2⟩:=af HB4.out
  go_wp2_with fail
  clear c0 c1 c2
  go_loopg [2,7] L.length (fun gk lv iv wr=> ∃(k:Nat) (cur:Int),lv= .int .i64 cur/\iv= .int .i64 (k:Int)/\gk=L.length-k/\k<=L.length/\Hid (smalls aB (d+1) (left-1) (L.take k)=cur)/\0<=cur/\cur<=1000/\Hid (Ext w wr)/\Hid (wr.heap[w.heap.size]?=some (.cells #[.string nm,.string ⟨#[]⟩,.slice a L.length cap] 24 (0,0))))
  case atStart=>exact⟨0,left-1,by first|rfl|go_num,rfl,rfl,Nat.zero_le _,ae rfl,by omega,by omega,H4,HB4⟩
  case round=>
   obtain⟨k,cur,rfl,rfl,rfl,hk,HC,hc0,hc1,HE,jf⟩:=hrel;have c2:=ag jf.out 2 (.slice a L.length cap) rfl;by_cases hlt:k<L.length
   .obtain ⟨g,off,rfl,_,hat⟩:=(cZ.out.ext HE.out).at_ (by omega);obtain⟨a',cap',q0,q1,q2,aQ⟩:=hat k hlt;obtain⟨z0,z1,z2,z2'⟩:=bJ hlt;have hmem:tg L k∈L:=by unfold tg;rw[List.getD_eq_getElem?_getD,List.getElem?_eq_getElem hlt];exact List.getElem_mem hlt
    have htk:L.take (k+1)=L.take k++[tg L k]:=by
     rw[List.take_add_one];have:L[k]?.toList=[tg L k]:=by unfold tg;rw[List.getD_eq_getElem?_getD,List.getElem?_eq_getElem hlt];rfl
     rw[this]
    have hsp:L=L.take (k+1)++L.drop (k+1):=(List.take_append_drop _ _).symm;have aW:=ae (HIH.out (tg L k) hmem (d+1) cur _ S wr ⟨a',cap',rfl,aQ⟩ (by omega) (by omega) hc1);have hsn:=ES (d+1) (tg L k) (L.take k) (left-1) (by omega);rw[HC.out,if_neg (show ¬cur<0 by omega),<-htk] at hsn;have hbd:=Xm (d+1) cur (tg L k);have HNG:=ae (Gx (d+1) (L.drop (k+1)) (L.take (k+1)) (left-1) (by omega));rw[<-hsp] at HNG;generalize tg L k=x at*;rw[<-Nat.add_assoc] at q1 q2;dsimp only[tV] at aW;rw[show(((d+1:Nat)):Int)=(d:Int)+1 by omega] at aW;have hw1:IntKind.i64.wrap ((d:Int)+1)=(d:Int)+1:=IntWalk.i64_in _ (by omega);obtain⟨r,hr0⟩: ∃r,small aB (d+1) cur x=r:=⟨_,rfl⟩
    rw[hr0] at aW hsn hbd;have iD:=ae hsn;clear hsn hr0 htk hsp hmem aQ hat
    go_wp2_with fail
    refine aW.out.mono ?_;rintro e w8 ⟨rfl,hw8⟩;have bU:=ae (HE.out.ext hw8);have jK:=ae (hw8.heap jf.out (fun h=>h));clear hw8 c2 q0 q1 q2 aW;by_cases hrn:r<0
    .have hr1:decide (r<0)=true:=dT hrn;have HRV:Hid (small aB d left (.mk nm ⟨#[]⟩ L)=r):=ae (by rw[A_,HNG.out (by rw[iD.out];exact hrn),iD.out])
     go_wp2_with fail
     go_ret;rw[HRV.out];exact⟨rfl,bU.out⟩
    .have hr1:decide (r<0)=false:=dF hrn
     go_wp2_with fail
     go_roundg (L.length- (k+1))
     case measure=>omega
     case rel=>exact⟨k+1,r,rfl,by go_num,rfl,by omega,iD,by omega,by omega,bU,jK⟩
   .obtain rfl:k=L.length:=by omega
    have HRV:Hid (small aB d left (.mk nm ⟨#[]⟩ L)=cur):=ae (by rw[A_,<-HC.out,List.take_length]);have z2:decide ((L.length:Int)< (L.length:Int))=false:=dF (by omega)
    go_wp2_with fail
    go_ret;rw[HRV.out];exact⟨rfl,HE.out⟩
 have k5:decide (so=ah)=false:=dF (fun e=>hs0 (by rw[e];rfl));obtain⟨e1,e2,e3,e4⟩:=fV so (Nat.pos_of_ne_zero hs0);by_cases h7:0<L.length
 .have t7:decide ((0:Int)< (L.length:Int))=true:=dT (by omega);have t7':decide (0<L.length)=true:=dT h7;have hr:small aB d left (.mk nm so L)= -1:=by
   rw[ng,if_pos (.inr (by rw[jO.out,k5,dF (show ¬L.length=0 by omega)];simp))]
  rw[hr];clear hr jO HIH;generalize L.length=KL at*
  go_enter Tryz.func83,Tryz.ntmps83
  go_wp2_with fail
  refine(lV.out _).mono ?_;rintro e w4 ⟨rfl,hw4⟩;have H4:=ae (HZ.out.ext hw4);have hb4:=HB.out;have HB4:=ae (hw4.heap hb4 (fun h=>h));clear hw4 hb4 c0 c1 c2;obtain⟨c0,c1,c2⟩:=af HB4.out
  go_wp2_with fail
  go_ret;exact⟨rfl,H4.out⟩
 have hLn:L=[]:=List.eq_nil_of_length_eq_zero (by omega);subst hLn;have jh:=ae (fun W=>JF so W);cases hns:aB so
 .rw [hns] at jh;have hr:small aB d left (.mk nm so [])= -1:=by
   rw[ng,if_pos (.inr (by rw[jO.out,k5,hns];simp))]
  rw[hr]
  go_enter Tryz.func83,Tryz.ntmps83
  go_wp2_with fail
  refine(lV.out _).mono ?_;rintro e w4 ⟨rfl,hw4⟩;have H4:=ae (HZ.out.ext hw4);have hb4:=HB.out;have HB4:=ae (hw4.heap hb4 (fun h=>h));clear hw4 hb4 c0 c1 c2;obtain⟨c0,c1,c2⟩:=af HB4.out
  go_wp2_with fail
  refine(jh.out _).mono ?_;rintro e w5 ⟨rfl,hw5⟩;have H5:=ae (H4.out.ext hw5);have hb5:=HB4.out;have dW:=ae (hw5.heap hb5 (fun h=>h));clear hw5 hb5 c0 c1 c2;obtain⟨c0,c1,c2⟩:=af dW.out
  go_wp2_with fail
  go_ret;exact⟨rfl,H5.out⟩
 rw[hns] at jh;have A_:small aB d left (.mk nm so [])=smalls aB (d+1) (left-1) []:=by
  rw[ng];refine if_neg ?_;rintro(h|h)
  .omega
  .rw [jO.out,k2,hnm,k3,k5,hns] at h;cases h
 go_enter Tryz.func83,Tryz.ntmps83
 go_wp2_with fail
 refine(lV.out _).mono ?_;rintro e w4 ⟨rfl,hw4⟩;have H4:=ae (HZ.out.ext hw4);have hb4:=HB.out;have HB4:=ae (hw4.heap hb4 (fun h=>h));clear hw4 hb4 c0 c1 c2;obtain⟨c0,c1,c2⟩:=af HB4.out
 go_wp2_with fail
 refine(jh.out _).mono ?_;rintro e w5 ⟨rfl,hw5⟩;have H5:=ae (H4.out.ext hw5);have hb5:=HB4.out;have dW:=ae (hw5.heap hb5 (fun h=>h));clear hw5 hb5 c0 c1 c2;obtain⟨c0,c1,c2⟩:=af dW.out
 go_wp2_with fail
 clear c0 c1 c2
 go_loopg [2,7] 1 (fun gk lv iv wr=>lv= .int .i64 (left-1)/\iv= .int .i64 0/\gk=1/\Hid (Ext w wr)/\Hid (wr.heap[w.heap.size]?=some (.cells #[.string nm,.string so,.slice a ([]:List Tm).length cap] 24 (0,0))))
 case atStart=>exact⟨by first|rfl|go_num,rfl,rfl,H5,dW⟩
 case round=>
  obtain⟨rfl,rfl,rfl,HE,jf⟩:=hrel;have c2:=ag jf.out 2 (.slice a ([]:List Tm).length cap) rfl
  go_wp2_with fail
  go_ret;rw[A_];exact⟨rfl,HE.out⟩
end Go.Proofs.YtlkcjmaiahnodaaGreatDoor
