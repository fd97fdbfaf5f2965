/- The texts I1 Shelf LX LN I2 I3 I4 I5 I6, one behind the other. -/
import Derived.RangeFuncNested
import Derived.RangeFuncBound
import Derived.RangeFuncCalls
import Derived.RangeFuncLeaves
import Derived.Shelf.Abstract
import Derived.Shelf.RegionOpen
import Derived.WalkKit
import Derived.OwnWalkIn
import Derived.TacticsInMore
import Derived.LoopNIn
import Derived.LoopIn
import Derived.Sort.LoopGhostIn
import Derived.Laws.EntriesVeiled
import Derived.Test.YtlkcjmaiahnodaaGreatDoorEAB
import Derived.Test.YtlkcjmaiahnodaaGreatDoorProg
import Derived.Shelf.Small.Bits
import Derived.Shelf.Small.Strs
import Derived.Shelf.Strconv.Itoa0
import Derived.Shelf.Strings.Fields
import Derived.Shelf.Slices.Turned
import Derived.Shelf.Slices.Equal
import Derived.Ground.Names2Prog
import Derived.Shelf.Slices.Clone
import Derived.Shelf.Slices.Empties2
import Derived.Ground.SlgnProg
import Derived.Shelf.SlicesE.Clone
import Derived.Shelf.Spec.SearchS
import Derived.Lib.Strings
import Derived.Lib.SlicesS
set_option maxRecDepth 100000
set_option maxHeartbeats 8000000
set_option linter.unusedVariables false
set_option linter.unusedSimpArgs false
namespace Go.Proofs.YtlkcjmaiahnodaaGreatDoor
open Go.RowKit Go.Hw Go Tm
section
open Go.Shelf
attribute [local go_sem] Oper.semAt_some
theorem room_of_none {F:Fence} (hd:F.depth=none) (k:Nat):F.room k:=fun d h=>by rw[hd] at h;cases h
theorem RoundIn.anyDepth {F:Fence} (hd:F.depth=none) {m m':Nat} {P:Program} {l:Nat} {f:FuncId} {tmps:Array Value} {assign body:Code} {w:World} {R:Ending->World->Prop}
  (h:RoundIn F m P l f tmps assign body w R):RoundIn F m' P l f tmps assign body w R:=⟨h.1,fun c cs _=>h.2 c cs (room_of_none hd _)⟩
theorem YieldAt.anyDepth {F:Fence} (hd:F.depth=none) {m:Nat} (m':Nat) {P:Program} {l:Nat} {args:Array Value} {W:World} {R:Ending->World->Prop} (h:YieldAt F m P l args W R):YieldAt F m' P l args W R:=by
 obtain⟨fn,tmps,assign,body,hy,hR⟩:=h;exact⟨fn,tmps,assign,body,hy,RoundIn.anyDepth hd hR⟩
structure Nd where
 t:Tm
 a:Option Addr
 cap:Nat
 d:Nat
def Nd.encs (x:Nd):Array Value:= #[tV x.t (.slice x.a x.t.kids.length x.cap),.int .i64 (x.d:Int)]
def Nd.pr (x:Nd):Tm×Nat:=(x.t,x.d)
theorem Ci {J:List Nd->World->Prop} {B:Nat} (h:AbidesFrom B J) {pre:List Nd} {W:World} (o:Obj) (hj:J pre W):J pre (W.alloc o):=h pre W _ none hj (World.grownBy_alloc W o none) (fun r e=>by cases e)
theorem X8 (F:Fence) (hd:F.depth=none) (hf: ∀k,F.fn k) (hro:F.round=none) (l Bv n₁ N B0:Nat) (G S:Nat->Prop) (hS: ∀k,S k->¬G k) (Cj: ¬G Bv) (hG: ∀k,G k->k<n₁) (J Jx:List Nd->World->Prop) (hJ:AbidesFrom B0 J)
  (hY: ∀m pre x W,J pre W->pre.length<N->YieldAt F m Tryz.prog l x.encs W fun e W'=>(e= .returned (.bool true)/\J (pre++[x]) W'/\dQ G W W')\/(e= .returned (.bool false)/\Jx (pre++[x]) W')):
  ∀(t:Tm) (n:Nat) (a:Option Addr) (cap d:Nat) (pre:List Nd) (W:World),aA S W t.kids (.slice a t.kids.length cap)->W.heap[Bv]?=some (.cells #[(.func (.func 187) #[] #[.pointer (some ⟨Bv,0,none⟩)])] 219 (0,0))->J pre W->n₁<=W.heap.size->pre.length+t.size<=N->((d+t.size:Nat):Int)<=4611686018427387904->
   CallsIn F n Tryz.prog 187 #[tV t (.slice a t.kids.length cap),.int .i64 (d:Int),.func (.yield l) #[] #[],.pointer (some ⟨Bv,0,none⟩)] W fun e W'=>
    (e= .returned (.bool true)/\∃xs:List Nd,xs.map Nd.pr=bH d t/\J (pre++xs) W'/\dQ G W W')\/(e= .returned (.bool false)/\∃q:List Nd,q.map Nd.pr <+:bH d t/\Jx (pre++q) W'):=by
 have hdd: ∀k:Nat,(F.depth.isSome=true->1<=k):=fun k h=>by rw[hd] at h;cases h
 refine Tm.ind (fun nm so L ih=>?_);intro n a cap d pre W hR hV hJ0 hn1 hN hdb;have hsz:=size_eq (.mk nm so L);dsimp only[tV,Tm.name,Tm.sort,Tm.kids] at hR hsz⊢;rw[hsz] at hN hdb;have hb:=ai W (.cells #[.string nm,.string so,.slice a L.length cap] 24);obtain⟨c0,c1,c2⟩:=ag hb;have hU0:dQ G W (W.alloc (.cells #[.string nm,.string so,.slice a L.length cap] 24)):=dQ.oz ((aj.refl _ W).alloc _);have hGB: ¬G W.heap.size:=fun h=>by have:=hG _ h;omega
 obtain⟨fn,tmps,assign,body,hy,hR1⟩:=hY (n-1) pre ⟨.mk nm so L,a,cap,d⟩ (W.alloc (.cells #[.string nm,.string so,.slice a L.length cap] 24)) (Ci hJ _ hJ0) (by omega);dsimp only[Nd.encs,tV,Tm.name,Tm.sort,Tm.kids] at hy;refine callsIn_of_wp Tryz.func187 rfl (hf 187) ?_ hro;simp only[Tryz.ntmps187,List.size_toArray,List.length_cons,List.length_nil,Nat.reduceAdd,Nat.reduceSub,Array.replicate_succ,Array.replicate_zero,List.push_toArray,List.append_toArray,List.nil_append,List.cons_append]
 gi_wp2
 refine hR1.mono ?_;clear hR1;rintro e W1 (⟨rfl,hJ1,hk1⟩|⟨rfl,hx1⟩)
 .have hb1:=hk1.cells _ _ _ _ hGB hb;have d2:=af hb1 2 (.slice a L.length cap) rfl
  gi_wp2
  gi_loopg [18] (L.length) (fun gk iv wr=> ∃(k:Nat) (xs:List Nd),iv= .int .i64 (k:Int)/\gk=L.length-k/\k<=L.length/\xs.map Nd.pr=bG (d+1) (L.take k)/\J (pre++[⟨.mk nm so L,a,cap,d⟩]++xs) wr/\dQ G W wr)
  case atStart=>exact⟨0,[],rfl,rfl,Nat.zero_le _,rfl,by simpa using hJ1,hU0.trans hk1⟩
  case round=>
   obtain⟨k,xs,rfl,rfl,hk,hxs,U8,hkr⟩:=hrel;by_cases hlt:k<L.length
   .obtain ⟨g,off,rfl,_,hat⟩:=(hR.MI hkr hS).at_ (by omega);obtain⟨a',cap',q0,q1,q2,aY⟩:=hat k hlt;have z0:(0:Int)<=(k:Int):=by omega
    have z1:(k:Int)< (L.length:Int):=by omega
    have z2:decide ((k:Int)< (L.length:Int))=true:=dT z1;have hv:=hkr.cells _ _ _ _ Cj hV;have hmem:tg L k∈L:=by unfold tg;rw[List.getD_eq_getElem?_getD,List.getElem?_eq_getElem hlt];exact List.getElem_mem hlt
    have hsz2:sizes (L.take k)+(tg L k).size<=sizes L:=by
     have h1:L=L.take k++tg L k::L.drop (k+1):=by
      unfold tg;rw[List.getD_eq_getElem?_getD,List.getElem?_eq_getElem hlt];simp
     have h2:=congrArg sizes h1;rw[lM] at h2;simp only[sizes] at h2;omega
    have hxl:xs.length=sizes (L.take k):=by have:=congrArg List.length hxs;rw[List.length_map,EP] at this;exact this
    obtain⟨x,hx⟩: ∃x,tg L k=x:=⟨_,rfl⟩
    rw[hx] at q0 q1 q2 aY hmem hsz2;rw[<-Nat.add_assoc] at q1 q2;have hb4:=ai wr (tO x a' cap');obtain⟨e0,e1,e2⟩:=ag hb4;have e3:=af (ak hv (tO x a' cap')) 0 (.func (.func 187) #[] #[.pointer (some ⟨Bv,0,none⟩)]) rfl;have hk4:dQ G wr (wr.alloc (tO x a' cap')):=dQ.oz ((aj.refl _ wr).alloc _);have hlen:(L.length:Int)<=4611686018427387904:=by have:=bf L;omega
    have ihk:=ih x hmem (n-1) a' cap' (d+1) _ _ (aY.MI hk4 hS) (ak hv (tO x a' cap')) (Ci hJ _ U8) (by have h1:=hkr.size;have h2:=hk4.size;omega) (by simp only[List.length_append,List.length_singleton];omega) (by omega);have hw1:IntKind.i64.wrap ((d:Int)+1)=(d:Int)+1:=IntWalk.i64_in _ (by omega);have hw2:wrap64 ((d:Int)+1)=(d:Int)+1:=IntWalk.wrap64_in _ (by omega);rw[show(((d+1:Nat)):Int)=(d:Int)+1 by omega] at ihk;dsimp only[tV] at ihk
    gi_wp2_with (gi_at_call 187;refine ihk.mono ?_;clear ihk;rintro e W4 (⟨rfl,ys,hys,hJ4,hk5⟩|⟨rfl,q,hq,hx4⟩))
    .gi_roundg (L.length- (k+1))
     case measure=>omega
     case rel=>
      refine⟨k+1,xs++ys,by go_num,rfl,by omega,?_,by rw[<-List.append_assoc];exact hJ4,(hkr.trans hk4).trans hk5⟩;rw[List.map_append,hxs,hys,List.take_add_one,o5];have:L[k]?.toList=[x]:=by rw[<-hx];unfold tg;rw[List.getD_eq_getElem?_getD,List.getElem?_eq_getElem hlt];rfl
      rw[this];simp[bG]
    .go_ret;refine .inr ⟨rfl,⟨.mk nm so L,some ⟨g,off,none⟩,cap,d⟩::(xs++q),?_,by simpa using hx4⟩;obtain⟨r,hr⟩:=hq;refine⟨r++bG (d+1) (L.drop (k+1)),?_⟩;rw[iw];simp only[Tm.kids,List.map_cons,List.map_append,hxs,List.cons_append,List.append_assoc];rw[<-List.append_assoc (List.map Nd.pr q) r,hr];have h1:L=L.take k++x::L.drop (k+1):=by
      rw[<-hx];unfold tg;rw[List.getD_eq_getElem?_getD,List.getElem?_eq_getElem hlt];simp
     have h2:=congrArg (bG (d+1)) h1;rw[o5] at h2;simp only[bG] at h2;rw[h2];rfl
   .obtain rfl:k=L.length:=by omega
    gi_wp2
    go_ret;refine .inl ⟨rfl,⟨.mk nm so L,a,cap,d⟩::xs,?_,by simpa using U8,hkr⟩;rw[List.map_cons,hxs,List.take_length,iw];rfl
 .gi_wp2
  go_ret;exact .inr ⟨rfl,[⟨.mk nm so L,a,cap,d⟩],⟨bG (d+1) L,by rw[iw];rfl⟩,hx1⟩
theorem U9 (F:Fence) (hd:F.depth=none) (n:Nat) (hf: ∀k,F.fn k) (hro:F.round=none) (l Bv Bt n₁ B0:Nat) (G S:Nat->Prop) (hS: ∀k,S k->¬G k) (Cj: ¬G Bv) (hG: ∀k,G k->k<n₁) (J Jx:List Nd->World->Prop) (hJ:AbidesFrom B0 J)
  (t:Tm) (a:Option Addr) (cap:Nat)
  (hY: ∀pre x W,J pre W->pre.length<t.size->YieldAt F (n-1) Tryz.prog l x.encs W fun e W'=>(e= .returned (.bool true)/\J (pre++[x]) W'/\dQ G W W')\/(e= .returned (.bool false)/\Jx (pre++[x]) W'))
  (W:World) (hR:aA S W t.kids (.slice a t.kids.length cap)) (hV:W.heap[Bv]?=some (.cells #[(.func (.func 187) #[] #[.pointer (some ⟨Bv,0,none⟩)])] 219 (0,0))) (hT:W.heap[Bt]?=some (tO t a cap)) (h0:J [] W) (hnW:n₁<=W.heap.size) (hsz:((1+t.size:Nat):Int)<=4611686018427387904):
  CallsIn F n Tryz.prog 188 #[.func (.yield l) #[] #[],.pointer (some ⟨Bv,0,none⟩),.pointer (some ⟨Bt,0,none⟩)] W fun e W'=>(∃v,e= .returned v)/\((∃xs:List Nd,xs.map Nd.pr=bH 1 t/\J xs W')\/(∃pre:List Nd,pre.map Nd.pr <+:bH 1 t/\Jx pre W')):=by
 have hdd: ∀k:Nat,(F.depth.isSome=true->1<=k):=fun k h=>by rw[hd] at h;cases h
 have hp:=X8 F hd hf hro l Bv n₁ t.size B0 G S hS Cj hG J Jx hJ (fun m pre x W hj hl=>YieldAt.anyDepth hd m (hY pre x W hj hl)) t (n-1) a cap 1 [] W hR hV h0 hnW (by simp) hsz;obtain⟨c0,c1,c2⟩:=ag hT;have v0:=af hV 0 (.func (.func 187) #[] #[.pointer (some ⟨Bv,0,none⟩)]) rfl;dsimp only[tV] at hp;refine callsIn_of_wp Tryz.func188 rfl (hf 188) ?_ hro;simp only[Tryz.ntmps188,List.size_toArray,List.length_cons,List.length_nil,Nat.reduceAdd,Nat.reduceSub,Array.replicate_succ,Array.replicate_zero,List.push_toArray,List.append_toArray,List.nil_append,List.cons_append]
 gi_wp2_with (gi_at_call 187;refine hp.mono ?_;clear hp;rintro e W1 (⟨rfl,xs,hxs,hJ1,_⟩|⟨rfl,q,hq,hx⟩))
 .go_end0
  exact⟨⟨_,rfl⟩,.inl ⟨xs,hxs,by simpa using hJ1⟩⟩
 .go_end0
  exact⟨⟨_,rfl⟩,.inr ⟨q,hq,by simpa using hx⟩⟩
theorem Eu (t:Tm) (u:Value) (w:World) (hu: ∃a k c,u= .slice a k c):
  Calls Tryz.prog 129 #[tV t u] w fun e w'=>e= .returned (.func (.func 188) #[] #[.pointer (some ⟨w.heap.size+1,0,none⟩),.pointer (some ⟨w.heap.size,0,none⟩)])/\Ext w w'/\w'.heap.size=w.heap.size+2/\
   w'.heap[w.heap.size]?=some (.cells #[.string t.name,.string t.sort,u] 24 (0,0))/\w'.heap[w.heap.size+1]?=some (.cells #[.func (.func 187) #[] #[.pointer (some ⟨w.heap.size+1,0,none⟩)]] 219 (0,0)):=by
 obtain⟨a,k,c,rfl⟩:=hu;dsimp only[tV];have hb:=alloc_at (w.alloc (.cells #[.string t.name,.string t.sort,.slice a k c] 24)) (.cells #[.nilFunc] 219) (n:=w.heap.size+1) (by simp);have v0:=af hb 0 .nilFunc rfl;have f0:=au hb 0
 go_enter Tryz.func129,Tryz.ntmps129
 go_wp2_with fail
 go_ret;exact⟨rfl,((uR w).alloc _).alloc _,by simp,ak (ai _ _) _,alloc_at _ _ (by simp)⟩
theorem yU (F:Fence) (hd:F.depth=none) (n:Nat) (hf: ∀k,F.fn k) (hro:F.round=none) (Bv Bt:Nat) (G S:Nat->Prop) (w:World) (hS: ∀k,S k->¬G k) (Cj: ¬G Bv) (hG: ∀k,G k->k<w.heap.size) (hSw: ∀k,S k->k<w.heap.size) (t:Tm) (a:Option Addr) (cap:Nat)
  (hR:aA S w t.kids (.slice a t.kids.length cap)) (hV:w.heap[Bv]?=some (.cells #[(.func (.func 187) #[] #[.pointer (some ⟨Bv,0,none⟩)])] 219 (0,0))) (hT:w.heap[Bt]?=some (tO t a cap)) (hsz:((1+t.size:Nat):Int)<=4611686018427387904):
  SeqStopsK F n Tryz.prog 188 #[.pointer (some ⟨Bv,0,none⟩),.pointer (some ⟨Bt,0,none⟩)] Nd.encs (dQ G) (fun xs=>xs.map Nd.pr=bH 1 t) (fun pre=>pre.map Nd.pr <+:bH 1 t) t.size w:=fun l J Jx W hW hJ _ hY h0=>
 have hE:Ext w W:=⟨hW.os,hW.tape,hW.output,hW.size,fun k hk _=>hW.block k hk⟩
 U9 F hd n hf hro l Bv Bt w.heap.size W.heap.size G S hS Cj hG J Jx hJ t a cap hY W (hR.ext hE) (hE.heap hV (fun h=>h)) (hE.heap hT (fun h=>h)) h0 hW.size hsz
end
end Go.Proofs.YtlkcjmaiahnodaaGreatDoor
namespace Go.Proofs
section
open Go.Shelf
def Tryz.lays106_ren:Go.Shelf.Ren:=⟨fun|106=>99|213=>161|265=>209|n=>n,fun|9=>9|3=>3|n=>n,fun|n=>n⟩
theorem Tryz.lays106:Go.Proofs.Lays.n106 Tryz.prog Tryz.lays106_ren:={
 mixed:=by kernel_rfl
 f106:=Tryz.func99.trans (congrArg some (by kernel_rfl))
 f213:=Tryz.func161.trans (congrArg some (by kernel_rfl))
 f265:=Tryz.func209.trans (congrArg some (by kernel_rfl))
 t3:=Tryz.underlying3
 a3:=Tryz.isAgg3
 z3:=Tryz.sizeOf3
 v3:=Tryz.zeroValue3
 t9:=Tryz.underlying9
 a9:=Tryz.isAgg9
 z9:=Tryz.sizeOf9
 v9:=Tryz.zeroValue9}
open Go.RowKit in
theorem Tryz.strings_Compare (a b:ByteArray) (w:World):
  Calls Tryz.prog 99 #[.string a,.string b] w fun e w'=>e= .returned (.int .i64 (Lib.compareBytes a.data.toList b.data.toList))/\w'=w:=Any.strings_Compare Tryz.lays106 a b w
def Tryz.lays157_ren:Go.Shelf.Ren:=⟨fun|157=>230|229=>242|199=>243|261=>246|311=>247|312=>248|n=>n,fun|9=>9|31=>71|3=>3|5=>5|4=>4|119=>260|0=>0|40=>262|152=>266|21=>21|154=>268|51=>236|141=>270|196=>274|193=>271|198=>277|49=>275|194=>272|201=>280|226=>282|46=>195|227=>283|n=>n,fun|0=>1|6=>2|n=>n⟩
theorem Tryz.lays157:Go.Proofs.Lays.n157 Tryz.prog Tryz.lays157_ren:={
 mixed:=by kernel_rfl
 f157:=Tryz.func230.trans (congrArg some (by kernel_rfl))
 f199:=Tryz.func243.trans (congrArg some (by kernel_rfl))
 f229:=Tryz.func242.trans (congrArg some (by kernel_rfl))
 f261:=Tryz.func246.trans (congrArg some (by kernel_rfl))
 f311:=Tryz.func247.trans (congrArg some (by kernel_rfl))
 f312:=Tryz.func248.trans (congrArg some (by kernel_rfl))
 t0:=Tryz.underlying0
 a0:=Tryz.isAgg0
 z0:=Tryz.sizeOf0
 v0:=Tryz.zeroValue0
 t3:=Tryz.underlying3
 a3:=Tryz.isAgg3
 z3:=Tryz.sizeOf3
 v3:=Tryz.zeroValue3
 t4:=Tryz.underlying4
 a4:=Tryz.isAgg4
 z4:=Tryz.sizeOf4
 v4:=Tryz.zeroValue4
 t5:=Tryz.underlying5
 a5:=Tryz.isAgg5
 z5:=Tryz.sizeOf5
 v5:=Tryz.zeroValue5
 t9:=Tryz.underlying9
 a9:=Tryz.isAgg9
 z9:=Tryz.sizeOf9
 v9:=Tryz.zeroValue9
 t21:=Tryz.underlying21
 a21:=Tryz.isAgg21
 z21:=Tryz.sizeOf21
 v21:=Tryz.zeroValue21
 t31:=Tryz.underlying71
 a31:=Tryz.isAgg71
 z31:=Tryz.sizeOf71
 v31:=Tryz.zeroValue71
 t40:=Tryz.underlying262
 a40:=Tryz.isAgg262
 z40:=Tryz.sizeOf262
 v40:=Tryz.zeroValue262
 t46:=Tryz.underlying195
 a46:=Tryz.isAgg195
 z46:=Tryz.sizeOf195
 v46:=Tryz.zeroValue195
 t49:=Tryz.underlying275
 a49:=Tryz.isAgg275
 z49:=Tryz.sizeOf275
 v49:=Tryz.zeroValue275
 t51:=Tryz.underlying236
 a51:=Tryz.isAgg236
 z51:=Tryz.sizeOf236
 v51:=Tryz.zeroValue236
 t119:=Tryz.underlying260
 a119:=Tryz.isAgg260
 z119:=Tryz.sizeOf260
 t141:=Tryz.underlying270
 a141:=Tryz.isAgg270
 z141:=Tryz.sizeOf270
 v141:=Tryz.zeroValue270
 t152:=Tryz.underlying266
 a152:=Tryz.isAgg266
 z152:=Tryz.sizeOf266
 v152:=Tryz.zeroValue266
 t154:=Tryz.underlying268
 a154:=Tryz.isAgg268
 z154:=Tryz.sizeOf268
 v154:=Tryz.zeroValue268
 t193:=Tryz.underlying271
 a193:=Tryz.isAgg271
 z193:=Tryz.sizeOf271
 v193:=Tryz.zeroValue271
 t194:=Tryz.underlying272
 a194:=Tryz.isAgg272
 z194:=Tryz.sizeOf272
 v194:=Tryz.zeroValue272
 t196:=Tryz.underlying274
 a196:=Tryz.isAgg274
 z196:=Tryz.sizeOf274
 v196:=Tryz.zeroValue274
 t198:=Tryz.underlying277
 a198:=Tryz.isAgg277
 z198:=Tryz.sizeOf277
 v198:=Tryz.zeroValue277
 t201:=Tryz.underlying280
 a201:=Tryz.isAgg280
 z201:=Tryz.sizeOf280
 v201:=Tryz.zeroValue280
 t226:=Tryz.underlying282
 a226:=Tryz.isAgg282
 z226:=Tryz.sizeOf282
 v226:=Tryz.zeroValue282
 t227:=Tryz.underlying283
 a227:=Tryz.isAgg283
 z227:=Tryz.sizeOf283
 v227:=Tryz.zeroValue283
 g0:=by kernel_rfl
 g6:=by kernel_rfl}
open Go.RowKit Go.Lib in
theorem Tryz.strings_Fields (s:ByteArray) (w:World) (hs:s.size<4294967281) (hascii: ∀(j:Nat) b,s.data.toList[j]?=some b->b.toNat<128) (htab:Lib.TabIs Tryz.prog w "strings.asciiSpace" .u8 Lib.asciiSpaceTab):
  Calls Tryz.prog 230 #[.string s] w fun e w'=>
   e= .returned (.slice (some ⟨w.heap.size,0,none⟩) (Lib.fields s.data.toList).length (Lib.fields s.data.toList).length)/\w'=w.alloc (.cells ((Lib.fields s.data.toList).map fun l=>Value.string ⟨l.toArray⟩).toArray 9):=Any.strings_Fields Tryz.lays157 (by kernel_rfl) (by kernel_rfl) s w hs hascii htab
def Tryz.lays110_ren:Go.Shelf.Ren:=⟨fun|110=>179|109=>217|n=>n,fun|31=>71|9=>9|4=>4|3=>3|0=>0|n=>n,fun|n=>n⟩
theorem Tryz.lays110:Go.Proofs.Lays.n110 Tryz.prog Tryz.lays110_ren:={
 mixed:=by kernel_rfl
 f109:=Tryz.func217.trans (congrArg some (by kernel_rfl))
 f110:=Tryz.func179.trans (congrArg some (by kernel_rfl))
 t0:=Tryz.underlying0
 a0:=Tryz.isAgg0
 z0:=Tryz.sizeOf0
 v0:=Tryz.zeroValue0
 t3:=Tryz.underlying3
 a3:=Tryz.isAgg3
 z3:=Tryz.sizeOf3
 v3:=Tryz.zeroValue3
 t4:=Tryz.underlying4
 a4:=Tryz.isAgg4
 z4:=Tryz.sizeOf4
 v4:=Tryz.zeroValue4
 t9:=Tryz.underlying9
 a9:=Tryz.isAgg9
 z9:=Tryz.sizeOf9
 v9:=Tryz.zeroValue9
 t31:=Tryz.underlying71
 a31:=Tryz.isAgg71
 z31:=Tryz.sizeOf71
 v31:=Tryz.zeroValue71}
open Go.Lib in
theorem Tryz.slices_Contains_string (b off n c:Nat) (zs:List ByteArray) (x:ByteArray) (w:World) (hz:n<=zs.length) (hbig:n<=9223372036854775807) (hc: ∀j,j<zs.length->w.cell? ⟨b,off+j,none⟩=some (.string (zs.getD j ByteArray.empty))):
  Calls Tryz.prog 179 #[.slice (some ⟨b,off,none⟩) n c,.string x] w fun e w'=>e= .returned (.bool (Lib.containsS (zs.take n) x))/\w'=w:=Any.slices_Contains_string Tryz.lays110 b off n c zs x w hz hbig hc
open Go.Lib in
theorem Tryz.slices_Contains_string_empty (a:Option Addr) (c:Nat) (x:ByteArray) (w:World):
  Calls Tryz.prog 179 #[.slice a 0 c,.string x] w fun e w'=>e= .returned (.bool false)/\w'=w:=Any.slices_Contains_string_empty Tryz.lays110 a c x w
def Tryz.laysNm215_ren:Go.Shelf.Ren:=⟨fun|15=>210|n=>n,fun|22=>63|3=>3|4=>4|n=>n,fun|n=>n⟩
theorem Tryz.laysNm215:Go.Proofs.Lays2.n15 Tryz.prog Tryz.laysNm215_ren:={
 mixed:=by kernel_rfl
 f15:=Tryz.func210.trans (congrArg some (by kernel_rfl))
 t3:=Tryz.underlying3
 a3:=Tryz.isAgg3
 z3:=Tryz.sizeOf3
 v3:=Tryz.zeroValue3
 t4:=Tryz.underlying4
 a4:=Tryz.isAgg4
 z4:=Tryz.sizeOf4
 v4:=Tryz.zeroValue4
 t22:=Tryz.underlying63
 a22:=Tryz.isAgg63
 z22:=Tryz.sizeOf63
 v22:=Tryz.zeroValue63
 i3:=by kernel_rfl}
open Go.RowKit Go.Lib in
theorem Tryz.slices_Clone_int (b off n c:Nat) (zs:List Int) (w:World) (hz:n<=zs.length) (hbig:n*8<=140737488355328) (hc: ∀j,j<zs.length->w.cell? ⟨b,off+j,none⟩=some (.int .i64 (zs.getD j 0))):
  Calls Tryz.prog 210 #[.slice (some ⟨b,off,none⟩) n c] w fun e w'=> ∃v',e= .returned v'/\w'.ownsRow w.heap.size 3 1 v' n ((zs.take n).map (Value.int .i64))/\v'≠ .slice none 0 0/\Below w.heap.size w w':=Any.slices_Clone_int Tryz.laysNm215 b off n c zs w hz hbig hc
open Go.RowKit Go.Lib in
theorem Tryz.slices_Clone_int_nil (n c:Nat) (w:World):
  Calls Tryz.prog 210 #[.slice none n c] w fun e w'=>e= .returned (.slice none 0 0)/\w'=w:=Any.slices_Clone_int_nil Tryz.laysNm215 n c w
open Go.RowKit Go.Lib in
theorem Tryz.slices_Clone_int_zero (a:Addr) (c:Nat) (w:World):
  Calls Tryz.prog 210 #[.slice (some a) 0 c] w fun e w'=> ∃v',e= .returned v'/\w'.ownsRow w.heap.size 3 1 v' 0 []/\v'≠ .slice none 0 0/\Below w.heap.size w w':=Any.slices_Clone_int_zero Tryz.laysNm215 a c w
def Tryz.laysNm226_ren:Go.Shelf.Ren:=⟨fun|26=>195|33=>228|34=>229|38=>241|n=>n,fun|24=>71|9=>9|3=>3|4=>4|40=>195|0=>0|n=>n,fun|n=>n⟩
theorem Tryz.laysNm226:Go.Proofs.Lays2.n26 Tryz.prog Tryz.laysNm226_ren:={
 mixed:=by kernel_rfl
 f26:=Tryz.func195.trans (congrArg some (by kernel_rfl))
 f33:=Tryz.func228.trans (congrArg some (by kernel_rfl))
 f34:=Tryz.func229.trans (congrArg some (by kernel_rfl))
 f38:=Tryz.func241.trans (congrArg some (by kernel_rfl))
 t0:=Tryz.underlying0
 a0:=Tryz.isAgg0
 z0:=Tryz.sizeOf0
 v0:=Tryz.zeroValue0
 t3:=Tryz.underlying3
 a3:=Tryz.isAgg3
 z3:=Tryz.sizeOf3
 v3:=Tryz.zeroValue3
 t4:=Tryz.underlying4
 a4:=Tryz.isAgg4
 z4:=Tryz.sizeOf4
 v4:=Tryz.zeroValue4
 t9:=Tryz.underlying9
 a9:=Tryz.isAgg9
 z9:=Tryz.sizeOf9
 v9:=Tryz.zeroValue9
 t24:=Tryz.underlying71
 a24:=Tryz.isAgg71
 z24:=Tryz.sizeOf71
 v24:=Tryz.zeroValue71
 t40:=Tryz.underlying195
 a40:=Tryz.isAgg195
 z40:=Tryz.sizeOf195
 v40:=Tryz.zeroValue195}
theorem Tryz.slices_BinarySearch_string (b off n c:Nat) (Sx:Nat->ByteArray) (x:ByteArray) (w:World) (hbig:n<4611686018427387904) (hc: ∀j,j<n->w.cell? ⟨b,off+j,none⟩=some (.string (Sx j))):
  Calls Tryz.prog 195 #[.slice (some ⟨b,off,none⟩) n c,.string x] w fun e w'=>
   e= .returned (.tuple #[.int .i64 (Lib.bsGo (fun t=>Op.bytesLess (Sx t).toList x.toList) n 0 n:Nat),.bool (decide (Lib.bsGo (fun t=>Op.bytesLess (Sx t).toList x.toList) n 0 n<n/\Sx (Lib.bsGo (fun t=>Op.bytesLess (Sx t).toList x.toList) n 0 n)=x))])/\∃q,w'=w.drewN q:=Any2.slices_BinarySearch_string Tryz.laysNm226 b off n c Sx x w hbig hc
end
end Go.Proofs
namespace Go.Proofs.YtlkcjmaiahnodaaGreatDoor
open Go.RowKit Go.Hw Go Tm
def vF:List (List UInt8):=[[97,110,100],[98,111,111,108],[98,111,117,110,100],[100,101,115,99],[101,108,115,101],[102,97,108,115,101],[105,102],[105,110,116],[105,110,118,97,114,105,97,110,116],[108,111,99,97,108],[108,111,103],[109,97,120],[109,101,97,115,117,114,101],[109,105,110],[110,101,119],[110,105,108],[110,111,116],[111,112],[111,114],[112,111,116,101,110,116,105,97,108],[112,114,111,99],[114,101,116,117,114,110],[114,117,108,101],[115,99,114,105,112,116],[115,111,114,116],[115,112,101,99],[116,104,105,115],[116,114,117,101],[116,121,112,101],[118,97,114],[119,104,105,108,101]]
def Il:List (List UInt8):=[[116,121,112,101],[118,97,114],[112,114,111,99],[108,111,99,97,108],[109,101,97,115,117,114,101],[105,110,118,97,114,105,97,110,116],[112,111,116,101,110,116,105,97,108],[98,111,117,110,100],[105,102],[101,108,115,101],[119,104,105,108,101],[114,101,116,117,114,110],[110,101,119],[110,105,108],[116,114,117,101],[102,97,108,115,101],[97,110,100],[111,114],[110,111,116],[109,97,120],[109,105,110],[108,111,103],[105,110,116],[98,111,111,108],[116,104,105,115],[115,111,114,116],[111,112],[114,117,108,101],[115,112,101,99],[100,101,115,99],[115,99,114,105,112,116]]
def Fj (s:ByteArray):Bool:=decide (s.data.toList∈vF)
def eF (c:Nat):Bool:=(decide (97<=c)&&decide (c<=122))||(decide (65<=c)&&decide (c<=90))
def fG (c:Nat):Bool:=decide (48<=c)&&decide (c<=57)
def sO (c:Nat):Bool:=eF c||fG c||decide (c=95)
def fF (c:Nat):Nat:=if c=32\/c=9\/c=13\/c=10 then 1 else if eF c=true then 2 else if fG c=true then 3 else if c=95 then 4 else 0
def ax (s:ByteArray):Bool:=decide (0<s.size/\s.size<=40)&&(eF ((s.data.toList.getD 0 0).toNat)&&(s.data.toList.all (fun b=>sO b.toNat)&&!Fj s))
theorem aeH (l:List UInt8):l∈Il<->l∈vF:=by
 have h1: ∀x∈Il,x∈vF:=by decide+kernel
 have h2: ∀x∈vF,x∈Il:=by decide+kernel
 exact⟨h1 l,h2 l⟩
theorem DD:vF.length=31:=by decide+kernel
theorem aiT: ∀m:Fin 31,Lib.bsGo (fun t=>Op.bytesLess (vF.getD t []) (vF.getD m.val [])) 31 0 31=m.val:=by decide+kernel
theorem jX {a b:ByteArray} (h:a.data.toList=b.data.toList):a=b:=by
 cases a;cases b;rw[ByteArray.mk.injEq];exact Array.toList_inj.1 h
def Io (t:Nat):ByteArray:=⟨(vF.getD t []).toArray⟩
theorem Gj (t:Nat):(Io t).data.toList=vF.getD t []:=rfl
theorem aiU (x:ByteArray):decide (Lib.bsGo (fun t=>Op.bytesLess (Io t).toList x.toList) 31 0 31<31/\Io (Lib.bsGo (fun t=>Op.bytesLess (Io t).toList x.toList) 31 0 31)=x)=Fj x:=by
 have e:(fun t=>Op.bytesLess (Io t).toList x.toList)=fun t=>Op.bytesLess (vF.getD t []) x.data.toList:=by
  funext t;rw[Lib.toList_data,Lib.toList_data,Gj]
 rw[e];unfold Fj;rw[decide_eq_decide];constructor
 .rintro ⟨h1,h2⟩;generalize Lib.bsGo (fun t=>Op.bytesLess (vF.getD t []) x.data.toList) 31 0 31=m at*;rw[<-h2,Gj];have:m<vF.length:=by rw[DD];exact h1
  simp[this]
 .intro h;obtain⟨m,hm,he⟩:=List.getElem_of_mem h;rw[DD] at hm;have h1:=aiT ⟨m,hm⟩;have h2:vF.getD m []=x.data.toList:=by
   rw[<-he,List.getD_eq_getElem?_getD,List.getElem?_eq_getElem (by rw[DD];exact hm)];rfl
  dsimp only at h1;rw[h2] at h1;rw[h1];exact⟨hm,jX (by rw[Gj,h2])⟩
abbrev bT (w:World):Prop:=Lib.TabIs Tryz.prog w "strings.asciiSpace" .u8 Lib.asciiSpaceTab
theorem aC {w w':World} (h:bT w) (hb:Ext w w'):bT w':=by
 unfold bT Lib.TabIs World.var? at*;cases hg:Tryz.prog.globalNamed "strings.asciiSpace" with
 |none=>simp[hg] at h
 |some g=>
  simp only[hg,Option.bind_some] at h⊢;have hlt:g<w.heap.size:=by
   rcases Nat.lt_or_ge g w.heap.size with h'|h'
   .exact h'
   .rw [Array.getElem?_eq_none h'] at h;simp at h
  rw[hb.block g hlt (fun x=>x)];exact h
def Q9:Obj:= .cells (vF.map fun l=>Value.string ⟨l.toArray⟩).toArray 9
theorem V5 (s:ByteArray) (w:World) (h1:Lib.fields s.data.toList=vF) (h2:(s.data.toList.all fun b=>decide (b.toNat<128))=true) (h3:s.size<4294967281) (htab:bT w):
  Calls Tryz.prog 230 #[.string s] w fun e w'=>e= .returned (.slice (some ⟨w.heap.size,0,none⟩) 31 31)/\w'=w.alloc Q9:=by
 have h:=Tryz.strings_Fields s w h3 (fun j b hb=>by have:=List.all_eq_true.1 h2 b (List.mem_of_getElem? hb);simpa using this) htab;rw[h1,DD] at h;exact h
theorem TS (w:World) (htab:bT w):Calls Tryz.prog 196 #[] w fun e w'=>e= .returned (.slice (some ⟨w.heap.size,0,none⟩) 31 31)/\w'=w.alloc Q9:=by
 have HT:=ae htab;clear htab
 go_enter Tryz.func196,Tryz.ntmps196
 go_wp2_with fail
 refine(V5 _ _ (by kernel_rfl) (by kernel_rfl) (by decide+kernel) HT.out).mono ?_;rintro e w' ⟨rfl,rfl⟩
 go_wp2_with fail
 go_ret;exact⟨rfl,rfl⟩
theorem YF (w:World) (j:Nat) (hj:j<31):(w.alloc Q9).cell? ⟨w.heap.size,0+j,none⟩=some (.string (Io j)):=by
 refine af (t:=9) (cs:=(vF.map fun l=>Value.string ⟨l.toArray⟩).toArray) (ai w Q9) _ _ ?_;have:j<vF.length:=by rw[DD];exact hj
 simp[Io,this]
theorem Qp (x:ByteArray) (w:World) (htab:bT w):Calls Tryz.prog 147 #[.string x] w fun e w'=>e= .returned (.bool (Fj x))/\Ext w w':=by
 have HK:=ae (TS w htab);have HB:=ae (Tryz.slices_BinarySearch_string w.heap.size 0 31 31 Io x (w.alloc Q9) (by decide) (fun j hj=>YF w j hj));have HS:=ae (aiU x);have HE:Hid (Ext w (w.alloc Q9)):=(aj.refl _ w).alloc _;clear htab
 go_enter Tryz.func147,Tryz.ntmps147
 go_wp2_with fail
 refine HK.out.mono ?_;rintro e w' ⟨rfl,rfl⟩
 go_wp2_with fail
 refine HB.out.mono ?_;rintro e w' ⟨rfl,q,rfl⟩;rw[HS.out];generalize Lib.bsGo (fun t=>Op.bytesLess (Io t).toList x.toList) 31 0 31=Y at*
 go_wp2_with fail
 go_ret;exact⟨rfl,HE.out.drewN' _⟩
theorem Q7 (c:Nat) (w:World) (hc:c<=255):Calls Tryz.prog 146 #[.int .u8 c] w fun e w'=>e= .returned (.int .i64 (fF c:Nat))/\w=w':=by
 by_cases h:0<=c/\c<=8
 .obtain ⟨h1,h2⟩:=h;have e32:((c:Int)==32)=false:=beq_eq_false_iff_ne.2 (by omega);have d32: ¬(c=32):=by omega
  have e9:((c:Int)==9)=false:=beq_eq_false_iff_ne.2 (by omega);have d9: ¬(c=9):=by omega
  have e13:((c:Int)==13)=false:=beq_eq_false_iff_ne.2 (by omega);have d13: ¬(c=13):=by omega
  have e10:((c:Int)==10)=false:=beq_eq_false_iff_ne.2 (by omega);have d10: ¬(c=10):=by omega
  have BJ:((c:Int)==95)=false:=beq_eq_false_iff_ne.2 (by omega);have d95: ¬(c=95):=by omega
  have sQ: ¬(97<=(c:Int)):=by omega
  have mY: ¬(97<=c):=by omega
  have mZ:((c:Int)<=122):=by omega
  have jT:(c<=122):=by omega
  have sS: ¬(65<=(c:Int)):=by omega
  have m_: ¬(65<=c):=by omega
  have sU:((c:Int)<=90):=by omega
  have ng:(c<=90):=by omega
  have g48: ¬(48<=(c:Int)):=by omega
  have ni: ¬(48<=c):=by omega
  have sV:((c:Int)<=57):=by omega
  have ny:(c<=57):=by omega
  rw[show fF c=0 by{unfold fF;simp[eF,fG, *]}];clear h1 h2 hc
  go_enter Tryz.func146,Tryz.ntmps146
  go_wp2_with fail
  go_ret;exact⟨rfl,rfl⟩
 by_cases h:c=9
 .subst h
  go_enter Tryz.func146,Tryz.ntmps146
  go_wp2_with fail
  go_ret;exact⟨rfl,rfl⟩
 by_cases h:c=10
 .subst h
  go_enter Tryz.func146,Tryz.ntmps146
  go_wp2_with fail
  go_ret;exact⟨rfl,rfl⟩
 by_cases h:11<=c/\c<=12
 .obtain ⟨h1,h2⟩:=h;have e32:((c:Int)==32)=false:=beq_eq_false_iff_ne.2 (by omega);have d32: ¬(c=32):=by omega
  have e9:((c:Int)==9)=false:=beq_eq_false_iff_ne.2 (by omega);have d9: ¬(c=9):=by omega
  have e13:((c:Int)==13)=false:=beq_eq_false_iff_ne.2 (by omega);have d13: ¬(c=13):=by omega
  have e10:((c:Int)==10)=false:=beq_eq_false_iff_ne.2 (by omega);have d10: ¬(c=10):=by omega
  have BJ:((c:Int)==95)=false:=beq_eq_false_iff_ne.2 (by omega);have d95: ¬(c=95):=by omega
  have sQ: ¬(97<=(c:Int)):=by omega
  have mY: ¬(97<=c):=by omega
  have mZ:((c:Int)<=122):=by omega
  have jT:(c<=122):=by omega
  have sS: ¬(65<=(c:Int)):=by omega
  have m_: ¬(65<=c):=by omega
  have sU:((c:Int)<=90):=by omega
  have ng:(c<=90):=by omega
  have g48: ¬(48<=(c:Int)):=by omega
  have ni: ¬(48<=c):=by omega
  have sV:((c:Int)<=57):=by omega
  have ny:(c<=57):=by omega
  rw[show fF c=0 by{unfold fF;simp[eF,fG, *]}];clear h1 h2 hc
  go_enter Tryz.func146,Tryz.ntmps146
  go_wp2_with fail
  go_ret;exact⟨rfl,rfl⟩
 by_cases h:c=13
 .subst h
  go_enter Tryz.func146,Tryz.ntmps146
  go_wp2_with fail
  go_ret;exact⟨rfl,rfl⟩
 by_cases h:14<=c/\c<=31
 .obtain ⟨h1,h2⟩:=h;have e32:((c:Int)==32)=false:=beq_eq_false_iff_ne.2 (by omega);have d32: ¬(c=32):=by omega
  have e9:((c:Int)==9)=false:=beq_eq_false_iff_ne.2 (by omega);have d9: ¬(c=9):=by omega
  have e13:((c:Int)==13)=false:=beq_eq_false_iff_ne.2 (by omega);have d13: ¬(c=13):=by omega
  have e10:((c:Int)==10)=false:=beq_eq_false_iff_ne.2 (by omega);have d10: ¬(c=10):=by omega
  have BJ:((c:Int)==95)=false:=beq_eq_false_iff_ne.2 (by omega);have d95: ¬(c=95):=by omega
  have sQ: ¬(97<=(c:Int)):=by omega
  have mY: ¬(97<=c):=by omega
  have mZ:((c:Int)<=122):=by omega
  have jT:(c<=122):=by omega
  have sS: ¬(65<=(c:Int)):=by omega
  have m_: ¬(65<=c):=by omega
  have sU:((c:Int)<=90):=by omega
  have ng:(c<=90):=by omega
  have g48: ¬(48<=(c:Int)):=by omega
  have ni: ¬(48<=c):=by omega
  have sV:((c:Int)<=57):=by omega
  have ny:(c<=57):=by omega
  rw[show fF c=0 by{unfold fF;simp[eF,fG, *]}];clear h1 h2 hc
  go_enter Tryz.func146,Tryz.ntmps146
  go_wp2_with fail
  go_ret;exact⟨rfl,rfl⟩
 by_cases h:c=32
 .subst h
  go_enter Tryz.func146,Tryz.ntmps146
  go_wp2_with fail
  go_ret;exact⟨rfl,rfl⟩
 by_cases h:33<=c/\c<=47
 .obtain ⟨h1,h2⟩:=h;have e32:((c:Int)==32)=false:=beq_eq_false_iff_ne.2 (by omega);have d32: ¬(c=32):=by omega
  have e9:((c:Int)==9)=false:=beq_eq_false_iff_ne.2 (by omega);have d9: ¬(c=9):=by omega
  have e13:((c:Int)==13)=false:=beq_eq_false_iff_ne.2 (by omega);have d13: ¬(c=13):=by omega
  have e10:((c:Int)==10)=false:=beq_eq_false_iff_ne.2 (by omega);have d10: ¬(c=10):=by omega
  have BJ:((c:Int)==95)=false:=beq_eq_false_iff_ne.2 (by omega);have d95: ¬(c=95):=by omega
  have sQ: ¬(97<=(c:Int)):=by omega
  have mY: ¬(97<=c):=by omega
  have mZ:((c:Int)<=122):=by omega
  have jT:(c<=122):=by omega
  have sS: ¬(65<=(c:Int)):=by omega
  have m_: ¬(65<=c):=by omega
  have sU:((c:Int)<=90):=by omega
  have ng:(c<=90):=by omega
  have g48: ¬(48<=(c:Int)):=by omega
  have ni: ¬(48<=c):=by omega
  have sV:((c:Int)<=57):=by omega
  have ny:(c<=57):=by omega
  rw[show fF c=0 by{unfold fF;simp[eF,fG, *]}];clear h1 h2 hc
  go_enter Tryz.func146,Tryz.ntmps146
  go_wp2_with fail
  go_ret;exact⟨rfl,rfl⟩
 by_cases h:48<=c/\c<=57
 .obtain ⟨h1,h2⟩:=h;have e32:((c:Int)==32)=false:=beq_eq_false_iff_ne.2 (by omega);have d32: ¬(c=32):=by omega
  have e9:((c:Int)==9)=false:=beq_eq_false_iff_ne.2 (by omega);have d9: ¬(c=9):=by omega
  have e13:((c:Int)==13)=false:=beq_eq_false_iff_ne.2 (by omega);have d13: ¬(c=13):=by omega
  have e10:((c:Int)==10)=false:=beq_eq_false_iff_ne.2 (by omega);have d10: ¬(c=10):=by omega
  have BJ:((c:Int)==95)=false:=beq_eq_false_iff_ne.2 (by omega);have d95: ¬(c=95):=by omega
  have sQ: ¬(97<=(c:Int)):=by omega
  have mY: ¬(97<=c):=by omega
  have mZ:((c:Int)<=122):=by omega
  have jT:(c<=122):=by omega
  have sS: ¬(65<=(c:Int)):=by omega
  have m_: ¬(65<=c):=by omega
  have sU:((c:Int)<=90):=by omega
  have ng:(c<=90):=by omega
  have g48:(48<=(c:Int)):=by omega
  have ni:(48<=c):=by omega
  have sV:((c:Int)<=57):=by omega
  have ny:(c<=57):=by omega
  rw[show fF c=3 by{unfold fF;simp[eF,fG, *]}];clear h1 h2 hc
  go_enter Tryz.func146,Tryz.ntmps146
  go_wp2_with fail
  go_ret;exact⟨rfl,rfl⟩
 by_cases h:58<=c/\c<=64
 .obtain ⟨h1,h2⟩:=h;have e32:((c:Int)==32)=false:=beq_eq_false_iff_ne.2 (by omega);have d32: ¬(c=32):=by omega
  have e9:((c:Int)==9)=false:=beq_eq_false_iff_ne.2 (by omega);have d9: ¬(c=9):=by omega
  have e13:((c:Int)==13)=false:=beq_eq_false_iff_ne.2 (by omega);have d13: ¬(c=13):=by omega
  have e10:((c:Int)==10)=false:=beq_eq_false_iff_ne.2 (by omega);have d10: ¬(c=10):=by omega
  have BJ:((c:Int)==95)=false:=beq_eq_false_iff_ne.2 (by omega);have d95: ¬(c=95):=by omega
  have sQ: ¬(97<=(c:Int)):=by omega
  have mY: ¬(97<=c):=by omega
  have mZ:((c:Int)<=122):=by omega
  have jT:(c<=122):=by omega
  have sS: ¬(65<=(c:Int)):=by omega
  have m_: ¬(65<=c):=by omega
  have sU:((c:Int)<=90):=by omega
  have ng:(c<=90):=by omega
  have g48:(48<=(c:Int)):=by omega
  have ni:(48<=c):=by omega
  have sV: ¬((c:Int)<=57):=by omega
  have ny: ¬(c<=57):=by omega
  rw[show fF c=0 by{unfold fF;simp[eF,fG, *]}];clear h1 h2 hc
  go_enter Tryz.func146,Tryz.ntmps146
  go_wp2_with fail
  go_ret;exact⟨rfl,rfl⟩
 by_cases h:65<=c/\c<=90
 .obtain ⟨h1,h2⟩:=h;have e32:((c:Int)==32)=false:=beq_eq_false_iff_ne.2 (by omega);have d32: ¬(c=32):=by omega
  have e9:((c:Int)==9)=false:=beq_eq_false_iff_ne.2 (by omega);have d9: ¬(c=9):=by omega
  have e13:((c:Int)==13)=false:=beq_eq_false_iff_ne.2 (by omega);have d13: ¬(c=13):=by omega
  have e10:((c:Int)==10)=false:=beq_eq_false_iff_ne.2 (by omega);have d10: ¬(c=10):=by omega
  have BJ:((c:Int)==95)=false:=beq_eq_false_iff_ne.2 (by omega);have d95: ¬(c=95):=by omega
  have sQ: ¬(97<=(c:Int)):=by omega
  have mY: ¬(97<=c):=by omega
  have mZ:((c:Int)<=122):=by omega
  have jT:(c<=122):=by omega
  have sS:(65<=(c:Int)):=by omega
  have m_:(65<=c):=by omega
  have sU:((c:Int)<=90):=by omega
  have ng:(c<=90):=by omega
  have g48:(48<=(c:Int)):=by omega
  have ni:(48<=c):=by omega
  have sV: ¬((c:Int)<=57):=by omega
  have ny: ¬(c<=57):=by omega
  rw[show fF c=2 by{unfold fF;simp[eF,fG, *]}];clear h1 h2 hc
  go_enter Tryz.func146,Tryz.ntmps146
  go_wp2_with fail
  go_ret;exact⟨rfl,rfl⟩
 by_cases h:91<=c/\c<=94
 .obtain ⟨h1,h2⟩:=h;have e32:((c:Int)==32)=false:=beq_eq_false_iff_ne.2 (by omega);have d32: ¬(c=32):=by omega
  have e9:((c:Int)==9)=false:=beq_eq_false_iff_ne.2 (by omega);have d9: ¬(c=9):=by omega
  have e13:((c:Int)==13)=false:=beq_eq_false_iff_ne.2 (by omega);have d13: ¬(c=13):=by omega
  have e10:((c:Int)==10)=false:=beq_eq_false_iff_ne.2 (by omega);have d10: ¬(c=10):=by omega
  have BJ:((c:Int)==95)=false:=beq_eq_false_iff_ne.2 (by omega);have d95: ¬(c=95):=by omega
  have sQ: ¬(97<=(c:Int)):=by omega
  have mY: ¬(97<=c):=by omega
  have mZ:((c:Int)<=122):=by omega
  have jT:(c<=122):=by omega
  have sS:(65<=(c:Int)):=by omega
  have m_:(65<=c):=by omega
  have sU: ¬((c:Int)<=90):=by omega
  have ng: ¬(c<=90):=by omega
  have g48:(48<=(c:Int)):=by omega
  have ni:(48<=c):=by omega
  have sV: ¬((c:Int)<=57):=by omega
  have ny: ¬(c<=57):=by omega
  rw[show fF c=0 by{unfold fF;simp[eF,fG, *]}];clear h1 h2 hc
  go_enter Tryz.func146,Tryz.ntmps146
  go_wp2_with fail
  go_ret;exact⟨rfl,rfl⟩
 by_cases h:c=95
 .subst h
  go_enter Tryz.func146,Tryz.ntmps146
  go_wp2_with fail
  go_ret;exact⟨rfl,rfl⟩
 by_cases h:c=96
 .subst h
  go_enter Tryz.func146,Tryz.ntmps146
  go_wp2_with fail
  go_ret;exact⟨rfl,rfl⟩
 by_cases h:97<=c/\c<=122
 .obtain ⟨h1,h2⟩:=h;have e32:((c:Int)==32)=false:=beq_eq_false_iff_ne.2 (by omega);have d32: ¬(c=32):=by omega
  have e9:((c:Int)==9)=false:=beq_eq_false_iff_ne.2 (by omega);have d9: ¬(c=9):=by omega
  have e13:((c:Int)==13)=false:=beq_eq_false_iff_ne.2 (by omega);have d13: ¬(c=13):=by omega
  have e10:((c:Int)==10)=false:=beq_eq_false_iff_ne.2 (by omega);have d10: ¬(c=10):=by omega
  have BJ:((c:Int)==95)=false:=beq_eq_false_iff_ne.2 (by omega);have d95: ¬(c=95):=by omega
  have sQ:(97<=(c:Int)):=by omega
  have mY:(97<=c):=by omega
  have mZ:((c:Int)<=122):=by omega
  have jT:(c<=122):=by omega
  have sS:(65<=(c:Int)):=by omega
  have m_:(65<=c):=by omega
  have sU: ¬((c:Int)<=90):=by omega
  have ng: ¬(c<=90):=by omega
  have g48:(48<=(c:Int)):=by omega
  have ni:(48<=c):=by omega
  have sV: ¬((c:Int)<=57):=by omega
  have ny: ¬(c<=57):=by omega
  rw[show fF c=2 by{unfold fF;simp[eF,fG, *]}];clear h1 h2 hc
  go_enter Tryz.func146,Tryz.ntmps146
  go_wp2_with fail
  go_ret;exact⟨rfl,rfl⟩
 by_cases h:123<=c/\c<=255
 .obtain ⟨h1,h2⟩:=h;have e32:((c:Int)==32)=false:=beq_eq_false_iff_ne.2 (by omega);have d32: ¬(c=32):=by omega
  have e9:((c:Int)==9)=false:=beq_eq_false_iff_ne.2 (by omega);have d9: ¬(c=9):=by omega
  have e13:((c:Int)==13)=false:=beq_eq_false_iff_ne.2 (by omega);have d13: ¬(c=13):=by omega
  have e10:((c:Int)==10)=false:=beq_eq_false_iff_ne.2 (by omega);have d10: ¬(c=10):=by omega
  have BJ:((c:Int)==95)=false:=beq_eq_false_iff_ne.2 (by omega);have d95: ¬(c=95):=by omega
  have sQ:(97<=(c:Int)):=by omega
  have mY:(97<=c):=by omega
  have mZ: ¬((c:Int)<=122):=by omega
  have jT: ¬(c<=122):=by omega
  have sS:(65<=(c:Int)):=by omega
  have m_:(65<=c):=by omega
  have sU: ¬((c:Int)<=90):=by omega
  have ng: ¬(c<=90):=by omega
  have g48:(48<=(c:Int)):=by omega
  have ni:(48<=c):=by omega
  have sV: ¬((c:Int)<=57):=by omega
  have ny: ¬(c<=57):=by omega
  rw[show fF c=0 by{unfold fF;simp[eF,fG, *]}];clear h1 h2 hc
  go_enter Tryz.func146,Tryz.ntmps146
  go_wp2_with fail
  go_ret;exact⟨rfl,rfl⟩
 omega
theorem N9 (c:Nat) (w:World) (hc:c<=255):Calls Tryz.prog 156 #[.int .u8 c] w fun e w'=>e= .returned (.bool (eF c))/\w=w':=by
 by_cases h:0<=c/\c<=8
 .obtain ⟨h1,h2⟩:=h;have sQ: ¬(97<=(c:Int)):=by omega
  have mY: ¬(97<=c):=by omega
  have mZ:((c:Int)<=122):=by omega
  have jT:(c<=122):=by omega
  have sS: ¬(65<=(c:Int)):=by omega
  have m_: ¬(65<=c):=by omega
  have sU:((c:Int)<=90):=by omega
  have ng:(c<=90):=by omega
  rw[show eF c=false by{unfold eF;simp[*]}];clear h1 h2 hc
  go_enter Tryz.func156,Tryz.ntmps156
  go_wp2_with fail
  go_ret;exact⟨rfl,rfl⟩
 by_cases h:c=9
 .subst h
  go_enter Tryz.func156,Tryz.ntmps156
  go_wp2_with fail
  go_ret;exact⟨rfl,rfl⟩
 by_cases h:c=10
 .subst h
  go_enter Tryz.func156,Tryz.ntmps156
  go_wp2_with fail
  go_ret;exact⟨rfl,rfl⟩
 by_cases h:11<=c/\c<=12
 .obtain ⟨h1,h2⟩:=h;have sQ: ¬(97<=(c:Int)):=by omega
  have mY: ¬(97<=c):=by omega
  have mZ:((c:Int)<=122):=by omega
  have jT:(c<=122):=by omega
  have sS: ¬(65<=(c:Int)):=by omega
  have m_: ¬(65<=c):=by omega
  have sU:((c:Int)<=90):=by omega
  have ng:(c<=90):=by omega
  rw[show eF c=false by{unfold eF;simp[*]}];clear h1 h2 hc
  go_enter Tryz.func156,Tryz.ntmps156
  go_wp2_with fail
  go_ret;exact⟨rfl,rfl⟩
 by_cases h:c=13
 .subst h
  go_enter Tryz.func156,Tryz.ntmps156
  go_wp2_with fail
  go_ret;exact⟨rfl,rfl⟩
 by_cases h:14<=c/\c<=31
 .obtain ⟨h1,h2⟩:=h;have sQ: ¬(97<=(c:Int)):=by omega
  have mY: ¬(97<=c):=by omega
  have mZ:((c:Int)<=122):=by omega
  have jT:(c<=122):=by omega
  have sS: ¬(65<=(c:Int)):=by omega
  have m_: ¬(65<=c):=by omega
  have sU:((c:Int)<=90):=by omega
  have ng:(c<=90):=by omega
  rw[show eF c=false by{unfold eF;simp[*]}];clear h1 h2 hc
  go_enter Tryz.func156,Tryz.ntmps156
  go_wp2_with fail
  go_ret;exact⟨rfl,rfl⟩
 by_cases h:c=32
 .subst h
  go_enter Tryz.func156,Tryz.ntmps156
  go_wp2_with fail
  go_ret;exact⟨rfl,rfl⟩
 by_cases h:33<=c/\c<=47
 .obtain ⟨h1,h2⟩:=h;have sQ: ¬(97<=(c:Int)):=by omega
  have mY: ¬(97<=c):=by omega
  have mZ:((c:Int)<=122):=by omega
  have jT:(c<=122):=by omega
  have sS: ¬(65<=(c:Int)):=by omega
  have m_: ¬(65<=c):=by omega
  have sU:((c:Int)<=90):=by omega
  have ng:(c<=90):=by omega
  rw[show eF c=false by{unfold eF;simp[*]}];clear h1 h2 hc
  go_enter Tryz.func156,Tryz.ntmps156
  go_wp2_with fail
  go_ret;exact⟨rfl,rfl⟩
 by_cases h:48<=c/\c<=57
 .obtain ⟨h1,h2⟩:=h;have sQ: ¬(97<=(c:Int)):=by omega
  have mY: ¬(97<=c):=by omega
  have mZ:((c:Int)<=122):=by omega
  have jT:(c<=122):=by omega
  have sS: ¬(65<=(c:Int)):=by omega
  have m_: ¬(65<=c):=by omega
  have sU:((c:Int)<=90):=by omega
  have ng:(c<=90):=by omega
  rw[show eF c=false by{unfold eF;simp[*]}];clear h1 h2 hc
  go_enter Tryz.func156,Tryz.ntmps156
  go_wp2_with fail
  go_ret;exact⟨rfl,rfl⟩
 by_cases h:58<=c/\c<=64
 .obtain ⟨h1,h2⟩:=h;have sQ: ¬(97<=(c:Int)):=by omega
  have mY: ¬(97<=c):=by omega
  have mZ:((c:Int)<=122):=by omega
  have jT:(c<=122):=by omega
  have sS: ¬(65<=(c:Int)):=by omega
  have m_: ¬(65<=c):=by omega
  have sU:((c:Int)<=90):=by omega
  have ng:(c<=90):=by omega
  rw[show eF c=false by{unfold eF;simp[*]}];clear h1 h2 hc
  go_enter Tryz.func156,Tryz.ntmps156
  go_wp2_with fail
  go_ret;exact⟨rfl,rfl⟩
 by_cases h:65<=c/\c<=90
 .obtain ⟨h1,h2⟩:=h;have sQ: ¬(97<=(c:Int)):=by omega
  have mY: ¬(97<=c):=by omega
  have mZ:((c:Int)<=122):=by omega
  have jT:(c<=122):=by omega
  have sS:(65<=(c:Int)):=by omega
  have m_:(65<=c):=by omega
  have sU:((c:Int)<=90):=by omega
  have ng:(c<=90):=by omega
  rw[show eF c=true by{unfold eF;simp[*]}];clear h1 h2 hc
  go_enter Tryz.func156,Tryz.ntmps156
  go_wp2_with fail
  go_ret;exact⟨rfl,rfl⟩
 by_cases h:91<=c/\c<=94
 .obtain ⟨h1,h2⟩:=h;have sQ: ¬(97<=(c:Int)):=by omega
  have mY: ¬(97<=c):=by omega
  have mZ:((c:Int)<=122):=by omega
  have jT:(c<=122):=by omega
  have sS:(65<=(c:Int)):=by omega
  have m_:(65<=c):=by omega
  have sU: ¬((c:Int)<=90):=by omega
  have ng: ¬(c<=90):=by omega
  rw[show eF c=false by{unfold eF;simp[*]}];clear h1 h2 hc
  go_enter Tryz.func156,Tryz.ntmps156
  go_wp2_with fail
  go_ret;exact⟨rfl,rfl⟩
 by_cases h:c=95
 .subst h
  go_enter Tryz.func156,Tryz.ntmps156
  go_wp2_with fail
  go_ret;exact⟨rfl,rfl⟩
 by_cases h:c=96
 .subst h
  go_enter Tryz.func156,Tryz.ntmps156
  go_wp2_with fail
  go_ret;exact⟨rfl,rfl⟩
 by_cases h:97<=c/\c<=122
 .obtain ⟨h1,h2⟩:=h;have sQ:(97<=(c:Int)):=by omega
  have mY:(97<=c):=by omega
  have mZ:((c:Int)<=122):=by omega
  have jT:(c<=122):=by omega
  have sS:(65<=(c:Int)):=by omega
  have m_:(65<=c):=by omega
  have sU: ¬((c:Int)<=90):=by omega
  have ng: ¬(c<=90):=by omega
  rw[show eF c=true by{unfold eF;simp[*]}];clear h1 h2 hc
  go_enter Tryz.func156,Tryz.ntmps156
  go_wp2_with fail
  go_ret;exact⟨rfl,rfl⟩
 by_cases h:123<=c/\c<=255
 .obtain ⟨h1,h2⟩:=h;have sQ:(97<=(c:Int)):=by omega
  have mY:(97<=c):=by omega
  have mZ: ¬((c:Int)<=122):=by omega
  have jT: ¬(c<=122):=by omega
  have sS:(65<=(c:Int)):=by omega
  have m_:(65<=c):=by omega
  have sU: ¬((c:Int)<=90):=by omega
  have ng: ¬(c<=90):=by omega
  rw[show eF c=false by{unfold eF;simp[*]}];clear h1 h2 hc
  go_enter Tryz.func156,Tryz.ntmps156
  go_wp2_with fail
  go_ret;exact⟨rfl,rfl⟩
 omega
theorem acz (c:Nat) (w:World) (hc:c<=255):Calls Tryz.prog 197 #[.int .u8 c] w fun e w'=>e= .returned (.bool (fG c))/\w=w':=by
 by_cases h:0<=c/\c<=8
 .obtain ⟨h1,h2⟩:=h;have g48: ¬(48<=(c:Int)):=by omega
  have ni: ¬(48<=c):=by omega
  have sV:((c:Int)<=57):=by omega
  have ny:(c<=57):=by omega
  rw[show fG c=false by{unfold fG;simp[*]}];clear h1 h2 hc
  go_enter Tryz.func197,Tryz.ntmps197
  go_wp2_with fail
  go_ret;exact⟨rfl,rfl⟩
 by_cases h:c=9
 .subst h
  go_enter Tryz.func197,Tryz.ntmps197
  go_wp2_with fail
  go_ret;exact⟨rfl,rfl⟩
 by_cases h:c=10
 .subst h
  go_enter Tryz.func197,Tryz.ntmps197
  go_wp2_with fail
  go_ret;exact⟨rfl,rfl⟩
 by_cases h:11<=c/\c<=12
 .obtain ⟨h1,h2⟩:=h;have g48: ¬(48<=(c:Int)):=by omega
  have ni: ¬(48<=c):=by omega
  have sV:((c:Int)<=57):=by omega
  have ny:(c<=57):=by omega
  rw[show fG c=false by{unfold fG;simp[*]}];clear h1 h2 hc
  go_enter Tryz.func197,Tryz.ntmps197
  go_wp2_with fail
  go_ret;exact⟨rfl,rfl⟩
 by_cases h:c=13
 .subst h
  go_enter Tryz.func197,Tryz.ntmps197
  go_wp2_with fail
  go_ret;exact⟨rfl,rfl⟩
 by_cases h:14<=c/\c<=31
 .obtain ⟨h1,h2⟩:=h;have g48: ¬(48<=(c:Int)):=by omega
  have ni: ¬(48<=c):=by omega
  have sV:((c:Int)<=57):=by omega
  have ny:(c<=57):=by omega
  rw[show fG c=false by{unfold fG;simp[*]}];clear h1 h2 hc
  go_enter Tryz.func197,Tryz.ntmps197
  go_wp2_with fail
  go_ret;exact⟨rfl,rfl⟩
 by_cases h:c=32
 .subst h
  go_enter Tryz.func197,Tryz.ntmps197
  go_wp2_with fail
  go_ret;exact⟨rfl,rfl⟩
 by_cases h:33<=c/\c<=47
 .obtain ⟨h1,h2⟩:=h;have g48: ¬(48<=(c:Int)):=by omega
  have ni: ¬(48<=c):=by omega
  have sV:((c:Int)<=57):=by omega
  have ny:(c<=57):=by omega
  rw[show fG c=false by{unfold fG;simp[*]}];clear h1 h2 hc
  go_enter Tryz.func197,Tryz.ntmps197
  go_wp2_with fail
  go_ret;exact⟨rfl,rfl⟩
 by_cases h:48<=c/\c<=57
 .obtain ⟨h1,h2⟩:=h;have g48:(48<=(c:Int)):=by omega
  have ni:(48<=c):=by omega
  have sV:((c:Int)<=57):=by omega
  have ny:(c<=57):=by omega
  rw[show fG c=true by{unfold fG;simp[*]}];clear h1 h2 hc
  go_enter Tryz.func197,Tryz.ntmps197
  go_wp2_with fail
  go_ret;exact⟨rfl,rfl⟩
 by_cases h:58<=c/\c<=64
 .obtain ⟨h1,h2⟩:=h;have g48:(48<=(c:Int)):=by omega
  have ni:(48<=c):=by omega
  have sV: ¬((c:Int)<=57):=by omega
  have ny: ¬(c<=57):=by omega
  rw[show fG c=false by{unfold fG;simp[*]}];clear h1 h2 hc
  go_enter Tryz.func197,Tryz.ntmps197
  go_wp2_with fail
  go_ret;exact⟨rfl,rfl⟩
 by_cases h:65<=c/\c<=90
 .obtain ⟨h1,h2⟩:=h;have g48:(48<=(c:Int)):=by omega
  have ni:(48<=c):=by omega
  have sV: ¬((c:Int)<=57):=by omega
  have ny: ¬(c<=57):=by omega
  rw[show fG c=false by{unfold fG;simp[*]}];clear h1 h2 hc
  go_enter Tryz.func197,Tryz.ntmps197
  go_wp2_with fail
  go_ret;exact⟨rfl,rfl⟩
 by_cases h:91<=c/\c<=94
 .obtain ⟨h1,h2⟩:=h;have g48:(48<=(c:Int)):=by omega
  have ni:(48<=c):=by omega
  have sV: ¬((c:Int)<=57):=by omega
  have ny: ¬(c<=57):=by omega
  rw[show fG c=false by{unfold fG;simp[*]}];clear h1 h2 hc
  go_enter Tryz.func197,Tryz.ntmps197
  go_wp2_with fail
  go_ret;exact⟨rfl,rfl⟩
 by_cases h:c=95
 .subst h
  go_enter Tryz.func197,Tryz.ntmps197
  go_wp2_with fail
  go_ret;exact⟨rfl,rfl⟩
 by_cases h:c=96
 .subst h
  go_enter Tryz.func197,Tryz.ntmps197
  go_wp2_with fail
  go_ret;exact⟨rfl,rfl⟩
 by_cases h:97<=c/\c<=122
 .obtain ⟨h1,h2⟩:=h;have g48:(48<=(c:Int)):=by omega
  have ni:(48<=c):=by omega
  have sV: ¬((c:Int)<=57):=by omega
  have ny: ¬(c<=57):=by omega
  rw[show fG c=false by{unfold fG;simp[*]}];clear h1 h2 hc
  go_enter Tryz.func197,Tryz.ntmps197
  go_wp2_with fail
  go_ret;exact⟨rfl,rfl⟩
 by_cases h:123<=c/\c<=255
 .obtain ⟨h1,h2⟩:=h;have g48:(48<=(c:Int)):=by omega
  have ni:(48<=c):=by omega
  have sV: ¬((c:Int)<=57):=by omega
  have ny: ¬(c<=57):=by omega
  rw[show fG c=false by{unfold fG;simp[*]}];clear h1 h2 hc
  go_enter Tryz.func197,Tryz.ntmps197
  go_wp2_with fail
  go_ret;exact⟨rfl,rfl⟩
 omega
theorem aeF (c:Nat) (w:World) (hc:c<=255):Calls Tryz.prog 157 #[.int .u8 c] w fun e w'=>e= .returned (.bool (sO c))/\w=w':=by
 have C1:=ae (N9 c w hc);have C2:=ae (acz c w hc);unfold sO;cases h1:eF c with
 |true=>
  rw[h1] at C1;clear h1 C2
  go_enter Tryz.func157,Tryz.ntmps157
  go_wp2_with fail
  refine C1.out.mono ?_;rintro e w' ⟨rfl,rfl⟩
  go_wp2_with fail
  go_ret;exact⟨rfl,rfl⟩
 |false=>
  rw[h1] at C1;clear h1;cases h2:fG c with
  |true=>
   rw[h2] at C2;clear h2
   go_enter Tryz.func157,Tryz.ntmps157
   go_wp2_with fail
   refine C1.out.mono ?_;rintro e w' ⟨rfl,rfl⟩
   go_wp2_with fail
   refine C2.out.mono ?_;rintro e w' ⟨rfl,rfl⟩
   go_wp2_with fail
   go_ret;exact⟨rfl,rfl⟩
  |false=>
   rw[h2] at C2;clear h2;have BJ:((c:Int)==95)=decide (c=95):=by
    by_cases h:c=95
    .rw [dT h,h];rfl
    .rw [dF h];exact beq_eq_false_iff_ne.2 (by omega)
   have HB:Hid (((c:Int)==95)=decide (c=95)):=BJ;clear BJ
   go_enter Tryz.func157,Tryz.ntmps157
   go_wp2_with fail
   refine C1.out.mono ?_;rintro e w' ⟨rfl,rfl⟩
   go_wp2_with fail
   refine C2.out.mono ?_;rintro e w' ⟨rfl,rfl⟩
   go_wp2_with fail
   go_ret
   first|exact⟨rfl,rfl⟩|exact⟨by rw[HB.out];rfl,rfl⟩|(refine⟨?_,rfl⟩;simp[<-HB.out])
def Q_ (t:Nat):ByteArray:=⟨(Il.getD t []).toArray⟩
def V6:Obj:= .cells (Il.map fun l=>Value.string ⟨l.toArray⟩).toArray 9
theorem Oa:Il.length=31:=by decide+kernel
theorem YG (w:World) (j:Nat) (hj:j<31):(w.alloc V6).cell? ⟨w.heap.size,0+j,none⟩=some (.string (Q_ j)):=by
 refine af (t:=9) (cs:=(Il.map fun l=>Value.string ⟨l.toArray⟩).toArray) (ai w V6) _ _ ?_;have:j<Il.length:=by rw[Oa];exact hj
 simp[Q_,this]
theorem Qq (w:World):Calls Tryz.prog 198 #[] w fun e w'=>e= .returned (.slice (some ⟨w.heap.size,0,none⟩) 31 31)/\w'=w.alloc V6:=by
 go_enter Tryz.func198,Tryz.ntmps198
 go_wp2_with fail
 go_ret;exact⟨rfl,rfl⟩
def hasB (n:Nat) (S:Nat->ByteArray) (x:ByteArray):Bool:=decide (∃j,j<n/\S j=x)
theorem aiV (g off n cap:Nat) (S:Nat->ByteArray) (x:ByteArray) (w:World) (hn:n<=1000000) (hcap:n<=cap) (hc: ∀j,j<n->w.cell? ⟨g,off+j,none⟩=some (.string (S j))):
  Calls Tryz.prog 192 #[.slice (some ⟨g,off,none⟩) n cap,.string x] w fun e w'=>e= .returned (.bool (hasB n S x))/\w=w':=by
 obtain⟨R,hR⟩: ∃R,decide (∃j,j<n/\S j=x)=R:=⟨_,rfl⟩
 unfold hasB;rw[hR];have HR:=ae hR;have HC:=ae hc;clear hR hc
 go_enter Tryz.func192,Tryz.ntmps192
 go_wp2_with fail
 go_loopg [5] n (fun gk i wr=> ∃j:Nat,i= .int .i64 j/\gk=n-j/\j<=n/\Hid (∀i,i<j->S i≠x)/\wr=w)
 case atStart=>exact⟨0,rfl,rfl,Nat.zero_le _,fun i h=>absurd h (Nat.not_lt_zero _),rfl⟩
 case round=>
  obtain⟨j,rfl,rfl,hj,Hj,rfl⟩:=hrel;by_cases hlt:j<n
  .have c0:=HC.out j hlt;have i0':(0:Int)<=(j:Int):=by omega
   have i1':(j:Int)< (n:Int):=by omega
   by_cases he:S j=x
   .have t1:=(Lib.bytes_beq_iff _ _).2 he;obtain rfl:R=true:=by rw[<-HR.out];exact dT ⟨j,hlt,he⟩
    clear he HR;generalize S j=X at*
    go_wp2_with fail
    go_ret;exact⟨rfl,rfl⟩
   .have t1:=(Lib.bytes_beq_false_iff _ _).2 he;have HJ2:Hid (∀i,i<j+1->S i≠x):=fun i hi=>by
     by_cases e:i=j
     .subst e;exact he
     .exact Hj.out i (by omega)
    clear he
    go_wp2_with fail
    go_roundg (n- (j+1))
    case measure=>omega
    case rel=>exact⟨j+1,by go_num,rfl,by omega,HJ2,rfl⟩
  .obtain rfl:R=false:=by
    rw[<-HR.out];exact dF (fun⟨i,h1,h2⟩=>Hj.out i (by omega) h2)
   clear HR
   go_wp2_with fail
   go_ret;exact⟨rfl,rfl⟩
theorem aiW (x:ByteArray):hasB 31 Q_ x=Fj x:=by
 unfold Fj hasB;rw[decide_eq_decide,<-aeH];constructor
 .rintro ⟨j,hj,rfl⟩;have:j<Il.length:=by rw[Oa];exact hj
  simp[Q_,this]
 .intro h;obtain⟨m,hm,he⟩:=List.getElem_of_mem h;refine⟨m,by rw[<-Oa];exact hm,jX ?_⟩;rw[<-he];simp[Q_,hm]
theorem N_ (x:ByteArray) (w:World):Calls Tryz.prog 158 #[.string x] w fun e w'=>e= .returned (.bool (Fj x))/\Ext w w':=by
 have HK:=ae (Qq w);have HB:=ae (aiV w.heap.size 0 31 31 Q_ x (w.alloc V6) (by decide) (Nat.le_refl _) (fun j hj=>YG w j hj));rw[aiW] at HB;have HE:Hid (Ext w (w.alloc V6)):=(aj.refl _ w).alloc _
 go_enter Tryz.func158,Tryz.ntmps158
 go_wp2_with fail
 refine HK.out.mono ?_;rintro e w' ⟨rfl,rfl⟩
 go_wp2_with fail
 refine HB.out.mono ?_;rintro e w' ⟨rfl,rfl⟩
 go_wp2_with fail
 go_ret;exact⟨rfl,HE.out⟩
theorem acx (s:ByteArray) (k:Nat) (h:k<s.size):s.data.toList.getD k 0=s[k]'h:=by
 have hl:k<s.data.toList.length:=h;rw[List.getD_eq_getElem?_getD,List.getElem?_eq_getElem hl];rfl
theorem N7 (s:ByteArray) (k:Nat) (h:k<s.size) (p:UInt8->Bool):(s.data.toList.take (k+1)).all p=((s.data.toList.take k).all p&&p (s[k]'h)):=by
 rw[List.take_succ_eq_append_getElem (by exact h),List.all_append];simp;rfl
theorem N8 (s:ByteArray) (k:Nat) (h:k<s.size) (p:UInt8->Bool) (hp:p (s[k]'h)=false):s.data.toList.all p=false:=by
 rw[List.all_eq_false];have hl:k<s.data.toList.length:=h;have hm:s.data.toList[k]'hl∈s.data.toList:=List.getElem_mem hl;exact⟨s[k]'h,hm,by rw[hp];decide⟩
theorem acy (c:Nat):sO c=decide (2<=fF c):=by
 unfold sO fF;by_cases h1:c=32\/c=9\/c=13\/c=10
 .rw [if_pos h1];rcases h1 with rfl|rfl|rfl|rfl<;>rfl
 .rw [if_neg h1];cases eF c with
  |true=>rfl
  |false=>
   cases fG c with
   |true=>rfl
   |false=>by_cases h:c=95<;>simp[h]
theorem Q8 (c:Nat):eF c=decide (fF c=2):=by
 unfold fF;by_cases h1:c=32\/c=9\/c=13\/c=10
 .rw [if_pos h1];rcases h1 with rfl|rfl|rfl|rfl<;>rfl
 .rw [if_neg h1];cases eF c with
  |true=>rfl
  |false=>
   cases fG c with
   |true=>rfl
   |false=>by_cases h:c=95<;>simp[h]
theorem NY (s:ByteArray) (h0:0<s.size):ax s=(decide (s.size<=40)&&(eF ((s[0]'h0).toNat)&&(s.data.toList.all (fun b=>sO b.toNat)&&!Fj s))):=by
 unfold ax;rw[acx s 0 h0];simp[h0]
theorem Gi (s:ByteArray) (h0:s.size=0):ax s=false:=by unfold ax;simp[h0]
theorem eU (s:ByteArray) (h0:s.size=0):s=⟨#[]⟩:=jX (List.eq_nil_of_length_eq_zero h0)
theorem dJ (s:ByteArray) (h0:0<s.size):s.toList.isEmpty=false/\¬(s.toList=[])/\(s.toList==[])=false/\(s.toList==(⟨#[]⟩:ByteArray).toList)=false:=by
 have e:s.toList≠[]:=fun e=>by rw[Lib.toList_data] at e;have:s.data.toList.length=s.size:=rfl;rw[e] at this;simp at this;omega
 have e2:(⟨#[]⟩:ByteArray).toList=[]:=by rw[Lib.toList_data]
 refine⟨by simpa using e,e,by simpa using e,by rw[e2];simpa using e⟩
theorem uF (s:ByteArray) (w:World) (htab:bT w):Calls Tryz.prog 79 #[.string s] w fun e w'=>e= .returned (.bool (ax s))/\Ext w w':=by
 by_cases h0:0<s.size
 .rw [NY s h0];obtain⟨z1,z2,z3,z4⟩:=dJ s h0;by_cases V4:s.size<=40
  .rw [dT V4,Bool.true_and];have t1:decide ((40:Int)< (s.size:Int))=false:=dF (by omega);have t1':decide (40<s.size)=false:=dF (by omega);obtain⟨c,hc⟩: ∃c:Nat,(s[0]'h0).toNat=c:=⟨_,rfl⟩
   have hc255:c<=255:=by rw[<-hc];have:=(s[0]'h0).toNat_lt;omega
   rw[hc];have CL:=ae (Q7 c w hc255);have KW:=ae (Qp s w htab);cases hl:eF c with
   |false=>
    have hl2:((fF c:Nat):Int)≠2:=by
     rw[Q8] at hl;have:=of_decide_eq_false hl;omega
    have t2:(((fF c:Nat):Int) !=2)=true:=bne_iff_ne.2 hl2;have t2':(((fF c:Nat):Int)==2)=false:=beq_eq_false_iff_ne.2 hl2;clear hl hl2 KW;generalize ((fF c:Nat):Int)=Y at*
    go_enter Tryz.func79,Tryz.ntmps79
    go_wp2_with fail
    refine CL.out.mono ?_;rintro e w' ⟨rfl,rfl⟩
    go_wp2_with fail
    go_ret;exact⟨rfl,aj.refl _ _⟩
   |true=>
    have hl2:fF c=2:=by
     rw[Q8] at hl;exact of_decide_eq_true hl
    rw[hl2] at CL;clear hl hl2;cases hk:Fj s with
    |true=>
     rw[hk] at KW;clear hk
     go_enter Tryz.func79,Tryz.ntmps79
     go_wp2_with fail
     refine CL.out.mono ?_;rintro e w' ⟨rfl,rfl⟩
     go_wp2_with fail
     refine KW.out.mono ?_;rintro e w' ⟨rfl,hE⟩;have HE:=ae hE;clear hE
     go_wp2_with fail
     go_ret;exact⟨by simp,HE.out⟩
    |false=>
     rw[hk] at KW;rw[Bool.not_false,Bool.and_true,Bool.true_and];obtain⟨R,hR⟩: ∃R,s.data.toList.all (fun b=>sO b.toNat)=R:=⟨_,rfl⟩
     rw[hR];have HR:=ae hR;clear hk hR
     go_enter Tryz.func79,Tryz.ntmps79
     go_wp2_with fail
     refine CL.out.mono ?_;rintro e w' ⟨rfl,rfl⟩
     go_wp2_with fail
     refine KW.out.mono ?_;rintro e w' ⟨rfl,hE⟩;have HE:=ae hE;clear hE hc CL KW t1 t1' z1 z2 z3 z4
     go_wp2_with fail
     go_loopg [3,23] s.size (fun gk _ i wr=> ∃j:Nat,i= .int .i64 j/\gk=s.size-j/\j<=s.size/\Hid ((s.data.toList.take j).all (fun b=>sO b.toNat)=true)/\wr=w')
     case atStart=>exact⟨0,rfl,rfl,Nat.zero_le _,rfl,rfl⟩
     case round=>
      obtain⟨j,rfl,rfl,hj,Hj,rfl⟩:=hrel;by_cases hlt:j<s.size
      .obtain ⟨d,hd⟩: ∃d:Nat,(s[j]'hlt).toNat=d:=⟨_,rfl⟩
       have TQ:d<=255:=by rw[<-hd];have:=(s[j]'hlt).toNat_lt;omega
       have CD:=ae (Q7 d wr TQ);have hw:=acy d;have i0':(0:Int)<=(j:Int):=by omega
       have i1':(j:Int)< (s.size:Int):=by omega
       cases hx:sO d with
       |true=>
        rw[hx] at hw;have hw2:=of_decide_eq_true hw.symm;have HJ2:Hid ((s.data.toList.take (j+1)).all (fun b=>sO b.toNat)=true):=by
         show _=_;rw[N7 s j hlt,hd,Hj.out,hx];rfl
        have t3:decide (((fF d:Nat):Int)<2)=false:=dF (by omega);have QG:decide (fF d<2)=false:=dF (by omega);clear hx hw hw2 Hj;generalize fF d=Y at*
        go_wp2_with fail
        refine CD.out.mono ?_;rintro e w' ⟨rfl,rfl⟩
        go_wp2_with fail
        go_roundg (s.size- (j+1))
        case measure=>omega
        case rel=>exact⟨j+1,by go_num,rfl,by omega,HJ2,rfl⟩
       |false=>
        rw[hx] at hw;have hw2:=of_decide_eq_false hw.symm;obtain rfl:R=false:=HR.out.symm.trans (N8 s j hlt _ (by rw[hd];exact hx));have t3:decide (((fF d:Nat):Int)<2)=true:=dT (by omega);have QG:decide (fF d<2)=true:=dT (by omega);clear hx hw hw2 Hj HR;generalize fF d=Y at*
        go_wp2_with fail
        refine CD.out.mono ?_;rintro e w' ⟨rfl,rfl⟩
        go_wp2_with fail
        go_ret;exact⟨rfl,HE.out⟩
      .obtain rfl:R=true:=by
        rw[<-HR.out,<-Hj.out,List.take_of_length_le (by show s.size<=j;omega)]
       clear HR Hj
       go_wp2_with fail
       go_ret;exact⟨rfl,HE.out⟩
  .rw [dF V4,Bool.false_and];have t1:decide ((40:Int)< (s.size:Int))=true:=dT (by omega);have t1':decide (40<s.size)=true:=dT (by omega)
   go_enter Tryz.func79,Tryz.ntmps79
   go_wp2_with fail
   go_ret;exact⟨rfl,aj.refl _ _⟩
 .rw [Gi s (by omega)];obtain rfl:=eU s (by omega)
  go_enter Tryz.func79,Tryz.ntmps79
  go_wp2_with fail
  go_ret;exact⟨rfl,aj.refl _ _⟩
theorem yz (s:ByteArray) (w:World):Calls Tryz.prog 92 #[.string s] w fun e w'=>e= .returned (.bool (ax s))/\Ext w w':=by
 by_cases h0:0<s.size
 .rw [NY s h0];have g1:((s.size:Int)==0)=false:=beq_eq_false_iff_ne.2 (by omega);have g2: ¬(s.size=0):=by omega
  have g3:(s.size==0)=false:=beq_eq_false_iff_ne.2 g2;by_cases V4:s.size<=40
  .rw [dT V4,Bool.true_and];have t1:decide ((40:Int)< (s.size:Int))=false:=dF (by omega);have t1':decide (40<s.size)=false:=dF (by omega);obtain⟨c,hc⟩: ∃c:Nat,(s[0]'h0).toNat=c:=⟨_,rfl⟩
   have hc255:c<=255:=by rw[<-hc];have:=(s[0]'h0).toNat_lt;omega
   rw[hc];have CL:=ae (N9 c w hc255);cases hl:eF c with
   |false=>
    rw[hl] at CL;clear hl
    go_enter Tryz.func92,Tryz.ntmps92
    go_wp2_with fail
    refine CL.out.mono ?_;rintro e w' ⟨rfl,rfl⟩
    go_wp2_with fail
    go_ret;exact⟨rfl,aj.refl _ _⟩
   |true=>
    rw[hl] at CL;rw[Bool.true_and];have KW:=ae (N_ s w);obtain⟨R,hR⟩: ∃R,s.data.toList.all (fun b=>sO b.toNat)=R:=⟨_,rfl⟩
    rw[hR];have HR:=ae hR;clear hl hR
    go_enter Tryz.func92,Tryz.ntmps92
    go_wp2_with fail
    refine CL.out.mono ?_;rintro e w' ⟨rfl,rfl⟩;clear hc CL
    go_wp2_with fail
    go_loopg [3] s.size (fun gk i wr=> ∃j:Nat,i= .int .i64 j/\gk=s.size-j/\j<=s.size/\Hid ((s.data.toList.take j).all (fun b=>sO b.toNat)=true)/\wr=w)
    case atStart=>exact⟨0,rfl,rfl,Nat.zero_le _,rfl,rfl⟩
    case round=>
     obtain⟨j,rfl,rfl,hj,Hj,rfl⟩:=hrel;by_cases hlt:j<s.size
     .obtain ⟨d,hd⟩: ∃d:Nat,(s[j]'hlt).toNat=d:=⟨_,rfl⟩
      have TQ:d<=255:=by rw[<-hd];have:=(s[j]'hlt).toNat_lt;omega
      have CD:=ae (aeF d wr TQ);have i0':(0:Int)<=(j:Int):=by omega
      have i1':(j:Int)< (s.size:Int):=by omega
      cases hx:sO d with
      |true=>
       rw[hx] at CD;have HJ2:Hid ((s.data.toList.take (j+1)).all (fun b=>sO b.toNat)=true):=by
        show _=_;rw[N7 s j hlt,hd,Hj.out,hx];rfl
       clear hx Hj
       go_wp2_with fail
       refine CD.out.mono ?_;rintro e w' ⟨rfl,rfl⟩
       go_wp2_with fail
       go_roundg (s.size- (j+1))
       case measure=>omega
       case rel=>exact⟨j+1,by go_num,rfl,by omega,HJ2,rfl⟩
      |false=>
       rw[hx] at CD;obtain rfl:R=false:=HR.out.symm.trans (N8 s j hlt _ (by rw[hd];exact hx));clear hx Hj HR
       go_wp2_with fail
       refine CD.out.mono ?_;rintro e w' ⟨rfl,rfl⟩
       go_wp2_with fail
       go_ret;exact⟨rfl,aj.refl _ _⟩
     .obtain rfl:R=true:=by
       rw[<-HR.out,<-Hj.out,List.take_of_length_le (by show s.size<=j;omega)]
      clear HR Hj;cases hk:Fj s with
      |true=>
       rw[hk] at KW;have HKW:=ae hk;clear hk
       go_wp2_with fail
       refine KW.out.mono ?_;rintro e w' ⟨rfl,hE⟩;have HE:=ae hE;clear hE
       go_wp2_with fail
       go_ret;exact⟨by simp[HKW.out],HE.out⟩
      |false=>
       rw[hk] at KW;have HKW:=ae hk;clear hk
       go_wp2_with fail
       refine KW.out.mono ?_;rintro e w' ⟨rfl,hE⟩;have HE:=ae hE;clear hE
       go_wp2_with fail
       go_ret;exact⟨by simp[HKW.out],HE.out⟩
  .rw [dF V4,Bool.false_and];have t1:decide ((40:Int)< (s.size:Int))=true:=dT (by omega);have t1':decide (40<s.size)=true:=dT (by omega)
   go_enter Tryz.func92,Tryz.ntmps92
   go_wp2_with fail
   go_ret;exact⟨rfl,aj.refl _ _⟩
 .rw [Gi s (by omega)];obtain rfl:=eU s (by omega)
  go_enter Tryz.func92,Tryz.ntmps92
  go_wp2_with fail
  go_ret;exact⟨rfl,aj.refl _ _⟩
section
open Go.Shelf
attribute [local go_sem] Oper.semAt_some
theorem oI {n:Nat} {w W:World} (h:Below n w W) (hn:w.heap.size<=n):Ext w W:=⟨h.os,h.tape,h.output,h.size,fun k hk _=>h.block k (by omega)⟩
def vT (pre:List Nd):Bool:=pre.all fun x=>j_ ax x.pr
theorem Vg (pre:List Nd) (x:Nd):vT (pre++[x])=(vT pre&&j_ ax x.pr):=by unfold vT;rw[List.all_append];simp
theorem gy {F:Nat->Prop} {W W':World} (B:Nat) (h:aj F W W') (hF: ∀k o,F k->W.heap[k]?=some o->o.isCells=true):KeepsFrom B W W':=
 ⟨h.size,fun k o _ hk ho=>by
  by_cases hf:F k
  .rw [hF k o hf hk] at ho;cases ho
  .exact h.heap hk hf⟩
theorem iy {W W':World} (B:Nat) (h:Ext W W'):KeepsFrom B W W':=gy B h (fun _ _ h=>h.elim)
theorem Ye {pre:List Nd} {t:Tm} (hp:pre.map Nd.pr <+:bH 1 t) (h:vT pre=false\/1000<pre.length):formed ax t=false:=by
 rw[Bool.eq_false_iff];intro hc;obtain⟨h1,h2⟩:=(rW ax t).1 hc;obtain⟨r,hr⟩:=hp;rcases h with h|h
 .have h3:vT pre=true:=by
   unfold vT;rw[List.all_eq_true];intro x hx;refine h2 x.pr ?_;rw[<-hr];exact List.mem_append_left _ (List.mem_map_of_mem hx)
  rw[h] at h3;cases h3
 .have h4:=congrArg List.length hr;rw[List.length_append,List.length_map,kP] at h4;omega
theorem Yf {xs:List Nd} {t:Tm} (hp:xs.map Nd.pr=bH 1 t) (h:vT xs=true) (hl:xs.length<=1000):formed ax t=true:=by
 rw[rW];have h4:=congrArg List.length hp;rw[List.length_map,kP] at h4;refine⟨by omega,fun p hpm=>?_⟩;rw[<-hp] at hpm;obtain⟨x,hx,rfl⟩:=List.mem_map.1 hpm;unfold vT at h;rw[List.all_eq_true] at h;exact h x hx
theorem MW (t:Tm) (v:Value) (w:World) (htab:bT w) (hR:bC (fun k=>k<w.heap.size) w t v) (hsz:(t.size:Int)<=1000000000000):Calls Tryz.prog 138 #[v] w fun e w'=>e= .returned (.bool (formed ax t))/\Ext w w':=by
 obtain⟨a,cap,rfl,hR⟩:=hR;dsimp only[tV];have ha0:=ai w (tO t a cap);refine(callsIn_wide (n:=9)).1 ?_;have hro:Fence.wide.round=none:=rfl;have hd:Fence.wide.depth=none:=rfl;have hf: ∀k,Fence.wide.fn k:=fun _=>trivial;have h1:1<=9:=by omega
 refine callsIn_of_wp_marks Tryz.func138 rfl trivial ?_ hro;have ES:Ext w (((w.alloc (tO t a cap)).alloc (.cells #[.bool false] 4)).alloc (.cells #[.int .i64 0] 3)):=(((aj.refl _ w).alloc _).alloc _).alloc _;have hs3:(((w.alloc (tO t a cap)).alloc (.cells #[.bool false] 4)).alloc (.cells #[.int .i64 0] 3)).heap.size=w.heap.size+3:=by simp
 have hbR:(((w.alloc (tO t a cap)).alloc (.cells #[.bool false] 4)).alloc (.cells #[.int .i64 0] 3)).heap[w.heap.size+1]?=some (.cells #[.bool false] 4 (0,0)):=ak (alloc_at _ _ (by simp)) _;have hbN:(((w.alloc (tO t a cap)).alloc (.cells #[.bool false] 4)).alloc (.cells #[.int .i64 0] 3)).heap[w.heap.size+2]?=some (.cells #[.int .i64 0] 3 (0,0)):=alloc_at _ _ (by simp);simp only[Tryz.ntmps138,List.size_toArray,List.length_cons,List.length_nil,Nat.reduceAdd,Nat.reduceSub,Array.replicate_succ,Array.replicate_zero,List.push_toArray,List.append_toArray,List.nil_append,List.cons_append]
 gi_wp2
 generalize (((w.alloc (tO t a cap)).alloc (.cells #[.bool false] 4)).alloc (.cells #[.int .i64 0] 3))=w3 at*;refine(callsIn_wide.2 (Eu t (.slice a t.kids.length cap) w3 ⟨_,_,_,rfl⟩)).mono ?_;rintro e w4 ⟨rfl,lF,hs4,hb4,hv4⟩;rw[hs3] at hs4 hb4 hv4⊢;have hE:=ES.ext lF;have alT:=lF.heap hbR (fun h=>h);have adK:=lF.heap hbN (fun h=>h);clear ES hs3 hbR hbN lF
 gi_wp2
 rw[show w.heap.size+2=w.heap.size+1+1 from rfl] at adK;generalize hB2:w.heap.size+1+1=B2 at*;generalize hB1:w.heap.size+1=B1 at*;generalize hB4:w.heap.size+3+1=B4 at*;generalize hB3:w.heap.size+3=B3 at*;generalize hB0:w.heap.size=B0 at*;refine wpIn_rangeFunc_ownH hro h1 (gf:=188) (lb:= #[.pointer (some ⟨B4,0,none⟩),.pointer (some ⟨B3,0,none⟩)]) rfl trivial (enters_of Tryz.func188 (by kernel_rfl) rfl)
  (yU Fence.wide hd (9-1) hf hro B4 B3 (fun k=>k=B1\/k=B2) (fun k=>k<B0) w4 (by omega) (by omega) (by omega) (by omega) t a cap (hR.ext hE) hv4 hb4 (by omega)) (fun h k=>dQ.trans h k) (fun W l o o' _ hl hc _=>dQ.putObj W l o o' hl hc) (Below.refl _ _) (fun _=>rfl)
  (fun pre W=>(((vT pre=true/\pre.length<=1000)/\Boxed W B1 4 (.bool false))/\Boxed W B2 3 (.int .i64 (pre.length:Int)))/\(Boxed W B4 219 (.func (.func 187) #[] #[.pointer (some ⟨B4,0,none⟩)])/\Below B0 w W))
  (fun c pre W=>((c= .ret/\(vT pre=false\/1000<pre.length))/\Boxed W B1 4 (.bool false))/\Below B0 w W)
  (OwnFrom.and (OwnFrom.and (OwnFrom.and (ownFrom_pure _ _) (Own.from (boxed_own _ _ _) _)) (Own.from (boxed_own B2 3 (fun pre:List Nd=>Value.int .i64 (pre.length:Int))) _)) (OwnFrom.and (Own.from (boxed_own _ _ _) _) (ownFrom_below (by omega) (by omega))))
  (fun c=>OwnFrom.and (OwnFrom.and (ownFrom_pure _ _) (Own.from (boxed_own _ _ _) _)) (ownFrom_below (by omega) (by omega)))
  ⟨⟨⟨⟨rfl,by decide⟩,alT⟩,adK⟩,hv4,hB0▸Ext.below hE⟩
  (fun x a' W=> ∃Bx,B4<Bx/\W.heap[Bx]?=some (.cells #[.string x.t.name,.string x.t.sort,.slice x.a x.t.kids.length x.cap] 24 (0,0))/\a'={tmps:= #[(.agg #[.string t.name,.string t.sort,.slice a t.kids.length cap]),.pointer (some ⟨B0,0,none⟩),.pointer (some ⟨B1,0,none⟩),.pointer (some ⟨B2,0,none⟩),.pointer (some ⟨Bx,0,none⟩),.int .i64 (x.d:Int),(.agg #[.string t.name,.string t.sort,.slice a t.kids.length cap]),(.func (.func 188) #[] #[.pointer (some ⟨B4,0,none⟩),.pointer (some ⟨B3,0,none⟩)]),(.agg #[.string x.t.name,.string x.t.sort,.slice x.a x.t.kids.length x.cap]),.int .i64 (x.d:Int),undef,undef,undef,undef,undef,undef,undef,undef,undef,undef,undef,undef,undef,undef,undef,undef,undef,undef,undef,undef,undef,undef,undef,undef,undef,undef,undef,undef,undef,undef,undef,undef,undef,undef,undef],defers:=[]})
  (fun x a' _ X Y row hs hg hr=>by
   obtain⟨Bx,e1,e2,e3⟩:=hs;refine⟨Bx,e1,(aj.jI hg).heap e2 (fun e=>?_),e3⟩;obtain⟨o,ho,hc⟩:=(hr Bx e.symm).2;rw[e2] at ho;cases ho;cases hc) ?assign ?body ?done ?stop
 case assign=>
  rintro l pre x W K ⟨⟨⟨hok,hb1⟩,hb2⟩,hb4,hB⟩ hK;dsimp only[Nd.encs,tV];have hbx:=ai W (.cells #[.string x.t.name,.string x.t.sort,.slice x.a x.t.kids.length x.cap] 24);have hlt:=hb2.lt
  gi_wp2
  exact hK _ _ (iy _ ((aj.refl _ W).alloc _)) (dQ.oz ((aj.refl _ W).alloc _)) ⟨⟨⟨hok,hb1.alloc _⟩,hb2.alloc _⟩,hb4.alloc _,hB.alloc (by have:=hB.size;omega) _⟩ ⟨W.heap.size,hb4.lt,hbx,rfl⟩
 case body=>
  rintro l pre x a' W hl hrec ⟨⟨⟨⟨hok,hlen⟩,hb1⟩,hb2⟩,hb4,hB⟩ ⟨Bx,hBx,hbx,rfl⟩ hlt;have hE0:=oI hB (by omega);have hu:aj (fun k=>k=B2) W (W.setCell ⟨B2,0,none⟩ (.int .i64 ((pre.length:Int)+1))):=(aj.refl (fun k=>k=B2) W).setCell (p:=⟨B2,0,none⟩) (.inl rfl) _;have n0:=hb2.cell;have n1:=hb2.frozen;have hwn:IntKind.i64.wrap ((pre.length:Int)+1)=(pre.length:Int)+1:=IntWalk.i64_in _ (by omega);have hlt4:=hb4.lt;have hE1:Ext w (W.setCell ⟨B2,0,none⟩ (.int .i64 ((pre.length:Int)+1))):=hE0.trans' hu (fun i hi e=>by omega);have Jl:=hu.heap hbx (by omega);have Yg:Boxed (W.setCell ⟨B2,0,none⟩ (.int .i64 ((pre.length:Int)+1))) B2 3 (.int .i64 ((pre.length:Int)+1)):=setBlock hb2 0 _;have kK:Boxed (W.setCell ⟨B2,0,none⟩ (.int .i64 ((pre.length:Int)+1))) B1 4 (.bool false):=hu.heap hb1 (by omega);have adL:Boxed (W.setCell ⟨B2,0,none⟩ (.int .i64 ((pre.length:Int)+1))) B4 219 (.func (.func 187) #[] #[.pointer (some ⟨B4,0,none⟩)]):=hu.heap hb4 (by omega);have m0:=Yg.cell;obtain⟨x0,x1,x2⟩:=ag Jl;have r0:=kK.cell;have r1:=kK.frozen;have hkg:dQ (fun k=>k=B1\/k=B2) W (W.setCell ⟨B2,0,none⟩ (.int .i64 ((pre.length:Int)+1))):=dQ.CP hu (fun k _ e=> .inr e);have Kr:KeepsFrom w4.heap.size W (W.setCell ⟨B2,0,none⟩ (.int .i64 ((pre.length:Int)+1))):=gy _ hu (fun k o e ho=>by subst e;rw[show W.heap[k]?=_ from hb2] at ho;cases ho;rfl);have hBl:Below B0 w (W.setCell ⟨B2,0,none⟩ (.int .i64 ((pre.length:Int)+1))):=hB0▸Ext.below hE1;have rZ:=ae (fun s W' (hW':Ext w W')=>uF s W' (aC htab hW'));have acf:1000<pre.length+1->1000< (pre++[x]).length:=fun h=>by rw[List.length_append];exact h
  have hsn:=Vg pre x;rw[hok,Bool.true_and] at hsn;have gU:=ae hsn;have aoX:=ae hrec;clear hrec hsn hE0 hok hb1 hb2 hb4 hbx hB hu;by_cases h1:1000<pre.length+1
  .have t1:decide ((1000:Int)< (pre.length:Int)+1)=true:=dT (by omega)
   gi_wp2
   have st:=(aj.refl (fun k=>k=B1) (W.setCell ⟨B2,0,none⟩ (.int .i64 ((pre.length:Int)+1)))).setCell (p:=⟨B1,0,none⟩) (.inl rfl) (.bool false);have hbz:Boxed (W.setCell ⟨B2,0,none⟩ (.int .i64 ((pre.length:Int)+1))) B1 4 (.bool false):=(uR (W.setCell ⟨B2,0,none⟩ (.int .i64 ((pre.length:Int)+1)))).heap kK (fun h=>h);refine⟨Kr.trans ((iy _ (uR (W.setCell ⟨B2,0,none⟩ (.int .i64 ((pre.length:Int)+1))))).trans (gy _ st (fun k o e ho=>by subst e;rw[show(W.setCell ⟨B2,0,none⟩ (.int .i64 ((pre.length:Int)+1))).heap[k]?=_ from hbz] at ho;cases ho;rfl))),⟨⟨rfl,.inr (acf h1)⟩,setBlock hbz 0 (.bool false)⟩,hB0▸Ext.below ((hE1.ext (uR (W.setCell ⟨B2,0,none⟩ (.int .i64 ((pre.length:Int)+1))))).iD (show w.heap.size<=B1 by omega) _)⟩
  have t1:decide ((1000:Int)< (pre.length:Int)+1)=false:=dF (by omega);by_cases h2:60<x.d
  .have t2:decide ((60:Int)< (x.d:Int))=true:=dT (by omega);have t2':decide (60<x.d)=true:=dT h2
   gi_wp2
   have st:=(aj.refl (fun k=>k=B1) (W.setCell ⟨B2,0,none⟩ (.int .i64 ((pre.length:Int)+1)))).setCell (p:=⟨B1,0,none⟩) (.inl rfl) (.bool false);have hbz:Boxed (W.setCell ⟨B2,0,none⟩ (.int .i64 ((pre.length:Int)+1))) B1 4 (.bool false):=(uR (W.setCell ⟨B2,0,none⟩ (.int .i64 ((pre.length:Int)+1)))).heap kK (fun h=>h);refine⟨Kr.trans ((iy _ (uR (W.setCell ⟨B2,0,none⟩ (.int .i64 ((pre.length:Int)+1))))).trans (gy _ st (fun k o e ho=>by subst e;rw[show(W.setCell ⟨B2,0,none⟩ (.int .i64 ((pre.length:Int)+1))).heap[k]?=_ from hbz] at ho;cases ho;rfl))),⟨⟨rfl,.inl (by rw[gU.out];unfold j_ Nd.pr;simp only[dF (show ¬x.d<=60 by omega),Bool.false_and])⟩,setBlock hbz 0 (.bool false)⟩,hB0▸Ext.below ((hE1.ext (uR (W.setCell ⟨B2,0,none⟩ (.int .i64 ((pre.length:Int)+1))))).iD (show w.heap.size<=B1 by omega) _)⟩
  have t2:decide ((60:Int)< (x.d:Int))=false:=dF (by omega);have t2':decide (60<x.d)=false:=dF h2;have k2:decide (x.d<=60)=true:=dT (by omega);have lG:=ae (rZ.out x.t.name (W.setCell ⟨B2,0,none⟩ (.int .i64 ((pre.length:Int)+1))) hE1);cases hnm:ax x.t.name
  .rw [hnm] at lG
   gi_wp2
   refine(CallsIn.inRound l (callsIn_wide.2 lG.out)).mono ?_;rintro e W2 ⟨rfl,hW2⟩;have G_:=(hW2).heap Jl (fun h=>h);obtain⟨x0b,Vh,x2b⟩:=ag G_;have CQ:Boxed _ B1 4 (.bool false):=(hW2).heap kK (fun h=>h);have r0b:=CQ.cell;have r1b:=CQ.frozen;clear x0 x1 x2 r0 r1
   gi_wp2
   have st:=(aj.refl (fun k=>k=B1) W2).setCell (p:=⟨B1,0,none⟩) (.inl rfl) (.bool false);have hbz:Boxed W2 B1 4 (.bool false):=(hW2).heap kK (fun h=>h);refine⟨Kr.trans ((iy _ (hW2)).trans (gy _ st (fun k o e ho=>by subst e;rw[show W2.heap[k]?=_ from hbz] at ho;cases ho;rfl))),⟨⟨rfl,.inl (by rw[gU.out];unfold j_ Nd.pr;simp only[k2,hnm,Bool.true_and,Bool.false_and])⟩,setBlock hbz 0 (.bool false)⟩,hB0▸Ext.below ((hE1.ext (hW2)).iD (show w.heap.size<=B1 by omega) _)⟩
  rw[hnm] at lG;by_cases h4:6<x.t.kids.length
  .have t4:decide ((6:Int)< (x.t.kids.length:Int))=true:=dT (by omega);have t4':decide (6<x.t.kids.length)=true:=dT h4
   gi_wp2
   refine(CallsIn.inRound l (callsIn_wide.2 lG.out)).mono ?_;rintro e W2 ⟨rfl,hW2⟩;have G_:=(hW2).heap Jl (fun h=>h);obtain⟨x0b,Vh,x2b⟩:=ag G_;have CQ:Boxed _ B1 4 (.bool false):=(hW2).heap kK (fun h=>h);have r0b:=CQ.cell;have r1b:=CQ.frozen;clear x0 x1 x2 r0 r1
   gi_wp2
   have st:=(aj.refl (fun k=>k=B1) W2).setCell (p:=⟨B1,0,none⟩) (.inl rfl) (.bool false);have hbz:Boxed W2 B1 4 (.bool false):=(hW2).heap kK (fun h=>h);refine⟨Kr.trans ((iy _ (hW2)).trans (gy _ st (fun k o e ho=>by subst e;rw[show W2.heap[k]?=_ from hbz] at ho;cases ho;rfl))),⟨⟨rfl,.inl (by rw[gU.out];unfold j_ Nd.pr;simp only[k2,hnm,dF (show ¬x.t.kids.length<=6 by omega),Bool.true_and,Bool.false_and])⟩,setBlock hbz 0 (.bool false)⟩,hB0▸Ext.below ((hE1.ext (hW2)).iD (show w.heap.size<=B1 by omega) _)⟩
  have t4:decide ((6:Int)< (x.t.kids.length:Int))=false:=dF (by omega);have t4':decide (6<x.t.kids.length)=false:=dF h4;have k4:decide (x.t.kids.length<=6)=true:=dT (by omega)
  gi_wp2
  refine(CallsIn.inRound l (callsIn_wide.2 lG.out)).mono ?_;rintro e W2 ⟨rfl,hW2⟩;have G_:=(hW2).heap Jl (fun h=>h);obtain⟨x0b,Vh,x2b⟩:=ag G_;have CQ:Boxed _ B1 4 (.bool false):=(hW2).heap kK (fun h=>h);have r0b:=CQ.cell;have r1b:=CQ.frozen;clear x0 x1 x2 r0 r1;by_cases hs0:x.t.sort.size=0
  .have hse:=eU _ hs0;rw[hse] at Vh
   gi_wp2
   any_goals (first|exact⟨Kr.trans (iy _ (hW2)),hkg.trans (dQ.oz (hW2)),⟨⟨⟨⟨by rw[gU.out];unfold j_ Nd.pr;simp only[k2,hnm,k4,dT (show x.t.sort=ah from hse),Bool.true_and,Bool.true_or],by rw[List.length_append];exact Nat.le_of_not_lt h1⟩,(hW2).heap kK (fun h=>h)⟩,by rw[List.length_append];exact(hW2).heap Yg (fun h=>h)⟩,(hW2).heap adL (fun h=>h),hB0▸Ext.below (hE1.ext (hW2))⟩⟩|fail)
   all_goals (rename_i hq _;exact absurd hq (by simp[undef]))
  have k5:decide (x.t.sort=ah)=false:=dF (fun e=>hs0 (by rw[e];rfl));obtain⟨e1,e2,e3,e4⟩:=dJ x.t.sort (Nat.pos_of_ne_zero hs0);have gz:=ae (rZ.out x.t.sort W2 (hE1.ext hW2));cases hns:ax x.t.sort
  .rw [hns] at gz
   gi_wp2
   refine(CallsIn.inRound l (callsIn_wide.2 gz.out)).mono ?_;rintro e W3 ⟨rfl,hW3⟩;have Tt:=(hW2.ext hW3).heap Jl (fun h=>h);obtain⟨x0c,x1c,x2c⟩:=ag Tt;have MX:Boxed _ B1 4 (.bool false):=(hW2.ext hW3).heap kK (fun h=>h);have r0c:=MX.cell;have r1c:=MX.frozen;clear x0b Vh x2b r0b r1b
   gi_wp2
   have st:=(aj.refl (fun k=>k=B1) W3).setCell (p:=⟨B1,0,none⟩) (.inl rfl) (.bool false);have hbz:Boxed W3 B1 4 (.bool false):=(hW2.ext hW3).heap kK (fun h=>h);refine⟨Kr.trans ((iy _ (hW2.ext hW3)).trans (gy _ st (fun k o e ho=>by subst e;rw[show W3.heap[k]?=_ from hbz] at ho;cases ho;rfl))),⟨⟨rfl,.inl (by rw[gU.out];unfold j_ Nd.pr;simp only[k2,hnm,k4,k5,hns,Bool.true_and,Bool.false_and,Bool.or_false])⟩,setBlock hbz 0 (.bool false)⟩,hB0▸Ext.below ((hE1.ext (hW2.ext hW3)).iD (show w.heap.size<=B1 by omega) _)⟩
  rw[hns] at gz
  gi_wp2
  refine(CallsIn.inRound l (callsIn_wide.2 gz.out)).mono ?_;rintro e W3 ⟨rfl,hW3⟩;have Tt:=(hW2.ext hW3).heap Jl (fun h=>h);obtain⟨x0c,x1c,x2c⟩:=ag Tt;have MX:Boxed _ B1 4 (.bool false):=(hW2.ext hW3).heap kK (fun h=>h);have r0c:=MX.cell;have r1c:=MX.frozen;clear x0b Vh x2b r0b r1b;by_cases h7:0<x.t.kids.length
  .have t7:decide ((0:Int)< (x.t.kids.length:Int))=true:=dT (by omega);have t7':decide (0<x.t.kids.length)=true:=dT h7;have k7:decide (x.t.kids.length=0)=false:=dF (by omega);have fK:vT (pre++[x])=false:=by rw[gU.out];unfold j_ Nd.pr;simp only[k2,hnm,k4,k5,hns,k7,Bool.true_and,Bool.and_false,Bool.false_and,Bool.or_false]
   generalize x.t.kids.length=KL at*
   gi_wp2
   have st:=(aj.refl (fun k=>k=B1) W3).setCell (p:=⟨B1,0,none⟩) (.inl rfl) (.bool false);have hbz:Boxed W3 B1 4 (.bool false):=(hW2.ext hW3).heap kK (fun h=>h);refine⟨Kr.trans ((iy _ (hW2.ext hW3)).trans (gy _ st (fun k o e ho=>by subst e;rw[show W3.heap[k]?=_ from hbz] at ho;cases ho;rfl))),⟨⟨rfl,.inl fK⟩,setBlock hbz 0 (.bool false)⟩,hB0▸Ext.below ((hE1.ext (hW2.ext hW3)).iD (show w.heap.size<=B1 by omega) _)⟩
  have t7:decide ((0:Int)< (x.t.kids.length:Int))=false:=dF (by omega);have t7':decide (0<x.t.kids.length)=false:=dF h7;have k7:decide (x.t.kids.length=0)=true:=dT (by omega);have fK:vT (pre++[x])=true:=by rw[gU.out];unfold j_ Nd.pr;simp only[k2,hnm,k4,k5,hns,k7,Bool.true_and,Bool.or_true]
  generalize x.t.kids.length=KL at*
  gi_wp2
  exact⟨Kr.trans (iy _ (hW2.ext hW3)),hkg.trans (dQ.oz (hW2.ext hW3)),⟨⟨⟨⟨fK,by rw[List.length_append];exact Nat.le_of_not_lt h1⟩,(hW2.ext hW3).heap kK (fun h=>h)⟩,by rw[List.length_append];exact(hW2.ext hW3).heap Yg (fun h=>h)⟩,(hW2.ext hW3).heap adL (fun h=>h),hB0▸Ext.below (hE1.ext (hW2.ext hW3))⟩⟩
 case done=>
  rintro D xs W hD hS ⟨⟨⟨⟨hok,hlen⟩,hb1⟩,hb2⟩,hb4,hB⟩ hK;have r0:=hb1.cell;have r1:=hb1.frozen;have hfm:=Yf hS hok hlen
  gi_wp2
  have hK':=(KeepsOthers.setCell W ⟨B1,0,none⟩ (.bool true)).same D _ hK rfl;refine⟨by simp,.inl ⟨_,_,rfl,run_takeDeferred hK',?_⟩⟩;have hc5:=cell_kept (hb1.set (.bool true)).cell (grownBy_putObj' _ D (.deferred none)) (fun r e=>by cases e;exact⟨_,hK',rfl⟩);refine⟨.bool true,?_,by rw[hfm],oI ((hB.setCell (p:=⟨B1,0,none⟩) (by show B0<=B1;omega) _).trans (belowK_b (w:=w) (by omega) _ D _ _ (by omega) hK' rfl rfl)) (by omega)⟩;simp[results,Tryz.f138,go_sem,hc5]
 case stop=>
  rintro D c pre W hD hS ⟨⟨⟨rfl,hbad⟩,hb1⟩,hB⟩ hK;have hfm:=Ye hS hbad
  gi_wp2
  refine⟨by simp,.inl ⟨_,_,rfl,run_takeDeferred hK,?_⟩⟩;have hc5:=cell_kept hb1.cell (grownBy_putObj' _ D (.deferred none)) (fun r e=>by cases e;exact⟨_,hK,rfl⟩);refine⟨.bool false,?_,by rw[hfm],oI (hB.trans (belowK_b (w:=w) (by omega) _ D _ _ (by omega) hK rfl rfl)) (by omega)⟩;simp[results,Tryz.f138,go_sem,hc5]
attribute [local go_sem] Oper.semAt_some
theorem Kt {W W':World} {B b:Nat} (h:aj (fun k=>k=b) W W') (hb:b<B):KeepsFrom B W W':=
 ⟨h.size,fun k o hk hh _=>h.heap hh (fun e=>by subst e;omega)⟩
abbrev rf (m:List Vd):List (ByteArray×Value):=m.map fun f=>(f.1,.string f.2)
theorem Vj (m:List Vd) (n:By):jv (rf m) n=(fQ m n).map .string:=by
 induction m with
 |nil=>rfl
 |cons a m ih=>
  rw[show rf (a::m)=(a.1,.string a.2)::rf m from rfl,jR,fM,ih];split<;>rfl
theorem MZ (m:List Vd) (f:Vd) (h:fQ m f.1=none):nO (rf m) f.1 (.string f.2)=rf (m++[f]):=by
 induction m with
 |nil=>rfl
 |cons a m ih=>
  rw[fM] at h;by_cases e:a.1=f.1
  .rw [if_pos e] at h;cases h
  .rw [if_neg e] at h;rw[show rf (a::m)=(a.1,.string a.2)::rf m from rfl];unfold nO;rw[if_neg e,ih h];rfl
theorem M_ (m:List Vd) (f:Vd) (h:fQ m f.1=some f.2):nO (rf m) f.1 (.string f.2)=rf m:=by
 induction m with
 |nil=>cases h
 |cons a m ih=>
  rw[fM] at h;rw[show rf (a::m)=(a.1,.string a.2)::rf m from rfl];unfold nO;by_cases e:a.1=f.1
  .rw [if_pos e] at h⊢;injection h with h
   rw[h,e]
  .rw [if_neg e] at h⊢;rw[ih h]
def ET (pre:List Nd):List Vd:=vl (pre.map (·.t))
theorem Yh (pre:List Nd) (x:Nd):ET (pre++[x])=ET pre++(if x.t.sort=ah then[] else[(x.t.name,x.t.sort)]):=by
 unfold ET;rw[List.map_append,qX]
 congr 1
 show List.filterMap _ [x.t]=_;by_cases h:x.t.sort=ah
 .simp [h]
 .simp [h]
theorem acg {xs:List Nd} {t:Tm} (h:xs.map Nd.pr=bH 1 t):ET xs=vl (aV t):=by
 unfold ET aV;rw[mQ t 0 1,<-h,List.map_map];rfl
theorem ach {xs:List Nd} {t:Tm} (h:xs.map Nd.pr <+:bH 1 t): ∃r,vl (aV t)=ET xs++r:=by
 obtain⟨r,hr⟩:=h;refine⟨vl (r.map (·.1)),?_⟩;unfold ET aV;rw[mQ t 0 1,<-hr,List.map_append,List.map_map,qX];rfl
def CS (B:Nat) (o:Option (List Vd)) (e:Ending) (w':World):Prop:=match o with
 |some m=> ∃b,e= .returned (.tuple #[.map (some b),.bool true])/\B<=b/\dN (fun s:ByteArray=>Value.string s) w' b (rf m)
 |none=>e= .returned (.tuple #[.map none,.bool false])
theorem QE (t:Tm) (g off cap a cp:Nat) (ad:Option Addr) (w:World) (hc:w.cell? ⟨g,off,none⟩=some (.string t.name)/\w.cell? ⟨g,off+1,none⟩=some (.string t.sort)/\w.cell? ⟨g,off+2,none⟩=some (.slice ad t.kids.length cp)) (hR:aA (fun k=>k<w.heap.size) w t.kids (.slice ad t.kids.length cp)) (hsz:(t.size:Int)<=1000000000000):
  Calls Tryz.prog 139 #[.slice (some ⟨g,off,none⟩) 1 cap] w fun e w'=>CS w.heap.size (jO t) e w'/\Ext w w':=by
 obtain⟨q0,q1,q2⟩:=hc;have hmm:= @run_makeMap Tryz.prog;refine(callsIn_wide (n:=9)).1 ?_;have hro:Fence.wide.round=none:=rfl;have hd:Fence.wide.depth=none:=rfl;have hf: ∀k,Fence.wide.fn k:=fun _=>trivial;have h1:1<=9:=by omega
 refine callsIn_of_wp_marks Tryz.func139 rfl trivial ?_ hro;simp only[Tryz.ntmps139,List.size_toArray,List.length_cons,List.length_nil,Nat.reduceAdd,Nat.reduceSub,Array.replicate_succ,Array.replicate_zero,List.push_toArray,List.append_toArray,List.nil_append,List.cons_append]
 gi_wp2
 have nV:Ext w ((((w.alloc (.cells #[.map none] 178)).alloc (.cells #[.bool false] 4)).alloc (.map #[] 0)).alloc (.cells #[.map (some (w.heap.size+1+1))] 178)):=((((uR w).alloc _).alloc _).alloc _).alloc _;have hs5:((((w.alloc (.cells #[.map none] 178)).alloc (.cells #[.bool false] 4)).alloc (.map #[] 0)).alloc (.cells #[.map (some (w.heap.size+1+1))] 178)).heap.size=w.heap.size+4:=by simp
 have hb2:Boxed ((((w.alloc (.cells #[.map none] 178)).alloc (.cells #[.bool false] 4)).alloc (.map #[] 0)).alloc (.cells #[.map (some (w.heap.size+1+1))] 178)) w.heap.size 178 (.map none):=ak (ak (ak (ai _ _) _) _) _;have hb3:Boxed ((((w.alloc (.cells #[.map none] 178)).alloc (.cells #[.bool false] 4)).alloc (.map #[] 0)).alloc (.cells #[.map (some (w.heap.size+1+1))] 178)) (w.heap.size+1) 4 (.bool false):=ak (ak (alloc_at _ _ (by simp)) _) _;have hmp:dN (fun s:ByteArray=>Value.string s) ((((w.alloc (.cells #[.map none] 178)).alloc (.cells #[.bool false] 4)).alloc (.map #[] 0)).alloc (.cells #[.map (some (w.heap.size+1+1))] 178)) (w.heap.size+1+1) []:=⟨#[],0,ak (alloc_at _ _ (by simp)) _,rfl,List.Pairwise.nil,fun _ h=>by cases h⟩
 have hb4:Boxed ((((w.alloc (.cells #[.map none] 178)).alloc (.cells #[.bool false] 4)).alloc (.map #[] 0)).alloc (.cells #[.map (some (w.heap.size+1+1))] 178)) (w.heap.size+1+1+1) 178 (.map (some (w.heap.size+1+1))):=alloc_at _ _ (by simp);generalize ((((w.alloc (.cells #[.map none] 178)).alloc (.cells #[.bool false] 4)).alloc (.map #[] 0)).alloc (.cells #[.map (some (w.heap.size+1+1))] 178))=w5 at*;generalize hB4:w.heap.size+1+1+1=B4 at*;generalize hM:w.heap.size+1+1=M at*;generalize hB3:w.heap.size+1=B3 at*;generalize hB2:w.heap.size=B2 at*;refine wpIn_loop_rounds 2 ?_;rw[roundsIn_succ];obtain⟨wr,hwr⟩: ∃wr,wr=w5:=⟨_,rfl⟩
 subst hwr;have p0:=nV.cell q0 (fun h=>h);have p1:=nV.cell q1 (fun h=>h);have p2:=nV.cell q2 (fun h=>h);have zJ:Ext wr (wr.alloc (tO t ad cp)):=(uR wr).alloc _;have hb6:=ai wr (tO t ad cp);obtain⟨x0,x1,x2⟩:=ag hb6
 gi_wp2
 refine(callsIn_wide.2 (Eu t (.slice ad t.kids.length cp) _ ⟨_,_,_,rfl⟩)).mono ?_;rintro e w7 ⟨rfl,QF,hs7,hb7,hv7⟩;have hs6:(wr.alloc (tO t ad cp)).heap.size=B2+5:=by simp[hs5]
 rw[hs6] at hs7 hb7 hv7⊢;have hE:=nV.ext (zJ.ext QF);have hc2:Boxed w7 B2 178 (.map none):=QF.heap (zJ.heap hb2 (fun h=>h)) (fun h=>h);have hc3:Boxed w7 B3 4 (.bool false):=QF.heap (zJ.heap hb3 (fun h=>h)) (fun h=>h);have hc4:Boxed w7 B4 178 (.map (some M)):=QF.heap (zJ.heap hb4 (fun h=>h)) (fun h=>h);have alU:=(hmp.ext zJ).ext QF;clear zJ QF hb6 hs6 x0 x1 x2
 gi_wp2
 refine wpIn_rangeFunc_ownH hro h1 (gf:=188) (lb:= #[.pointer (some ⟨B2+5+1,0,none⟩),.pointer (some ⟨B2+5,0,none⟩)]) rfl trivial (enters_of Tryz.func188 (by kernel_rfl) rfl)
  (yU Fence.wide hd (9-1) hf hro (B2+5+1) (B2+5) (fun k=>k=B2\/k=B3\/k=M) (fun k=>k<B2) w7 (by omega) (by omega) (by omega) (by omega) t ad cp (hB2▸hR.ext hE) hv7 hb7 (by omega)) (fun h k=>dQ.trans h k) (fun W l o o' _ hl hc _=>dQ.putObj W l o o' hl hc) (Below.refl _ _) (fun _=>rfl)
  (fun pre W=> ∃m,iQ [] (ET pre)=some m/\dN (fun s:ByteArray=>Value.string s) W M (rf m)/\Boxed W B2 178 (.map none)/\Boxed W B3 4 (.bool false)/\Boxed W B4 178 (.map (some M))/\Ext w W/\w7.heap.size<=W.heap.size)
  (fun c pre W=>c= .ret/\iQ [] (ET pre)=none/\Boxed W B2 178 (.map none)/\Boxed W B3 4 (.bool false)/\Ext w W)
  (fun s A B row hs hg hr=>by
   obtain⟨m,h1,h2,h3,h4,h5,h6,h7⟩:=hs;have hu:=aj.jI hg;have hne: ∀k,k<B2+7->¬some k=row:=fun k hk e=>by have:=(hr k e.symm).1;omega
   exact⟨m,h1,h2.kept hu (hne _ (by omega)),hu.heap h3 (hne _ (by omega)),hu.heap h4 (hne _ (by omega)),hu.heap h5 (hne _ (by omega)),h6.trans' hu (fun i hi e=>hne i (by omega) e),Nat.le_trans h7 hu.size⟩)
  (fun c s A B row hs hg hr=>by
   obtain⟨h1,h2,h3,h4,h6⟩:=hs;have hu:=aj.jI hg;have hne: ∀k,k<B2+7->¬some k=row:=fun k hk e=>by have:=(hr k e.symm).1;omega
   exact⟨h1,h2,hu.heap h3 (hne _ (by omega)),hu.heap h4 (hne _ (by omega)),h6.trans' hu (fun i hi e=>hne i (by omega) e)⟩)
  ⟨[],rfl,alU,hc2,hc3,hc4,hE,Nat.le_refl _⟩
  (fun x a' W=> ∃Bx,B2+6<Bx/\W.heap[Bx]?=some (.cells #[.string x.t.name,.string x.t.sort,.slice x.a x.t.kids.length x.cap] 24 (0,0))/\a'={tmps:= #[.slice (some ⟨g,off,none⟩) 1 cap,undef,.pointer (some ⟨B2,0,none⟩),.pointer (some ⟨B3,0,none⟩),.pointer (some ⟨B4,0,none⟩),undef,.pointer (some ⟨B2+4,0,none⟩),.pointer (some ⟨Bx,0,none⟩),undef,undef,.map (some M),.slice (some ⟨g,off,none⟩) 1 cap,.int .i64 1,.int .i64 0,.bool true,.pointer (some ⟨g,off,none⟩),(.agg #[.string t.name,.string t.sort,.slice ad t.kids.length cp]),(.agg #[.string t.name,.string t.sort,.slice ad t.kids.length cp]),(.func (.func 188) #[] #[.pointer (some ⟨B2+5+1,0,none⟩),.pointer (some ⟨B2+5,0,none⟩)]),(.agg #[.string x.t.name,.string x.t.sort,.slice x.a x.t.kids.length x.cap]),.int .i64 (x.d:Int),undef,undef,undef,undef,undef,undef,undef,undef,undef,undef,undef,undef,undef,undef,undef,undef,undef,undef,undef,undef,undef,undef,undef,undef],defers:=[]})
  (fun x a' _ X Y row hs hg hr=>by
   obtain⟨Bx,e1,e2,e3⟩:=hs;refine⟨Bx,e1,(aj.jI hg).heap e2 (fun e=>?_),e3⟩;obtain⟨o,ho,hc⟩:=(hr Bx e.symm).2;rw[e2] at ho;cases ho;cases hc) ?assign ?body ?done ?stop
 case assign=>
  rintro l pre x W K ⟨m,i1,i2,i3,i4,i5,i6,i7⟩ hK;dsimp only[Nd.encs,tV];have hbx:=ai W (.cells #[.string x.t.name,.string x.t.sort,.slice x.a x.t.kids.length x.cap] 24);have hal:Ext W (W.alloc (.cells #[.string x.t.name,.string x.t.sort,.slice x.a x.t.kids.length x.cap] 24)):=(aj.refl _ W).alloc _
  gi_wp2
  exact hK _ _ (iy _ hal) (dQ.oz hal) ⟨m,i1,i2.ext hal,i3.alloc _,i4.alloc _,i5.alloc _,i6.ext hal,Nat.le_trans i7 hal.size⟩ ⟨W.heap.size,by omega,hbx,rfl⟩
 case body=>
  rintro l pre x a' W hl hrec ⟨m,i1,i2,i3,i4,i5,i6,i7⟩ ⟨Bx,hBx,hbx,rfl⟩ hlt;have aoY:=hE.size;obtain⟨x0,x1,x2⟩:=ag hbx;have b4:=i5.cell;have r2:=i3.cell;have r3:=i4.cell;have s2:=i3.frozen;have s3:=i4.frozen;have hvs:=Yh pre x;by_cases hs0:x.t.sort.size=0
  .have hse:=eU _ hs0;rw[if_pos (show x.t.sort=ah from hse),List.append_nil] at hvs;rw[hse] at x1
   gi_wp2
   exact⟨KeepsFrom.refl _ _,dQ.refl _ _,m,by rw[hvs];exact i1,i2,i3,i4,i5,i6,i7⟩
  have hne:x.t.sort≠ah:=fun e=>hs0 (by rw[e];rfl);rw[if_neg hne] at hvs;have hsf:iQ [] (ET (pre++[x]))=(match fQ m x.t.name with|none=>some (m++[(x.t.name,x.t.sort)])|some s=>if s=x.t.sort then some m else none):=by
   rw[hvs,CU,i1];show iQ m [(x.t.name,x.t.sort)]=_;unfold iQ;cases fQ m x.t.name with
   |none=>rfl
   |some s=>
    simp only;split<;>rfl
  have CO:=ae hsf;obtain⟨e1,e2,e3,e4⟩:=dJ x.t.sort (Nat.pos_of_ne_zero hs0);have hlk:=i2.get (P:=Tryz.prog) (t:=178) (oJ Tryz.underlying9) Tryz.underlying178 (z:= .string ⟨#[]⟩) (Tryz.zeroValue9 W) x.t.name true;rw[Vj] at hlk;simp only[if_true] at hlk;have hM7:M<w7.heap.size:=by omega
  obtain⟨W2,hput,uG,hu2⟩:=i2.put (P:=Tryz.prog) (t:=178) (oJ Tryz.underlying9) Tryz.underlying178 x.t.name (.string x.t.sort);cases hg:fQ m x.t.name with
  |none=>
   rw[hg] at hlk;have hv2:=MZ m (x.t.name,x.t.sort) hg;simp only at hv2;rw[hv2] at uG;have oK:=CO.out;rw[hg] at oK;clear hsf
   gi_wp2
   exact⟨Kt hu2 (by omega),dQ.CP hu2 (fun k _ e=> .inr (.inr e)),_,oK,uG,hu2.heap i3 (by omega),hu2.heap i4 (by omega),hu2.heap i5 (by omega),i6.trans' hu2 (fun i hi e=>by omega),by have h9:=hu2.size;omega⟩
  |some s=>
   rw[hg] at hlk;have oK:=CO.out;rw[hg] at oK;clear hsf;simp only at oK;by_cases hse:s=x.t.sort
   .rw [if_pos hse] at oK;have hv2:=M_ m (x.t.name,x.t.sort) (by rw[hg,hse]);simp only at hv2;rw[hv2] at uG;subst hse;have hbb:(x.t.sort.toList==x.t.sort.toList)=true:=by simp
    have Yi:=ae oK;clear oK
    gi_wp2
    exact⟨Kt hu2 (by omega),dQ.CP hu2 (fun k _ e=> .inr (.inr e)),m,Yi.out,uG,hu2.heap i3 (by omega),hu2.heap i4 (by omega),hu2.heap i5 (by omega),i6.trans' hu2 (fun i hi e=>by omega),by have h9:=hu2.size;omega⟩
   .rw [if_neg hse] at oK;have hbb:(s.toList==x.t.sort.toList)=false:=by
     rw[beq_eq_false_iff_ne];intro e;exact hse (jX (by rw[Lib.toList_data,Lib.toList_data] at e;exact e))
    have Yi:=ae oK;clear oK
    gi_wp2
    have st:=((aj.refl (fun k=>k=B2\/k=B3) W).setCell (p:=⟨B2,0,none⟩) (.inl (.inl rfl)) (.map none)).setCell (p:=⟨B3,0,none⟩) (.inl (.inr rfl)) (.bool false);have He:Boxed (W.setCell ⟨B2,0,none⟩ (.map none)) B2 178 (.map none):=setBlock i3 0 (.map none);have i4':Boxed (W.setCell ⟨B2,0,none⟩ (.map none)) B3 4 (.bool false):=Boxed.other i4 (by omega) _;refine⟨gy _ st (fun k o e ho=>?_),rfl,Yi.out,Boxed.other He (by omega) _,setBlock i4' 0 (.bool false),(i6.iD (show w.heap.size<=B2 by omega) _).iD (show w.heap.size<=B3 by omega) _⟩;rcases e with e|e
    .subst e;rw[show W.heap[k]?=_ from i3] at ho;cases ho;rfl
    .subst e;rw[show W.heap[k]?=_ from i4] at ho;cases ho;rfl
 case done=>
  rintro D xs W hD hS ⟨m,i1,i2,i3,i4,i5,i6,i7⟩ hK;have hso:jO t=some m:=by rw[acg hS] at i1;exact i1
  have b4:=i5.cell;have r2:=i3.cell;have r3:=i4.cell;have s2:=i3.frozen;have s3:=i4.frozen
  gi_wp2
  rw[roundsIn_succ]
  gi_wp2
  have st:=((aj.refl (fun k=>k=B2\/k=B3) W).setCell (p:=⟨B2,0,none⟩) (.inl (.inl rfl)) (.map (some M))).setCell (p:=⟨B3,0,none⟩) (.inl (.inr rfl)) (.bool true);have He:Boxed (W.setCell ⟨B2,0,none⟩ (.map (some M))) B2 178 (.map (some M)):=setBlock i3 0 (.map (some M));have i4':Boxed (W.setCell ⟨B2,0,none⟩ (.map (some M))) B3 4 (.bool false):=Boxed.other i4 (by omega) _;have alV:Boxed ((W.setCell ⟨B2,0,none⟩ (.map (some M))).setCell ⟨B3,0,none⟩ (.bool true)) B2 178 (.map (some M)):=Boxed.other He (by omega) _;have alW:Boxed ((W.setCell ⟨B2,0,none⟩ (.map (some M))).setCell ⟨B3,0,none⟩ (.bool true)) B3 4 (.bool true):=setBlock i4' 0 (.bool true);have hK':=(gy 0 st (fun k o e ho=>by
   rcases e with e|e
   .subst e;rw[show W.heap[k]?=_ from i3] at ho;cases ho;rfl
   .subst e;rw[show W.heap[k]?=_ from i4] at ho;cases ho;rfl)).same D _ (Nat.zero_le _) hK rfl
  refine⟨by simp,.inl ⟨_,_,rfl,run_takeDeferred hK',?_⟩⟩;have hc2:=cell_kept alV.cell (grownBy_putObj' _ D (.deferred none)) (fun r e=>by cases e;exact⟨_,hK',rfl⟩);have hc3:=cell_kept alW.cell (grownBy_putObj' _ D (.deferred none)) (fun r e=>by cases e;exact⟨_,hK',rfl⟩);have hM:=(i2.kept st (by omega)).kept (aj.jI (grownBy_putObj' _ D (.deferred none))) (fun e=>by cases e;omega);refine⟨.tuple #[.map (some M),.bool true],?_,?_⟩
  .simp [results,Tryz.f139,go_sem,hc2,hc3]
  .refine ⟨?_,((i6.iD (show w.heap.size<=B2 by omega) _).iD (show w.heap.size<=B3 by omega) _).trans' (aj.jI (grownBy_putObj' _ D (.deferred none))) (fun i hi e=>by cases e;omega)⟩;unfold CS;rw[hso];exact⟨M,rfl,by omega,hM⟩
 case stop=>
  rintro D c pre W hD hS ⟨rfl,i1,i3,i4,i6⟩ hK;have hso:jO t=none:=by
   obtain⟨r,hr⟩:=ach hS;unfold jO;rw[hr,CU,i1];rfl
  gi_wp2
  refine⟨by simp,.inl ⟨_,_,rfl,run_takeDeferred hK,?_⟩⟩;have hc2:=cell_kept i3.cell (grownBy_putObj' _ D (.deferred none)) (fun r e=>by cases e;exact⟨_,hK,rfl⟩);have hc3:=cell_kept i4.cell (grownBy_putObj' _ D (.deferred none)) (fun r e=>by cases e;exact⟨_,hK,rfl⟩);refine⟨.tuple #[.map none,.bool false],?_,?_⟩
  .simp [results,Tryz.f139,go_sem,hc2,hc3]
  .refine ⟨?_,i6.trans' (aj.jI (grownBy_putObj' _ D (.deferred none))) (fun i hi e=>by cases e;omega)⟩;unfold CS;rw[hso]
end
theorem Na {t:Tm} (h:formed ax t=false):wf ax t=false:=by unfold wf;rw[h,Bool.false_and]
theorem r_ (t:Tm) (v:Value) (w:World) (htab:bT w) (hR:bC (fun k=>k<w.heap.size) w t v) (hsz:(t.size:Int)<=1000000000000):Calls Tryz.prog 128 #[v] w fun e w'=>e= .returned (.bool (wf ax t))/\Ext w w':=by
 have HR:=ae hR;obtain⟨a,cap,rfl,hT⟩:=hR;have cO:=ae hT;dsimp only[tV];have HZ:=ae ((uR w).alloc (tO t a cap));have HB:=ae (ai w (tO t a cap));have HF:=ae (fun W (hW:Ext w W)=>MW t _ W (aC htab hW) ((HR.out.ext hW).weaken (fun k hk=>ay hk hW.size)) hsz);dsimp only[tV] at HF;obtain⟨c0,c1,c2⟩:=ag HB.out;clear hT;cases hfm:formed ax t
 .rw [hfm] at HF;have hwf:=Na hfm;rw[hwf];clear hwf hfm
  go_enter Tryz.func128,Tryz.ntmps128
  go_wp2_with fail
  refine(HF.out _ HZ.out).mono ?_;rintro e w4 ⟨rfl,hw4⟩;have H4:=ae (HZ.out.ext hw4);clear hw4 c0 c1 c2
  go_wp2_with fail
  go_ret;exact⟨rfl,H4.out⟩
 rw[hfm] at HF;have yw:Hid (wf ax t=(jO t).isSome):=ae (by unfold wf;rw[hfm,Bool.true_and]);clear hfm;rw[yw.out]
 go_enter Tryz.func128,Tryz.ntmps128
 go_wp2_with fail
 refine(HF.out _ HZ.out).mono ?_;rintro e w4 ⟨rfl,hw4⟩;have H4:=ae (HZ.out.ext hw4);have HB4:=ae (hw4.heap HB.out (fun h=>h));clear hw4 c0 c1 c2;obtain⟨c0,c1,c2⟩:=ag HB4.out;have je:=ae (ai w4 (tO t a cap));have dX:=ae (H4.out.alloc (tO t a cap))
 go_wp2_with fail
 generalize (w4.alloc (tO t a cap))=w5 at*;obtain⟨x0,x1,x2⟩:=ag je.out;have pq:=ae (QE t w4.heap.size 0 1 0 cap a w5 ⟨x0,x1,x2⟩ ((cO.out.ext dX.out).weaken (fun k hk=>ay hk dX.out.size)) hsz);clear x0 x1 x2 c0 c1 c2;refine pq.out.mono ?_;rintro e w6 ⟨hp,hw6⟩;have H6:=ae (dX.out.ext hw6);unfold CS at hp;clear hw6 pq;cases hso:jO t with
 |none=>
  rw[hso] at hp;simp only at hp;subst hp
  go_wp2_with fail
  go_ret;rw[hso];exact⟨rfl,H6.out⟩
 |some m=>
  rw[hso] at hp;simp only at hp;obtain⟨b,rfl,_,_⟩:=hp
  go_wp2_with fail
  go_ret;rw[hso];exact⟨rfl,H6.out⟩
section
open Go.Shelf
attribute [local go_sem] Oper.semAt_some
def rq (pre:List Nd):Nat:=pre.foldl (fun m x=>max m x.d) 0
theorem Yj (pre:List Nd) (x:Nd):rq (pre++[x])=max (rq pre) x.d:=by unfold rq;rw[List.foldl_append];rfl
theorem Vk: ∀(t:Tm) (d m:Nat),d<=m+1->((bH d t).map (·.2)).foldl max m=max m (d+t.depth-1):=by
 refine Tm.ind (fun nm so L ih d m hm=>?_);have hL: ∀(L:List Tm) (d m:Nat),1<=d->d<=m+1->(∀x∈L,∀(d m:Nat),d<=m+1->((bH d x).map (·.2)).foldl max m=max m (d+x.depth-1))->((bG d L).map (·.2)).foldl max m=max m (d-1+depths L):=by
  intro L
  induction L with
  |nil=>intro d m h1 h2 _;simp[bG,depths];omega
  |cons a L ihL=>
   intro d m h1 h2 h;simp only[bG,List.map_append,List.foldl_append,depths];rw[h a (List.mem_cons_self ..) d m h2,ihL d _ h1 (by omega) (fun x hx=>h x (List.mem_cons_of_mem _ hx))];omega
 rw[iw,xA];simp only[List.map_cons,List.foldl_cons,Tm.kids];rw[hL L (d+1) (max m d) (by omega) (by omega) ih];omega
theorem aci {xs:List Nd} {t:Tm} (h:xs.map Nd.pr=bH 1 t):rq xs=t.depth:=by
 have h1:=Vk t 1 0 (by omega);rw[<-h,List.map_map] at h1;have h2:rq xs=(xs.map ((fun x=>x.2)∘Nd.pr)).foldl max 0:=by
  unfold rq;rw[List.foldl_map];rfl
 rw[h2,h1];have:=xA t;omega
def wG (t:Tm):Nat:=if wf ax t then t.size else 0
def EU (t:Tm):Nat:=if wf ax t then t.depth else 0
theorem Vl (t:Tm) (v:Value) (w:World) (htab:bT w) (hR:bC (fun k=>k<w.heap.size) w t v) (hsz:(t.size:Int)<=1000000000000):Calls Tryz.prog 194 #[v] w fun e w'=>e= .returned (.tuple #[.int .i64 (wG t:Nat),.int .i64 (EU t:Nat)])/\Ext w w':=by
 have HR:=ae hR;obtain⟨a,cap,rfl,hT⟩:=hR;dsimp only[tV];have lH:=ae (fun W (hW:Ext w W)=>r_ t _ W (aC htab hW) ((HR.out.ext hW).weaken (fun k hk=>ay hk hW.size)) hsz);dsimp only[tV] at lH;have ES:Ext w (((w.alloc (tO t a cap)).alloc (.cells #[.int .i64 0] 3)).alloc (.cells #[.int .i64 0] 3)):=(((uR w).alloc _).alloc _).alloc _;have hs3:(((w.alloc (tO t a cap)).alloc (.cells #[.int .i64 0] 3)).alloc (.cells #[.int .i64 0] 3)).heap.size=w.heap.size+3:=by simp
 have hb1:(((w.alloc (tO t a cap)).alloc (.cells #[.int .i64 0] 3)).alloc (.cells #[.int .i64 0] 3)).heap[w.heap.size]?=some (tO t a cap):=ak (ak (ai _ _) _) _;have hb2:Boxed (((w.alloc (tO t a cap)).alloc (.cells #[.int .i64 0] 3)).alloc (.cells #[.int .i64 0] 3)) (w.heap.size+1) 3 (.int .i64 0):=ak (alloc_at _ _ (by simp)) _;have hb3:Boxed (((w.alloc (tO t a cap)).alloc (.cells #[.int .i64 0] 3)).alloc (.cells #[.int .i64 0] 3)) (w.heap.size+1+1) 3 (.int .i64 0):=alloc_at _ _ (by simp);refine(callsIn_wide (n:=9)).1 ?_;have hro:Fence.wide.round=none:=rfl;have hd:Fence.wide.depth=none:=rfl;have hf: ∀k,Fence.wide.fn k:=fun _=>trivial;have h1:1<=9:=by omega
 refine callsIn_of_wp_marks Tryz.func194 rfl trivial ?_ hro;obtain⟨c0,c1,c2⟩:=ag hb1;simp only[Tryz.ntmps194,List.size_toArray,List.length_cons,List.length_nil,Nat.reduceAdd,Nat.reduceSub,Array.replicate_succ,Array.replicate_zero,List.push_toArray,List.append_toArray,List.nil_append,List.cons_append]
 gi_wp2
 generalize (((w.alloc (tO t a cap)).alloc (.cells #[.int .i64 0] 3)).alloc (.cells #[.int .i64 0] 3))=w3 at*;generalize hB1:w.heap.size+1=B1 at*;generalize hB0:w.heap.size=B0 at*;refine(callsIn_wide.2 (lH.out _ ES)).mono ?_;rintro e w4 ⟨rfl,lF⟩;have Jm:=lF.heap hb1 (fun h=>h);have xB:Boxed w4 B1 3 (.int .i64 0):=lF.heap hb2 (fun h=>h);have vU:Boxed w4 (B1+1) 3 (.int .i64 0):=lF.heap hb3 (fun h=>h);have hE:=ES.ext lF;have Nb:=lF.size;obtain⟨c0,c1,c2⟩:=ag Jm;have r2:=xB.cell;have r3:=vU.cell;have s2:=xB.frozen;have s3:=vU.frozen;clear lF ES hb1 hb2 hb3;cases hwf:wf ax t
 .have e1:wG t=0:=by unfold wG;rw[hwf];rfl
  have e2:EU t=0:=by unfold EU;rw[hwf];rfl
  gi_wp2
  have i2:Boxed (w4.setCell ⟨B1,0,none⟩ (.int .i64 0)) B1 3 (.int .i64 0):=setBlock xB 0 (.int .i64 0);have i3:Boxed (w4.setCell ⟨B1,0,none⟩ (.int .i64 0)) (B1+1) 3 (.int .i64 0):=Boxed.other vU (by omega) _;have Vm:Boxed ((w4.setCell ⟨B1,0,none⟩ (.int .i64 0)).setCell ⟨B1+1,0,none⟩ (.int .i64 0)) B1 3 (.int .i64 0):=Boxed.other i2 (by omega) _;have He:Boxed ((w4.setCell ⟨B1,0,none⟩ (.int .i64 0)).setCell ⟨B1+1,0,none⟩ (.int .i64 0)) (B1+1) 3 (.int .i64 0):=setBlock i3 0 (.int .i64 0);have q2:=Vm.cell;have q3:=He.cell;refine⟨.tuple #[.int .i64 0,.int .i64 0],by simp[results,Tryz.f194,go_sem,q2,q3],by rw[e1,e2];rfl,(hE.iD (show w.heap.size<=B1 by omega) _).iD (show w.heap.size<=B1+1 by omega) _⟩
 have e1:wG t=t.size:=by unfold wG;rw[hwf];rfl
 have e2:EU t=t.depth:=by unfold EU;rw[hwf];rfl
 gi_wp2
 refine(callsIn_wide.2 (Eu t (.slice a t.kids.length cap) w4 ⟨_,_,_,rfl⟩)).mono ?_;rintro e w5 ⟨rfl,nV,hs5,hb5,hv5⟩;have hc2:Boxed w5 B1 3 (.int .i64 0):=nV.heap xB (fun h=>h);have hc3:Boxed w5 (B1+1) 3 (.int .i64 0):=nV.heap vU (fun h=>h);have hEE:=hE.ext nV;have Hf:=vU.lt;clear r2 r3 s2 s3 c0 c1 c2 Jm xB vU;obtain⟨Z,hZ⟩: ∃Z,w4.heap.size=Z:=⟨_,rfl⟩
 rw[hZ] at hs5 hb5 hv5 Nb Hf⊢
 gi_wp2
 refine wpIn_rangeFunc_ownH hro h1 (gf:=188) (lb:= #[.pointer (some ⟨Z+1,0,none⟩),.pointer (some ⟨Z,0,none⟩)]) rfl trivial (enters_of Tryz.func188 (by kernel_rfl) rfl)
  (yU Fence.wide hd (9-1) hf hro (Z+1) Z (fun k=>k=B1\/k=B1+1) (fun k=>k<B0) w5 (by omega) (by omega) (by omega) (by omega) t a cap (hB0▸hT.ext hEE) hv5 hb5 (by omega)) (fun h k=>dQ.trans h k) (fun W l o o' _ hl hc _=>dQ.putObj W l o o' hl hc) (Below.refl _ _) (fun _=>rfl)
  (fun pre W=>(Boxed W B1 3 (.int .i64 (pre.length:Int))/\Boxed W (B1+1) 3 (.int .i64 (rq pre:Int)))/\Below B0 w W)
  (fun _ _ _=>False)
  (OwnFrom.and (OwnFrom.and (Own.from (boxed_own B1 3 (fun pre:List Nd=>Value.int .i64 (pre.length:Int))) _) (Own.from (boxed_own (B1+1) 3 (fun pre:List Nd=>Value.int .i64 (rq pre:Int))) _)) (ownFrom_below (by omega) (by omega)))
  (fun _ _ _ _ _ hs _ _=>hs)
  ⟨⟨hc2,hc3⟩,hB0▸Ext.below hEE⟩
  (fun x a' W=>a'={tmps:= #[(.agg #[.string t.name,.string t.sort,.slice a t.kids.length cap]),.pointer (some ⟨B0,0,none⟩),.pointer (some ⟨B1,0,none⟩),.pointer (some ⟨B1+1,0,none⟩),undef,.int .i64 (x.d:Int),(.agg #[.string t.name,.string t.sort,.slice a t.kids.length cap]),.bool true,.bool false,(.agg #[.string t.name,.string t.sort,.slice a t.kids.length cap]),(.func (.func 188) #[] #[.pointer (some ⟨Z+1,0,none⟩),.pointer (some ⟨Z,0,none⟩)]),(.agg #[.string x.t.name,.string x.t.sort,.slice x.a x.t.kids.length x.cap]),.int .i64 (x.d:Int),undef,undef,undef,undef,undef,undef,undef],defers:=[]})
  (fun x a' _ X Y row hs hg hr=>hs) ?assign ?body ?done ?stop
 case assign=>
  rintro l pre x W K ⟨⟨i1,i2⟩,i3⟩ hK;dsimp only[Nd.encs,tV]
  gi_wp2
  exact hK _ _ (KeepsFrom.refl _ _) (dQ.refl _ _) ⟨⟨i1,i2⟩,i3⟩ rfl
 case body=>
  rintro l pre x a' W hl hrec ⟨⟨i1,i2⟩,i3⟩ rfl hlt;have hd1:=Yj pre x;have r2:=i1.cell;have r3:=i2.cell;have s2:=i1.frozen;have s3:=i2.frozen;have hwn:IntKind.i64.wrap ((pre.length:Int)+1)=(pre.length:Int)+1:=IntWalk.i64_in _ (by omega);have u2:Boxed (W.setCell ⟨B1,0,none⟩ (.int .i64 ((pre.length:Int)+1))) (B1+1) 3 (.int .i64 (rq pre:Int)):=Boxed.other i2 (by omega) _;have u3:=u2.cell;have u4:=u2.frozen
  gi_wp2
  have st:=((aj.refl (fun k=>k=B1\/k=B1+1) W).setCell (p:=⟨B1,0,none⟩) (.inl (.inl rfl)) (.int .i64 ((pre.length:Int)+1))).setCell (p:=⟨B1+1,0,none⟩) (.inl (.inr rfl)) (.int .i64 (max (rq pre:Int) (x.d:Int)));have e3:((rq (pre++[x]):Nat):Int)=max (rq pre:Int) (x.d:Int):=by rw[hd1];omega
  have u1:Boxed (W.setCell ⟨B1,0,none⟩ (.int .i64 ((pre.length:Int)+1))) B1 3 (.int .i64 ((pre.length:Int)+1)):=setBlock i1 0 _;refine⟨gy _ st (fun k o e ho=>?_),dQ.CP st (fun k _ e=>e),⟨?_,?_⟩,(i3.setCell (p:=⟨B1,0,none⟩) (by show B0<=B1;omega) _).setCell (p:=⟨B1+1,0,none⟩) (by show B0<=B1+1;omega) _⟩
  .rcases e with e|e
   .subst e;rw[show W.heap[k]?=_ from i1] at ho;cases ho;rfl
   .subst e;rw[show W.heap[B1+1]?=_ from i2] at ho;cases ho;rfl
  .rw [List.length_append];exact Boxed.other u1 (by omega) _
  .rw [e3];exact setBlock u2 0 _
 case done=>
  rintro D xs W hD hS ⟨⟨i1,i2⟩,i3⟩ hK;have r2:=i1.cell;have r3:=i2.cell;have s2:=i1.frozen;have s3:=i2.frozen
  gi_wp2
  refine wpIn_wide.2 ?_
  go_region
  gi_wp2
  have st:=((aj.refl (fun k=>k=B1\/k=B1+1) W).setCell (p:=⟨B1,0,none⟩) (.inl (.inl rfl)) (.int .i64 (xs.length:Int))).setCell (p:=⟨B1+1,0,none⟩) (.inl (.inr rfl)) (.int .i64 (rq xs:Int));have hK1:=(gy 0 st (fun k o e ho=>by
   rcases e with e|e
   .subst e;rw[show W.heap[k]?=_ from i1] at ho;cases ho;rfl
   .subst e;rw[show W.heap[B1+1]?=_ from i2] at ho;cases ho;rfl)).same D _ (Nat.zero_le _) hK rfl
  have hK':((W.setCell ⟨B1,0,none⟩ (.int .i64 (xs.length:Int))).setCell ⟨B1+1,0,none⟩ (.int .i64 (rq xs:Int))).drew.heap[D]?=some (.deferred (some [])):=hK1;have u1:Boxed (W.setCell ⟨B1,0,none⟩ (.int .i64 (xs.length:Int))) B1 3 (.int .i64 (xs.length:Int)):=setBlock i1 0 _;have u2:Boxed (W.setCell ⟨B1,0,none⟩ (.int .i64 (xs.length:Int))) (B1+1) 3 (.int .i64 (rq xs:Int)):=Boxed.other i2 (by omega) _;have u3:Boxed ((W.setCell ⟨B1,0,none⟩ (.int .i64 (xs.length:Int))).setCell ⟨B1+1,0,none⟩ (.int .i64 (rq xs:Int))).drew B1 3 (.int .i64 (xs.length:Int)):=Boxed.other u1 (by omega) _;have u4:Boxed ((W.setCell ⟨B1,0,none⟩ (.int .i64 (xs.length:Int))).setCell ⟨B1+1,0,none⟩ (.int .i64 (rq xs:Int))).drew (B1+1) 3 (.int .i64 (rq xs:Int)):=setBlock u2 0 _;refine⟨by simp,.inl ⟨_,_,rfl,run_takeDeferred hK',?_⟩⟩;have hc2:=cell_kept u3.cell (grownBy_putObj' _ D (.deferred none)) (fun r e=>by cases e;exact⟨_,hK',rfl⟩);have hc3:=cell_kept u4.cell (grownBy_putObj' _ D (.deferred none)) (fun r e=>by cases e;exact⟨_,hK',rfl⟩);have hl:xs.length=t.size:=by have:=congrArg List.length hS;rw[List.length_map,kP] at this;exact this
  refine⟨.tuple #[.int .i64 (xs.length:Int),.int .i64 (rq xs:Int)],?_,?_⟩
  .simp [results,Tryz.f194,go_sem,hc2,hc3]
  .refine ⟨by rw[e1,e2,hl,aci hS],?_⟩;have Ku:Ext w ((W.setCell ⟨B1,0,none⟩ (.int .i64 (xs.length:Int))).setCell ⟨B1+1,0,none⟩ (.int .i64 (rq xs:Int))).drew:=((oI i3 (by omega)).iD (show w.heap.size<=B1 by omega) _).iD (show w.heap.size<=B1+1 by omega) _|>.drew
   exact Ku.trans' (aj.jI (grownBy_putObj' _ D (.deferred none))) (fun i hi e=>by cases e;omega)
 case stop=>
  rintro D c pre W _ _ h _;exact h.elim
end
theorem EW (d:Nat) (x:Tm): ∀(L:List Tm) (left:Int),0<=left->smalls ax d left (L++[x])=if smalls ax d left L<0 then smalls ax d left L else small ax d (smalls ax d left L) x
 |[],left,h=>by
  simp only[List.nil_append,smalls];have hn: ¬left<0:=by omega
  simp only[hn,if_false];split<;>rfl
 |a::L,left,h=>by
  simp only[List.cons_append,smalls];by_cases hn:small ax d left a<0
  .simp only [hn,if_true]
  .simp only [hn,if_false];exact EW d x L _ (by omega)
theorem Hg (d:Nat) (M:List Tm): ∀(L:List Tm) (left:Int),0<=left->smalls ax d left L<0->smalls ax d left (L++M)=smalls ax d left L
 |[],left,h,h2=>by simp only[smalls] at h2;omega
 |a::L,left,h,h2=>by
  simp only[List.cons_append,smalls] at h2⊢;by_cases hn:small ax d left a<0
  .rw [if_pos hn,if_pos hn]
  .rw [if_neg hn] at h2⊢;rw[if_neg hn];exact Hg d M L _ (by omega) h2
theorem Yk (d:Nat) (left:Int) (t:Tm): -1<=small ax d left t/\(small ax d left t<=left\/small ax d left t= -1):=by
 rw[Hl];have:=size_pos t;split
 .rename_i h;exact⟨by omega,.inl (by omega)⟩
 .exact ⟨by omega,.inr rfl⟩
theorem Nc (t:Tm) (v:Value) (w:World) (htab:bT w) (hR:bC (fun k=>k<w.heap.size) w t v) (hsz:(t.size:Int)<=1000000000000):Calls Tryz.prog 145 #[v] w fun e w'=>e= .returned (.int .i64 (wG t:Nat))/\Ext w w':=by
 have HR:=ae hR;obtain⟨a,cap,rfl,hT⟩:=hR;dsimp only[tV];have HZ:=ae ((uR w).alloc (tO t a cap));have hb:=ai w (tO t a cap);have HF:=ae (fun W (hW:Ext w W)=>Vl t _ W (aC htab hW) ((HR.out.ext hW).weaken (fun k hk=>ay hk hW.size)) hsz);dsimp only[tV] at HF;obtain⟨c0,c1,c2⟩:=ag hb;clear hT hb;generalize wG t=X at*;generalize EU t=Y at*
 go_enter Tryz.func145,Tryz.ntmps145
 go_wp2_with fail
 refine(HF.out _ HZ.out).mono ?_;rintro e w4 ⟨rfl,hw4⟩;have H4:=ae (HZ.out.ext hw4);clear hw4 c0 c1 c2
 go_wp2_with fail
 go_ret;exact⟨rfl,H4.out⟩
theorem Ez: ∀(t:Tm) (d:Nat) (left:Int) (v:Value) (S:Nat->Prop) (w:World),bC S w t v->d<=1000-> -1<=left->left<=1000->
  Calls Tryz.prog 83 #[v,.int .i64 (d:Int),.int .i64 left] w fun e w'=>e= .returned (.int .i64 (small ax d left t))/\Ext w w':=by
 refine Tm.ind (fun nm so L ih=>?_);intro d left v S w hR hd hl0 hl1;obtain⟨a,cap,rfl,hT⟩:=hR;dsimp only[tV,Tm.name,Tm.sort,Tm.kids] at hT⊢;have cO:=ae hT;have HIH:=ae ih;clear ih hT;have HZ:=ae ((uR w).alloc (.cells #[.string nm,.string so,.slice a L.length cap] 24));have HB:=ae (ai w (.cells #[.string nm,.string so,.slice a L.length cap] 24));obtain⟨c0,c1,c2⟩:=ag HB.out;have hok: ∀b,j_ ax (.mk nm so L,d)=b->j_ ax (.mk nm so L,d)=b:=fun _ h=>h;have adN:j_ ax (.mk nm so L,d)=(decide (d<=60)&&(ax nm&&(decide (L.length<=6)&&(decide (so=ah)||(ax so&&decide (L.length=0)))))):=rfl;have fK:=ae adN;clear hok adN;by_cases h1:left<=0
 .have t1:decide (left<=0)=true:=dT h1;have hr:small ax d left (.mk nm so L)= -1:=by
   rw[mV,if_pos (.inl h1)]
  rw[hr]
  go_enter Tryz.func83,Tryz.ntmps83
  go_wp2_with fail
  go_ret;exact⟨rfl,HZ.out⟩
 have t1:decide (left<=0)=false:=dF h1;by_cases h2:60<d
 .have t2:decide ((60:Int)< (d:Int))=true:=dT (by omega);have t2':decide (60<d)=true:=dT h2;have hr:small ax d left (.mk nm so L)= -1:=by
   rw[mV,if_pos (.inr (by rw[fK.out,dF (show ¬d<=60 by omega),Bool.false_and]))]
  rw[hr]
  go_enter Tryz.func83,Tryz.ntmps83
  go_wp2_with fail
  go_ret;exact⟨rfl,HZ.out⟩
 have t2:decide ((60:Int)< (d:Int))=false:=dF (by omega);have t2':decide (60<d)=false:=dF h2;have k2:decide (d<=60)=true:=dT (by omega);by_cases h3:6<L.length
 .have t3:decide ((6:Int)< (L.length:Int))=true:=dT (by omega);have QG:decide (6<L.length)=true:=dT h3;have hr:small ax d left (.mk nm so L)= -1:=by
   rw[mV,if_pos (.inr (by rw[fK.out,dF (show ¬L.length<=6 by omega)];simp))]
  rw[hr]
  go_enter Tryz.func83,Tryz.ntmps83
  go_wp2_with fail
  go_ret;exact⟨rfl,HZ.out⟩
 have t3:decide ((6:Int)< (L.length:Int))=false:=dF (by omega);have QG:decide (6<L.length)=false:=dF h3;have k3:decide (L.length<=6)=true:=dT (by omega);have lG:=ae (fun W=>yz nm W);cases hnm:ax nm
 .rw [hnm] at lG;have hr:small ax d left (.mk nm so L)= -1:=by
   rw[mV,if_pos (.inr (by rw[fK.out,hnm];simp))]
  rw[hr]
  go_enter Tryz.func83,Tryz.ntmps83
  go_wp2_with fail
  refine(lG.out _).mono ?_;rintro e w4 ⟨rfl,hw4⟩;have H4:=ae (HZ.out.ext hw4);have hb4:=HB.out;have HB4:=ae (hw4.heap hb4 (fun h=>h));clear hw4 hb4 c0 c1 c2;obtain⟨c0,c1,c2⟩:=ag HB4.out
  go_wp2_with fail
  go_ret;exact⟨rfl,H4.out⟩
 rw[hnm] at lG;by_cases hs0:so.size=0
 .have hse:=eU _ hs0;have BD:small ax d left (.mk nm so L)=smalls ax (d+1) (left-1) L:=by
   rw[mV];refine if_neg ?_;rintro(h|h)
   .omega
   .rw [fK.out,k2,hnm,k3,dT (show so=ah from hse)] at h;cases h
  subst hse
  go_enter Tryz.func83,Tryz.ntmps83
  go_wp2_with fail
  refine(lG.out _).mono ?_;rintro e w4 ⟨rfl,hw4⟩;have H4:=ae (HZ.out.ext hw4);have hb4:=HB.out;have HB4:=ae (hw4.heap hb4 (fun h=>h));clear hw4 hb4 c0 c1 c2;obtain⟨c0,c1,c2⟩:=ag HB4.out
  go_wp2_with fail
  clear c0 c1 c2
  go_loopg [2,7] L.length (fun gk lv iv wr=> ∃(k:Nat) (cur:Int),lv= .int .i64 cur/\iv= .int .i64 (k:Int)/\gk=L.length-k/\k<=L.length/\Hid (smalls ax (d+1) (left-1) (L.take k)=cur)/\0<=cur/\cur<=1000/\Hid (Ext w wr)/\Hid (wr.heap[w.heap.size]?=some (.cells #[.string nm,.string ⟨#[]⟩,.slice a L.length cap] 24 (0,0))))
  case atStart=>exact⟨0,left-1,by first|rfl|go_num,rfl,rfl,Nat.zero_le _,ae rfl,by omega,by omega,H4,HB4⟩
  case round=>
   obtain⟨k,cur,rfl,rfl,rfl,hk,HC,hc0,hc1,HE,lQ⟩:=hrel;have c2:=af lQ.out 2 (.slice a L.length cap) rfl;by_cases hlt:k<L.length
   .obtain ⟨g,off,rfl,_,hat⟩:=(cO.out.ext HE.out).at_ (by omega);obtain⟨a',cap',q0,q1,q2,aY⟩:=hat k hlt;obtain⟨z0,z1,z2,z2'⟩:=bz hlt;have hmem:tg L k∈L:=by unfold tg;rw[List.getD_eq_getElem?_getD,List.getElem?_eq_getElem hlt];exact List.getElem_mem hlt
    have htk:L.take (k+1)=L.take k++[tg L k]:=by
     rw[List.take_add_one];have:L[k]?.toList=[tg L k]:=by unfold tg;rw[List.getD_eq_getElem?_getD,List.getElem?_eq_getElem hlt];rfl
     rw[this]
    have hsp:L=L.take (k+1)++L.drop (k+1):=(List.take_append_drop _ _).symm;have a_:=ae (HIH.out (tg L k) hmem (d+1) cur _ S wr ⟨a',cap',rfl,aY⟩ (by omega) (by omega) hc1);have hsn:=EW (d+1) (tg L k) (L.take k) (left-1) (by omega);rw[HC.out,if_neg (show ¬cur<0 by omega),<-htk] at hsn;have hbd:=Yk (d+1) cur (tg L k);have HNG:=ae (Hg (d+1) (L.drop (k+1)) (L.take (k+1)) (left-1) (by omega));rw[<-hsp] at HNG;generalize tg L k=x at*;rw[<-Nat.add_assoc] at q1 q2;dsimp only[tV] at a_;rw[show(((d+1:Nat)):Int)=(d:Int)+1 by omega] at a_;have hw1:IntKind.i64.wrap ((d:Int)+1)=(d:Int)+1:=IntWalk.i64_in _ (by omega);obtain⟨r,hr0⟩: ∃r,small ax (d+1) cur x=r:=⟨_,rfl⟩
    rw[hr0] at a_ hsn hbd;have gU:=ae hsn;clear hsn hr0 htk hsp hmem aY hat
    go_wp2_with fail
    refine a_.out.mono ?_;rintro e w8 ⟨rfl,hw8⟩;have bV:=ae (HE.out.ext hw8);have kE:=ae (hw8.heap lQ.out (fun h=>h));clear hw8 c2 q0 q1 q2 a_;by_cases hrn:r<0
    .have hr1:decide (r<0)=true:=dT hrn;have Nh:Hid (small ax d left (.mk nm ⟨#[]⟩ L)=r):=ae (by rw[BD,HNG.out (by rw[gU.out];exact hrn),gU.out])
     go_wp2_with fail
     go_ret;rw[Nh.out];exact⟨rfl,bV.out⟩
    .have hr1:decide (r<0)=false:=dF hrn
     go_wp2_with fail
     go_roundg (L.length- (k+1))
     case measure=>omega
     case rel=>exact⟨k+1,r,rfl,by go_num,rfl,by omega,gU,by omega,by omega,bV,kE⟩
   .obtain rfl:k=L.length:=by omega
    have Nh:Hid (small ax d left (.mk nm ⟨#[]⟩ L)=cur):=ae (by rw[BD,<-HC.out,List.take_length]);have z2:decide ((L.length:Int)< (L.length:Int))=false:=dF (by omega)
    go_wp2_with fail
    go_ret;rw[Nh.out];exact⟨rfl,HE.out⟩
 have k5:decide (so=ah)=false:=dF (fun e=>hs0 (by rw[e];rfl));obtain⟨e1,e2,e3,e4⟩:=dJ so (Nat.pos_of_ne_zero hs0);by_cases h7:0<L.length
 .have t7:decide ((0:Int)< (L.length:Int))=true:=dT (by omega);have t7':decide (0<L.length)=true:=dT h7;have hr:small ax d left (.mk nm so L)= -1:=by
   rw[mV,if_pos (.inr (by rw[fK.out,k5,dF (show ¬L.length=0 by omega)];simp))]
  rw[hr];clear hr fK HIH;generalize L.length=KL at*
  go_enter Tryz.func83,Tryz.ntmps83
  go_wp2_with fail
  refine(lG.out _).mono ?_;rintro e w4 ⟨rfl,hw4⟩;have H4:=ae (HZ.out.ext hw4);have hb4:=HB.out;have HB4:=ae (hw4.heap hb4 (fun h=>h));clear hw4 hb4 c0 c1 c2;obtain⟨c0,c1,c2⟩:=ag HB4.out
  go_wp2_with fail
  go_ret;exact⟨rfl,H4.out⟩
 have hLn:L=[]:=List.eq_nil_of_length_eq_zero (by omega);subst hLn;have fV:=ae (fun W=>yz so W);cases hns:ax so
 .rw [hns] at fV;have hr:small ax d left (.mk nm so [])= -1:=by
   rw[mV,if_pos (.inr (by rw[fK.out,k5,hns];simp))]
  rw[hr]
  go_enter Tryz.func83,Tryz.ntmps83
  go_wp2_with fail
  refine(lG.out _).mono ?_;rintro e w4 ⟨rfl,hw4⟩;have H4:=ae (HZ.out.ext hw4);have hb4:=HB.out;have HB4:=ae (hw4.heap hb4 (fun h=>h));clear hw4 hb4 c0 c1 c2;obtain⟨c0,c1,c2⟩:=ag HB4.out
  go_wp2_with fail
  refine(fV.out _).mono ?_;rintro e w5 ⟨rfl,hw5⟩;have H5:=ae (H4.out.ext hw5);have hb5:=HB4.out;have fE:=ae (hw5.heap hb5 (fun h=>h));clear hw5 hb5 c0 c1 c2;obtain⟨c0,c1,c2⟩:=ag fE.out
  go_wp2_with fail
  go_ret;exact⟨rfl,H5.out⟩
 rw[hns] at fV;have BD:small ax d left (.mk nm so [])=smalls ax (d+1) (left-1) []:=by
  rw[mV];refine if_neg ?_;rintro(h|h)
  .omega
  .rw [fK.out,k2,hnm,k3,k5,hns] at h;cases h
 go_enter Tryz.func83,Tryz.ntmps83
 go_wp2_with fail
 refine(lG.out _).mono ?_;rintro e w4 ⟨rfl,hw4⟩;have H4:=ae (HZ.out.ext hw4);have hb4:=HB.out;have HB4:=ae (hw4.heap hb4 (fun h=>h));clear hw4 hb4 c0 c1 c2;obtain⟨c0,c1,c2⟩:=ag HB4.out
 go_wp2_with fail
 refine(fV.out _).mono ?_;rintro e w5 ⟨rfl,hw5⟩;have H5:=ae (H4.out.ext hw5);have hb5:=HB4.out;have fE:=ae (hw5.heap hb5 (fun h=>h));clear hw5 hb5 c0 c1 c2;obtain⟨c0,c1,c2⟩:=ag fE.out
 go_wp2_with fail
 clear c0 c1 c2
 go_loopg [2,7] 1 (fun gk lv iv wr=>lv= .int .i64 (left-1)/\iv= .int .i64 0/\gk=1/\Hid (Ext w wr)/\Hid (wr.heap[w.heap.size]?=some (.cells #[.string nm,.string so,.slice a ([]:List Tm).length cap] 24 (0,0))))
 case atStart=>exact⟨by first|rfl|go_num,rfl,rfl,H5,fE⟩
 case round=>
  obtain⟨rfl,rfl,rfl,HE,lQ⟩:=hrel;have c2:=af lQ.out 2 (.slice a ([]:List Tm).length cap) rfl
  go_wp2_with fail
  go_ret;rw[BD];exact⟨rfl,HE.out⟩
end Go.Proofs.YtlkcjmaiahnodaaGreatDoor
