/- The texts I1 Shelf LX LN I2 I3 I4 I5 I6, one behind the other. -/
import Derived.RangeFuncNested
import Derived.RangeFuncBound
import Derived.RangeFuncCalls
import Derived.RangeFuncLeaves
import Derived.Shelf.Abstract
import Derived.Shelf.RegionOpen
import Derived.WalkKit
import Derived.OwnWalkIn
import Derived.TacticsInMore
import Derived.LoopNIn
import Derived.LoopIn
import Derived.Sort.LoopGhostIn
import Derived.Laws.EntriesVeiled
import Derived.Test.YtlkcjmaiahnodaaGreatDoorSAB
import Derived.Test.YtlkcjmaiahnodaaGreatDoorProg
import Derived.Shelf.Small.Bits
import Derived.Shelf.Small.Strs
import Derived.Shelf.Strconv.Itoa0
import Derived.Shelf.Strings.Fields
import Derived.Shelf.Slices.Turned
import Derived.Shelf.Slices.Equal
import Derived.Ground.Names2Prog
import Derived.Shelf.Slices.Clone
import Derived.Shelf.Slices.Empties2
import Derived.Ground.SlgnProg
import Derived.Shelf.SlicesE.Clone
import Derived.Shelf.Spec.SearchS
import Derived.Lib.Strings
import Derived.Lib.SlicesS
set_option maxRecDepth 100000
set_option maxHeartbeats 8000000
set_option linter.unusedVariables false
set_option linter.unusedSimpArgs false
namespace Go.Proofs.YtlkcjmaiahnodaaGreatDoor
open Go.RowKit Go.Hw Go Tm
section
open Go.Shelf
attribute [local go_sem] Oper.semAt_some
theorem room_of_none {F:Fence} (hd:F.depth=none) (k:Nat):F.room k:=fun d h=>by rw[hd] at h;cases h
theorem RoundIn.anyDepth {F:Fence} (hd:F.depth=none) {m m':Nat} {P:Program} {l:Nat} {f:FuncId} {tmps:Array Value} {assign body:Code} {w:World} {R:Ending->World->Prop}
  (h:RoundIn F m P l f tmps assign body w R):RoundIn F m' P l f tmps assign body w R:=⟨h.1,fun c cs _=>h.2 c cs (room_of_none hd _)⟩
theorem YieldAt.anyDepth {F:Fence} (hd:F.depth=none) {m:Nat} (m':Nat) {P:Program} {l:Nat} {args:Array Value} {W:World} {R:Ending->World->Prop} (h:YieldAt F m P l args W R):YieldAt F m' P l args W R:=by
 obtain⟨fn,tmps,assign,body,hy,hR⟩:=h;exact⟨fn,tmps,assign,body,hy,RoundIn.anyDepth hd hR⟩
structure Nd where
 t:Tm
 a:Option Addr
 cap:Nat
 d:Nat
def Nd.encs (x:Nd):Array Value:= #[tV x.t (.slice x.a x.t.kids.length x.cap),.int .i64 (x.d:Int)]
def Nd.pr (x:Nd):Tm×Nat:=(x.t,x.d)
theorem En {a:List Nd->World->Prop} {B:Nat} (h:AbidesFrom B a) {pre:List Nd} {W:World} (o:Obj) (b:a pre W):a pre (W.alloc o):=h pre W _ none b (World.grownBy_alloc W o none) (fun r e=>by cases e)
theorem ZC (F:Fence) (hd:F.depth=none) (hf: ∀k,F.fn k) (hro:F.round=none) (l p z N ae:Nat) (G S:Nat->Prop) (hS: ∀k,S k->¬G k) (ai: ¬G p) (al: ∀k,G k->k<z) (i E:List Nd->World->Prop) (H:AbidesFrom ae i)
  (an: ∀m pre x W,i pre W->pre.length<N->YieldAt F m Tryz.prog l x.encs W fun e W'=>(e= .returned (.bool true)/\i (pre++[x]) W'/\fE G W W')\/(e= .returned (.bool false)/\E (pre++[x]) W')):
  ∀(t:Tm) (n:Nat) (a:Option Addr) (cap d:Nat) (pre:List Nd) (W:World),aG S W t.kids (.slice a t.kids.length cap)->W.heap[p]?=some (.cells #[(.func (.func 187) #[] #[.pointer (az p)])] 219 (0,0))->i pre W->z<=W.heap.size->pre.length+t.size<=N->((d+t.size:Nat):Int)<=4611686018427387904->
   CallsIn F n Tryz.prog 187 #[tV t (.slice a t.kids.length cap),.int .i64 (d:Int),.func (.yield l) #[] #[],.pointer (az p)] W fun e W'=>
    (e= .returned (.bool true)/\∃xs:List Nd,xs.map Nd.pr=di d t/\i (pre++xs) W'/\fE G W W')\/(e= .returned (.bool false)/\∃q:List Nd,q.map Nd.pr <+:di d t/\E (pre++q) W'):=by
 have hdd: ∀k:Nat,(F.depth.isSome=true->1<=k):=fun k h=>by rw[hd] at h;cases h
 refine Tm.ind (fun nm so L ao=>?_);intro n a cap d pre W hR hV P aB aq ar;have B:=size_eq (.mk nm so L);dsimp only[tV,Tm.name,Tm.sort,Tm.kids] at hR B⊢;rw[B] at aq ar;have hb:=aj W (af nm so a L.length cap);obtain⟨aF,c1,c2⟩:=ah hb;have Q:fE G W (W.alloc (af nm so a L.length cap)):=fE.qM ((au.refl _ W).alloc _);have R: ¬G W.heap.size:=fun h=>by have:=al _ h;omega
 obtain⟨fn,tmps,assign,body,hy,C⟩:=an (n-1) pre ⟨.mk nm so L,a,cap,d⟩ (W.alloc (af nm so a L.length cap)) (En H _ P) (by omega);dsimp only[Nd.encs,tV,Tm.name,Tm.sort,Tm.kids] at hy;refine callsIn_of_wp Tryz.func187 rfl (hf 187) ?_ hro;simp only[Tryz.ntmps187,List.size_toArray,List.length_cons,List.length_nil,Nat.reduceAdd,Nat.reduceSub,Array.replicate_succ,Array.replicate_zero,List.push_toArray,List.append_toArray,List.nil_append,List.cons_append]
 gi_wp2
 refine C.mono ?_;clear C;rintro e aH (⟨rfl,T,D⟩|⟨rfl,U⟩)
 .have V:=D.cells _ _ _ _ R hb;have d2:=ag V 2 (.slice a L.length cap) rfl
  gi_wp2
  gi_loopg [18] (L.length) (fun gk av wr=> ∃(k:Nat) (xs:List Nd),av= .int .i64 (k:Int)/\gk=L.length-k/\k<=L.length/\xs.map Nd.pr=dh (d+1) (L.take k)/\i (pre++[⟨.mk nm so L,a,cap,d⟩]++xs) wr/\fE G W wr)
  case atStart=>exact⟨0,[],rfl,rfl,Nat.zero_le _,rfl,by simpa using T,Q.trans D⟩
  case round=>
   obtain⟨k,xs,rfl,rfl,hk,u,I,o⟩:=hrel;by_cases c:k<L.length
   .obtain ⟨g,off,rfl,_,X⟩:=(hR.OZ o hS).at_ (by omega);obtain⟨a',j,aw,J,K,M⟩:=X k c;have z0:(0:Int)<=(k:Int):=by omega
    have ax:(k:Int)< (L.length:Int):=by omega
    have z2:decide ((k:Int)< (L.length:Int))=true:=dT ax;have hv:=o.cells _ _ _ _ ai hV;have A:tg L k∈L:=by unfold tg;rw[gZ c];exact List.getElem_mem c
    have O:sizes (L.take k)+(tg L k).size<=sizes L:=by
     have h1:L=L.take k++tg L k::L.drop (k+1):=by
      unfold tg;rw[gZ c];simp
     have b:=congrArg sizes h1;rw[nX] at b;simp only[sizes] at b;omega
    have aC:xs.length=sizes (L.take k):=by have:=congrArg List.length u;rw[List.length_map,Hl] at this;exact this
    obtain⟨x,hx⟩:=ay (tg L k);rw[hx] at aw J K M A O;rw[<-Nat.add_assoc] at J K;have Y:=aj wr (tO x a' j);obtain⟨aI,aJ,aK⟩:=ah Y;have aL:=ag (ak hv (tO x a' j)) 0 (.func (.func 187) #[] #[.pointer (az p)]) rfl;have y:fE G wr (wr.alloc (tO x a' j)):=fE.qM ((au.refl _ wr).alloc _);have hlen:(L.length:Int)<=4611686018427387904:=by have:=bz L;omega
    have w:=ao x A (n-1) a' j (d+1) _ _ (M.OZ y hS) (ak hv (tO x a' j)) (En H _ I) (by have h1:=o.size;have b:=y.size;omega) (by simp only[List.length_append,List.length_singleton];omega) (by omega);have aD:IntKind.i64.wrap ((d:Int)+1)=(d:Int)+1:=IntWalk.i64_in _ (by omega);have aE:wrap64 ((d:Int)+1)=(d:Int)+1:=IntWalk.wrap64_in _ (by omega);rw[show(((d+1:Nat)):Int)=(d:Int)+1 by omega] at w;dsimp only[tV] at w
    gi_wp2_with (gi_at_call 187;refine w.mono ?_;clear w;rintro e aM (⟨rfl,ys,Z,aa,ab⟩|⟨rfl,q,aA,ad⟩))
    .gi_roundg (L.length- (k+1))
     case measure=>omega
     case rel=>
      refine⟨k+1,xs++ys,by go_num,rfl,by omega,?_,by rw[<-List.append_assoc];exact aa,(o.trans y).trans ab⟩;rw[List.map_append,u,Z,List.take_add_one,rC];have:L[k]?.toList=[x]:=by rw[<-hx];unfold tg;rw[List.getD_eq_getElem?_getD,List.getElem?_eq_getElem c];rfl
      rw[this];simp[dh]
    .go_ret;refine .inr ⟨rfl,⟨.mk nm so L,some ⟨g,off,none⟩,cap,d⟩::(xs++q),?_,by simpa using ad⟩;obtain⟨r,hr⟩:=aA;refine⟨r++dh (d+1) (L.drop (k+1)),?_⟩;rw[jF];simp only[Tm.kids,List.map_cons,List.map_append,u,List.cons_append,List.append_assoc];rw[<-List.append_assoc (List.map Nd.pr q) r,hr];have h1:L=L.take k++x::L.drop (k+1):=by
      rw[<-hx];unfold tg;rw[gZ c];simp
     have b:=congrArg (dh (d+1)) h1;rw[rC] at b;simp only[dh] at b;rw[b];rfl
   .obtain rfl:k=L.length:=by omega
    gi_wp2
    go_ret;refine .inl ⟨rfl,⟨.mk nm so L,a,cap,d⟩::xs,?_,by simpa using I,o⟩;rw[List.map_cons,u,List.take_length,jF];rfl
 .gi_wp2
  go_ret;exact .inr ⟨rfl,[⟨.mk nm so L,a,cap,d⟩],⟨dh (d+1) L,by rw[jF];rfl⟩,U⟩
theorem Xm (F:Fence) (hd:F.depth=none) (n:Nat) (hf: ∀k,F.fn k) (hro:F.round=none) (l b i d j:Nat) (G S:Nat->Prop) (hS: ∀k,S k->¬G k) (w: ¬G b) (y: ∀k,G k->k<d) (c g:List Nd->World->Prop) (z:AbidesFrom j c)
  (t:Tm) (a:Option Addr) (cap:Nat)
  (A: ∀pre x W,c pre W->pre.length<t.size->YieldAt F (n-1) Tryz.prog l x.encs W fun e W'=>(e= .returned (.bool true)/\c (pre++[x]) W'/\fE G W W')\/(e= .returned (.bool false)/\g (pre++[x]) W'))
  (W:World) (hR:aG S W t.kids (.slice a t.kids.length cap)) (hV:W.heap[b]?=some (.cells #[(.func (.func 187) #[] #[.pointer (az b)])] 219 (0,0))) (B:W.heap[i]?=some (tO t a cap)) (h0:c [] W) (o:d<=W.heap.size) (p:((1+t.size:Nat):Int)<=4611686018427387904):
  CallsIn F n Tryz.prog 188 #[.func (.yield l) #[] #[],.pointer (az b),.pointer (az i)] W fun e W'=>(∃v,e= .returned v)/\((∃xs:List Nd,xs.map Nd.pr=di 1 t/\c xs W')\/(∃pre:List Nd,pre.map Nd.pr <+:di 1 t/\g pre W')):=by
 have hdd: ∀k:Nat,(F.depth.isSome=true->1<=k):=fun k h=>by rw[hd] at h;cases h
 have hp:=ZC F hd hf hro l b d t.size j G S hS w y c g z (fun m pre x W C hl=>YieldAt.anyDepth hd m (A pre x W C hl)) t (n-1) a cap 1 [] W hR hV h0 o (by simp) p;obtain⟨E,c1,c2⟩:=ah B;have v0:=ag hV 0 (.func (.func 187) #[] #[.pointer (az b)]) rfl;dsimp only[tV] at hp;refine callsIn_of_wp Tryz.func188 rfl (hf 188) ?_ hro;simp only[Tryz.ntmps188,List.size_toArray,List.length_cons,List.length_nil,Nat.reduceAdd,Nat.reduceSub,Array.replicate_succ,Array.replicate_zero,List.push_toArray,List.append_toArray,List.nil_append,List.cons_append]
 gi_wp2_with (gi_at_call 187;refine hp.mono ?_;clear hp;rintro e H (⟨rfl,xs,r,u,_⟩|⟨rfl,q,D,hx⟩))
 .go_end0;exact⟨⟨_,rfl⟩,.inl ⟨xs,r,by simpa using u⟩⟩
 .go_end0;exact⟨⟨_,rfl⟩,.inr ⟨q,D,by simpa using hx⟩⟩
theorem GH (t:Tm) (u:Value) (w:World) (hu: ∃a k c,u= .slice a k c):
  Calls Tryz.prog 129 #[tV t u] w fun e w'=>e= .returned (.func (.func 188) #[] #[.pointer (some ⟨w.heap.size+1,0,none⟩),.pointer (az w.heap.size)])/\Ext w w'/\w'.heap.size=w.heap.size+2/\
   w'.heap[w.heap.size]?=some (kW t.name t.sort u)/\w'.heap[w.heap.size+1]?=some (.cells #[.func (.func 187) #[] #[.pointer (some ⟨w.heap.size+1,0,none⟩)]] 219 (0,0)):=by
 obtain⟨a,k,c,rfl⟩:=hu;dsimp only[tV];have hb:=alloc_at (w.alloc (af t.name t.sort a k c)) (.cells #[.nilFunc] 219) (n:=w.heap.size+1) (by simp);have v0:=ag hb 0 .nilFunc rfl;have f0:=ax hb 0;go_enter Tryz.func129,Tryz.ntmps129;go_wp2_with fail;go_ret;exact⟨rfl,((uR w).alloc _).alloc _,by simp,ak (aj _ _) _,alloc_at _ _ (by simp)⟩
theorem Az (F:Fence) (hd:F.depth=none) (n:Nat) (hf: ∀k,F.fn k) (hro:F.round=none) (b c:Nat) (G S:Nat->Prop) (w:World) (hS: ∀k,S k->¬G k) (g: ¬G b) (h: ∀k,G k->k<w.heap.size) (hSw: ∀k,S k->k<w.heap.size) (t:Tm) (a:Option Addr) (cap:Nat)
  (hR:aG S w t.kids (.slice a t.kids.length cap)) (hV:w.heap[b]?=some (.cells #[(.func (.func 187) #[] #[.pointer (az b)])] 219 (0,0))) (i:w.heap[c]?=some (tO t a cap)) (e:((1+t.size:Nat):Int)<=4611686018427387904):
  SeqStopsK F n Tryz.prog 188 #[.pointer (az b),.pointer (az c)] Nd.encs (fE G) (fun xs=>xs.map Nd.pr=di 1 t) (fun pre=>pre.map Nd.pr <+:di 1 t) t.size w:=fun l q j W hW o _ p h0=>
 have d:Ext w W:=⟨hW.os,hW.tape,hW.output,hW.size,fun k hk _=>hW.block k hk⟩
 Xm F hd n hf hro l b c w.heap.size W.heap.size G S hS g h q j o t a cap p W (hR.ext d) (d.heap hV id) (d.heap i id) h0 hW.size e
end
end Go.Proofs.YtlkcjmaiahnodaaGreatDoor
namespace Go.Proofs
section
open Go.Shelf
def Tryz.lays106_ren:Go.Shelf.Ren:=⟨fun|106=>99|213=>161|265=>209|n=>n,fun|9=>9|3=>3|n=>n,fun|n=>n⟩
theorem Tryz.lays106:Go.Proofs.Lays.n106 Tryz.prog Tryz.lays106_ren:={
 mixed:=by kernel_rfl
 f106:=Tryz.func99.trans (congrArg some (by kernel_rfl))
 f213:=Tryz.func161.trans (congrArg some (by kernel_rfl))
 f265:=Tryz.func209.trans (congrArg some (by kernel_rfl))
 t3:=Tryz.underlying3
 a3:=Tryz.isAgg3
 z3:=Tryz.sizeOf3
 v3:=Tryz.zeroValue3
 t9:=Tryz.underlying9
 a9:=Tryz.isAgg9
 z9:=Tryz.sizeOf9
 v9:=Tryz.zeroValue9}
open Go.RowKit in
theorem Tryz.strings_Compare (a b:ByteArray) (w:World):
  Calls Tryz.prog 99 #[.string a,.string b] w fun e w'=>e= .returned (.int .i64 (Lib.compareBytes a.data.toList b.data.toList))/\w'=w:=Any.strings_Compare Tryz.lays106 a b w
def Tryz.lays157_ren:Go.Shelf.Ren:=⟨fun|157=>230|229=>242|199=>243|261=>246|311=>247|312=>248|n=>n,fun|9=>9|31=>71|3=>3|5=>5|4=>4|119=>260|0=>0|40=>262|152=>266|21=>21|154=>268|51=>236|141=>270|196=>274|193=>271|198=>277|49=>275|194=>272|201=>280|226=>282|46=>195|227=>283|n=>n,fun|0=>1|6=>2|n=>n⟩
theorem Tryz.lays157:Go.Proofs.Lays.n157 Tryz.prog Tryz.lays157_ren:={
 mixed:=by kernel_rfl
 f157:=Tryz.func230.trans (congrArg some (by kernel_rfl))
 f199:=Tryz.func243.trans (congrArg some (by kernel_rfl))
 f229:=Tryz.func242.trans (congrArg some (by kernel_rfl))
 f261:=Tryz.func246.trans (congrArg some (by kernel_rfl))
 f311:=Tryz.func247.trans (congrArg some (by kernel_rfl))
 f312:=Tryz.func248.trans (congrArg some (by kernel_rfl))
 t0:=Tryz.underlying0
 a0:=Tryz.isAgg0
 z0:=Tryz.sizeOf0
 v0:=Tryz.zeroValue0
 t3:=Tryz.underlying3
 a3:=Tryz.isAgg3
 z3:=Tryz.sizeOf3
 v3:=Tryz.zeroValue3
 t4:=Tryz.underlying4
 a4:=Tryz.isAgg4
 z4:=Tryz.sizeOf4
 v4:=Tryz.zeroValue4
 t5:=Tryz.underlying5
 a5:=Tryz.isAgg5
 z5:=Tryz.sizeOf5
 v5:=Tryz.zeroValue5
 t9:=Tryz.underlying9
 a9:=Tryz.isAgg9
 z9:=Tryz.sizeOf9
 v9:=Tryz.zeroValue9
 t21:=Tryz.underlying21
 a21:=Tryz.isAgg21
 z21:=Tryz.sizeOf21
 v21:=Tryz.zeroValue21
 t31:=Tryz.underlying71
 a31:=Tryz.isAgg71
 z31:=Tryz.sizeOf71
 v31:=Tryz.zeroValue71
 t40:=Tryz.underlying262
 a40:=Tryz.isAgg262
 z40:=Tryz.sizeOf262
 v40:=Tryz.zeroValue262
 t46:=Tryz.underlying195
 a46:=Tryz.isAgg195
 z46:=Tryz.sizeOf195
 v46:=Tryz.zeroValue195
 t49:=Tryz.underlying275
 a49:=Tryz.isAgg275
 z49:=Tryz.sizeOf275
 v49:=Tryz.zeroValue275
 t51:=Tryz.underlying236
 a51:=Tryz.isAgg236
 z51:=Tryz.sizeOf236
 v51:=Tryz.zeroValue236
 t119:=Tryz.underlying260
 a119:=Tryz.isAgg260
 z119:=Tryz.sizeOf260
 t141:=Tryz.underlying270
 a141:=Tryz.isAgg270
 z141:=Tryz.sizeOf270
 v141:=Tryz.zeroValue270
 t152:=Tryz.underlying266
 a152:=Tryz.isAgg266
 z152:=Tryz.sizeOf266
 v152:=Tryz.zeroValue266
 t154:=Tryz.underlying268
 a154:=Tryz.isAgg268
 z154:=Tryz.sizeOf268
 v154:=Tryz.zeroValue268
 t193:=Tryz.underlying271
 a193:=Tryz.isAgg271
 z193:=Tryz.sizeOf271
 v193:=Tryz.zeroValue271
 t194:=Tryz.underlying272
 a194:=Tryz.isAgg272
 z194:=Tryz.sizeOf272
 v194:=Tryz.zeroValue272
 t196:=Tryz.underlying274
 a196:=Tryz.isAgg274
 z196:=Tryz.sizeOf274
 v196:=Tryz.zeroValue274
 t198:=Tryz.underlying277
 a198:=Tryz.isAgg277
 z198:=Tryz.sizeOf277
 v198:=Tryz.zeroValue277
 t201:=Tryz.underlying280
 a201:=Tryz.isAgg280
 z201:=Tryz.sizeOf280
 v201:=Tryz.zeroValue280
 t226:=Tryz.underlying282
 a226:=Tryz.isAgg282
 z226:=Tryz.sizeOf282
 v226:=Tryz.zeroValue282
 t227:=Tryz.underlying283
 a227:=Tryz.isAgg283
 z227:=Tryz.sizeOf283
 v227:=Tryz.zeroValue283
 g0:=by kernel_rfl
 g6:=by kernel_rfl}
open Go.RowKit Go.Lib in
theorem Tryz.strings_Fields (s:ByteArray) (w:World) (hs:s.size<4294967281) (a: ∀(j:Nat) b,s.data.toList[j]?=some b->b.toNat<128) (c:Lib.TabIs Tryz.prog w "strings.asciiSpace" .u8 Lib.asciiSpaceTab):
  Calls Tryz.prog 230 #[.string s] w fun e w'=>
   e= .returned (.slice (some ⟨w.heap.size,0,none⟩) (Lib.fields s.data.toList).length (Lib.fields s.data.toList).length)/\w'=w.alloc (.cells ((Lib.fields s.data.toList).map fun l=>Value.string ⟨l.toArray⟩).toArray 9):=Any.strings_Fields Tryz.lays157 (by kernel_rfl) (by kernel_rfl) s w hs a c
def Tryz.lays110_ren:Go.Shelf.Ren:=⟨fun|110=>179|109=>217|n=>n,fun|31=>71|9=>9|4=>4|3=>3|0=>0|n=>n,fun|n=>n⟩
theorem Tryz.lays110:Go.Proofs.Lays.n110 Tryz.prog Tryz.lays110_ren:={
 mixed:=by kernel_rfl
 f109:=Tryz.func217.trans (congrArg some (by kernel_rfl))
 f110:=Tryz.func179.trans (congrArg some (by kernel_rfl))
 t0:=Tryz.underlying0
 a0:=Tryz.isAgg0
 z0:=Tryz.sizeOf0
 v0:=Tryz.zeroValue0
 t3:=Tryz.underlying3
 a3:=Tryz.isAgg3
 z3:=Tryz.sizeOf3
 v3:=Tryz.zeroValue3
 t4:=Tryz.underlying4
 a4:=Tryz.isAgg4
 z4:=Tryz.sizeOf4
 v4:=Tryz.zeroValue4
 t9:=Tryz.underlying9
 a9:=Tryz.isAgg9
 z9:=Tryz.sizeOf9
 v9:=Tryz.zeroValue9
 t31:=Tryz.underlying71
 a31:=Tryz.isAgg71
 z31:=Tryz.sizeOf71
 v31:=Tryz.zeroValue71}
open Go.Lib in
theorem Tryz.slices_Contains_string (b off n c:Nat) (zs:List ByteArray) (x:ByteArray) (w:World) (d:n<=zs.length) (a:n<=9223372036854775807) (hc: ∀j,j<zs.length->w.cell? ⟨b,off+j,none⟩=some (.string (zs.getD j ByteArray.empty))):
  Calls Tryz.prog 179 #[.slice (some ⟨b,off,none⟩) n c,.string x] w fun e w'=>e= .returned (.bool (Lib.containsS (zs.take n) x))/\w'=w:=Any.slices_Contains_string Tryz.lays110 b off n c zs x w d a hc
open Go.Lib in
theorem Tryz.slices_Contains_string_empty (a:Option Addr) (c:Nat) (x:ByteArray) (w:World):
  Calls Tryz.prog 179 #[.slice a 0 c,.string x] w fun e w'=>e= .returned (.bool false)/\w'=w:=Any.slices_Contains_string_empty Tryz.lays110 a c x w
def Tryz.laysNm215_ren:Go.Shelf.Ren:=⟨fun|15=>210|n=>n,fun|22=>63|3=>3|4=>4|n=>n,fun|n=>n⟩
theorem Tryz.laysNm215:Go.Proofs.Lays2.n15 Tryz.prog Tryz.laysNm215_ren:={
 mixed:=by kernel_rfl
 f15:=Tryz.func210.trans (congrArg some (by kernel_rfl))
 t3:=Tryz.underlying3
 a3:=Tryz.isAgg3
 z3:=Tryz.sizeOf3
 v3:=Tryz.zeroValue3
 t4:=Tryz.underlying4
 a4:=Tryz.isAgg4
 z4:=Tryz.sizeOf4
 v4:=Tryz.zeroValue4
 t22:=Tryz.underlying63
 a22:=Tryz.isAgg63
 z22:=Tryz.sizeOf63
 v22:=Tryz.zeroValue63
 i3:=by kernel_rfl}
open Go.RowKit Go.Lib in
theorem Tryz.slices_Clone_int (b off n c:Nat) (zs:List Int) (w:World) (d:n<=zs.length) (a:n*8<=140737488355328) (hc: ∀j,j<zs.length->w.cell? ⟨b,off+j,none⟩=some (.int .i64 (zs.getD j 0))):
  Calls Tryz.prog 210 #[.slice (some ⟨b,off,none⟩) n c] w fun e w'=> ∃v',e= .returned v'/\w'.ownsRow w.heap.size 3 1 v' n ((zs.take n).map (Value.int .i64))/\v'≠ .slice none 0 0/\Below w.heap.size w w':=Any.slices_Clone_int Tryz.laysNm215 b off n c zs w d a hc
open Go.RowKit Go.Lib in
theorem Tryz.slices_Clone_int_nil (n c:Nat) (w:World):
  Calls Tryz.prog 210 #[.slice none n c] w fun e w'=>e= .returned (.slice none 0 0)/\w'=w:=Any.slices_Clone_int_nil Tryz.laysNm215 n c w
open Go.RowKit Go.Lib in
theorem Tryz.slices_Clone_int_zero (a:Addr) (c:Nat) (w:World):
  Calls Tryz.prog 210 #[.slice (some a) 0 c] w fun e w'=> ∃v',e= .returned v'/\w'.ownsRow w.heap.size 3 1 v' 0 []/\v'≠ .slice none 0 0/\Below w.heap.size w w':=Any.slices_Clone_int_zero Tryz.laysNm215 a c w
def Tryz.laysNm226_ren:Go.Shelf.Ren:=⟨fun|26=>195|33=>228|34=>229|38=>241|n=>n,fun|24=>71|9=>9|3=>3|4=>4|40=>195|0=>0|n=>n,fun|n=>n⟩
theorem Tryz.laysNm226:Go.Proofs.Lays2.n26 Tryz.prog Tryz.laysNm226_ren:={
 mixed:=by kernel_rfl
 f26:=Tryz.func195.trans (congrArg some (by kernel_rfl))
 f33:=Tryz.func228.trans (congrArg some (by kernel_rfl))
 f34:=Tryz.func229.trans (congrArg some (by kernel_rfl))
 f38:=Tryz.func241.trans (congrArg some (by kernel_rfl))
 t0:=Tryz.underlying0
 a0:=Tryz.isAgg0
 z0:=Tryz.sizeOf0
 v0:=Tryz.zeroValue0
 t3:=Tryz.underlying3
 a3:=Tryz.isAgg3
 z3:=Tryz.sizeOf3
 v3:=Tryz.zeroValue3
 t4:=Tryz.underlying4
 a4:=Tryz.isAgg4
 z4:=Tryz.sizeOf4
 v4:=Tryz.zeroValue4
 t9:=Tryz.underlying9
 a9:=Tryz.isAgg9
 z9:=Tryz.sizeOf9
 v9:=Tryz.zeroValue9
 t24:=Tryz.underlying71
 a24:=Tryz.isAgg71
 z24:=Tryz.sizeOf71
 v24:=Tryz.zeroValue71
 t40:=Tryz.underlying195
 a40:=Tryz.isAgg195
 z40:=Tryz.sizeOf195
 v40:=Tryz.zeroValue195}
theorem Tryz.slices_BinarySearch_string (b off n c:Nat) (a:Nat->ByteArray) (x:ByteArray) (w:World) (d:n<4611686018427387904) (hc: ∀j,j<n->w.cell? ⟨b,off+j,none⟩=some (.string (a j))):
  Calls Tryz.prog 195 #[.slice (some ⟨b,off,none⟩) n c,.string x] w fun e w'=>
   e= .returned (.tuple #[.int .i64 (Lib.bsGo (fun t=>Op.bytesLess (a t).toList x.toList) n 0 n:Nat),.bool (decide (Lib.bsGo (fun t=>Op.bytesLess (a t).toList x.toList) n 0 n<n/\a (Lib.bsGo (fun t=>Op.bytesLess (a t).toList x.toList) n 0 n)=x))])/\∃q,w'=w.drewN q:=Any2.slices_BinarySearch_string Tryz.laysNm226 b off n c a x w d hc
end
end Go.Proofs
namespace Go.Proofs.YtlkcjmaiahnodaaGreatDoor
open Go.RowKit Go.Hw Go Tm
def xW:List (List UInt8):=[[97,110,100],[98,111,111,108],[98,111,117,110,100],[100,101,115,99],[101,108,115,101],[102,97,108,115,101],[105,102],[105,110,116],[105,110,118,97,114,105,97,110,116],[108,111,99,97,108],[108,111,103],[109,97,120],[109,101,97,115,117,114,101],[109,105,110],[110,101,119],[110,105,108],[110,111,116],[111,112],[111,114],[112,111,116,101,110,116,105,97,108],[112,114,111,99],[114,101,116,117,114,110],[114,117,108,101],[115,99,114,105,112,116],[115,111,114,116],[115,112,101,99],[116,104,105,115],[116,114,117,101],[116,121,112,101],[118,97,114],[119,104,105,108,101]]
def JV:List (List UInt8):=[[116,121,112,101],[118,97,114],[112,114,111,99],[108,111,99,97,108],[109,101,97,115,117,114,101],[105,110,118,97,114,105,97,110,116],[112,111,116,101,110,116,105,97,108],[98,111,117,110,100],[105,102],[101,108,115,101],[119,104,105,108,101],[114,101,116,117,114,110],[110,101,119],[110,105,108],[116,114,117,101],[102,97,108,115,101],[97,110,100],[111,114],[110,111,116],[109,97,120],[109,105,110],[108,111,103],[105,110,116],[98,111,111,108],[116,104,105,115],[115,111,114,116],[111,112],[114,117,108,101],[115,112,101,99],[100,101,115,99],[115,99,114,105,112,116]]
def Ik (s:ByteArray):Bool:=decide (s.data.toList∈xW)
def gq (c:Nat):Bool:=(decide (97<=c)&&decide (c<=122))||(decide (65<=c)&&decide (c<=90))
def iq (c:Nat):Bool:=decide (48<=c)&&decide (c<=57)
def vK (c:Nat):Bool:=gq c||iq c||decide (c=95)
def ik (c:Nat):Nat:=if c=32\/c=9\/c=13\/c=10 then 1 else if gq c=true then 2 else if iq c=true then 3 else if c=95 then 4 else 0
def aC (s:ByteArray):Bool:=decide (0<s.size/\s.size<=40)&&(gq ((s.data.toList.getD 0 0).toNat)&&(s.data.toList.all (fun b=>vK b.toNat)&&!Ik s))
theorem af8 (l:List UInt8):l∈JV<->l∈xW:=by
 have h1: ∀x∈JV,x∈xW:=by decide+kernel
 have a: ∀x∈xW,x∈JV:=by decide+kernel
 exact⟨h1 l,a l⟩
theorem Fa:xW.length=31:=by decide+kernel
theorem akb: ∀m:Fin 31,Lib.bsGo (fun t=>Op.bytesLess (xW.getD t []) (xW.getD m.val [])) 31 0 31=m.val:=by decide+kernel
theorem lU {a b:ByteArray} (h:a.data.toList=b.data.toList):a=b:=by
 cases a;cases b;rw[ByteArray.mk.injEq];exact Array.toList_inj.1 h
def JW (t:Nat):ByteArray:=⟨(xW.getD t []).toArray⟩
theorem I9 (t:Nat):(JW t).data.toList=xW.getD t []:=rfl
theorem akc (x:ByteArray):decide (Lib.bsGo (fun t=>Op.bytesLess (JW t).toList x.toList) 31 0 31<31/\JW (Lib.bsGo (fun t=>Op.bytesLess (JW t).toList x.toList) 31 0 31)=x)=Ik x:=by
 have e:(fun t=>Op.bytesLess (JW t).toList x.toList)=fun t=>Op.bytesLess (xW.getD t []) x.data.toList:=by
  funext t;rw[Lib.toList_data,Lib.toList_data,I9]
 rw[e];unfold Ik;rw[decide_eq_decide];constructor
 .rintro ⟨h1,a⟩;generalize Lib.bsGo (fun t=>Op.bytesLess (xW.getD t []) x.data.toList) 31 0 31=m at*;rw[<-a,I9];have:m<xW.length:=by rw[Fa];exact h1
  simp[this]
 .intro h;obtain⟨m,hm,he⟩:=List.getElem_of_mem h;rw[Fa] at hm;have h1:=akb ⟨m,hm⟩;have a:xW.getD m []=x.data.toList:=by
   rw[<-he,List.getD_eq_getElem?_getD,List.getElem?_eq_getElem (by rw[Fa];exact hm)];rfl
  dsimp only at h1;rw[a] at h1;rw[h1];exact⟨hm,lU (by rw[I9,a])⟩
abbrev dI (w:World):Prop:=Lib.TabIs Tryz.prog w "strings.asciiSpace" .u8 Lib.asciiSpaceTab
theorem aT {w w':World} (h:dI w) (hb:Ext w w'):dI w':=by
 unfold dI Lib.TabIs World.var? at*;cases a:Tryz.prog.globalNamed "strings.asciiSpace" with
 |none=>simp[a] at h
 |some g=>
  simp only[a,Option.bind_some] at h⊢;have b:g<w.heap.size:=by
   rcases Nat.lt_or_ge g w.heap.size with h'|h'
   .exact h'
   .rw [Array.getElem?_eq_none h'] at h;simp at h
  rw[hb.block g b (fun x=>x)];exact h
def Uw:Obj:= .cells (xW.map fun l=>Value.string ⟨l.toArray⟩).toArray 9
theorem X9 (s:ByteArray) (w:World) (h1:Lib.fields s.data.toList=xW) (c:(s.data.toList.all fun b=>decide (b.toNat<128))=true) (d:s.size<4294967281) (a:dI w):
  Calls Tryz.prog 230 #[.string s] w fun e w'=>e= .returned (.slice (az w.heap.size) 31 31)/\w'=w.alloc Uw:=by
 have h:=Tryz.strings_Fields s w d (fun j b hb=>by have:=List.all_eq_true.1 c b (List.mem_of_getElem? hb);simpa using this) a;rw[h1,Fa] at h;exact h
theorem VT (w:World) (a:dI w):Calls Tryz.prog 196 #[] w fun e w'=>e= .returned (.slice (az w.heap.size) 31 31)/\w'=w.alloc Uw:=by
 have b:=ae a;clear a;go_enter Tryz.func196,Tryz.ntmps196;go_wp2_with fail;refine(X9 _ _ (by kernel_rfl) (by kernel_rfl) (by decide+kernel) b.o).mono ?_;rintro e w' ⟨rfl,rfl⟩;go_wp2_with fail;go_ret;exact⟨rfl,rfl⟩
theorem aaf (w:World) (j:Nat) (a:j<31):(w.alloc Uw).cell? ⟨w.heap.size,0+j,none⟩=some (.string (JW j)):=by
 refine ag (t:=9) (cs:=(xW.map fun l=>Value.string ⟨l.toArray⟩).toArray) (aj w Uw) _ _ ?_;have:j<xW.length:=by rw[Fa];exact a
 simp[JW,this]
theorem TF (x:ByteArray) (w:World) (a:dI w):Calls Tryz.prog 147 #[.string x] w fun e w'=>e= .returned (.bool (Ik x))/\Ext w w':=by
 have b:=ae (VT w a);have c:=ae (Tryz.slices_BinarySearch_string w.heap.size 0 31 31 JW x (w.alloc Uw) (by decide) (fun j d=>aaf w j d));have g:=ae (akc x);have h:Hid (Ext w (w.alloc Uw)):=(au.refl _ w).alloc _;clear a;go_enter Tryz.func147,Tryz.ntmps147;go_wp2_with fail;refine b.o.mono ?_;rintro e w' ⟨rfl,rfl⟩;go_wp2_with fail;refine c.o.mono ?_;rintro e w' ⟨rfl,q,rfl⟩;rw[g.o];generalize Lib.bsGo (fun t=>Op.bytesLess (JW t).toList x.toList) 31 0 31=Y at*;go_wp2_with fail;go_ret;exact⟨rfl,h.o.drewN' _⟩
theorem Ut (c:Nat) (w:World) (hc:c<=255):Calls Tryz.prog 146 #[.int .u8 c] w fun e w'=>e= .returned (.int .i64 (ik c:Nat))/\w=w':=by
 by_cases h:0<=c/\c<=8
 .obtain ⟨h1,a⟩:=h;have b:((c:Int)==32)=false:=beq_eq_false_iff_ne.2 (by omega);have d32: ¬(c=32):=by omega
  have j:((c:Int)==9)=false:=beq_eq_false_iff_ne.2 (by omega);have d9: ¬(c=9):=by omega
  have d:((c:Int)==13)=false:=beq_eq_false_iff_ne.2 (by omega);have d13: ¬(c=13):=by omega
  have g:((c:Int)==10)=false:=beq_eq_false_iff_ne.2 (by omega);have d10: ¬(c=10):=by omega
  have k:((c:Int)==95)=false:=beq_eq_false_iff_ne.2 (by omega);have d95: ¬(c=95):=by omega
  have l: ¬(97<=(c:Int)):=by omega
  have n: ¬(97<=c):=by omega
  have o:((c:Int)<=122):=by omega
  have p:(c<=122):=by omega
  have q: ¬(65<=(c:Int)):=by omega
  have r: ¬(65<=c):=by omega
  have t:((c:Int)<=90):=by omega
  have u:(c<=90):=by omega
  have i: ¬(48<=(c:Int)):=by omega
  have x: ¬(48<=c):=by omega
  have y:((c:Int)<=57):=by omega
  have z:(c<=57):=by omega
  rw[show ik c=0 by{unfold ik;simp[gq,iq, *]}];clear h1 a hc;go_enter Tryz.func146,Tryz.ntmps146;go_wp2_with fail;go_ret;exact⟨rfl,rfl⟩
 by_cases h:c=9
 .subst h;go_enter Tryz.func146,Tryz.ntmps146;go_wp2_with fail;go_ret;exact⟨rfl,rfl⟩
 by_cases h:c=10
 .subst h;go_enter Tryz.func146,Tryz.ntmps146;go_wp2_with fail;go_ret;exact⟨rfl,rfl⟩
 by_cases h:11<=c/\c<=12
 .obtain ⟨h1,a⟩:=h;have b:((c:Int)==32)=false:=beq_eq_false_iff_ne.2 (by omega);have d32: ¬(c=32):=by omega
  have j:((c:Int)==9)=false:=beq_eq_false_iff_ne.2 (by omega);have d9: ¬(c=9):=by omega
  have d:((c:Int)==13)=false:=beq_eq_false_iff_ne.2 (by omega);have d13: ¬(c=13):=by omega
  have g:((c:Int)==10)=false:=beq_eq_false_iff_ne.2 (by omega);have d10: ¬(c=10):=by omega
  have k:((c:Int)==95)=false:=beq_eq_false_iff_ne.2 (by omega);have d95: ¬(c=95):=by omega
  have l: ¬(97<=(c:Int)):=by omega
  have n: ¬(97<=c):=by omega
  have o:((c:Int)<=122):=by omega
  have p:(c<=122):=by omega
  have q: ¬(65<=(c:Int)):=by omega
  have r: ¬(65<=c):=by omega
  have t:((c:Int)<=90):=by omega
  have u:(c<=90):=by omega
  have i: ¬(48<=(c:Int)):=by omega
  have x: ¬(48<=c):=by omega
  have y:((c:Int)<=57):=by omega
  have z:(c<=57):=by omega
  rw[show ik c=0 by{unfold ik;simp[gq,iq, *]}];clear h1 a hc;go_enter Tryz.func146,Tryz.ntmps146;go_wp2_with fail;go_ret;exact⟨rfl,rfl⟩
 by_cases h:c=13
 .subst h;go_enter Tryz.func146,Tryz.ntmps146;go_wp2_with fail;go_ret;exact⟨rfl,rfl⟩
 by_cases h:14<=c/\c<=31
 .obtain ⟨h1,a⟩:=h;have b:((c:Int)==32)=false:=beq_eq_false_iff_ne.2 (by omega);have d32: ¬(c=32):=by omega
  have j:((c:Int)==9)=false:=beq_eq_false_iff_ne.2 (by omega);have d9: ¬(c=9):=by omega
  have d:((c:Int)==13)=false:=beq_eq_false_iff_ne.2 (by omega);have d13: ¬(c=13):=by omega
  have g:((c:Int)==10)=false:=beq_eq_false_iff_ne.2 (by omega);have d10: ¬(c=10):=by omega
  have k:((c:Int)==95)=false:=beq_eq_false_iff_ne.2 (by omega);have d95: ¬(c=95):=by omega
  have l: ¬(97<=(c:Int)):=by omega
  have n: ¬(97<=c):=by omega
  have o:((c:Int)<=122):=by omega
  have p:(c<=122):=by omega
  have q: ¬(65<=(c:Int)):=by omega
  have r: ¬(65<=c):=by omega
  have t:((c:Int)<=90):=by omega
  have u:(c<=90):=by omega
  have i: ¬(48<=(c:Int)):=by omega
  have x: ¬(48<=c):=by omega
  have y:((c:Int)<=57):=by omega
  have z:(c<=57):=by omega
  rw[show ik c=0 by{unfold ik;simp[gq,iq, *]}];clear h1 a hc;go_enter Tryz.func146,Tryz.ntmps146;go_wp2_with fail;go_ret;exact⟨rfl,rfl⟩
 by_cases h:c=32
 .subst h;go_enter Tryz.func146,Tryz.ntmps146;go_wp2_with fail;go_ret;exact⟨rfl,rfl⟩
 by_cases h:33<=c/\c<=47
 .obtain ⟨h1,a⟩:=h;have b:((c:Int)==32)=false:=beq_eq_false_iff_ne.2 (by omega);have d32: ¬(c=32):=by omega
  have j:((c:Int)==9)=false:=beq_eq_false_iff_ne.2 (by omega);have d9: ¬(c=9):=by omega
  have d:((c:Int)==13)=false:=beq_eq_false_iff_ne.2 (by omega);have d13: ¬(c=13):=by omega
  have g:((c:Int)==10)=false:=beq_eq_false_iff_ne.2 (by omega);have d10: ¬(c=10):=by omega
  have k:((c:Int)==95)=false:=beq_eq_false_iff_ne.2 (by omega);have d95: ¬(c=95):=by omega
  have l: ¬(97<=(c:Int)):=by omega
  have n: ¬(97<=c):=by omega
  have o:((c:Int)<=122):=by omega
  have p:(c<=122):=by omega
  have q: ¬(65<=(c:Int)):=by omega
  have r: ¬(65<=c):=by omega
  have t:((c:Int)<=90):=by omega
  have u:(c<=90):=by omega
  have i: ¬(48<=(c:Int)):=by omega
  have x: ¬(48<=c):=by omega
  have y:((c:Int)<=57):=by omega
  have z:(c<=57):=by omega
  rw[show ik c=0 by{unfold ik;simp[gq,iq, *]}];clear h1 a hc;go_enter Tryz.func146,Tryz.ntmps146;go_wp2_with fail;go_ret;exact⟨rfl,rfl⟩
 by_cases h:48<=c/\c<=57
 .obtain ⟨h1,a⟩:=h;have b:((c:Int)==32)=false:=beq_eq_false_iff_ne.2 (by omega);have d32: ¬(c=32):=by omega
  have j:((c:Int)==9)=false:=beq_eq_false_iff_ne.2 (by omega);have d9: ¬(c=9):=by omega
  have d:((c:Int)==13)=false:=beq_eq_false_iff_ne.2 (by omega);have d13: ¬(c=13):=by omega
  have g:((c:Int)==10)=false:=beq_eq_false_iff_ne.2 (by omega);have d10: ¬(c=10):=by omega
  have k:((c:Int)==95)=false:=beq_eq_false_iff_ne.2 (by omega);have d95: ¬(c=95):=by omega
  have l: ¬(97<=(c:Int)):=by omega
  have n: ¬(97<=c):=by omega
  have o:((c:Int)<=122):=by omega
  have p:(c<=122):=by omega
  have q: ¬(65<=(c:Int)):=by omega
  have r: ¬(65<=c):=by omega
  have t:((c:Int)<=90):=by omega
  have u:(c<=90):=by omega
  have i:(48<=(c:Int)):=by omega
  have x:(48<=c):=by omega
  have y:((c:Int)<=57):=by omega
  have z:(c<=57):=by omega
  rw[show ik c=3 by{unfold ik;simp[gq,iq, *]}];clear h1 a hc;go_enter Tryz.func146,Tryz.ntmps146;go_wp2_with fail;go_ret;exact⟨rfl,rfl⟩
 by_cases h:58<=c/\c<=64
 .obtain ⟨h1,a⟩:=h;have b:((c:Int)==32)=false:=beq_eq_false_iff_ne.2 (by omega);have d32: ¬(c=32):=by omega
  have j:((c:Int)==9)=false:=beq_eq_false_iff_ne.2 (by omega);have d9: ¬(c=9):=by omega
  have d:((c:Int)==13)=false:=beq_eq_false_iff_ne.2 (by omega);have d13: ¬(c=13):=by omega
  have g:((c:Int)==10)=false:=beq_eq_false_iff_ne.2 (by omega);have d10: ¬(c=10):=by omega
  have k:((c:Int)==95)=false:=beq_eq_false_iff_ne.2 (by omega);have d95: ¬(c=95):=by omega
  have l: ¬(97<=(c:Int)):=by omega
  have n: ¬(97<=c):=by omega
  have o:((c:Int)<=122):=by omega
  have p:(c<=122):=by omega
  have q: ¬(65<=(c:Int)):=by omega
  have r: ¬(65<=c):=by omega
  have t:((c:Int)<=90):=by omega
  have u:(c<=90):=by omega
  have i:(48<=(c:Int)):=by omega
  have x:(48<=c):=by omega
  have y: ¬((c:Int)<=57):=by omega
  have z: ¬(c<=57):=by omega
  rw[show ik c=0 by{unfold ik;simp[gq,iq, *]}];clear h1 a hc;go_enter Tryz.func146,Tryz.ntmps146;go_wp2_with fail;go_ret;exact⟨rfl,rfl⟩
 by_cases h:65<=c/\c<=90
 .obtain ⟨h1,a⟩:=h;have b:((c:Int)==32)=false:=beq_eq_false_iff_ne.2 (by omega);have d32: ¬(c=32):=by omega
  have j:((c:Int)==9)=false:=beq_eq_false_iff_ne.2 (by omega);have d9: ¬(c=9):=by omega
  have d:((c:Int)==13)=false:=beq_eq_false_iff_ne.2 (by omega);have d13: ¬(c=13):=by omega
  have g:((c:Int)==10)=false:=beq_eq_false_iff_ne.2 (by omega);have d10: ¬(c=10):=by omega
  have k:((c:Int)==95)=false:=beq_eq_false_iff_ne.2 (by omega);have d95: ¬(c=95):=by omega
  have l: ¬(97<=(c:Int)):=by omega
  have n: ¬(97<=c):=by omega
  have o:((c:Int)<=122):=by omega
  have p:(c<=122):=by omega
  have q:(65<=(c:Int)):=by omega
  have r:(65<=c):=by omega
  have t:((c:Int)<=90):=by omega
  have u:(c<=90):=by omega
  have i:(48<=(c:Int)):=by omega
  have x:(48<=c):=by omega
  have y: ¬((c:Int)<=57):=by omega
  have z: ¬(c<=57):=by omega
  rw[show ik c=2 by{unfold ik;simp[gq,iq, *]}];clear h1 a hc;go_enter Tryz.func146,Tryz.ntmps146;go_wp2_with fail;go_ret;exact⟨rfl,rfl⟩
 by_cases h:91<=c/\c<=94
 .obtain ⟨h1,a⟩:=h;have b:((c:Int)==32)=false:=beq_eq_false_iff_ne.2 (by omega);have d32: ¬(c=32):=by omega
  have j:((c:Int)==9)=false:=beq_eq_false_iff_ne.2 (by omega);have d9: ¬(c=9):=by omega
  have d:((c:Int)==13)=false:=beq_eq_false_iff_ne.2 (by omega);have d13: ¬(c=13):=by omega
  have g:((c:Int)==10)=false:=beq_eq_false_iff_ne.2 (by omega);have d10: ¬(c=10):=by omega
  have k:((c:Int)==95)=false:=beq_eq_false_iff_ne.2 (by omega);have d95: ¬(c=95):=by omega
  have l: ¬(97<=(c:Int)):=by omega
  have n: ¬(97<=c):=by omega
  have o:((c:Int)<=122):=by omega
  have p:(c<=122):=by omega
  have q:(65<=(c:Int)):=by omega
  have r:(65<=c):=by omega
  have t: ¬((c:Int)<=90):=by omega
  have u: ¬(c<=90):=by omega
  have i:(48<=(c:Int)):=by omega
  have x:(48<=c):=by omega
  have y: ¬((c:Int)<=57):=by omega
  have z: ¬(c<=57):=by omega
  rw[show ik c=0 by{unfold ik;simp[gq,iq, *]}];clear h1 a hc;go_enter Tryz.func146,Tryz.ntmps146;go_wp2_with fail;go_ret;exact⟨rfl,rfl⟩
 by_cases h:c=95
 .subst h;go_enter Tryz.func146,Tryz.ntmps146;go_wp2_with fail;go_ret;exact⟨rfl,rfl⟩
 by_cases h:c=96
 .subst h;go_enter Tryz.func146,Tryz.ntmps146;go_wp2_with fail;go_ret;exact⟨rfl,rfl⟩
 by_cases h:97<=c/\c<=122
 .obtain ⟨h1,a⟩:=h;have b:((c:Int)==32)=false:=beq_eq_false_iff_ne.2 (by omega);have d32: ¬(c=32):=by omega
  have j:((c:Int)==9)=false:=beq_eq_false_iff_ne.2 (by omega);have d9: ¬(c=9):=by omega
  have d:((c:Int)==13)=false:=beq_eq_false_iff_ne.2 (by omega);have d13: ¬(c=13):=by omega
  have g:((c:Int)==10)=false:=beq_eq_false_iff_ne.2 (by omega);have d10: ¬(c=10):=by omega
  have k:((c:Int)==95)=false:=beq_eq_false_iff_ne.2 (by omega);have d95: ¬(c=95):=by omega
  have l:(97<=(c:Int)):=by omega
  have n:(97<=c):=by omega
  have o:((c:Int)<=122):=by omega
  have p:(c<=122):=by omega
  have q:(65<=(c:Int)):=by omega
  have r:(65<=c):=by omega
  have t: ¬((c:Int)<=90):=by omega
  have u: ¬(c<=90):=by omega
  have i:(48<=(c:Int)):=by omega
  have x:(48<=c):=by omega
  have y: ¬((c:Int)<=57):=by omega
  have z: ¬(c<=57):=by omega
  rw[show ik c=2 by{unfold ik;simp[gq,iq, *]}];clear h1 a hc;go_enter Tryz.func146,Tryz.ntmps146;go_wp2_with fail;go_ret;exact⟨rfl,rfl⟩
 by_cases h:123<=c/\c<=255
 .obtain ⟨h1,a⟩:=h;have b:((c:Int)==32)=false:=beq_eq_false_iff_ne.2 (by omega);have d32: ¬(c=32):=by omega
  have j:((c:Int)==9)=false:=beq_eq_false_iff_ne.2 (by omega);have d9: ¬(c=9):=by omega
  have d:((c:Int)==13)=false:=beq_eq_false_iff_ne.2 (by omega);have d13: ¬(c=13):=by omega
  have g:((c:Int)==10)=false:=beq_eq_false_iff_ne.2 (by omega);have d10: ¬(c=10):=by omega
  have k:((c:Int)==95)=false:=beq_eq_false_iff_ne.2 (by omega);have d95: ¬(c=95):=by omega
  have l:(97<=(c:Int)):=by omega
  have n:(97<=c):=by omega
  have o: ¬((c:Int)<=122):=by omega
  have p: ¬(c<=122):=by omega
  have q:(65<=(c:Int)):=by omega
  have r:(65<=c):=by omega
  have t: ¬((c:Int)<=90):=by omega
  have u: ¬(c<=90):=by omega
  have i:(48<=(c:Int)):=by omega
  have x:(48<=c):=by omega
  have y: ¬((c:Int)<=57):=by omega
  have z: ¬(c<=57):=by omega
  rw[show ik c=0 by{unfold ik;simp[gq,iq, *]}];clear h1 a hc;go_enter Tryz.func146,Tryz.ntmps146;go_wp2_with fail;go_ret;exact⟨rfl,rfl⟩
 omega
theorem Qu (c:Nat) (w:World) (hc:c<=255):Calls Tryz.prog 156 #[.int .u8 c] w fun e w'=>e= .returned (.bool (gq c))/\w=w':=by
 by_cases h:0<=c/\c<=8
 .obtain ⟨h1,a⟩:=h;have b: ¬(97<=(c:Int)):=by omega
  have d: ¬(97<=c):=by omega
  have g:((c:Int)<=122):=by omega
  have i:(c<=122):=by omega
  have j: ¬(65<=(c:Int)):=by omega
  have k: ¬(65<=c):=by omega
  have l:((c:Int)<=90):=by omega
  have n:(c<=90):=by omega
  rw[show gq c=false by{unfold gq;simp[*]}];clear h1 a hc;go_enter Tryz.func156,Tryz.ntmps156;go_wp2_with fail;go_ret;exact⟨rfl,rfl⟩
 by_cases h:c=9
 .subst h;go_enter Tryz.func156,Tryz.ntmps156;go_wp2_with fail;go_ret;exact⟨rfl,rfl⟩
 by_cases h:c=10
 .subst h;go_enter Tryz.func156,Tryz.ntmps156;go_wp2_with fail;go_ret;exact⟨rfl,rfl⟩
 by_cases h:11<=c/\c<=12
 .obtain ⟨h1,a⟩:=h;have b: ¬(97<=(c:Int)):=by omega
  have d: ¬(97<=c):=by omega
  have g:((c:Int)<=122):=by omega
  have i:(c<=122):=by omega
  have j: ¬(65<=(c:Int)):=by omega
  have k: ¬(65<=c):=by omega
  have l:((c:Int)<=90):=by omega
  have n:(c<=90):=by omega
  rw[show gq c=false by{unfold gq;simp[*]}];clear h1 a hc;go_enter Tryz.func156,Tryz.ntmps156;go_wp2_with fail;go_ret;exact⟨rfl,rfl⟩
 by_cases h:c=13
 .subst h;go_enter Tryz.func156,Tryz.ntmps156;go_wp2_with fail;go_ret;exact⟨rfl,rfl⟩
 by_cases h:14<=c/\c<=31
 .obtain ⟨h1,a⟩:=h;have b: ¬(97<=(c:Int)):=by omega
  have d: ¬(97<=c):=by omega
  have g:((c:Int)<=122):=by omega
  have i:(c<=122):=by omega
  have j: ¬(65<=(c:Int)):=by omega
  have k: ¬(65<=c):=by omega
  have l:((c:Int)<=90):=by omega
  have n:(c<=90):=by omega
  rw[show gq c=false by{unfold gq;simp[*]}];clear h1 a hc;go_enter Tryz.func156,Tryz.ntmps156;go_wp2_with fail;go_ret;exact⟨rfl,rfl⟩
 by_cases h:c=32
 .subst h;go_enter Tryz.func156,Tryz.ntmps156;go_wp2_with fail;go_ret;exact⟨rfl,rfl⟩
 by_cases h:33<=c/\c<=47
 .obtain ⟨h1,a⟩:=h;have b: ¬(97<=(c:Int)):=by omega
  have d: ¬(97<=c):=by omega
  have g:((c:Int)<=122):=by omega
  have i:(c<=122):=by omega
  have j: ¬(65<=(c:Int)):=by omega
  have k: ¬(65<=c):=by omega
  have l:((c:Int)<=90):=by omega
  have n:(c<=90):=by omega
  rw[show gq c=false by{unfold gq;simp[*]}];clear h1 a hc;go_enter Tryz.func156,Tryz.ntmps156;go_wp2_with fail;go_ret;exact⟨rfl,rfl⟩
 by_cases h:48<=c/\c<=57
 .obtain ⟨h1,a⟩:=h;have b: ¬(97<=(c:Int)):=by omega
  have d: ¬(97<=c):=by omega
  have g:((c:Int)<=122):=by omega
  have i:(c<=122):=by omega
  have j: ¬(65<=(c:Int)):=by omega
  have k: ¬(65<=c):=by omega
  have l:((c:Int)<=90):=by omega
  have n:(c<=90):=by omega
  rw[show gq c=false by{unfold gq;simp[*]}];clear h1 a hc;go_enter Tryz.func156,Tryz.ntmps156;go_wp2_with fail;go_ret;exact⟨rfl,rfl⟩
 by_cases h:58<=c/\c<=64
 .obtain ⟨h1,a⟩:=h;have b: ¬(97<=(c:Int)):=by omega
  have d: ¬(97<=c):=by omega
  have g:((c:Int)<=122):=by omega
  have i:(c<=122):=by omega
  have j: ¬(65<=(c:Int)):=by omega
  have k: ¬(65<=c):=by omega
  have l:((c:Int)<=90):=by omega
  have n:(c<=90):=by omega
  rw[show gq c=false by{unfold gq;simp[*]}];clear h1 a hc;go_enter Tryz.func156,Tryz.ntmps156;go_wp2_with fail;go_ret;exact⟨rfl,rfl⟩
 by_cases h:65<=c/\c<=90
 .obtain ⟨h1,a⟩:=h;have b: ¬(97<=(c:Int)):=by omega
  have d: ¬(97<=c):=by omega
  have g:((c:Int)<=122):=by omega
  have i:(c<=122):=by omega
  have j:(65<=(c:Int)):=by omega
  have k:(65<=c):=by omega
  have l:((c:Int)<=90):=by omega
  have n:(c<=90):=by omega
  rw[show gq c=true by{unfold gq;simp[*]}];clear h1 a hc;go_enter Tryz.func156,Tryz.ntmps156;go_wp2_with fail;go_ret;exact⟨rfl,rfl⟩
 by_cases h:91<=c/\c<=94
 .obtain ⟨h1,a⟩:=h;have b: ¬(97<=(c:Int)):=by omega
  have d: ¬(97<=c):=by omega
  have g:((c:Int)<=122):=by omega
  have i:(c<=122):=by omega
  have j:(65<=(c:Int)):=by omega
  have k:(65<=c):=by omega
  have l: ¬((c:Int)<=90):=by omega
  have n: ¬(c<=90):=by omega
  rw[show gq c=false by{unfold gq;simp[*]}];clear h1 a hc;go_enter Tryz.func156,Tryz.ntmps156;go_wp2_with fail;go_ret;exact⟨rfl,rfl⟩
 by_cases h:c=95
 .subst h;go_enter Tryz.func156,Tryz.ntmps156;go_wp2_with fail;go_ret;exact⟨rfl,rfl⟩
 by_cases h:c=96
 .subst h;go_enter Tryz.func156,Tryz.ntmps156;go_wp2_with fail;go_ret;exact⟨rfl,rfl⟩
 by_cases h:97<=c/\c<=122
 .obtain ⟨h1,a⟩:=h;have b:(97<=(c:Int)):=by omega
  have d:(97<=c):=by omega
  have g:((c:Int)<=122):=by omega
  have i:(c<=122):=by omega
  have j:(65<=(c:Int)):=by omega
  have k:(65<=c):=by omega
  have l: ¬((c:Int)<=90):=by omega
  have n: ¬(c<=90):=by omega
  rw[show gq c=true by{unfold gq;simp[*]}];clear h1 a hc;go_enter Tryz.func156,Tryz.ntmps156;go_wp2_with fail;go_ret;exact⟨rfl,rfl⟩
 by_cases h:123<=c/\c<=255
 .obtain ⟨h1,a⟩:=h;have b:(97<=(c:Int)):=by omega
  have d:(97<=c):=by omega
  have g: ¬((c:Int)<=122):=by omega
  have i: ¬(c<=122):=by omega
  have j:(65<=(c:Int)):=by omega
  have k:(65<=c):=by omega
  have l: ¬((c:Int)<=90):=by omega
  have n: ¬(c<=90):=by omega
  rw[show gq c=false by{unfold gq;simp[*]}];clear h1 a hc;go_enter Tryz.func156,Tryz.ntmps156;go_wp2_with fail;go_ret;exact⟨rfl,rfl⟩
 omega
theorem ad6 (c:Nat) (w:World) (hc:c<=255):Calls Tryz.prog 197 #[.int .u8 c] w fun e w'=>e= .returned (.bool (iq c))/\w=w':=by
 by_cases h:0<=c/\c<=8
 .obtain ⟨h1,a⟩:=h;have b: ¬(48<=(c:Int)):=by omega
  have d: ¬(48<=c):=by omega
  have g:((c:Int)<=57):=by omega
  have i:(c<=57):=by omega
  rw[show iq c=false by{unfold iq;simp[*]}];clear h1 a hc;go_enter Tryz.func197,Tryz.ntmps197;go_wp2_with fail;go_ret;exact⟨rfl,rfl⟩
 by_cases h:c=9
 .subst h;go_enter Tryz.func197,Tryz.ntmps197;go_wp2_with fail;go_ret;exact⟨rfl,rfl⟩
 by_cases h:c=10
 .subst h;go_enter Tryz.func197,Tryz.ntmps197;go_wp2_with fail;go_ret;exact⟨rfl,rfl⟩
 by_cases h:11<=c/\c<=12
 .obtain ⟨h1,a⟩:=h;have b: ¬(48<=(c:Int)):=by omega
  have d: ¬(48<=c):=by omega
  have g:((c:Int)<=57):=by omega
  have i:(c<=57):=by omega
  rw[show iq c=false by{unfold iq;simp[*]}];clear h1 a hc;go_enter Tryz.func197,Tryz.ntmps197;go_wp2_with fail;go_ret;exact⟨rfl,rfl⟩
 by_cases h:c=13
 .subst h;go_enter Tryz.func197,Tryz.ntmps197;go_wp2_with fail;go_ret;exact⟨rfl,rfl⟩
 by_cases h:14<=c/\c<=31
 .obtain ⟨h1,a⟩:=h;have b: ¬(48<=(c:Int)):=by omega
  have d: ¬(48<=c):=by omega
  have g:((c:Int)<=57):=by omega
  have i:(c<=57):=by omega
  rw[show iq c=false by{unfold iq;simp[*]}];clear h1 a hc;go_enter Tryz.func197,Tryz.ntmps197;go_wp2_with fail;go_ret;exact⟨rfl,rfl⟩
 by_cases h:c=32
 .subst h;go_enter Tryz.func197,Tryz.ntmps197;go_wp2_with fail;go_ret;exact⟨rfl,rfl⟩
 by_cases h:33<=c/\c<=47
 .obtain ⟨h1,a⟩:=h;have b: ¬(48<=(c:Int)):=by omega
  have d: ¬(48<=c):=by omega
  have g:((c:Int)<=57):=by omega
  have i:(c<=57):=by omega
  rw[show iq c=false by{unfold iq;simp[*]}];clear h1 a hc;go_enter Tryz.func197,Tryz.ntmps197;go_wp2_with fail;go_ret;exact⟨rfl,rfl⟩
 by_cases h:48<=c/\c<=57
 .obtain ⟨h1,a⟩:=h;have b:(48<=(c:Int)):=by omega
  have d:(48<=c):=by omega
  have g:((c:Int)<=57):=by omega
  have i:(c<=57):=by omega
  rw[show iq c=true by{unfold iq;simp[*]}];clear h1 a hc;go_enter Tryz.func197,Tryz.ntmps197;go_wp2_with fail;go_ret;exact⟨rfl,rfl⟩
 by_cases h:58<=c/\c<=64
 .obtain ⟨h1,a⟩:=h;have b:(48<=(c:Int)):=by omega
  have d:(48<=c):=by omega
  have g: ¬((c:Int)<=57):=by omega
  have i: ¬(c<=57):=by omega
  rw[show iq c=false by{unfold iq;simp[*]}];clear h1 a hc;go_enter Tryz.func197,Tryz.ntmps197;go_wp2_with fail;go_ret;exact⟨rfl,rfl⟩
 by_cases h:65<=c/\c<=90
 .obtain ⟨h1,a⟩:=h;have b:(48<=(c:Int)):=by omega
  have d:(48<=c):=by omega
  have g: ¬((c:Int)<=57):=by omega
  have i: ¬(c<=57):=by omega
  rw[show iq c=false by{unfold iq;simp[*]}];clear h1 a hc;go_enter Tryz.func197,Tryz.ntmps197;go_wp2_with fail;go_ret;exact⟨rfl,rfl⟩
 by_cases h:91<=c/\c<=94
 .obtain ⟨h1,a⟩:=h;have b:(48<=(c:Int)):=by omega
  have d:(48<=c):=by omega
  have g: ¬((c:Int)<=57):=by omega
  have i: ¬(c<=57):=by omega
  rw[show iq c=false by{unfold iq;simp[*]}];clear h1 a hc;go_enter Tryz.func197,Tryz.ntmps197;go_wp2_with fail;go_ret;exact⟨rfl,rfl⟩
 by_cases h:c=95
 .subst h;go_enter Tryz.func197,Tryz.ntmps197;go_wp2_with fail;go_ret;exact⟨rfl,rfl⟩
 by_cases h:c=96
 .subst h;go_enter Tryz.func197,Tryz.ntmps197;go_wp2_with fail;go_ret;exact⟨rfl,rfl⟩
 by_cases h:97<=c/\c<=122
 .obtain ⟨h1,a⟩:=h;have b:(48<=(c:Int)):=by omega
  have d:(48<=c):=by omega
  have g: ¬((c:Int)<=57):=by omega
  have i: ¬(c<=57):=by omega
  rw[show iq c=false by{unfold iq;simp[*]}];clear h1 a hc;go_enter Tryz.func197,Tryz.ntmps197;go_wp2_with fail;go_ret;exact⟨rfl,rfl⟩
 by_cases h:123<=c/\c<=255
 .obtain ⟨h1,a⟩:=h;have b:(48<=(c:Int)):=by omega
  have d:(48<=c):=by omega
  have g: ¬((c:Int)<=57):=by omega
  have i: ¬(c<=57):=by omega
  rw[show iq c=false by{unfold iq;simp[*]}];clear h1 a hc;go_enter Tryz.func197,Tryz.ntmps197;go_wp2_with fail;go_ret;exact⟨rfl,rfl⟩
 omega
theorem af6 (c:Nat) (w:World) (hc:c<=255):Calls Tryz.prog 157 #[.int .u8 c] w fun e w'=>e= .returned (.bool (vK c))/\w=w':=by
 have a:=ae (Qu c w hc);have b:=ae (ad6 c w hc);unfold vK;cases h1:gq c with
 |true=>
  rw[h1] at a;clear h1 b;go_enter Tryz.func157,Tryz.ntmps157;go_wp2_with fail;refine a.o.mono ?_;rintro e w' ⟨rfl,rfl⟩;go_wp2_with fail;go_ret;exact⟨rfl,rfl⟩
 |false=>
  rw[h1] at a;clear h1;cases d:iq c with
  |true=>
   rw[d] at b;clear d;go_enter Tryz.func157,Tryz.ntmps157;go_wp2_with fail;refine a.o.mono ?_;rintro e w' ⟨rfl,rfl⟩;go_wp2_with fail;refine b.o.mono ?_;rintro e w' ⟨rfl,rfl⟩;go_wp2_with fail;go_ret;exact⟨rfl,rfl⟩
  |false=>
   rw[d] at b;clear d;have g:((c:Int)==95)=decide (c=95):=by
    by_cases h:c=95
    .rw [dT h,h];rfl
    .rw [dF h];exact beq_eq_false_iff_ne.2 (by omega)
   have i:Hid (((c:Int)==95)=decide (c=95)):=g;clear g;go_enter Tryz.func157,Tryz.ntmps157;go_wp2_with fail;refine a.o.mono ?_;rintro e w' ⟨rfl,rfl⟩;go_wp2_with fail;refine b.o.mono ?_;rintro e w' ⟨rfl,rfl⟩;go_wp2_with fail;go_ret;first|exact⟨rfl,rfl⟩|exact⟨by rw[i.o];rfl,rfl⟩|(refine⟨?_,rfl⟩;simp[<-i.o])
def Ux (t:Nat):ByteArray:=⟨(JV.getD t []).toArray⟩
def X_:Obj:= .cells (JV.map fun l=>Value.string ⟨l.toArray⟩).toArray 9
theorem Qw:JV.length=31:=by decide+kernel
theorem aag (w:World) (j:Nat) (a:j<31):(w.alloc X_).cell? ⟨w.heap.size,0+j,none⟩=some (.string (Ux j)):=by
 refine ag (t:=9) (cs:=(JV.map fun l=>Value.string ⟨l.toArray⟩).toArray) (aj w X_) _ _ ?_;have:j<JV.length:=by rw[Qw];exact a
 simp[Ux,this]
theorem TG (w:World):Calls Tryz.prog 198 #[] w fun e w'=>e= .returned (.slice (az w.heap.size) 31 31)/\w'=w.alloc X_:=by
 go_enter Tryz.func198,Tryz.ntmps198;go_wp2_with fail;go_ret;exact⟨rfl,rfl⟩
def hasB (n:Nat) (S:Nat->ByteArray) (x:ByteArray):Bool:=decide (∃j,j<n/\S j=x)
theorem akd (g off n cap:Nat) (S:Nat->ByteArray) (x:ByteArray) (w:World) (hn:n<=1000000) (p:n<=cap) (hc: ∀j,j<n->w.cell? ⟨g,off+j,none⟩=some (.string (S j))):
  Calls Tryz.prog 192 #[.slice (some ⟨g,off,none⟩) n cap,.string x] w fun e w'=>e= .returned (.bool (hasB n S x))/\w=w':=by
 obtain⟨R,hR⟩:=ay (decide (∃j,j<n/\S j=x));unfold hasB;rw[hR];have a:=ae hR;have k:=ae hc;clear hR hc;go_enter Tryz.func192,Tryz.ntmps192;go_wp2_with fail;go_loopg [5] n (fun gk i wr=> ∃j:Nat,i= .int .i64 j/\gk=n-j/\j<=n/\Hid (∀i,i<j->S i≠x)/\wr=w);case atStart=>exact⟨0,rfl,rfl,Nat.zero_le _,fun i h=>absurd h (Nat.not_lt_zero _),rfl⟩
 case round=>
  obtain⟨j,rfl,rfl,t,c,rfl⟩:=hrel;by_cases b:j<n
  .have u:=k.o j b;have q:(0:Int)<=(j:Int):=by omega
   have r:(j:Int)< (n:Int):=by omega
   by_cases he:S j=x
   .have t1:=(Lib.bytes_beq_iff _ _).2 he;obtain rfl:R=true:=by rw[<-a.o];exact dT ⟨j,b,he⟩
    clear he a;generalize S j=X at*;go_wp2_with fail;go_ret;exact⟨rfl,rfl⟩
   .have t1:=(Lib.bytes_beq_false_iff _ _).2 he;have d:Hid (∀i,i<j+1->S i≠x):=fun i hi=>by
     by_cases e:i=j
     .subst e;exact he
     .exact c.o i (by omega)
    clear he;go_wp2_with fail;go_roundg (n- (j+1));case measure=>omega
    case rel=>exact⟨j+1,by go_num,rfl,by omega,d,rfl⟩
  .obtain rfl:R=false:=by
    rw[<-a.o];exact dF (fun⟨i,h1,l⟩=>c.o i (by omega) l)
   clear a;go_wp2_with fail;go_ret;exact⟨rfl,rfl⟩
theorem ake (x:ByteArray):hasB 31 Ux x=Ik x:=by
 unfold Ik hasB;rw[decide_eq_decide,<-af8];constructor
 .rintro ⟨j,a,rfl⟩;have:j<JV.length:=by rw[Qw];exact a
  simp[Ux,this]
 .intro h;obtain⟨m,hm,he⟩:=List.getElem_of_mem h;refine⟨m,by rw[<-Qw];exact hm,lU ?_⟩;rw[<-he];simp[Ux,hm]
theorem Qv (x:ByteArray) (w:World):Calls Tryz.prog 158 #[.string x] w fun e w'=>e= .returned (.bool (Ik x))/\Ext w w':=by
 have b:=ae (TG w);have a:=ae (akd w.heap.size 0 31 31 Ux x (w.alloc X_) (by decide) (Nat.le_refl _) (fun j c=>aag w j c));rw[ake] at a;have d:Hid (Ext w (w.alloc X_)):=(au.refl _ w).alloc _;go_enter Tryz.func158,Tryz.ntmps158;go_wp2_with fail;refine b.o.mono ?_;rintro e w' ⟨rfl,rfl⟩;go_wp2_with fail;refine a.o.mono ?_;rintro e w' ⟨rfl,rfl⟩;go_wp2_with fail;go_ret;exact⟨rfl,d.o⟩
theorem ad4 (s:ByteArray) (k:Nat) (h:k<s.size):s.data.toList.getD k 0=s[k]'h:=by
 have hl:k<s.data.toList.length:=h;rw[List.getD_eq_getElem?_getD,List.getElem?_eq_getElem hl];rfl
theorem Qr (s:ByteArray) (k:Nat) (h:k<s.size) (p:UInt8->Bool):(s.data.toList.take (k+1)).all p=((s.data.toList.take k).all p&&p (s[k]'h)):=by
 rw[List.take_succ_eq_append_getElem (by exact h),List.all_append];simp;rfl
theorem Qs (s:ByteArray) (k:Nat) (h:k<s.size) (p:UInt8->Bool) (hp:p (s[k]'h)=false):s.data.toList.all p=false:=by
 rw[List.all_eq_false];have hl:k<s.data.toList.length:=h;have hm:s.data.toList[k]'hl∈s.data.toList:=List.getElem_mem hl;exact⟨s[k]'h,hm,by rw[hp];decide⟩
theorem ad5 (c:Nat):vK c=decide (2<=ik c):=by
 unfold vK ik;by_cases h1:c=32\/c=9\/c=13\/c=10
 .rw [if_pos h1];rcases h1 with rfl|rfl|rfl|rfl<;>rfl
 .rw [if_neg h1];cases gq c with
  |true=>rfl
  |false=>
   cases iq c with
   |true=>rfl
   |false=>by_cases h:c=95<;>simp[h]
theorem Uu (c:Nat):gq c=decide (ik c=2):=by
 unfold ik;by_cases h1:c=32\/c=9\/c=13\/c=10
 .rw [if_pos h1];rcases h1 with rfl|rfl|rfl|rfl<;>rfl
 .rw [if_neg h1];cases gq c with
  |true=>rfl
  |false=>
   cases iq c with
   |true=>rfl
   |false=>by_cases h:c=95<;>simp[h]
theorem Qp (s:ByteArray) (h0:0<s.size):aC s=(decide (s.size<=40)&&(gq ((s[0]'h0).toNat)&&(s.data.toList.all (fun b=>vK b.toNat)&&!Ik s))):=by
 unfold aC;rw[ad4 s 0 h0];simp[h0]
theorem I8 (s:ByteArray) (h0:s.size=0):aC s=false:=by unfold aC;simp[h0]
theorem gJ (s:ByteArray) (h0:s.size=0):s=⟨#[]⟩:=lU (List.eq_nil_of_length_eq_zero h0)
theorem eG (s:ByteArray) (h0:0<s.size):s.toList.isEmpty=false/\¬(s.toList=[])/\(s.toList==[])=false/\(s.toList==(⟨#[]⟩:ByteArray).toList)=false:=by
 have e:s.toList≠[]:=fun e=>by rw[Lib.toList_data] at e;have:s.data.toList.length=s.size:=rfl;rw[e] at this;simp at this;omega
 have a:(⟨#[]⟩:ByteArray).toList=[]:=by rw[Lib.toList_data]
 refine⟨by simpa using e,e,by simpa using e,by rw[a];simpa using e⟩
theorem wW (s:ByteArray) (w:World) (z:dI w):Calls Tryz.prog 79 #[.string s] w fun e w'=>e= .returned (.bool (aC s))/\Ext w w':=by
 by_cases h0:0<s.size
 .rw [Qp s h0];obtain⟨B,z2,z3,z4⟩:=eG s h0;by_cases u:s.size<=40
  .rw [dT u,Bool.true_and];have t1:decide ((40:Int)< (s.size:Int))=false:=dF (by omega);have t:decide (40<s.size)=false:=dF (by omega);obtain⟨c,hc⟩: ∃c:Nat,(s[0]'h0).toNat=c:=⟨_,rfl⟩
   have y:c<=255:=by rw[<-hc];have:=(s[0]'h0).toNat_lt;omega
   rw[hc];have h:=ae (Ut c w y);have g:=ae (TF s w z);cases hl:gq c with
   |false=>
    have a:((ik c:Nat):Int)≠2:=by
     rw[Uu] at hl;have:=of_decide_eq_false hl;omega
    have t2:(((ik c:Nat):Int) !=2)=true:=bne_iff_ne.2 a;have E:(((ik c:Nat):Int)==2)=false:=beq_eq_false_iff_ne.2 a;clear hl a g;generalize ((ik c:Nat):Int)=Y at*;go_enter Tryz.func79,Tryz.ntmps79;go_wp2_with fail;refine h.o.mono ?_;rintro e w' ⟨rfl,rfl⟩;go_wp2_with fail;go_ret;exact⟨rfl,au.refl _ _⟩
   |true=>
    have a:ik c=2:=by
     rw[Uu] at hl;exact of_decide_eq_true hl
    rw[a] at h;clear hl a;cases hk:Ik s with
    |true=>
     rw[hk] at g;clear hk;go_enter Tryz.func79,Tryz.ntmps79;go_wp2_with fail;refine h.o.mono ?_;rintro e w' ⟨rfl,rfl⟩;go_wp2_with fail;refine g.o.mono ?_;rintro e w' ⟨rfl,k⟩;have p:=ae k;clear k;go_wp2_with fail;go_ret;exact⟨by simp,p.o⟩
    |false=>
     rw[hk] at g;rw[Bool.not_false,Bool.and_true,Bool.true_and];obtain⟨R,hR⟩:=ay (s.data.toList.all (fun b=>vK b.toNat));rw[hR];have q:=ae hR;clear hk hR;go_enter Tryz.func79,Tryz.ntmps79;go_wp2_with fail;refine h.o.mono ?_;rintro e w' ⟨rfl,rfl⟩;go_wp2_with fail;refine g.o.mono ?_;rintro e w' ⟨rfl,k⟩;have p:=ae k;clear k hc h g t1 t B z2 z3 z4;go_wp2_with fail;go_loopg [3,23] s.size (fun gk _ i wr=> ∃j:Nat,i= .int .i64 j/\gk=s.size-j/\j<=s.size/\Hid ((s.data.toList.take j).all (fun b=>vK b.toNat)=true)/\wr=w');case atStart=>exact⟨0,rfl,rfl,Nat.zero_le _,rfl,rfl⟩
     case round=>
      obtain⟨j,rfl,rfl,H,l,rfl⟩:=hrel;by_cases n:j<s.size
      .obtain ⟨d,hd⟩: ∃d:Nat,(s[j]'n).toNat=d:=⟨_,rfl⟩
       have C:d<=255:=by rw[<-hd];have:=(s[j]'n).toNat_lt;omega
       have x:=ae (Ut d wr C);have hw:=ad5 d;have F:(0:Int)<=(j:Int):=by omega
       have G:(j:Int)< (s.size:Int):=by omega
       cases hx:vK d with
       |true=>
        rw[hx] at hw;have r:=of_decide_eq_true hw.symm;have A:Hid ((s.data.toList.take (j+1)).all (fun b=>vK b.toNat)=true):=by
         show _=_;rw[Qr s j n,hd,l.o,hx];rfl
        have t3:decide (((ik d:Nat):Int)<2)=false:=dF (by omega);have D:decide (ik d<2)=false:=dF (by omega);clear hx hw r l;generalize ik d=Y at*;go_wp2_with fail;refine x.o.mono ?_;rintro e w' ⟨rfl,rfl⟩;go_wp2_with fail;go_roundg (s.size- (j+1));case measure=>omega
        case rel=>exact⟨j+1,by go_num,rfl,by omega,A,rfl⟩
       |false=>
        rw[hx] at hw;have r:=of_decide_eq_false hw.symm;obtain rfl:R=false:=q.o.symm.trans (Qs s j n _ (by rw[hd];exact hx));have t3:decide (((ik d:Nat):Int)<2)=true:=dT (by omega);have D:decide (ik d<2)=true:=dT (by omega);clear hx hw r l q;generalize ik d=Y at*;go_wp2_with fail;refine x.o.mono ?_;rintro e w' ⟨rfl,rfl⟩;go_wp2_with fail;go_ret;exact⟨rfl,p.o⟩
      .obtain rfl:R=true:=by
        rw[<-q.o,<-l.o,List.take_of_length_le (by show s.size<=j;omega)]
       clear q l;go_wp2_with fail;go_ret;exact⟨rfl,p.o⟩
  .rw [dF u,Bool.false_and];have t1:decide ((40:Int)< (s.size:Int))=true:=dT (by omega);have t:decide (40<s.size)=true:=dT (by omega);go_enter Tryz.func79,Tryz.ntmps79;go_wp2_with fail;go_ret;exact⟨rfl,au.refl _ _⟩
 .rw [I8 s (by omega)];obtain rfl:=gJ s (by omega);go_enter Tryz.func79,Tryz.ntmps79;go_wp2_with fail;go_ret;exact⟨rfl,au.refl _ _⟩
theorem zY (s:ByteArray) (w:World):Calls Tryz.prog 92 #[.string s] w fun e w'=>e= .returned (.bool (aC s))/\Ext w w':=by
 by_cases h0:0<s.size
 .rw [Qp s h0];have g1:((s.size:Int)==0)=false:=beq_eq_false_iff_ne.2 (by omega);have g2: ¬(s.size=0):=by omega
  have g3:(s.size==0)=false:=beq_eq_false_iff_ne.2 g2;by_cases t:s.size<=40
  .rw [dT t,Bool.true_and];have t1:decide ((40:Int)< (s.size:Int))=false:=dF (by omega);have x:decide (40<s.size)=false:=dF (by omega);obtain⟨c,hc⟩: ∃c:Nat,(s[0]'h0).toNat=c:=⟨_,rfl⟩
   have u:c<=255:=by rw[<-hc];have:=(s[0]'h0).toNat_lt;omega
   rw[hc];have a:=ae (Qu c w u);cases hl:gq c with
   |false=>
    rw[hl] at a;clear hl;go_enter Tryz.func92,Tryz.ntmps92;go_wp2_with fail;refine a.o.mono ?_;rintro e w' ⟨rfl,rfl⟩;go_wp2_with fail;go_ret;exact⟨rfl,au.refl _ _⟩
   |true=>
    rw[hl] at a;rw[Bool.true_and];have l:=ae (Qv s w);obtain⟨R,hR⟩:=ay (s.data.toList.all (fun b=>vK b.toNat));rw[hR];have n:=ae hR;clear hl hR;go_enter Tryz.func92,Tryz.ntmps92;go_wp2_with fail;refine a.o.mono ?_;rintro e w' ⟨rfl,rfl⟩;clear hc a;go_wp2_with fail;go_loopg [3] s.size (fun gk i wr=> ∃j:Nat,i= .int .i64 j/\gk=s.size-j/\j<=s.size/\Hid ((s.data.toList.take j).all (fun b=>vK b.toNat)=true)/\wr=w);case atStart=>exact⟨0,rfl,rfl,Nat.zero_le _,rfl,rfl⟩
    case round=>
     obtain⟨j,rfl,rfl,C,g,rfl⟩:=hrel;by_cases k:j<s.size
     .obtain ⟨d,hd⟩: ∃d:Nat,(s[j]'k).toNat=d:=⟨_,rfl⟩
      have z:d<=255:=by rw[<-hd];have:=(s[j]'k).toNat_lt;omega
      have p:=ae (af6 d wr z);have A:(0:Int)<=(j:Int):=by omega
      have B:(j:Int)< (s.size:Int):=by omega
      cases hx:vK d with
      |true=>
       rw[hx] at p;have y:Hid ((s.data.toList.take (j+1)).all (fun b=>vK b.toNat)=true):=by
        show _=_;rw[Qr s j k,hd,g.o,hx];rfl
       clear hx g;go_wp2_with fail;refine p.o.mono ?_;rintro e w' ⟨rfl,rfl⟩;go_wp2_with fail;go_roundg (s.size- (j+1));case measure=>omega
       case rel=>exact⟨j+1,by go_num,rfl,by omega,y,rfl⟩
      |false=>
       rw[hx] at p;obtain rfl:R=false:=n.o.symm.trans (Qs s j k _ (by rw[hd];exact hx));clear hx g n;go_wp2_with fail;refine p.o.mono ?_;rintro e w' ⟨rfl,rfl⟩;go_wp2_with fail;go_ret;exact⟨rfl,au.refl _ _⟩
     .obtain rfl:R=true:=by
       rw[<-n.o,<-g.o,List.take_of_length_le (by show s.size<=j;omega)]
      clear n g;cases hk:Ik s with
      |true=>
       rw[hk] at l;have q:=ae hk;clear hk;go_wp2_with fail;refine l.o.mono ?_;rintro e w' ⟨rfl,h⟩;have r:=ae h;clear h;go_wp2_with fail;go_ret;exact⟨by simp[q.o],r.o⟩
      |false=>
       rw[hk] at l;have q:=ae hk;clear hk;go_wp2_with fail;refine l.o.mono ?_;rintro e w' ⟨rfl,h⟩;have r:=ae h;clear h;go_wp2_with fail;go_ret;exact⟨by simp[q.o],r.o⟩
  .rw [dF t,Bool.false_and];have t1:decide ((40:Int)< (s.size:Int))=true:=dT (by omega);have x:decide (40<s.size)=true:=dT (by omega);go_enter Tryz.func92,Tryz.ntmps92;go_wp2_with fail;go_ret;exact⟨rfl,au.refl _ _⟩
 .rw [I8 s (by omega)];obtain rfl:=gJ s (by omega);go_enter Tryz.func92,Tryz.ntmps92;go_wp2_with fail;go_ret;exact⟨rfl,au.refl _ _⟩
section
open Go.Shelf
attribute [local go_sem] Oper.semAt_some
theorem qV {n:Nat} {w W:World} (h:Below n w W) (hn:w.heap.size<=n):Ext w W:=⟨h.os,h.tape,h.output,h.size,fun k hk _=>h.block k (by omega)⟩
def yw (pre:List Nd):Bool:=pre.all fun x=>lZ aC x.pr
theorem Xt (pre:List Nd) (x:Nd):yw (pre++[x])=(yw pre&&lZ aC x.pr):=by unfold yw;rw[List.all_append];simp
theorem jd {F:Nat->Prop} {W W':World} (B:Nat) (h:au F W W') (hF: ∀k o,F k->W.heap[k]?=some o->o.isCells=true):KeepsFrom B W W':=
 ⟨h.size,fun k o _ hk ho=>by
  by_cases hf:F k
  .rw [hF k o hf hk] at ho;cases ho
  .exact h.heap hk hf⟩
theorem jI {W W':World} (B:Nat) (h:Ext W W'):KeepsFrom B W W':=jd B h (fun _ _ h=>h.elim)
theorem ZK {pre:List Nd} {t:Tm} (hp:pre.map Nd.pr <+:di 1 t) (h:yw pre=false\/1000<pre.length):formed aC t=false:=by
 rw[Bool.eq_false_iff];intro hc;obtain⟨h1,b⟩:=(uY aC t).1 hc;obtain⟨r,hr⟩:=hp;rcases h with h|h
 .have a:yw pre=true:=by
   unfold yw;rw[List.all_eq_true];intro x hx;refine b x.pr ?_;rw[<-hr];exact List.mem_append_left _ (List.mem_map_of_mem hx)
  rw[h] at a;cases a
 .have c:=congrArg List.length hr;rw[List.length_append,List.length_map,lH] at c;omega
theorem ZL {xs:List Nd} {t:Tm} (hp:xs.map Nd.pr=di 1 t) (h:yw xs=true) (hl:xs.length<=1000):formed aC t=true:=by
 rw[uY];have b:=congrArg List.length hp;rw[List.length_map,lH] at b;refine⟨by omega,fun p a=>?_⟩;rw[<-hp] at a;obtain⟨x,hx,rfl⟩:=List.mem_map.1 a;unfold yw at h;rw[List.all_eq_true] at h;exact h x hx
theorem Pm (t:Tm) (v:Value) (w:World) (bb:dI w) (hR:bQ (fun k=>k<w.heap.size) w t v) (bz:(t.size:Int)<=1000000000000):Calls Tryz.prog 138 #[v] w fun e w'=>e= .returned (.bool (formed aC t))/\Ext w w':=by
 obtain⟨a,cap,rfl,hR⟩:=hR;dsimp only[tV];have bA:=aj w (tO t a cap);refine(callsIn_wide (n:=9)).1 ?_;have hro:Fence.wide.round=none:=rfl;have hd:Fence.wide.depth=none:=rfl;have hf: ∀k,Fence.wide.fn k:=fun _=>trivial;have h1:1<=9:=by omega
 refine callsIn_of_wp_marks Tryz.func138 rfl trivial ?_ hro;have aW:Ext w (((w.alloc (tO t a cap)).alloc (.cells #[.bool false] 4)).alloc (iE 0)):=(((au.refl _ w).alloc _).alloc _).alloc _;have aN:(((w.alloc (tO t a cap)).alloc (.cells #[.bool false] 4)).alloc (iE 0)).heap.size=w.heap.size+3:=by simp
 have aO:(((w.alloc (tO t a cap)).alloc (.cells #[.bool false] 4)).alloc (iE 0)).heap[w.heap.size+1]?=some (.cells #[.bool false] 4 (0,0)):=ak (alloc_at _ _ (by simp)) _;have aP:(((w.alloc (tO t a cap)).alloc (.cells #[.bool false] 4)).alloc (iE 0)).heap[w.heap.size+2]?=some (iE 0):=alloc_at _ _ (by simp);simp only[Tryz.ntmps138,List.size_toArray,List.length_cons,List.length_nil,Nat.reduceAdd,Nat.reduceSub,Array.replicate_succ,Array.replicate_zero,List.push_toArray,List.append_toArray,List.nil_append,List.cons_append]
 gi_wp2
 generalize (((w.alloc (tO t a cap)).alloc (.cells #[.bool false] 4)).alloc (iE 0))=w3 at*;refine(callsIn_wide.2 (GH t (.slice a t.kids.length cap) w3 ⟨_,_,_,rfl⟩)).mono ?_;rintro e aX ⟨rfl,an,bd,A,av⟩;rw[aN] at bd A av⊢;have aY:=aW.ext an;have bf:=an.heap aO id;have aQ:=an.heap aP id;clear aW aN aO aP an
 gi_wp2
 rw[show w.heap.size+2=w.heap.size+1+1 from rfl] at aQ;generalize bB:w.heap.size+1+1=j at*;generalize bC:w.heap.size+1=b at*;generalize bD:w.heap.size+3+1=I at*;generalize bE:w.heap.size+3=aB at*;generalize B:w.heap.size=P at*;refine wpIn_rangeFunc_ownH hro h1 (gf:=188) (lb:= #[.pointer (az I),.pointer (az aB)]) rfl trivial (enters_of Tryz.func188 (by kernel_rfl) rfl)
  (Az Fence.wide hd (9-1) hf hro I aB (fun k=>k=b\/k=j) (fun k=>k<P) aX (by omega) (by omega) (by omega) (by omega) t a cap (hR.ext aY) av A (by omega)) (fun h k=>fE.trans h k) (fun W l o o' _ hl hc _=>fE.putObj W l o o' hl hc) (Below.refl _ _) (fun _=>rfl)
  (fun pre W=>(((yw pre=true/\pre.length<=1000)/\Boxed W b 4 (.bool false))/\Boxed W j 3 (.int .i64 (pre.length:Int)))/\(Boxed W I 219 (.func (.func 187) #[] #[.pointer (az I)])/\Below P w W))
  (fun c pre W=>((c= .ret/\(yw pre=false\/1000<pre.length))/\Boxed W b 4 (.bool false))/\Below P w W)
  (OwnFrom.and (OwnFrom.and (OwnFrom.and (ownFrom_pure _ _) (Own.from (boxed_own _ _ _) _)) (Own.from (boxed_own j 3 (fun pre:List Nd=>Value.int .i64 (pre.length:Int))) _)) (OwnFrom.and (Own.from (boxed_own _ _ _) _) (ownFrom_below (by omega) (by omega))))
  (fun c=>OwnFrom.and (OwnFrom.and (ownFrom_pure _ _) (Own.from (boxed_own _ _ _) _)) (ownFrom_below (by omega) (by omega)))
  ⟨⟨⟨⟨rfl,by decide⟩,bf⟩,aQ⟩,av,B▸Ext.below aY⟩
  (fun x a' W=> ∃Bx,I<Bx/\W.heap[Bx]?=some (af x.t.name x.t.sort x.a x.t.kids.length x.cap)/\a'={tmps:= #[(.agg #[.string t.name,.string t.sort,.slice a t.kids.length cap]),.pointer (az P),.pointer (az b),.pointer (az j),.pointer (az Bx),.int .i64 (x.d:Int),(.agg #[.string t.name,.string t.sort,.slice a t.kids.length cap]),(.func (.func 188) #[] #[.pointer (az I),.pointer (az aB)]),(.agg #[.string x.t.name,.string x.t.sort,.slice x.a x.t.kids.length x.cap]),.int .i64 (x.d:Int),undef,undef,undef,undef,undef,undef,undef,undef,undef,undef,undef,undef,undef,undef,undef,undef,undef,undef,undef,undef,undef,undef,undef,undef,undef,undef,undef,undef,undef,undef,undef,undef,undef,undef,undef],defers:=[]})
  (fun x a' _ X Y row hs bs hr=>by
   obtain⟨Bx,aZ,aD,a1⟩:=hs;refine⟨Bx,aZ,(au.jQ bs).heap aD (fun e=>?_),a1⟩;obtain⟨o,ho,hc⟩:=(hr Bx e.symm).2;rw[aD] at ho;cases ho;cases hc) ?assign ?body ?done ?stop
 case assign=>
  rintro l pre x W K ⟨⟨⟨O,C⟩,E⟩,A,F⟩ hK;dsimp only[Nd.encs,tV];have aa:=aj W (af x.t.name x.t.sort x.a x.t.kids.length x.cap);have bg:=E.lt
  gi_wp2
  exact hK _ _ (jI _ ((au.refl _ W).alloc _)) (fE.qM ((au.refl _ W).alloc _)) ⟨⟨⟨O,C.alloc _⟩,E.alloc _⟩,A.alloc _,F.alloc (by have:=F.size;omega) _⟩ ⟨W.heap.size,A.lt,aa,rfl⟩
 case body=>
  rintro l pre x a' W hl aM ⟨⟨⟨⟨O,hlen⟩,C⟩,E⟩,A,F⟩ ⟨Bx,bF,aa,rfl⟩ bg;have aR:=qV F (by omega);have hu:au (fun k=>k=j) W (W.setCell ⟨j,0,none⟩ (.int .i64 ((pre.length:Int)+1))):=(au.refl (fun k=>k=j) W).setCell (p:=⟨j,0,none⟩) (.inl rfl) _;have n0:=E.cell;have bJ:=E.frozen;have bG:IntKind.i64.wrap ((pre.length:Int)+1)=(pre.length:Int)+1:=IntWalk.i64_in _ (by omega);have bx:=A.lt;have z:Ext w (W.setCell ⟨j,0,none⟩ (.int .i64 ((pre.length:Int)+1))):=aR.trans' hu (fun i hi e=>by omega);have Q:=hu.heap aa (by omega);have aE:Boxed (W.setCell ⟨j,0,none⟩ (.int .i64 ((pre.length:Int)+1))) j 3 (.int .i64 ((pre.length:Int)+1)):=setBlock E 0 _;have y:Boxed (W.setCell ⟨j,0,none⟩ (.int .i64 ((pre.length:Int)+1))) b 4 (.bool false):=hu.heap C (by omega);have aS:Boxed (W.setCell ⟨j,0,none⟩ (.int .i64 ((pre.length:Int)+1))) I 219 (.func (.func 187) #[] #[.pointer (az I)]):=hu.heap A (by omega);have m0:=aE.cell;obtain⟨aF,aG,aH⟩:=ah Q;have ao:=y.cell;have r1:=y.frozen;have aU:fE (fun k=>k=b\/k=j) W (W.setCell ⟨j,0,none⟩ (.int .i64 ((pre.length:Int)+1))):=fE.Ez hu (fun k _ e=> .inr e);have J:KeepsFrom aX.heap.size W (W.setCell ⟨j,0,none⟩ (.int .i64 ((pre.length:Int)+1))):=jd _ hu (fun k o e ho=>by subst e;rw[show W.heap[k]?=_ from E] at ho;cases ho;rfl);have bH:Below P w (W.setCell ⟨j,0,none⟩ (.int .i64 ((pre.length:Int)+1))):=B▸Ext.below z;have a6:=ae (fun s W' (bh:Ext w W')=>wW s W' (aT bb bh));have bj:1000<pre.length+1->1000< (pre++[x]).length:=fun h=>by rw[List.length_append];exact h
  have aw:=Xt pre x;rw[O,Bool.true_and] at aw;have M:=ae aw;have bI:=ae aM;clear aM aw aR O C E A aa F hu;by_cases h1:1000<pre.length+1
  .have t1:decide ((1000:Int)< (pre.length:Int)+1)=true:=dT (by omega)
   gi_wp2
   have st:=(au.refl (fun k=>k=b) (W.setCell ⟨j,0,none⟩ (.int .i64 ((pre.length:Int)+1)))).setCell (p:=⟨b,0,none⟩) (.inl rfl) (.bool false);have q:Boxed (W.setCell ⟨j,0,none⟩ (.int .i64 ((pre.length:Int)+1))) b 4 (.bool false):=(uR (W.setCell ⟨j,0,none⟩ (.int .i64 ((pre.length:Int)+1)))).heap y id;refine⟨J.trans ((jI _ (uR (W.setCell ⟨j,0,none⟩ (.int .i64 ((pre.length:Int)+1))))).trans (jd _ st (fun k o e ho=>by subst e;rw[show(W.setCell ⟨j,0,none⟩ (.int .i64 ((pre.length:Int)+1))).heap[k]?=_ from q] at ho;cases ho;rfl))),⟨⟨rfl,.inr (bj h1)⟩,setBlock q 0 (.bool false)⟩,B▸Ext.below ((z.ext (uR (W.setCell ⟨j,0,none⟩ (.int .i64 ((pre.length:Int)+1))))).jJ (show w.heap.size<=b by omega) _)⟩
  have t1:decide ((1000:Int)< (pre.length:Int)+1)=false:=dF (by omega);by_cases a7:60<x.d
  .have t2:decide ((60:Int)< (x.d:Int))=true:=dT (by omega);have bk:decide (60<x.d)=true:=dT a7
   gi_wp2
   have st:=(au.refl (fun k=>k=b) (W.setCell ⟨j,0,none⟩ (.int .i64 ((pre.length:Int)+1)))).setCell (p:=⟨b,0,none⟩) (.inl rfl) (.bool false);have q:Boxed (W.setCell ⟨j,0,none⟩ (.int .i64 ((pre.length:Int)+1))) b 4 (.bool false):=(uR (W.setCell ⟨j,0,none⟩ (.int .i64 ((pre.length:Int)+1)))).heap y id;refine⟨J.trans ((jI _ (uR (W.setCell ⟨j,0,none⟩ (.int .i64 ((pre.length:Int)+1))))).trans (jd _ st (fun k o e ho=>by subst e;rw[show(W.setCell ⟨j,0,none⟩ (.int .i64 ((pre.length:Int)+1))).heap[k]?=_ from q] at ho;cases ho;rfl))),⟨⟨rfl,.inl (by rw[M.o];unfold lZ Nd.pr;simp only[dF (show ¬x.d<=60 by omega),Bool.false_and])⟩,setBlock q 0 (.bool false)⟩,B▸Ext.below ((z.ext (uR (W.setCell ⟨j,0,none⟩ (.int .i64 ((pre.length:Int)+1))))).jJ (show w.heap.size<=b by omega) _)⟩
  have t2:decide ((60:Int)< (x.d:Int))=false:=dF (by omega);have bk:decide (60<x.d)=false:=dF a7;have R:decide (x.d<=60)=true:=dT (by omega);have T:=ae (a6.o x.t.name (W.setCell ⟨j,0,none⟩ (.int .i64 ((pre.length:Int)+1))) z);cases H:aC x.t.name
  .rw [H] at T
   gi_wp2
   refine(CallsIn.inRound l (callsIn_wide.2 T.o)).mono ?_;rintro e G ⟨rfl,g⟩;have U:=(g).heap Q id;obtain⟨ab,V,ad⟩:=ah U;have L:Boxed _ b 4 (.bool false):=(g).heap y id;have ag:=L.cell;have al:=L.frozen;clear aF aG aH ao r1
   gi_wp2
   have st:=(au.refl (fun k=>k=b) G).setCell (p:=⟨b,0,none⟩) (.inl rfl) (.bool false);have q:Boxed G b 4 (.bool false):=(g).heap y id;refine⟨J.trans ((jI _ (g)).trans (jd _ st (fun k o e ho=>by subst e;rw[show G.heap[k]?=_ from q] at ho;cases ho;rfl))),⟨⟨rfl,.inl (by rw[M.o];unfold lZ Nd.pr;simp only[R,H,Bool.true_and,Bool.false_and])⟩,setBlock q 0 (.bool false)⟩,B▸Ext.below ((z.ext (g)).jJ (show w.heap.size<=b by omega) _)⟩
  rw[H] at T;by_cases a8:6<x.t.kids.length
  .have t4:decide ((6:Int)< (x.t.kids.length:Int))=true:=dT (by omega);have bl:decide (6<x.t.kids.length)=true:=dT a8
   gi_wp2
   refine(CallsIn.inRound l (callsIn_wide.2 T.o)).mono ?_;rintro e G ⟨rfl,g⟩;have U:=(g).heap Q id;obtain⟨ab,V,ad⟩:=ah U;have L:Boxed _ b 4 (.bool false):=(g).heap y id;have ag:=L.cell;have al:=L.frozen;clear aF aG aH ao r1
   gi_wp2
   have st:=(au.refl (fun k=>k=b) G).setCell (p:=⟨b,0,none⟩) (.inl rfl) (.bool false);have q:Boxed G b 4 (.bool false):=(g).heap y id;refine⟨J.trans ((jI _ (g)).trans (jd _ st (fun k o e ho=>by subst e;rw[show G.heap[k]?=_ from q] at ho;cases ho;rfl))),⟨⟨rfl,.inl (by rw[M.o];unfold lZ Nd.pr;simp only[R,H,dF (show ¬x.t.kids.length<=6 by omega),Bool.true_and,Bool.false_and])⟩,setBlock q 0 (.bool false)⟩,B▸Ext.below ((z.ext (g)).jJ (show w.heap.size<=b by omega) _)⟩
  have t4:decide ((6:Int)< (x.t.kids.length:Int))=false:=dF (by omega);have bl:decide (6<x.t.kids.length)=false:=dF a8;have aq:decide (x.t.kids.length<=6)=true:=dT (by omega)
  gi_wp2
  refine(CallsIn.inRound l (callsIn_wide.2 T.o)).mono ?_;rintro e G ⟨rfl,g⟩;have U:=(g).heap Q id;obtain⟨ab,V,ad⟩:=ah U;have L:Boxed _ b 4 (.bool false):=(g).heap y id;have ag:=L.cell;have al:=L.frozen;clear aF aG aH ao r1;by_cases ax:x.t.sort.size=0
  .have aV:=gJ _ ax;rw[aV] at V
   gi_wp2
   any_goals (first|exact⟨J.trans (jI _ (g)),aU.trans (fE.qM (g)),⟨⟨⟨⟨by rw[M.o];unfold lZ Nd.pr;simp only[R,H,aq,dT (show x.t.sort=ai from aV),Bool.true_and,Bool.true_or],by rw[List.length_append];exact Nat.le_of_not_lt h1⟩,(g).heap y id⟩,by rw[List.length_append];exact(g).heap aE id⟩,(g).heap aS id,B▸Ext.below (z.ext (g))⟩⟩|fail)
   all_goals (rename_i bt _;exact absurd bt (by simp[undef]))
  have aI:decide (x.t.sort=ai)=false:=dF (fun e=>ax (by rw[e];rfl));obtain⟨aZ,aD,a1,bK⟩:=eG x.t.sort (Nat.pos_of_ne_zero ax);have ar:=ae (a6.o x.t.sort G (z.ext g));cases S:aC x.t.sort
  .rw [S] at ar
   gi_wp2
   refine(CallsIn.inRound l (callsIn_wide.2 ar.o)).mono ?_;rintro e N ⟨rfl,u⟩;have aJ:=(g.ext u).heap Q id;obtain⟨bm,bn,bo⟩:=ah aJ;have Z:Boxed _ b 4 (.bool false):=(g.ext u).heap y id;have bp:=Z.cell;have bq:=Z.frozen;clear ab V ad ag al
   gi_wp2
   have st:=(au.refl (fun k=>k=b) N).setCell (p:=⟨b,0,none⟩) (.inl rfl) (.bool false);have q:Boxed N b 4 (.bool false):=(g.ext u).heap y id;refine⟨J.trans ((jI _ (g.ext u)).trans (jd _ st (fun k o e ho=>by subst e;rw[show N.heap[k]?=_ from q] at ho;cases ho;rfl))),⟨⟨rfl,.inl (by rw[M.o];unfold lZ Nd.pr;simp only[R,H,aq,aI,S,Bool.true_and,Bool.false_and,Bool.or_false])⟩,setBlock q 0 (.bool false)⟩,B▸Ext.below ((z.ext (g.ext u)).jJ (show w.heap.size<=b by omega) _)⟩
  rw[S] at ar
  gi_wp2
  refine(CallsIn.inRound l (callsIn_wide.2 ar.o)).mono ?_;rintro e N ⟨rfl,u⟩;have aJ:=(g.ext u).heap Q id;obtain⟨bm,bn,bo⟩:=ah aJ;have Z:Boxed _ b 4 (.bool false):=(g.ext u).heap y id;have bp:=Z.cell;have bq:=Z.frozen;clear ab V ad ag al;by_cases ba:0<x.t.kids.length
  .have t7:decide ((0:Int)< (x.t.kids.length:Int))=true:=dT (by omega);have br:decide (0<x.t.kids.length)=true:=dT ba;have aK:decide (x.t.kids.length=0)=false:=dF (by omega);have aL:yw (pre++[x])=false:=by rw[M.o];unfold lZ Nd.pr;simp only[R,H,aq,aI,S,aK,Bool.true_and,Bool.and_false,Bool.false_and,Bool.or_false]
   generalize x.t.kids.length=bu at*
   gi_wp2
   have st:=(au.refl (fun k=>k=b) N).setCell (p:=⟨b,0,none⟩) (.inl rfl) (.bool false);have q:Boxed N b 4 (.bool false):=(g.ext u).heap y id;refine⟨J.trans ((jI _ (g.ext u)).trans (jd _ st (fun k o e ho=>by subst e;rw[show N.heap[k]?=_ from q] at ho;cases ho;rfl))),⟨⟨rfl,.inl aL⟩,setBlock q 0 (.bool false)⟩,B▸Ext.below ((z.ext (g.ext u)).jJ (show w.heap.size<=b by omega) _)⟩
  have t7:decide ((0:Int)< (x.t.kids.length:Int))=false:=dF (by omega);have br:decide (0<x.t.kids.length)=false:=dF ba;have aK:decide (x.t.kids.length=0)=true:=dT (by omega);have aL:yw (pre++[x])=true:=by rw[M.o];unfold lZ Nd.pr;simp only[R,H,aq,aI,S,aK,Bool.true_and,Bool.or_true]
  generalize x.t.kids.length=bu at*
  gi_wp2
  exact⟨J.trans (jI _ (g.ext u)),aU.trans (fE.qM (g.ext u)),⟨⟨⟨⟨aL,by rw[List.length_append];exact Nat.le_of_not_lt h1⟩,(g.ext u).heap y id⟩,by rw[List.length_append];exact(g.ext u).heap aE id⟩,(g.ext u).heap aS id,B▸Ext.below (z.ext (g.ext u))⟩⟩
 case done=>
  rintro D xs W bw hS ⟨⟨⟨⟨O,hlen⟩,C⟩,E⟩,A,F⟩ hK;have ao:=C.cell;have r1:=C.frozen;have ay:=ZL hS O hlen
  gi_wp2
  have hK':=(KeepsOthers.setCell W ⟨b,0,none⟩ (.bool true)).same D _ hK rfl;refine⟨by simp,.inl ⟨_,_,rfl,run_takeDeferred hK',?_⟩⟩;have aA:=cell_kept (C.set (.bool true)).cell (grownBy_putObj' _ D (.deferred none)) (fun r e=>by cases e;exact⟨_,hK',rfl⟩);refine⟨.bool true,?_,by rw[ay],qV ((F.setCell (p:=⟨b,0,none⟩) (by show P<=b;omega) _).trans (belowK_b (w:=w) (by omega) _ D _ _ (by omega) hK' rfl rfl)) (by omega)⟩;simp[results,Tryz.f138,go_sem,aA]
 case stop=>
  rintro D c pre W bw hS ⟨⟨⟨rfl,bc⟩,C⟩,F⟩ hK;have ay:=ZK hS bc
  gi_wp2
  refine⟨by simp,.inl ⟨_,_,rfl,run_takeDeferred hK,?_⟩⟩;have aA:=cell_kept C.cell (grownBy_putObj' _ D (.deferred none)) (fun r e=>by cases e;exact⟨_,hK,rfl⟩);refine⟨.bool false,?_,by rw[ay],qV (F.trans (belowK_b (w:=w) (by omega) _ D _ _ (by omega) hK rfl rfl)) (by omega)⟩;simp[results,Tryz.f138,go_sem,aA]
attribute [local go_sem] Oper.semAt_some
theorem Nk {W W':World} {B b:Nat} (h:au (fun k=>k=b) W W') (hb:b<B):KeepsFrom B W W':=
 ⟨h.size,fun k o hk a _=>h.heap a (fun e=>by subst e;omega)⟩
abbrev uC (m:List Vd):List (ByteArray×Value):=m.map fun f=>(f.1,.string f.2)
theorem Xv (m:List Vd) (n:By):kK (uC m) n=(iM m n).map .string:=by
 induction m with
 |nil=>rfl
 |cons a m b=>
  rw[show uC (a::m)=(a.1,.string a.2)::uC m from rfl,lI,iG,b];split<;>rfl
theorem Po (m:List Vd) (f:Vd) (h:iM m f.1=none):qj (uC m) f.1 (.string f.2)=uC (m++[f]):=by
 induction m with
 |nil=>rfl
 |cons a m b=>
  rw[iG] at h;by_cases e:a.1=f.1
  .rw [if_pos e] at h;cases h
  .rw [if_neg e] at h;rw[show uC (a::m)=(a.1,.string a.2)::uC m from rfl];unfold qj;rw[if_neg e,b h];rfl
theorem Pq (m:List Vd) (f:Vd) (h:iM m f.1=some f.2):qj (uC m) f.1 (.string f.2)=uC m:=by
 induction m with
 |nil=>cases h
 |cons a m b=>
  rw[iG] at h;rw[show uC (a::m)=(a.1,.string a.2)::uC m from rfl];unfold qj;by_cases e:a.1=f.1
  .rw [if_pos e] at h⊢;injection h with h
   rw[h,e]
  .rw [if_neg e] at h⊢;rw[b h]
def Hr (pre:List Nd):List Vd:=vl (pre.map (·.t))
theorem ZN (pre:List Nd) (x:Nd):Hr (pre++[x])=Hr pre++(if x.t.sort=ai then[] else[(x.t.name,x.t.sort)]):=by
 unfold Hr;rw[List.map_append,uw];congr 1;show List.filterMap _ [x.t]=_;by_cases h:x.t.sort=ai
 .simp [h]
 .simp [h]
theorem adM {xs:List Nd} {t:Tm} (h:xs.map Nd.pr=di 1 t):Hr xs=vl (bu t):=by
 unfold Hr bu;rw[oW t 0 1,<-h,List.map_map];rfl
theorem adN {xs:List Nd} {t:Tm} (h:xs.map Nd.pr <+:di 1 t): ∃r,vl (bu t)=Hr xs++r:=by
 obtain⟨r,hr⟩:=h;refine⟨vl (r.map (·.1)),?_⟩;unfold Hr bu;rw[oW t 0 1,<-hr,List.map_append,List.map_map,uw];rfl
def ED (B:Nat) (o:Option (List Vd)) (e:Ending) (w':World):Prop:=match o with
 |some m=> ∃b,e= .returned (.tuple #[.map (some b),.bool true])/\B<=b/\eX (fun s:ByteArray=>Value.string s) w' b (uC m)
 |none=>e= .returned (.tuple #[.map none,.bool false])
theorem TU (t:Tm) (g off cap a E:Nat) (ad:Option Addr) (w:World) (hc:w.cell? ⟨g,off,none⟩=some (.string t.name)/\w.cell? ⟨g,off+1,none⟩=some (.string t.sort)/\w.cell? ⟨g,off+2,none⟩=some (.slice ad t.kids.length E)) (hR:aG (fun k=>k<w.heap.size) w t.kids (.slice ad t.kids.length E)) (bl:(t.size:Int)<=1000000000000):
  Calls Tryz.prog 139 #[.slice (some ⟨g,off,none⟩) 1 cap] w fun e w'=>ED w.heap.size (kM t) e w'/\Ext w w':=by
 obtain⟨a1,a6,a7⟩:=hc;have bm:= @run_makeMap Tryz.prog;refine(callsIn_wide (n:=9)).1 ?_;have hro:Fence.wide.round=none:=rfl;have hd:Fence.wide.depth=none:=rfl;have hf: ∀k,Fence.wide.fn k:=fun _=>trivial;have h1:1<=9:=by omega
 refine callsIn_of_wp_marks Tryz.func139 rfl trivial ?_ hro;simp only[Tryz.ntmps139,List.size_toArray,List.length_cons,List.length_nil,Nat.reduceAdd,Nat.reduceSub,Array.replicate_succ,Array.replicate_zero,List.push_toArray,List.append_toArray,List.nil_append,List.cons_append]
 gi_wp2
 have T:Ext w ((((w.alloc (.cells #[.map none] 178)).alloc (.cells #[.bool false] 4)).alloc (.map #[] 0)).alloc (.cells #[.map (some (w.heap.size+1+1))] 178)):=((((uR w).alloc _).alloc _).alloc _).alloc _;have aN:((((w.alloc (.cells #[.map none] 178)).alloc (.cells #[.bool false] 4)).alloc (.map #[] 0)).alloc (.cells #[.map (some (w.heap.size+1+1))] 178)).heap.size=w.heap.size+4:=by simp
 have aO:Boxed ((((w.alloc (.cells #[.map none] 178)).alloc (.cells #[.bool false] 4)).alloc (.map #[] 0)).alloc (.cells #[.map (some (w.heap.size+1+1))] 178)) w.heap.size 178 (.map none):=ak (ak (ak (aj _ _) _) _) _;have aP:Boxed ((((w.alloc (.cells #[.map none] 178)).alloc (.cells #[.bool false] 4)).alloc (.map #[] 0)).alloc (.cells #[.map (some (w.heap.size+1+1))] 178)) (w.heap.size+1) 4 (.bool false):=ak (ak (alloc_at _ _ (by simp)) _) _;have aQ:eX (fun s:ByteArray=>Value.string s) ((((w.alloc (.cells #[.map none] 178)).alloc (.cells #[.bool false] 4)).alloc (.map #[] 0)).alloc (.cells #[.map (some (w.heap.size+1+1))] 178)) (w.heap.size+1+1) []:=⟨#[],0,ak (alloc_at _ _ (by simp)) _,rfl,List.Pairwise.nil,fun _ h=>by cases h⟩
 have aR:Boxed ((((w.alloc (.cells #[.map none] 178)).alloc (.cells #[.bool false] 4)).alloc (.map #[] 0)).alloc (.cells #[.map (some (w.heap.size+1+1))] 178)) (w.heap.size+1+1+1) 178 (.map (some (w.heap.size+1+1))):=alloc_at _ _ (by simp);generalize ((((w.alloc (.cells #[.map none] 178)).alloc (.cells #[.bool false] 4)).alloc (.map #[] 0)).alloc (.cells #[.map (some (w.heap.size+1+1))] 178))=a8 at*;generalize bn:w.heap.size+1+1+1=an at*;generalize aH:w.heap.size+1+1=M at*;generalize bo:w.heap.size+1=j at*;generalize aS:w.heap.size=b at*;refine wpIn_loop_rounds 2 ?_;rw[roundsIn_succ];obtain⟨wr,aT⟩: ∃wr,wr=a8:=⟨_,rfl⟩
 subst aT;have bt:=T.cell a1 id;have bu:=T.cell a6 id;have bw:=T.cell a7 id;have H:Ext wr (wr.alloc (tO t ad E)):=(uR wr).alloc _;have aC:=aj wr (tO t ad E);obtain⟨aI,ao,aJ⟩:=ah aC
 gi_wp2
 refine(callsIn_wide.2 (GH t (.slice ad t.kids.length E) _ ⟨_,_,_,rfl⟩)).mono ?_;rintro e I ⟨rfl,J,aU,aD,aE⟩;have aF:(wr.alloc (tO t ad E)).heap.size=b+5:=by simp[aN]
 rw[aF] at aU aD aE⊢;have aq:=T.ext (H.ext J);have L:Boxed I b 178 (.map none):=J.heap (H.heap aO id) id;have N:Boxed I j 4 (.bool false):=J.heap (H.heap aP id) id;have aV:Boxed I an 178 (.map (some M)):=J.heap (H.heap aR id) id;have aW:=(aQ.ext H).ext J;clear H J aC aF aI ao aJ
 gi_wp2
 refine wpIn_rangeFunc_ownH hro h1 (gf:=188) (lb:= #[.pointer (some ⟨b+5+1,0,none⟩),.pointer (some ⟨b+5,0,none⟩)]) rfl trivial (enters_of Tryz.func188 (by kernel_rfl) rfl)
  (Az Fence.wide hd (9-1) hf hro (b+5+1) (b+5) (fun k=>k=b\/k=j\/k=M) (fun k=>k<b) I (by omega) (by omega) (by omega) (by omega) t ad E (aS▸hR.ext aq) aE aD (by omega)) (fun h k=>fE.trans h k) (fun W l o o' _ hl hc _=>fE.putObj W l o o' hl hc) (Below.refl _ _) (fun _=>rfl)
  (fun pre W=> ∃m,jR [] (Hr pre)=some m/\eX (fun s:ByteArray=>Value.string s) W M (uC m)/\Boxed W b 178 (.map none)/\Boxed W j 4 (.bool false)/\Boxed W an 178 (.map (some M))/\Ext w W/\I.heap.size<=W.heap.size)
  (fun c pre W=>c= .ret/\jR [] (Hr pre)=none/\Boxed W b 178 (.map none)/\Boxed W j 4 (.bool false)/\Ext w W)
  (fun s A B row hs u hr=>by
   obtain⟨m,h1,ar,av,aw,ba,ax,bb⟩:=hs;have hu:=au.jQ u;have hne: ∀k,k<b+7->¬some k=row:=fun k hk e=>by have:=(hr k e.symm).1;omega
   exact⟨m,h1,ar.kept hu (hne _ (by omega)),hu.heap av (hne _ (by omega)),hu.heap aw (hne _ (by omega)),hu.heap ba (hne _ (by omega)),ax.trans' hu (fun i hi e=>hne i (by omega) e),Nat.le_trans bb hu.size⟩)
  (fun c s A B row hs u hr=>by
   obtain⟨h1,ar,av,aw,ax⟩:=hs;have hu:=au.jQ u;have hne: ∀k,k<b+7->¬some k=row:=fun k hk e=>by have:=(hr k e.symm).1;omega
   exact⟨h1,ar,hu.heap av (hne _ (by omega)),hu.heap aw (hne _ (by omega)),ax.trans' hu (fun i hi e=>hne i (by omega) e)⟩)
  ⟨[],rfl,aW,L,N,aV,aq,Nat.le_refl _⟩
  (fun x a' W=> ∃Bx,b+6<Bx/\W.heap[Bx]?=some (af x.t.name x.t.sort x.a x.t.kids.length x.cap)/\a'={tmps:= #[.slice (some ⟨g,off,none⟩) 1 cap,undef,.pointer (az b),.pointer (az j),.pointer (az an),undef,.pointer (some ⟨b+4,0,none⟩),.pointer (az Bx),undef,undef,.map (some M),.slice (some ⟨g,off,none⟩) 1 cap,.int .i64 1,.int .i64 0,.bool true,.pointer (some ⟨g,off,none⟩),(.agg #[.string t.name,.string t.sort,.slice ad t.kids.length E]),(.agg #[.string t.name,.string t.sort,.slice ad t.kids.length E]),(.func (.func 188) #[] #[.pointer (some ⟨b+5+1,0,none⟩),.pointer (some ⟨b+5,0,none⟩)]),(.agg #[.string x.t.name,.string x.t.sort,.slice x.a x.t.kids.length x.cap]),.int .i64 (x.d:Int),undef,undef,undef,undef,undef,undef,undef,undef,undef,undef,undef,undef,undef,undef,undef,undef,undef,undef,undef,undef,undef,undef,undef,undef],defers:=[]})
  (fun x a' _ X Y row hs u hr=>by
   obtain⟨Bx,aK,ay,aL⟩:=hs;refine⟨Bx,aK,(au.jQ u).heap ay (fun e=>?_),aL⟩;obtain⟨o,ho,hc⟩:=(hr Bx e.symm).2;rw[ay] at ho;cases ho;cases hc) ?assign ?body ?done ?stop
 case assign=>
  rintro l pre x W K ⟨m,F,i2,i3,i4,i5,C,U⟩ hK;dsimp only[Nd.encs,tV];have Z:=aj W (af x.t.name x.t.sort x.a x.t.kids.length x.cap);have O:Ext W (W.alloc (af x.t.name x.t.sort x.a x.t.kids.length x.cap)):=(au.refl _ W).alloc _
  gi_wp2
  exact hK _ _ (jI _ O) (fE.qM O) ⟨m,F,i2.ext O,i3.alloc _,i4.alloc _,i5.alloc _,C.ext O,Nat.le_trans U O.size⟩ ⟨W.heap.size,by omega,Z,rfl⟩
 case body=>
  rintro l pre x a' W hl bj ⟨m,F,i2,i3,i4,i5,C,U⟩ ⟨Bx,bp,Z,rfl⟩ bq;have br:=aq.size;obtain⟨aI,ao,aJ⟩:=ah Z;have bc:=i5.cell;have r2:=i3.cell;have bd:=i4.cell;have s2:=i3.frozen;have bf:=i4.frozen;have R:=ZN pre x;by_cases aa:x.t.sort.size=0
  .have G:=gJ _ aa;rw[if_pos (show x.t.sort=ai from G),List.append_nil] at R;rw[G] at ao
   gi_wp2
   exact⟨KeepsFrom.refl _ _,fE.refl _ _,m,by rw[R];exact F,i2,i3,i4,i5,C,U⟩
  have hne:x.t.sort≠ai:=fun e=>aa (by rw[e];rfl);rw[if_neg hne] at R;have ab:jR [] (Hr (pre++[x]))=(match iM m x.t.name with|none=>some (m++[(x.t.name,x.t.sort)])|some s=>if s=x.t.sort then some m else none):=by
   rw[R,EE,F];show jR m [(x.t.name,x.t.sort)]=_;unfold jR;cases iM m x.t.name with
   |none=>rfl
   |some s=>
    simp only;split<;>rfl
  have aM:=ae ab;obtain⟨aK,ay,aL,bx⟩:=eG x.t.sort (Nat.pos_of_ne_zero aa);have S:=i2.get (P:=Tryz.prog) (t:=178) (qW Tryz.underlying9) Tryz.underlying178 (z:= .string ⟨#[]⟩) (Tryz.zeroValue9 W) x.t.name true;rw[Xv] at S;simp only[if_true] at S;have bs:M<I.heap.size:=by omega
  obtain⟨bz,bk,V,q⟩:=i2.put (P:=Tryz.prog) (t:=178) (qW Tryz.underlying9) Tryz.underlying178 x.t.name (.string x.t.sort);cases u:iM m x.t.name with
  |none=>
   rw[u] at S;have Q:=Po m (x.t.name,x.t.sort) u;simp only at Q;rw[Q] at V;have y:=aM.o;rw[u] at y;clear ab
   gi_wp2
   exact⟨Nk q (by omega),fE.Ez q (fun k _ e=> .inr (.inr e)),_,y,V,q.heap i3 (by omega),q.heap i4 (by omega),q.heap i5 (by omega),C.trans' q (fun i hi e=>by omega),by have bg:=q.size;omega⟩
  |some s=>
   rw[u] at S;have y:=aM.o;rw[u] at y;clear ab;simp only at y;by_cases G:s=x.t.sort
   .rw [if_pos G] at y;have Q:=Pq m (x.t.name,x.t.sort) (by rw[u,G]);simp only at Q;rw[Q] at V;subst G;have aX:(x.t.sort.toList==x.t.sort.toList)=true:=by simp
    have aA:=ae y;clear y
    gi_wp2
    exact⟨Nk q (by omega),fE.Ez q (fun k _ e=> .inr (.inr e)),m,aA.o,V,q.heap i3 (by omega),q.heap i4 (by omega),q.heap i5 (by omega),C.trans' q (fun i hi e=>by omega),by have bg:=q.size;omega⟩
   .rw [if_neg G] at y;have aX:(s.toList==x.t.sort.toList)=false:=by
     rw[beq_eq_false_iff_ne];intro e;exact G (lU (by rw[Lib.toList_data,Lib.toList_data] at e;exact e))
    have aA:=ae y;clear y
    gi_wp2
    have st:=((au.refl (fun k=>k=b\/k=j) W).setCell (p:=⟨b,0,none⟩) (.inl (.inl rfl)) (.map none)).setCell (p:=⟨j,0,none⟩) (.inl (.inr rfl)) (.bool false);have aB:Boxed (W.setCell ⟨b,0,none⟩ (.map none)) b 178 (.map none):=setBlock i3 0 (.map none);have ag:Boxed (W.setCell ⟨b,0,none⟩ (.map none)) j 4 (.bool false):=Boxed.other i4 (by omega) _;refine⟨jd _ st (fun k o e ho=>?_),rfl,aA.o,Boxed.other aB (by omega) _,setBlock ag 0 (.bool false),(C.jJ (show w.heap.size<=b by omega) _).jJ (show w.heap.size<=j by omega) _⟩;rcases e with e|e
    .subst e;rw[show W.heap[k]?=_ from i3] at ho;cases ho;rfl
    .subst e;rw[show W.heap[k]?=_ from i4] at ho;cases ho;rfl
 case done=>
  rintro D xs W bh hS ⟨m,F,i2,i3,i4,i5,C,U⟩ hK;have al:kM t=some m:=by rw[adM hS] at F;exact F
  have bc:=i5.cell;have r2:=i3.cell;have bd:=i4.cell;have s2:=i3.frozen;have bf:=i4.frozen
  gi_wp2
  rw[roundsIn_succ]
  gi_wp2
  have st:=((au.refl (fun k=>k=b\/k=j) W).setCell (p:=⟨b,0,none⟩) (.inl (.inl rfl)) (.map (some M))).setCell (p:=⟨j,0,none⟩) (.inl (.inr rfl)) (.bool true);have aB:Boxed (W.setCell ⟨b,0,none⟩ (.map (some M))) b 178 (.map (some M)):=setBlock i3 0 (.map (some M));have ag:Boxed (W.setCell ⟨b,0,none⟩ (.map (some M))) j 4 (.bool false):=Boxed.other i4 (by omega) _;have aY:Boxed ((W.setCell ⟨b,0,none⟩ (.map (some M))).setCell ⟨j,0,none⟩ (.bool true)) b 178 (.map (some M)):=Boxed.other aB (by omega) _;have aZ:Boxed ((W.setCell ⟨b,0,none⟩ (.map (some M))).setCell ⟨j,0,none⟩ (.bool true)) j 4 (.bool true):=setBlock ag 0 (.bool true);have hK':=(jd 0 st (fun k o e ho=>by
   rcases e with e|e
   .subst e;rw[show W.heap[k]?=_ from i3] at ho;cases ho;rfl
   .subst e;rw[show W.heap[k]?=_ from i4] at ho;cases ho;rfl)).same D _ (Nat.zero_le _) hK rfl
  refine⟨by simp,.inl ⟨_,_,rfl,run_takeDeferred hK',?_⟩⟩;have L:=cell_kept aY.cell (grownBy_putObj' _ D (.deferred none)) (fun r e=>by cases e;exact⟨_,hK',rfl⟩);have N:=cell_kept aZ.cell (grownBy_putObj' _ D (.deferred none)) (fun r e=>by cases e;exact⟨_,hK',rfl⟩);have aH:=(i2.kept st (by omega)).kept (au.jQ (grownBy_putObj' _ D (.deferred none))) (fun e=>by cases e;omega);refine⟨.tuple #[.map (some M),.bool true],?_,?_⟩
  .simp [results,Tryz.f139,go_sem,L,N]
  .refine ⟨?_,((C.jJ (show w.heap.size<=b by omega) _).jJ (show w.heap.size<=j by omega) _).trans' (au.jQ (grownBy_putObj' _ D (.deferred none))) (fun i hi e=>by cases e;omega)⟩;unfold ED;rw[al];exact⟨M,rfl,by omega,aH⟩
 case stop=>
  rintro D c pre W bh hS ⟨rfl,F,i3,i4,C⟩ hK;have al:kM t=none:=by
   obtain⟨r,hr⟩:=adN hS;unfold kM;rw[hr,EE,F];rfl
  gi_wp2
  refine⟨by simp,.inl ⟨_,_,rfl,run_takeDeferred hK,?_⟩⟩;have L:=cell_kept i3.cell (grownBy_putObj' _ D (.deferred none)) (fun r e=>by cases e;exact⟨_,hK,rfl⟩);have N:=cell_kept i4.cell (grownBy_putObj' _ D (.deferred none)) (fun r e=>by cases e;exact⟨_,hK,rfl⟩);refine⟨.tuple #[.map none,.bool false],?_,?_⟩
  .simp [results,Tryz.f139,go_sem,L,N]
  .refine ⟨?_,C.trans' (au.jQ (grownBy_putObj' _ D (.deferred none))) (fun i hi e=>by cases e;omega)⟩;unfold ED;rw[al]
end
theorem Pv {t:Tm} (h:formed aC t=false):wf aC t=false:=by unfold wf;rw[h,Bool.false_and]
theorem zf (t:Tm) (v:Value) (w:World) (E:dI w) (hR:bQ (fun k=>k<w.heap.size) w t v) (q:(t.size:Int)<=1000000000000):Calls Tryz.prog 128 #[v] w fun e w'=>e= .returned (.bool (wf aC t))/\Ext w w':=by
 have G:=ae hR;obtain⟨a,cap,rfl,x⟩:=hR;have H:=ae x;dsimp only[tV];have i:=ae ((uR w).alloc (tO t a cap));have y:=ae (aj w (tO t a cap));have g:=ae (fun W (hW:Ext w W)=>Pm t _ W (aT E hW) ((G.o.ext hW).weaken (bW hW)) q);dsimp only[tV] at g;obtain⟨j,c1,c2⟩:=ah y.o;clear x;cases c:formed aC t
 .rw [c] at g;have r:=Pv c;rw[r];clear r c;go_enter Tryz.func128,Tryz.ntmps128;go_wp2_with fail;refine(g.o _ i.o).mono ?_;rintro e l ⟨rfl,d⟩;have n:=ae (i.o.ext d);clear d j c1 c2;go_wp2_with fail;go_ret;exact⟨rfl,n.o⟩
 rw[c] at g;have I:Hid (wf aC t=(kM t).isSome):=ae (by unfold wf;rw[c,Bool.true_and]);clear c;rw[I.o];go_enter Tryz.func128,Tryz.ntmps128;go_wp2_with fail;refine(g.o _ i.o).mono ?_;rintro e l ⟨rfl,d⟩;have n:=ae (i.o.ext d);have F:=ae (d.heap y.o id);clear d j c1 c2;obtain⟨j,c1,c2⟩:=ah F.o;have J:=ae (aj l (tO t a cap));have p:=ae (n.o.alloc (tO t a cap));go_wp2_with fail;generalize (l.alloc (tO t a cap))=K at*;obtain⟨z,A,B⟩:=ah J.o;have C:=ae (TU t l.heap.size 0 1 0 cap a K ⟨z,A,B⟩ ((H.o.ext p.o).weaken (bW p.o)) q);clear z A B j c1 c2;refine C.o.mono ?_;rintro e L ⟨hp,u⟩;have D:=ae (p.o.ext u);unfold ED at hp;clear u C;cases h:kM t with
 |none=>
  rw[h] at hp;simp only at hp;subst hp;go_wp2_with fail;go_ret;rw[h];exact⟨rfl,D.o⟩
 |some m=>
  rw[h] at hp;simp only at hp;obtain⟨b,rfl,_,_⟩:=hp;go_wp2_with fail;go_ret;rw[h];exact⟨rfl,D.o⟩
section
open Go.Shelf
attribute [local go_sem] Oper.semAt_some
def uD (pre:List Nd):Nat:=pre.foldl (fun m x=>max m x.d) 0
theorem ZP (pre:List Nd) (x:Nd):uD (pre++[x])=max (uD pre) x.d:=by unfold uD;rw[List.foldl_append];rfl
theorem Xw: ∀(t:Tm) (d m:Nat),d<=m+1->((di d t).map (·.2)).foldl max m=max m (d+t.depth-1):=by
 refine Tm.ind (fun nm so L e d m hm=>?_);have g: ∀(L:List Tm) (d m:Nat),1<=d->d<=m+1->(∀x∈L,∀(d m:Nat),d<=m+1->((di d x).map (·.2)).foldl max m=max m (d+x.depth-1))->((dh d L).map (·.2)).foldl max m=max m (d-1+depths L):=by
  intro L
  induction L with
  |nil=>intro d m h1 b _;simp[dh,depths];omega
  |cons a L c=>
   intro d m h1 b h;simp only[dh,List.map_append,List.foldl_append,depths];rw[h a (List.mem_cons_self ..) d m b,c d _ h1 (by omega) (fun x hx=>h x (List.mem_cons_of_mem _ hx))];omega
 rw[jF,lg];simp only[List.map_cons,List.foldl_cons,Tm.kids];rw[g L (d+1) (max m d) (by omega) (by omega) e];omega
theorem adO {xs:List Nd} {t:Tm} (h:xs.map Nd.pr=di 1 t):uD xs=t.depth:=by
 have h1:=Xw t 1 0 (by omega);rw[<-h,List.map_map] at h1;have a:uD xs=(xs.map ((fun x=>x.2)∘Nd.pr)).foldl max 0:=by
  unfold uD;rw[List.foldl_map];rfl
 rw[a,h1];have:=lg t;omega
def yD (t:Tm):Nat:=if wf aC t then t.size else 0
def Ht (t:Tm):Nat:=if wf aC t then t.depth else 0
theorem Xx (t:Tm) (v:Value) (w:World) (ab:dI w) (hR:bQ (fun k=>k<w.heap.size) w t v) (ad:(t.size:Int)<=1000000000000):Calls Tryz.prog 194 #[v] w fun e w'=>e= .returned (.tuple #[.int .i64 (yD t:Nat),.int .i64 (Ht t:Nat)])/\Ext w w':=by
 have al:=ae hR;obtain⟨a,cap,rfl,an⟩:=hR;dsimp only[tV];have T:=ae (fun W (hW:Ext w W)=>zf t _ W (aT ab hW) ((al.o.ext hW).weaken (bW hW)) ad);dsimp only[tV] at T;have F:Ext w (((w.alloc (tO t a cap)).alloc (iE 0)).alloc (iE 0)):=(((uR w).alloc _).alloc _).alloc _;have aF:(((w.alloc (tO t a cap)).alloc (iE 0)).alloc (iE 0)).heap.size=w.heap.size+3:=by simp
 have B:(((w.alloc (tO t a cap)).alloc (iE 0)).alloc (iE 0)).heap[w.heap.size]?=some (tO t a cap):=ak (ak (aj _ _) _) _;have N:Boxed (((w.alloc (tO t a cap)).alloc (iE 0)).alloc (iE 0)) (w.heap.size+1) 3 (.int .i64 0):=ak (alloc_at _ _ (by simp)) _;have O:Boxed (((w.alloc (tO t a cap)).alloc (iE 0)).alloc (iE 0)) (w.heap.size+1+1) 3 (.int .i64 0):=alloc_at _ _ (by simp);refine(callsIn_wide (n:=9)).1 ?_;have hro:Fence.wide.round=none:=rfl;have hd:Fence.wide.depth=none:=rfl;have hf: ∀k,Fence.wide.fn k:=fun _=>trivial;have h1:1<=9:=by omega
 refine callsIn_of_wp_marks Tryz.func194 rfl trivial ?_ hro;obtain⟨U,c1,c2⟩:=ah B;simp only[Tryz.ntmps194,List.size_toArray,List.length_cons,List.length_nil,Nat.reduceAdd,Nat.reduceSub,Array.replicate_succ,Array.replicate_zero,List.push_toArray,List.append_toArray,List.nil_append,List.cons_append]
 gi_wp2
 generalize (((w.alloc (tO t a cap)).alloc (iE 0)).alloc (iE 0))=w3 at*;generalize aG:w.heap.size+1=b at*;generalize P:w.heap.size=y at*;refine(callsIn_wide.2 (T.o _ F)).mono ?_;rintro e j ⟨rfl,q⟩;have V:=q.heap B id;have z:Boxed j b 3 (.int .i64 0):=q.heap N id;have u:Boxed j (b+1) 3 (.int .i64 0):=q.heap O id;have aa:=F.ext q;have ao:=q.size;obtain⟨U,c1,c2⟩:=ah V;have r2:=z.cell;have G:=u.cell;have s2:=z.frozen;have H:=u.frozen;clear q F B N O;cases A:wf aC t
 .have I:yD t=0:=by unfold yD;rw[A];rfl
  have J:Ht t=0:=by unfold Ht;rw[A];rfl
  gi_wp2
  have i2:Boxed (j.setCell ⟨b,0,none⟩ (.int .i64 0)) b 3 (.int .i64 0):=setBlock z 0 (.int .i64 0);have i3:Boxed (j.setCell ⟨b,0,none⟩ (.int .i64 0)) (b+1) 3 (.int .i64 0):=Boxed.other u (by omega) _;have aq:Boxed ((j.setCell ⟨b,0,none⟩ (.int .i64 0)).setCell ⟨b+1,0,none⟩ (.int .i64 0)) b 3 (.int .i64 0):=Boxed.other i2 (by omega) _;have ar:Boxed ((j.setCell ⟨b,0,none⟩ (.int .i64 0)).setCell ⟨b+1,0,none⟩ (.int .i64 0)) (b+1) 3 (.int .i64 0):=setBlock i3 0 (.int .i64 0);have av:=aq.cell;have aw:=ar.cell;refine⟨.tuple #[.int .i64 0,.int .i64 0],by simp[results,Tryz.f194,go_sem,av,aw],by rw[I,J];rfl,(aa.jJ (show w.heap.size<=b by omega) _).jJ (show w.heap.size<=b+1 by omega) _⟩
 have I:yD t=t.size:=by unfold yD;rw[A];rfl
 have J:Ht t=t.depth:=by unfold Ht;rw[A];rfl
 gi_wp2
 refine(callsIn_wide.2 (GH t (.slice a t.kids.length cap) j ⟨_,_,_,rfl⟩)).mono ?_;rintro e L ⟨rfl,M,af,Q,R⟩;have C:Boxed L b 3 (.int .i64 0):=M.heap z id;have E:Boxed L (b+1) 3 (.int .i64 0):=M.heap u id;have S:=aa.ext M;have ax:=u.lt;clear r2 G s2 H U c1 c2 V z u;obtain⟨Z,aA⟩:=ay j.heap.size;rw[aA] at af Q R ao ax⊢
 gi_wp2
 refine wpIn_rangeFunc_ownH hro h1 (gf:=188) (lb:= #[.pointer (some ⟨Z+1,0,none⟩),.pointer (az Z)]) rfl trivial (enters_of Tryz.func188 (by kernel_rfl) rfl)
  (Az Fence.wide hd (9-1) hf hro (Z+1) Z (fun k=>k=b\/k=b+1) (fun k=>k<y) L (by omega) (by omega) (by omega) (by omega) t a cap (P▸an.ext S) R Q (by omega)) (fun h k=>fE.trans h k) (fun W l o o' _ hl hc _=>fE.putObj W l o o' hl hc) (Below.refl _ _) (fun _=>rfl)
  (fun pre W=>(Boxed W b 3 (.int .i64 (pre.length:Int))/\Boxed W (b+1) 3 (.int .i64 (uD pre:Int)))/\Below y w W)
  (fun _ _ _=>False)
  (OwnFrom.and (OwnFrom.and (Own.from (boxed_own b 3 (fun pre:List Nd=>Value.int .i64 (pre.length:Int))) _) (Own.from (boxed_own (b+1) 3 (fun pre:List Nd=>Value.int .i64 (uD pre:Int))) _)) (ownFrom_below (by omega) (by omega)))
  (fun _ _ _ _ _ hs _ _=>hs)
  ⟨⟨C,E⟩,P▸Ext.below S⟩
  (fun x a' W=>a'={tmps:= #[(.agg #[.string t.name,.string t.sort,.slice a t.kids.length cap]),.pointer (az y),.pointer (az b),.pointer (some ⟨b+1,0,none⟩),undef,.int .i64 (x.d:Int),(.agg #[.string t.name,.string t.sort,.slice a t.kids.length cap]),.bool true,.bool false,(.agg #[.string t.name,.string t.sort,.slice a t.kids.length cap]),(.func (.func 188) #[] #[.pointer (some ⟨Z+1,0,none⟩),.pointer (az Z)]),(.agg #[.string x.t.name,.string x.t.sort,.slice x.a x.t.kids.length x.cap]),.int .i64 (x.d:Int),undef,undef,undef,undef,undef,undef,undef],defers:=[]})
  (fun x a' _ X Y row hs aJ hr=>hs) ?assign ?body ?done ?stop
 case assign=>
  rintro l pre x W K ⟨⟨g,i2⟩,i3⟩ hK;dsimp only[Nd.encs,tV]
  gi_wp2
  exact hK _ _ (KeepsFrom.refl _ _) (fE.refl _ _) ⟨⟨g,i2⟩,i3⟩ rfl
 case body=>
  rintro l pre x a' W hl aE ⟨⟨g,i2⟩,i3⟩ rfl aH;have ag:=ZP pre x;have r2:=g.cell;have G:=i2.cell;have s2:=g.frozen;have H:=i2.frozen;have aI:IntKind.i64.wrap ((pre.length:Int)+1)=(pre.length:Int)+1:=IntWalk.i64_in _ (by omega);have u2:Boxed (W.setCell ⟨b,0,none⟩ (.int .i64 ((pre.length:Int)+1))) (b+1) 3 (.int .i64 (uD pre:Int)):=Boxed.other i2 (by omega) _;have u3:=u2.cell;have u4:=u2.frozen
  gi_wp2
  have st:=((au.refl (fun k=>k=b\/k=b+1) W).setCell (p:=⟨b,0,none⟩) (.inl (.inl rfl)) (.int .i64 ((pre.length:Int)+1))).setCell (p:=⟨b+1,0,none⟩) (.inl (.inr rfl)) (.int .i64 (max (uD pre:Int) (x.d:Int)));have aB:((uD (pre++[x]):Nat):Int)=max (uD pre:Int) (x.d:Int):=by rw[ag];omega
  have u1:Boxed (W.setCell ⟨b,0,none⟩ (.int .i64 ((pre.length:Int)+1))) b 3 (.int .i64 ((pre.length:Int)+1)):=setBlock g 0 _;refine⟨jd _ st (fun k o e ho=>?_),fE.Ez st (fun k _ e=>e),⟨?_,?_⟩,(i3.setCell (p:=⟨b,0,none⟩) (by show y<=b;omega) _).setCell (p:=⟨b+1,0,none⟩) (by show y<=b+1;omega) _⟩
  .rcases e with e|e
   .subst e;rw[show W.heap[k]?=_ from g] at ho;cases ho;rfl
   .subst e;rw[show W.heap[b+1]?=_ from i2] at ho;cases ho;rfl
  .rw [List.length_append];exact Boxed.other u1 (by omega) _
  .rw [aB];exact setBlock u2 0 _
 case done=>
  rintro D xs W aK hS ⟨⟨g,i2⟩,i3⟩ hK;have r2:=g.cell;have G:=i2.cell;have s2:=g.frozen;have H:=i2.frozen
  gi_wp2
  refine wpIn_wide.2 ?_;go_region
  gi_wp2
  have st:=((au.refl (fun k=>k=b\/k=b+1) W).setCell (p:=⟨b,0,none⟩) (.inl (.inl rfl)) (.int .i64 (xs.length:Int))).setCell (p:=⟨b+1,0,none⟩) (.inl (.inr rfl)) (.int .i64 (uD xs:Int));have ai:=(jd 0 st (fun k o e ho=>by
   rcases e with e|e
   .subst e;rw[show W.heap[k]?=_ from g] at ho;cases ho;rfl
   .subst e;rw[show W.heap[b+1]?=_ from i2] at ho;cases ho;rfl)).same D _ (Nat.zero_le _) hK rfl
  have hK':((W.setCell ⟨b,0,none⟩ (.int .i64 (xs.length:Int))).setCell ⟨b+1,0,none⟩ (.int .i64 (uD xs:Int))).drew.heap[D]?=some (.deferred (some [])):=ai;have u1:Boxed (W.setCell ⟨b,0,none⟩ (.int .i64 (xs.length:Int))) b 3 (.int .i64 (xs.length:Int)):=setBlock g 0 _;have u2:Boxed (W.setCell ⟨b,0,none⟩ (.int .i64 (xs.length:Int))) (b+1) 3 (.int .i64 (uD xs:Int)):=Boxed.other i2 (by omega) _;have u3:Boxed ((W.setCell ⟨b,0,none⟩ (.int .i64 (xs.length:Int))).setCell ⟨b+1,0,none⟩ (.int .i64 (uD xs:Int))).drew b 3 (.int .i64 (xs.length:Int)):=Boxed.other u1 (by omega) _;have u4:Boxed ((W.setCell ⟨b,0,none⟩ (.int .i64 (xs.length:Int))).setCell ⟨b+1,0,none⟩ (.int .i64 (uD xs:Int))).drew (b+1) 3 (.int .i64 (uD xs:Int)):=setBlock u2 0 _;refine⟨by simp,.inl ⟨_,_,rfl,run_takeDeferred hK',?_⟩⟩;have C:=cell_kept u3.cell (grownBy_putObj' _ D (.deferred none)) (fun r e=>by cases e;exact⟨_,hK',rfl⟩);have E:=cell_kept u4.cell (grownBy_putObj' _ D (.deferred none)) (fun r e=>by cases e;exact⟨_,hK',rfl⟩);have hl:xs.length=t.size:=by have:=congrArg List.length hS;rw[List.length_map,lH] at this;exact this
  refine⟨.tuple #[.int .i64 (xs.length:Int),.int .i64 (uD xs:Int)],?_,?_⟩
  .simp [results,Tryz.f194,go_sem,C,E]
  .refine ⟨by rw[I,J,hl,adO hS],?_⟩;have aD:Ext w ((W.setCell ⟨b,0,none⟩ (.int .i64 (xs.length:Int))).setCell ⟨b+1,0,none⟩ (.int .i64 (uD xs:Int))).drew:=((qV i3 (by omega)).jJ (show w.heap.size<=b by omega) _).jJ (show w.heap.size<=b+1 by omega) _|>.drew;exact aD.trans' (au.jQ (grownBy_putObj' _ D (.deferred none))) (fun i hi e=>by cases e;omega)
 case stop=>
  rintro D c pre W _ _ h _;exact h.elim
end
theorem Hu (d:Nat) (x:Tm): ∀(L:List Tm) (left:Int),0<=left->smalls aC d left (L++[x])=if smalls aC d left L<0 then smalls aC d left L else small aC d (smalls aC d left L) x
 |[],left,h=>by
  simp only[List.nil_append,smalls];have hn: ¬left<0:=by omega
  simp only[hn,if_false];split<;>rfl
 |a::L,left,h=>by
  simp only[List.cons_append,smalls];by_cases hn:small aC d left a<0
  .simp only [hn,if_true]
  .simp only [hn,if_false];exact Hu d x L _ (by omega)
theorem JF (d:Nat) (M:List Tm): ∀(L:List Tm) (left:Int),0<=left->smalls aC d left L<0->smalls aC d left (L++M)=smalls aC d left L
 |[],left,h,b=>by simp only[smalls] at b;omega
 |a::L,left,h,b=>by
  simp only[List.cons_append,smalls] at b⊢;by_cases hn:small aC d left a<0
  .rw [if_pos hn,if_pos hn]
  .rw [if_neg hn] at b⊢;rw[if_neg hn];exact JF d M L _ (by omega) b
theorem ZQ (d:Nat) (left:Int) (t:Tm): -1<=small aC d left t/\(small aC d left t<=left\/small aC d left t= -1):=by
 rw[JG];have:=size_pos t;split
 .rename_i h;exact⟨by omega,.inl (by omega)⟩
 .exact ⟨by omega,.inr rfl⟩
theorem Py (t:Tm) (v:Value) (w:World) (g:dI w) (hR:bQ (fun k=>k<w.heap.size) w t v) (h:(t.size:Int)<=1000000000000):Calls Tryz.prog 145 #[v] w fun e w'=>e= .returned (.int .i64 (yD t:Nat))/\Ext w w':=by
 have i:=ae hR;obtain⟨a,cap,rfl,j⟩:=hR;dsimp only[tV];have c:=ae ((uR w).alloc (tO t a cap));have hb:=aj w (tO t a cap);have d:=ae (fun W (hW:Ext w W)=>Xx t _ W (aT g hW) ((i.o.ext hW).weaken (bW hW)) h);dsimp only[tV] at d;obtain⟨l,c1,c2⟩:=ah hb;clear j hb;generalize yD t=X at*;generalize Ht t=Y at*;go_enter Tryz.func145,Tryz.ntmps145;go_wp2_with fail;refine(d.o _ c.o).mono ?_;rintro e p ⟨rfl,b⟩;have n:=ae (c.o.ext b);clear b l c1 c2;go_wp2_with fail;go_ret;exact⟨rfl,n.o⟩
theorem Bj: ∀(t:Tm) (d:Nat) (left:Int) (v:Value) (S:Nat->Prop) (w:World),bQ S w t v->d<=1000-> -1<=left->left<=1000->
  Calls Tryz.prog 83 #[v,.int .i64 (d:Int),.int .i64 left] w fun e w'=>e= .returned (.int .i64 (small aC d left t))/\Ext w w':=by
 refine Tm.ind (fun nm so L aq=>?_);intro d left v S w hR hd aR aS;obtain⟨a,cap,rfl,Q⟩:=hR;dsimp only[tV,Tm.name,Tm.sort,Tm.kids] at Q⊢;have aL:=ae Q;have Z:=ae aq;clear aq Q;have p:=ae ((uR w).alloc (af nm so a L.length cap));have z:=ae (aj w (af nm so a L.length cap));obtain⟨i,c1,c2⟩:=ah z.o;have aF: ∀b,lZ aC (.mk nm so L,d)=b->lZ aC (.mk nm so L,d)=b:=fun _ h=>h;have aa:lZ aC (.mk nm so L,d)=(decide (d<=60)&&(aC nm&&(decide (L.length<=6)&&(decide (so=ai)||(aC so&&decide (L.length=0)))))):=rfl;have q:=ae aa;clear aF aa;by_cases h1:left<=0
 .have t1:decide (left<=0)=true:=dT h1;have hr:small aC d left (.mk nm so L)= -1:=by
   rw[oZ,if_pos (.inl h1)]
  rw[hr];go_enter Tryz.func83,Tryz.ntmps83;go_wp2_with fail;go_ret;exact⟨rfl,p.o⟩
 have t1:decide (left<=0)=false:=dF h1;by_cases ar:60<d
 .have t2:decide ((60:Int)< (d:Int))=true:=dT (by omega);have aG:decide (60<d)=true:=dT ar;have hr:small aC d left (.mk nm so L)= -1:=by
   rw[oZ,if_pos (.inr (by rw[q.o,dF (show ¬d<=60 by omega),Bool.false_and]))]
  rw[hr];go_enter Tryz.func83,Tryz.ntmps83;go_wp2_with fail;go_ret;exact⟨rfl,p.o⟩
 have t2:decide ((60:Int)< (d:Int))=false:=dF (by omega);have aG:decide (60<d)=false:=dF ar;have au:decide (d<=60)=true:=dT (by omega);by_cases av:6<L.length
 .have t3:decide ((6:Int)< (L.length:Int))=true:=dT (by omega);have aM:decide (6<L.length)=true:=dT av;have hr:small aC d left (.mk nm so L)= -1:=by
   rw[oZ,if_pos (.inr (by rw[q.o,dF (show ¬L.length<=6 by omega)];simp))]
  rw[hr];go_enter Tryz.func83,Tryz.ntmps83;go_wp2_with fail;go_ret;exact⟨rfl,p.o⟩
 have t3:decide ((6:Int)< (L.length:Int))=false:=dF (by omega);have aM:decide (6<L.length)=false:=dF av;have aw:decide (L.length<=6)=true:=dT (by omega);have y:=ae (fun W=>zY nm W);cases A:aC nm
 .rw [A] at y;have hr:small aC d left (.mk nm so L)= -1:=by
   rw[oZ,if_pos (.inr (by rw[q.o,A];simp))]
  rw[hr];go_enter Tryz.func83,Tryz.ntmps83;go_wp2_with fail;refine(y.o _).mono ?_;rintro e H ⟨rfl,c⟩;have n:=ae (p.o.ext c);have j:=z.o;have l:=ae (c.heap j id);clear c j i c1 c2;obtain⟨i,c1,c2⟩:=ah l.o;go_wp2_with fail;go_ret;exact⟨rfl,n.o⟩
 rw[A] at y;by_cases N:so.size=0
 .have ab:=gJ _ N;have I:small aC d left (.mk nm so L)=smalls aC (d+1) (left-1) L:=by
   rw[oZ];refine if_neg ?_;rintro(h|h)
   .omega
   .rw [q.o,au,A,aw,dT (show so=ai from ab)] at h;cases h
  subst ab;go_enter Tryz.func83,Tryz.ntmps83;go_wp2_with fail;refine(y.o _).mono ?_;rintro e H ⟨rfl,c⟩;have n:=ae (p.o.ext c);have j:=z.o;have l:=ae (c.heap j id);clear c j i c1 c2;obtain⟨i,c1,c2⟩:=ah l.o;go_wp2_with fail;clear i c1 c2;go_loopg [2,7] L.length (fun gk lv R wr=> ∃(k:Nat) (cur:Int),lv= .int .i64 cur/\R= .int .i64 (k:Int)/\gk=L.length-k/\k<=L.length/\Hid (smalls aC (d+1) (left-1) (L.take k)=cur)/\0<=cur/\cur<=1000/\Hid (Ext w wr)/\Hid (wr.heap[w.heap.size]?=some (af nm ⟨#[]⟩ a L.length cap)));case atStart=>exact⟨0,left-1,by first|rfl|go_num,rfl,rfl,Nat.zero_le _,ae rfl,by omega,by omega,n,l⟩
  case round=>
   obtain⟨k,cur,rfl,rfl,rfl,hk,ax,aT,aH,D,J⟩:=hrel;have c2:=ag J.o 2 (.slice a L.length cap) rfl;by_cases B:k<L.length
   .obtain ⟨g,off,rfl,_,ad⟩:=(aL.o.ext D.o).at_ (by omega);obtain⟨a',aE,aN,az,aA,aB⟩:=ad k B;obtain⟨z0,aX,z2,aU⟩:=bH B;have Y:tg L k∈L:=by unfold tg;rw[gZ B];exact List.getElem_mem B
    have ak:L.take (k+1)=L.take k++[tg L k]:=by
     rw[List.take_add_one];have:L[k]?.toList=[tg L k]:=by unfold tg;rw[List.getD_eq_getElem?_getD,List.getElem?_eq_getElem B];rfl
     rw[this]
    have al:L=L.take (k+1)++L.drop (k+1):=(List.take_append_drop _ _).symm;have E:=ae (Z.o (tg L k) Y (d+1) cur _ S wr ⟨a',aE,rfl,aB⟩ (by omega) (by omega) aH);have F:=Hu (d+1) (tg L k) (L.take k) (left-1) (by omega);rw[ax.o,if_neg (show ¬cur<0 by omega),<-ak] at F;have aI:=ZQ (d+1) cur (tg L k);have an:=ae (JF (d+1) (L.drop (k+1)) (L.take (k+1)) (left-1) (by omega));rw[<-al] at an;generalize tg L k=x at*;rw[<-Nat.add_assoc] at az aA;dsimp only[tV] at E;rw[show(((d+1:Nat)):Int)=(d:Int)+1 by omega] at E;have aV:IntKind.i64.wrap ((d:Int)+1)=(d:Int)+1:=IntWalk.i64_in _ (by omega);obtain⟨r,ao⟩:=ay (small aC (d+1) cur x);rw[ao] at E F aI;have T:=ae F;clear F ao ak al Y aB ad;go_wp2_with fail;refine E.o.mono ?_;rintro e aY ⟨rfl,O⟩;have aD:=ae (D.o.ext O);have aO:=ae (O.heap J.o id);clear O c2 aN az aA E;by_cases P:r<0
    .have aJ:decide (r<0)=true:=dT P;have U:Hid (small aC d left (.mk nm ⟨#[]⟩ L)=r):=ae (by rw[I,an.o (by rw[T.o];exact P),T.o]);go_wp2_with fail;go_ret;rw[U.o];exact⟨rfl,aD.o⟩
    .have aJ:decide (r<0)=false:=dF P;go_wp2_with fail;go_roundg (L.length- (k+1));case measure=>omega
     case rel=>exact⟨k+1,r,rfl,by go_num,rfl,by omega,T,by omega,by omega,aD,aO⟩
   .obtain rfl:k=L.length:=by omega
    have U:Hid (small aC d left (.mk nm ⟨#[]⟩ L)=cur):=ae (by rw[I,<-ax.o,List.take_length]);have z2:decide ((L.length:Int)< (L.length:Int))=false:=dF (by omega);go_wp2_with fail;go_ret;rw[U.o];exact⟨rfl,D.o⟩
 have V:decide (so=ai)=false:=dF (fun e=>N (by rw[e];rfl));obtain⟨aZ,a1,a6,a7⟩:=eG so (Nat.pos_of_ne_zero N);by_cases aP:0<L.length
 .have t7:decide ((0:Int)< (L.length:Int))=true:=dT (by omega);have aW:decide (0<L.length)=true:=dT aP;have hr:small aC d left (.mk nm so L)= -1:=by
   rw[oZ,if_pos (.inr (by rw[q.o,V,dF (show ¬L.length=0 by omega)];simp))]
  rw[hr];clear hr q Z;generalize L.length=a8 at*;go_enter Tryz.func83,Tryz.ntmps83;go_wp2_with fail;refine(y.o _).mono ?_;rintro e H ⟨rfl,c⟩;have n:=ae (p.o.ext c);have j:=z.o;have l:=ae (c.heap j id);clear c j i c1 c2;obtain⟨i,c1,c2⟩:=ah l.o;go_wp2_with fail;go_ret;exact⟨rfl,n.o⟩
 have aK:L=[]:=List.eq_nil_of_length_eq_zero (by omega);subst aK;have K:=ae (fun W=>zY so W);cases G:aC so
 .rw [G] at K;have hr:small aC d left (.mk nm so [])= -1:=by
   rw[oZ,if_pos (.inr (by rw[q.o,V,G];simp))]
  rw[hr];go_enter Tryz.func83,Tryz.ntmps83;go_wp2_with fail;refine(y.o _).mono ?_;rintro e H ⟨rfl,c⟩;have n:=ae (p.o.ext c);have j:=z.o;have l:=ae (c.heap j id);clear c j i c1 c2;obtain⟨i,c1,c2⟩:=ah l.o;go_wp2_with fail;refine(K.o _).mono ?_;rintro e aQ ⟨rfl,u⟩;have X:=ae (n.o.ext u);have C:=l.o;have M:=ae (u.heap C id);clear u C i c1 c2;obtain⟨i,c1,c2⟩:=ah M.o;go_wp2_with fail;go_ret;exact⟨rfl,X.o⟩
 rw[G] at K;have I:small aC d left (.mk nm so [])=smalls aC (d+1) (left-1) []:=by
  rw[oZ];refine if_neg ?_;rintro(h|h)
  .omega
  .rw [q.o,au,A,aw,V,G] at h;cases h
 go_enter Tryz.func83,Tryz.ntmps83;go_wp2_with fail;refine(y.o _).mono ?_;rintro e H ⟨rfl,c⟩;have n:=ae (p.o.ext c);have j:=z.o;have l:=ae (c.heap j id);clear c j i c1 c2;obtain⟨i,c1,c2⟩:=ah l.o;go_wp2_with fail;refine(K.o _).mono ?_;rintro e aQ ⟨rfl,u⟩;have X:=ae (n.o.ext u);have C:=l.o;have M:=ae (u.heap C id);clear u C i c1 c2;obtain⟨i,c1,c2⟩:=ah M.o;go_wp2_with fail;clear i c1 c2;go_loopg [2,7] 1 (fun gk lv R wr=>lv= .int .i64 (left-1)/\R= .int .i64 0/\gk=1/\Hid (Ext w wr)/\Hid (wr.heap[w.heap.size]?=some (af nm so a (([]:List Tm).length) cap)));case atStart=>exact⟨by first|rfl|go_num,rfl,rfl,X,M⟩
 case round=>
  obtain⟨rfl,rfl,rfl,D,J⟩:=hrel;have c2:=ag J.o 2 (.slice a ([]:List Tm).length cap) rfl;go_wp2_with fail;go_ret;rw[I];exact⟨rfl,D.o⟩
end Go.Proofs.YtlkcjmaiahnodaaGreatDoor
