/- The texts OT CF RI OG Steps, one behind the other. -/
import Derived.Test.YtlkcjmaiahnodaaGreatDoorSAB
import Derived.Test.YtlkcjmaiahnodaaGreatDoorRows
import Derived.Lib.SmallJoins
import Derived.OpenShut
import Derived.Deep.SlicePairs
import Derived.ProofKit
import Derived.SizedLaws
import Derived.Test.YtlkcjmaiahnodaaGreatDoorSAH
import Derived.Test.YtlkcjmaiahnodaaGreatDoorTie
import Derived.Test.YtlkcjmaiahnodaaGreatDoorCards
import Derived.WalkKit
import Derived.Handy
import Derived.Lay
import Derived.MakeChecks
import Derived.LaidSub
import Derived.SevenTiedAt
import Derived.Test.YtlkcjmaiahnodaaGreatDoorSAC
import Derived.Test.YtlkcjmaiahnodaaGreatDoorSAA
import Derived.Test.YtlkcjmaiahnodaaGreatDoorSAU
set_option linter.unusedVariables false
set_option linter.unusedSimpArgs false
set_option maxRecDepth 100000
set_option maxHeartbeats 8000000
namespace Go.Proofs.YtlkcjmaiahnodaaGreatDoor
open Go.RowKit Go.Hw Go Tm
section
open Go.ChangeShapes Go.WideShapes Go.Deep Go.Joins Go.ChangeAt
theorem Tryz.own:ownKnob Tryz.prog.godebug=none:=by kernel_rfl
theorem Tryz.laidOut:laidOutB Tryz.prog=true:=by kernel_rfl
theorem cells25:Tryz.prog.cellsOf 24=3:=by kernel_rfl
theorem cells9:Tryz.prog.cellsOf 9=1:=by kernel_rfl
theorem cells23:Tryz.prog.cellsOf 22=1:=by kernel_rfl
theorem cells38:Tryz.prog.cellsOf 146=6:=by kernel_rfl
theorem Lc (b o k:Nat):(⟨b,o,none⟩:Addr).add k=⟨b,o+k,none⟩:=by
 unfold Addr.add;split
 .rename_i h;subst h;rfl
 .rfl
theorem Td {α:Type} (f:α->Value): ∀l:List α,l.flatMap (fun s=>[f s])=l.map f
 |[]=>rfl
 |a::l=>by rw[List.flatMap_cons,Td f l];rfl
theorem Tf {α:Type} (cells:α->List Value) {k:Nat} (hc: ∀a,(cells a).length=k): ∀l:List α,(l.flatMap cells).length=l.length*k
 |[]=>by simp
 |a::l=>by rw[List.flatMap_cons,List.length_append,hc,Tf cells hc l,List.length_cons,Nat.add_mul,Nat.one_mul,Nat.add_comm]
theorem flat_get {α:Type} [Inhabited α] (cells:α->List Value) {k:Nat} (hc: ∀a,(cells a).length=k): ∀(l:List α) (q r:Nat),q<l.length->r<k->(l.flatMap cells)[q*k+r]?=(cells (l.getD q default))[r]?
 |[],q,r,h,_=>by simp at h
 |a::l,0,r,_,hr=>by
  rw[List.flatMap_cons,Nat.zero_mul,Nat.zero_add,List.getElem?_append_left (by rw[hc];exact hr)];rfl
 |a::l,q+1,r,h,hr=>by
  rw[List.flatMap_cons,List.getElem?_append_right (by rw[hc,Nat.add_mul];omega),hc,show(q+1)*k+r-k=q*k+r by rw[Nat.add_mul];omega];rw[flat_get cells hc l q r (by simpa using h) hr];rfl
section
variable {H:Type} {enc:TypeId×Value->H} {W:World}
noncomputable abbrev Vk (enc:TypeId×Value->H) (W:World) (held:Bool) (fuel:Nat) (t:TypeId) (cs:List Value):=DataW.trod enc Tryz.prog W 0 (fun _=>true) held fuel t cs
theorem Hg {t e:TypeId} {k:Nat} {α:Type} [Inhabited α] (cells:α->List Value) (R:α->Prop) (I:Tryz.prog.underlying t=some (.slice e)) (hk:Tryz.prog.cellsOf e=k) (hc: ∀a,(cells a).length=k) (g:0<k)
  {held:Bool} {fuel:Nat} {v:Value} {y:DataW H×List MemPlace} (F: ∀n cs y,n<fuel->Vk enc W held n e cs=some y->∃a,cs=cells a/\R a) (h:Vk enc W held fuel t [v]=some y):
  ∃l:List α,aB (fun b=>b<W.heap.size) W k v l.length (l.flatMap cells)/\l.length<=maxLen/\∀a∈l,R a:=by
 rcases DataW.trod_slice I h with⟨hcs,_⟩|⟨a,len,cap,elems,rest,n,L,hcs,_,_,hl,hm,hlen,z,_⟩
 .simp only [List.cons.injEq,and_true] at hcs;subst hcs;exact⟨[],aB.nil _ _ _,by simp,by simp⟩
 .simp only [List.cons.injEq,and_true] at hcs;subst hcs;rw[hk] at z;have hA: ∀i,∃f:α,i<len->(∃cs',W.cells? 0 (a.add (i*k)) k=some cs'/\cs'=cells f)/\R f:=fun i=>by
   by_cases hi:i<len
   .have h1:=z i hi;rw[List.getElem?_eq_getElem (by omega)] at h1;obtain⟨cs',x,J⟩:=Option.bind_eq_some_iff.1 h1;obtain⟨f,hf,hr⟩:=F n cs' _ (by omega) J;exact⟨f,fun _=>⟨⟨cs',x,hf⟩,hr⟩⟩
   .exact ⟨default,fun h=>absurd h hi⟩
  obtain⟨A,B⟩:=Classical.axiomOfChoice hA;have c:((List.range len).map A).length=len:=by simp
  have hx: ∀i r,i<len->r<k->W.cell? ((a.add (i*k)).add r)=(cells (A i))[r]?:=fun i r hi hr=>by
   obtain⟨⟨cs',h1,x⟩,_⟩:=B i hi;rw[<-x];exact(World.cells?_some h1).2.2 r hr
  have C:0<len->∃u,W.cell? ((a.add (0*k)).add 0)=some u:=fun h0=>by
   rw[hx 0 0 h0 g];exact⟨_,List.getElem?_eq_getElem (by rw[hc];exact g)⟩
  have D:0<len->a.spot=none:=fun h0=>by
   obtain⟨u,hu⟩:=C h0;have:=World.cell?_spot hu;simpa[Addr.add] using this
  have G:0<len->a.block<W.heap.size:=fun h0=>by
   obtain⟨u,hu⟩:=C h0;have:=World.block_lt_of_cell? W _ hu;simpa[Addr.add] using this
  refine⟨(List.range len).map A,?_,by rw[c];omega,fun p hp=>?_⟩
  .rw [c];refine⟨by rw[Tf cells hc,c],.inr ⟨a,cap,rfl,hl,fun h0=>⟨D h0,G h0⟩,fun j K=>?_⟩⟩;have d:j / k<len:=Nat.div_lt_of_lt_mul (by rw[Nat.mul_comm];exact K);have o:j % k<k:=Nat.mod_lt _ g;have w:j=j / k*k+j % k:=by rw[Nat.mul_comm];exact(Nat.div_add_mod j k).symm
   generalize j / k=q at d w;generalize j % k=r at o w;subst w;rw[flat_get cells hc _ q r (by rw[c];exact d) o];have e:((List.range len).map A).getD q default=A q:=by simp[d]
   rw[e,<-hx q r d o];have E:=D (by omega);obtain⟨ab,N,M⟩:=a;simp only at E;subst E;rw[Lc,Lc,Nat.add_assoc]
  .simp only [List.mem_map,List.mem_range] at hp;obtain⟨i,hi,rfl⟩:=hp;exact(B i hi).2
abbrev Tu:=Tm×Value
def xA (p:Tu):List Value:=[.string p.1.name,.string p.1.sort,p.2]
def wu (W:World) (p:Tu):Prop:=aG (fun b=>b<W.heap.size) W p.1.kids p.2
theorem OJ: ∀l:List Tu,l.flatMap xA=dK (l.map (·.1)) (l.map (·.2))
 |[]=>rfl
 |p::l=>by
  rw[List.flatMap_cons,OJ l];rfl
theorem aeP {l:List Tu} {v:Value} (h:aB (fun b=>b<W.heap.size) W 3 v l.length (l.flatMap xA)) (hR: ∀p∈l,wu W p):aG (fun b=>b<W.heap.size) W (l.map (·.1)) v:=by
 rw[OJ] at h;refine .mk _ (l.map (·.2)) v (by simp) (by rw[List.length_map];exact h) (fun i hi=>?_);rw[List.length_map] at hi;have h1:=hR _ (List.getElem_mem hi);unfold wu at h1;have a:tg (l.map (·.1)) i=(l[i]).1:=by unfold tg;simp[hi]
 have c:ug (l.map (·.2)) i=(l[i]).2:=by unfold ug;simp[hi]
 rw[a,c];exact h1
theorem MS (fuel:Nat): ∀{held:Bool} (cs:List Value) (y:DataW H×List MemPlace),Vk enc W held fuel 24 cs=some y->∃p:Tu,cs=xA p/\wu W p:=by
 induction fuel using Nat.strongRecOn with
 |_ fuel e=>
  intro held cs y h;obtain⟨xs,n,g,hx,a,d,hf⟩:=DataW.trod_struct Tryz.underlying24 h;rw[cells25] at a;match cs,a,xs,d with
  |[v0,v1,v2],_,[i,j,k],_=>
   have g0:=hf 0 _ rfl;have g1:=hf 1 _ rfl;have g2:=hf 2 _ rfl;simp[cells9,cells23] at g0 g1 g2;obtain⟨s0,b,_,_⟩:=DataW.trod_string Tryz.underlying9 g0;obtain⟨s1,c,_,_⟩:=DataW.trod_string Tryz.underlying9 g1;simp only[List.cons.injEq,and_true] at b c;subst b;subst c;obtain⟨l,hl,_,hR⟩:=Hg (α:=Tu) xA (wu W) Tryz.underlying22 cells25 (fun _=>rfl) (by decide) (fun n' cs' y' hn h'=>e n' (by omega) cs' y' h') g2;exact⟨((Tm.mk s0 s1 (l.map fun(x:Tu)=>x.1),v2):Tu),rfl,aeP hl hR⟩
theorem Xj {v:Value} {d:DataW H} {ps:List MemPlace} (h:DataW.Trod enc Tryz.prog W 0 (fun _=>true) true 24 v d ps) (hv: ∃a b c,v= .agg #[a,b,c]/\v.cells= #[a,b,c]): ∃t:Tm,bQ (fun b=>b<W.heap.size) W t v:=by
 obtain⟨fuel,hf⟩:=h;obtain⟨a,b,c,rfl,hc⟩:=hv;rw[hc] at hf;obtain⟨p,hp,hR⟩:=MS fuel _ _ hf;unfold xA at hp;simp only[List.cons.injEq,and_true] at hp;obtain⟨rfl,rfl,rfl⟩:=hp;exact⟨p.1,bQ.of hR⟩
abbrev Ru:=Tu×Tu
def yX (p:Ru):List Value:=xA p.1++xA p.2
theorem aeQ (fuel:Nat) {held:Bool} (cs:List Value) (y:DataW H×List MemPlace) (h:Vk enc W held fuel 146 cs=some y): ∃p:Ru,cs=yX p/\wu W p.1/\wu W p.2:=by
 obtain⟨xs,n,e,hx,a,b,hf⟩:=DataW.trod_struct Tryz.underlying146 h;rw[cells38] at a;match cs,a,xs,b with
 |[v0,v1,v2,v3,v4,v5],_,[g,i],_=>
  have g0:=hf 0 _ rfl;have g1:=hf 1 _ rfl;simp[cells25] at g0 g1;obtain⟨p,hp,h1⟩:=MS _ _ _ g0;obtain⟨q,c,d⟩:=MS _ _ _ g1;refine⟨(p,q),?_,h1,d⟩;unfold yX;rw[<-hp,<-c];rfl
theorem Xa {v:Value} {d:DataW H} {ps:List MemPlace} (h:DataW.Trod enc Tryz.prog W 0 (fun _=>true) true 50 v d ps) (hs: ∃a len cap,v= .slice a len cap): ∃l:List Ru,aB (fun b=>b<W.heap.size) W 6 v l.length (l.flatMap yX)/\l.length<=maxLen/\∀p∈l,wu W p.1/\wu W p.2:=by
 obtain⟨fuel,hf⟩:=h;obtain⟨a,len,cap,rfl⟩:=hs;exact Hg (α:=Ru) yX (fun p=>wu W p.1/\wu W p.2) Tryz.underlying50 cells38 (fun _=>rfl) (by decide) (fun n' cs' y' hn h'=>aeQ n' cs' y' h') hf
end
end
section
open Go.ChangeShapes Go.WideShapes Go.ChangeAt
def GG:List (String×DataW Unit):=[("unicode.White_Space",Rows.laid_unicode_White_Space),("strings.asciiSpace",Rows.laid_strings_asciiSpace)]
open Go.Deep Go.Joins Tm
theorem ZB:(Rows.laid_strings_asciiSpace:DataW Unit)=Lib.tabData .u8 Lib.asciiSpaceTab:=by kernel_rfl
theorem Xi:(GG.filter fun x=>x.1== "strings.asciiSpace")=[("strings.asciiSpace",Lib.tabData .u8 Lib.asciiSpaceTab)]:=by
 rw[<-ZB];kernel_rfl
theorem TD {W:World} (h:laidMetH Tryz.prog GG W):dI W:=by
 rw[MakeChecks.laidMetH_plain _ _ _ (by kernel_rfl)] at h;have a:=laidMet.filter (fun x=>x.1== "strings.asciiSpace") h;rw[Xi] at a;exact Lib.tabIs_of_head (g:=(Tryz.prog.globalNamed "strings.asciiSpace").getD 0) (t:=260) (e:=5) (n:=256) (by kernel_rfl) (by kernel_rfl) (by kernel_rfl) (by kernel_rfl) (by kernel_rfl) (by kernel_rfl) a
theorem adF {H:Type} {enc:TypeId×Value->H} {W:World} {r:Reach} {b0:Nat} {v:Value} {d:DataW H} {ps:List MemPlace} (hv:Value.okWide Tryz.prog W r b0 24 v) (h:DataW.Trod enc Tryz.prog W 0 (fun _=>true) true 24 v d ps): ∃t:Tm,bQ (fun b=>b<W.heap.size) W t v:=
 Xj h (by
  obtain⟨cs,rfl,a⟩:=okWide_struct Tryz.underlying24 hv;obtain⟨c,c1,c2,rfl⟩:=array3 (a.trans (by kernel_rfl));exact⟨c,c1,c2,rfl,by simp[Value.cells]⟩)
end
def Gw (l:List Ru):List Rl:=l.map fun p=>(p.1.1,p.2.1)
theorem OM: ∀l:List Ru,l.flatMap yX=dK (IG (Gw l)) (l.flatMap fun p=>[p.1.2,p.2.2])
 |[]=>rfl
 |p::l=>by
  rw[List.flatMap_cons,OM l];rfl
theorem adC: ∀l:List Ru,(l.flatMap fun p=>[p.1.2,p.2.2]).length=2*l.length
 |[]=>rfl
 |p::l=>by
  rw[List.flatMap_cons,List.length_append,adC l,List.length_cons];simp;omega
theorem Vm {W:World}: ∀{l:List Ru},(∀p∈l,wu W p.1/\wu W p.2)->∀i,i<2*l.length->aG (fun b=>b<W.heap.size) W (tg (IG (Gw l)) i).kids (ug (l.flatMap fun p=>[p.1.2,p.2.2]) i)
 |[],_,i,h=>absurd h (by simp)
 |p::l,hR,0,_=>(hR p (List.mem_cons_self ..)).1
 |p::l,hR,1,_=>(hR p (List.mem_cons_self ..)).2
 |p::l,hR,i+2,h=>Vm (l:=l) (fun q a=>hR q (List.mem_cons_of_mem _ a)) i (by simp only[List.length_cons] at h;omega)
theorem abL {W:World} {l:List Ru} {v:Value} (h:aB (fun b=>b<W.heap.size) W 6 v l.length (l.flatMap yX)) (hR: ∀p∈l,wu W p.1/\wu W p.2):jH (fun b=>b<W.heap.size) W (Gw l) v:=by
 have hlen:(Gw l).length=l.length:=by unfold Gw;simp
 have a:=Vo (Gw l);have c:=adC l;have hk:=Vm hR;obtain⟨hl,h⟩:=h;rcases h with⟨rfl,h0⟩|⟨ad,cap,rfl,hc,hS,d⟩
 .have:l=[]:=List.eq_nil_of_length_eq_zero h0;subst this;exact⟨none,0,rfl,aG.nil _ _⟩
 .refine ⟨some ad,cap,by rw[hlen],.mk _ (l.flatMap fun p=>[p.1.2,p.2.2]) _ (by rw[c,a,hlen]) ?_ (fun i hi=>hk i (by omega))⟩;rw[a,hlen];refine⟨by rw[Ld,a,hlen],.inr ⟨ad,2*cap,rfl,by omega,fun h=>hS (by omega),fun j e=>?_⟩⟩;rw[<-OM];exact d j (by omega)
section
open Go.ChangeShapes Go.WideShapes Go.Deep Go.Joins Go.ChangeAt
theorem S_:Tryz.prog.cellsOf 77=3:=by kernel_rfl
theorem cells22:Tryz.prog.cellsOf 71=1:=by kernel_rfl
theorem cells58:Tryz.prog.cellsOf 74=2:=by kernel_rfl
abbrev Du:=Dc×Value
def Hf (p:Du):List Value:=[.string p.1.1,p.2,.string p.1.2.2]
def W9 (W:World) (p:Du):Prop:=yA (fun b=>b<W.heap.size) W p.2 p.1.2.1
theorem Tc: ∀l:List Du,l.flatMap Hf=oJ (l.map (·.1)) (l.map (·.2))
 |[]=>rfl
 |p::l=>by
  rw[List.flatMap_cons,Tc l];rfl
theorem aeM {W:World} {l:List Du} {v:Value} (h:aB (fun b=>b<W.heap.size) W 3 v l.length (l.flatMap Hf)) (hR: ∀p∈l,W9 W p):tJ (fun b=>b<W.heap.size) W v (l.map (·.1)):=by
 rw[Tc] at h;refine⟨l.map (·.2),by rw[List.length_map];exact h,fun i hi=>?_⟩;rw[List.length_map] at hi;have h1:=hR _ (List.getElem_mem hi);unfold W9 at h1;have a:dg (l.map (·.1)) i=(l[i]).1:=by unfold dg;simp[hi]
 have c:ug (l.map (·.2)) i=(l[i]).2:=by unfold ug;simp[hi]
 rw[a,c];exact h1
section
variable {H:Type} {enc:TypeId×Value->H} {W:World}
theorem Vj (fuel:Nat) {held:Bool} (v:Value) (y:DataW H×List MemPlace) (h:Vk enc W held fuel 71 [v]=some y): ∃l:List By,yA (fun b=>b<W.heap.size) W v l:=by
 haveI:Inhabited By:=⟨ai⟩
 obtain⟨l,hl,hm,hR⟩:=Hg (α:=By) (fun s=>[.string s]) (fun _=>True) Tryz.underlying71 cells9 (fun _=>rfl) (by decide) (fun n' cs' y' hn h'=>by
  obtain⟨s0,a,_,_⟩:=DataW.trod_string Tryz.underlying9 h';exact⟨s0,a,trivial⟩) h
 refine⟨l,?_⟩;have e:l.flatMap (fun s=>[Value.string s])=l.map Value.string:=Td _ l;unfold yA;rw[<-e];exact hl
theorem aeN (fuel:Nat) {held:Bool} (cs:List Value) (y:DataW H×List MemPlace) (h:Vk enc W held fuel 77 cs=some y): ∃p:Du,cs=Hf p/\W9 W p:=by
 obtain⟨xs,n,e,hx,a,d,hf⟩:=DataW.trod_struct Tryz.underlying77 h;rw[S_] at a;match cs,a,xs,d with
 |[v0,v1,v2],_,[g,i,j],_=>
  have g0:=hf 0 _ rfl;have g1:=hf 1 _ rfl;have g2:=hf 2 _ rfl;simp[cells9,cells22] at g0 g1 g2;obtain⟨s0,b,_,_⟩:=DataW.trod_string Tryz.underlying9 g0;obtain⟨s2,c,_,_⟩:=DataW.trod_string Tryz.underlying9 g2;simp only[List.cons.injEq,and_true] at b c;subst b;subst c;obtain⟨l,hl⟩:=Vj _ _ _ g1;exact⟨((s0,l,s2),v1),rfl,hl⟩
theorem aeO {r:Reach} {b0:Nat} {v:Value} {d:DataW H} {ps:List MemPlace} (hv:Value.okWide Tryz.prog W r b0 74 v) (h:DataW.Trod enc Tryz.prog W 0 (fun _=>true) true 74 v d ps): ∃g:Sg,xN (fun b=>b<W.heap.size) W g v:=by
 obtain⟨v0,v1,o,p,n,rfl,_,_,h0,h1⟩:=open_agg2 Tryz.underlying74 (by kernel_rfl) cells58 hv h;obtain⟨l,hl⟩:=Vj _ _ _ h0
 haveI:Inhabited Du:=⟨((ai,[],ai),rW)⟩
 obtain⟨ds,hd,_,hR⟩:=Hg (α:=Du) Hf (W9 W) Tryz.underlying72 S_ (fun _=>rfl) (by decide) (fun n' cs' y' hn h'=>aeN n' cs' y' h') h1;have a:=aeM hd hR;obtain⟨c,sc,e⟩:=aB.shape hl;obtain⟨i,j,k⟩:=a.shape;subst e;subst k;exact⟨(l,ds.map (·.1)),c,sc,i,j,rfl,hl,a⟩
end
end
section
open Go.ChangeShapes Go.WideShapes Go.ChangeAt
theorem Em (os:Os) (started:os.Started) (H:Type) (enc:TypeId×Value->H):
  ReturnsInHanded {} Tryz.checked os 11 .any (fun w args=>(Rows.rewriteStepsSpec.pre enc Tryz.prog Tryz.f11 [] false w args/\laidMetH Tryz.prog GG w)/\sizedMet enc Tryz.prog Tryz.f11 (OpenSpec.ofChange Rows.rewriteStepsSpec) false w args)
   (Rows.rewriteStepsSpec.post enc Tryz.prog Tryz.f11 false true false false):=by
 refine returnsInHanded_of_change_and (C:=Tryz.checked) (X:=fun w _=>laidMetH Tryz.prog GG w) (fun _ _ _ z h=>h.of_heap z) Tryz.own started (by kernel_rfl) Tryz.func11
  (ChangeSpec.witness_shaped (enc:=enc) (C:=Tryz.checked) (os:=os) (X:=fun w _=>laidMetH Tryz.prog GG w) false (World.laidAll Tryz.prog os GG) #[.agg #[.slice none 0 0,.slice none 0 0],.slice none 0 0,.agg #[.string ⟨#[]⟩,.string ⟨#[]⟩,.slice none 0 0]] 8 (World.laidAll_os _ _ _)
   (World.shaped_of_ZipB (by kernel_rfl) (by kernel_rfl)) (by kernel_rfl) (by kernel_rfl) (by kernel_rfl)
   (by rw[MakeChecks.laidMetH_plain _ _ _ (by kernel_rfl)];exact laidMet_laidAll _ (by kernel_rfl) (by kernel_rfl))) ?_
 intro W base args ds gs before hval0 hW hcnd K A _;have hval: ∀(j:Nat) t v,Tryz.f11.params[j]?=some t->args[j]?=some v->Value.okWide Tryz.prog W .any base t v:=hval0;have a:=hW;obtain⟨p,q,hA0,hV,rfl,L,M⟩:=hW;have hA:DataW.TrodAll enc Tryz.prog W 0 (fun _=>true) true Tryz.f11.params.toList args.toList ds p:=hA0;rw[Tryz.params11] at hA hval;obtain⟨v0,N,d0,O,d,T,J,rfl,rfl,h0,B⟩:=trodAll_cons hA;obtain⟨v1,P,d1,Q,g,U,rfl,rfl,rfl,h1,r1⟩:=trodAll_cons B;obtain⟨v2,R,d2,S,i,V,rfl,rfl,rfl,k,r2⟩:=trodAll_cons r1;obtain⟨rfl,rfl,rfl⟩:=trodAll_nil r2;obtain rfl:args= #[v0,v1,v2]:=by cases args;simp_all
 obtain⟨rfl,rfl⟩:=trodVars_none hV;simp only[List.append_nil] at a;have c: ∀x∈d++(g++i),x.block<W.heap.size:=fun x hx=>by simpa using a.lt x hx
 have D: ∀(W':World),Below W.heap.size W W'->DataW.Trod enc Tryz.prog W' 0 (fun b=>decide (b<W.heap.size)) true 74 v0 d0 d:=
  fun W' hn=>Below.trod Tryz.laidOut (by kernel_rfl) (of_decide_eq_true (by kernel_rfl)) h0 hn (fun x hx=>c x (by simp[hx]))
 have E: ∀(W':World),Below W.heap.size W W'->DataW.Trod enc Tryz.prog W' 0 (fun b=>decide (b<W.heap.size)) true 50 v1 d1 g:=
  fun W' hn=>Below.trod Tryz.laidOut (by kernel_rfl) (of_decide_eq_true (by kernel_rfl)) h1 hn (fun x hx=>c x (by simp[hx]))
 have F: ∀(W':World),Below W.heap.size W W'->DataW.Trod enc Tryz.prog W' 0 (fun b=>decide (b<W.heap.size)) true 24 v2 d2 i:=
  fun W' hn=>Below.trod Tryz.laidOut (by kernel_rfl) (of_decide_eq_true (by kernel_rfl)) k hn (fun x hx=>c x (by simp[hx]))
 obtain⟨g0,l⟩:=aeO (hval 0 74 v0 rfl rfl) h0;obtain⟨G,n,o,r⟩:=Xa h1 (okWide_slice Tryz.underlying50 (hval 1 50 v1 rfl rfl));have u:=abL n r;obtain⟨t2,y⟩:=adF (hval 2 24 v2 rfl rfl) k;have I:=TD A;clear hA0 hval0;refine(abH g0 (Gw G) t2 v0 v1 v2 W l u (by simp only[Gw,List.length_map];exact o) y I).mono fun e W' ⟨he,hx⟩=>?_;subst he;have hn:=Ext.below hx;refine⟨_,rfl,_,_,_,[],d++(g++(i++[])),[],a,?_,?_,rfl,hn.frame _,fun h=>by cases h⟩
 .exact trodAll_cons_mk (shut_bool Tryz.underlying4 true) trodAll_mk0
 .exact trodAll_cons_mk (D _ hn) (trodAll_cons_mk (E _ hn) (trodAll_cons_mk (F _ hn) trodAll_mk0))
theorem rewriteSteps_row_holds:Rows.RewriteStepsSaid:=
 OpenClaim.holds_of_wide 11 Tryz.f11 rfl rfl rfl rfl rfl rfl rfl ⟨rfl,rfl,rfl,rfl,rfl⟩ rfl rfl rfl rfl rfl (by kernel_rfl) Tryz.func11 EX
  (of_decide_eq_true (by kernel_rfl)) (by unfold Func.isWrapper;first|(rw[if_pos (by decide+kernel)];kernel_rfl)|(rw[if_neg (by decide+kernel)];exact⟨rfl,rfl⟩))
  (fun os started H enc _=>Em os started H enc)
theorem rewriteSteps_holds:Rows.RewriteStepsCardSaid:=
 Claim7.holds_tied_plain_at .later [] [.listed,.data] true (true, "cc6e0dfd2657a1d5001888bae87d69dd842751b3419e4c067c8fdf9a6138912c") false rewriteSteps_row_holds (fun _ h=>by cases h) (by kernel_rfl) (fun _ h=>by cases h) rewriteSteps_row_tie rfl ⟨rfl,rfl⟩ (by kernel_rfl) rfl
  (fun f fn hf c=>by
   obtain rfl:f=11:=Option.some.inj ((show Tryz.prog.funcNamed "heartwood/heartwoodlaw06.RewriteSteps" =some 11 by kernel_rfl).symm.trans hf)|>.symm;obtain rfl:fn=Tryz.f11:=(Option.some.inj (Tryz.func11.symm.trans c)).symm;exact⟨by kernel_rfl,fun j t a=>by
    rw[Tryz.params11] at a;have hm:t∈[74,50,24]:=by simpa using Array.mem_of_getElem? a
    have b:([74,50,24].all fun u=>!Tryz.prog.wantsStandIn u)=true:=by kernel_rfl
    exact(show Tryz.prog.wantsStandIn t=false by simpa using List.all_eq_true.1 b t hm)⟩)
  (by kernel_rfl)
#print axioms rewriteSteps_holds
end
end Go.Proofs.YtlkcjmaiahnodaaGreatDoor
