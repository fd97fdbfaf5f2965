/- The texts OT CF RI OX Replays, one behind the other. -/
import Derived.Test.YtlkcjmaiahnodaaGreatDoorYAB
import Derived.Test.YtlkcjmaiahnodaaGreatDoorRows
import Derived.Lib.SmallJoins
import Derived.OpenShut
import Derived.Deep.SlicePairs
import Derived.ProofKit
import Derived.SizedLaws
import Derived.Test.YtlkcjmaiahnodaaGreatDoorYAG
import Derived.Test.YtlkcjmaiahnodaaGreatDoorTie
import Derived.Test.YtlkcjmaiahnodaaGreatDoorCards
import Derived.WalkKit
import Derived.Handy
import Derived.Lay
import Derived.MakeChecks
import Derived.LaidSub
import Derived.SevenTiedAt
import Derived.Test.YtlkcjmaiahnodaaGreatDoorYAC
import Derived.Test.YtlkcjmaiahnodaaGreatDoorYAA
import Derived.Test.YtlkcjmaiahnodaaGreatDoorYAS
set_option linter.unusedVariables false
set_option linter.unusedSimpArgs false
set_option maxRecDepth 100000
set_option maxHeartbeats 8000000
namespace Go.Proofs.YtlkcjmaiahnodaaGreatDoor
open Go.RowKit Go.Hw Go Tm
section
open Go.ChangeShapes Go.WideShapes Go.Deep Go.Joins Go.ChangeAt
theorem Tryz.own:ownKnob Tryz.prog.godebug=none:=by kernel_rfl
theorem Tryz.laidOut:laidOutB Tryz.prog=true:=by kernel_rfl
theorem cells25:Tryz.prog.cellsOf 24=3:=by kernel_rfl
theorem cells9:Tryz.prog.cellsOf 9=1:=by kernel_rfl
theorem cells3:Tryz.prog.cellsOf 3=1:=by kernel_rfl
theorem cells23:Tryz.prog.cellsOf 22=1:=by kernel_rfl
theorem cells38:Tryz.prog.cellsOf 146=6:=by kernel_rfl
theorem IL (b o k:Nat):(⟨b,o,none⟩:Addr).add k=⟨b,o+k,none⟩:=by
 unfold Addr.add;split
 .rename_i h;subst h;rfl
 .rfl
theorem O_ {α:Type} (f:α->Value): ∀l:List α,l.flatMap (fun s=>[f s])=l.map f
 |[]=>rfl
 |a::l=>by rw[List.flatMap_cons,O_ f l];rfl
theorem Pg {α:Type} (cells:α->List Value) {k:Nat} (hc: ∀a,(cells a).length=k): ∀l:List α,(l.flatMap cells).length=l.length*k
 |[]=>by simp
 |a::l=>by rw[List.flatMap_cons,List.length_append,hc,Pg cells hc l,List.length_cons,Nat.add_mul,Nat.one_mul,Nat.add_comm]
theorem flat_get {α:Type} [Inhabited α] (cells:α->List Value) {k:Nat} (hc: ∀a,(cells a).length=k): ∀(l:List α) (q r:Nat),q<l.length->r<k->(l.flatMap cells)[q*k+r]?=(cells (l.getD q default))[r]?
 |[],q,r,h,_=>by simp at h
 |a::l,0,r,_,hr=>by
  rw[List.flatMap_cons,Nat.zero_mul,Nat.zero_add,List.getElem?_append_left (by rw[hc];exact hr)];rfl
 |a::l,q+1,r,h,hr=>by
  rw[List.flatMap_cons,List.getElem?_append_right (by rw[hc,Nat.add_mul];omega),hc,show(q+1)*k+r-k=q*k+r by rw[Nat.add_mul];omega];rw[flat_get cells hc l q r (by simpa using h) hr];rfl
section
variable {H:Type} {enc:TypeId×Value->H} {W:World}
noncomputable abbrev Ry (enc:TypeId×Value->H) (W:World) (held:Bool) (fuel:Nat) (t:TypeId) (cs:List Value):=DataW.trod enc Tryz.prog W 0 (fun _=>true) held fuel t cs
theorem EK {t e:TypeId} {k:Nat} {α:Type} [Inhabited α] (cells:α->List Value) (R:α->Prop) (ht:Tryz.prog.underlying t=some (.slice e)) (hk:Tryz.prog.cellsOf e=k) (hc: ∀a,(cells a).length=k) (hk0:0<k)
  {held:Bool} {fuel:Nat} {v:Value} {y:DataW H×List MemPlace} (hel: ∀n cs y,n<fuel->Ry enc W held n e cs=some y->∃a,cs=cells a/\R a) (h:Ry enc W held fuel t [v]=some y):
  ∃l:List α,aA (fun b=>b<W.heap.size) W k v l.length (l.flatMap cells)/\l.length<=maxLen/\∀a∈l,R a:=by
 rcases DataW.trod_slice ht h with⟨hcs,_⟩|⟨a,len,cap,elems,rest,n,hfu,hcs,_,_,hl,hm,hlen,hall,_⟩
 .simp only [List.cons.injEq,and_true] at hcs;subst hcs;exact⟨[],aA.nil _ _ _,by simp,by simp⟩
 .simp only [List.cons.injEq,and_true] at hcs;subst hcs;rw[hk] at hall;have hA: ∀i,∃f:α,i<len->(∃cs',W.cells? 0 (a.add (i*k)) k=some cs'/\cs'=cells f)/\R f:=fun i=>by
   by_cases hi:i<len
   .have h1:=hall i hi;rw[List.getElem?_eq_getElem (by omega)] at h1;obtain⟨cs',h2,h3⟩:=Option.bind_eq_some_iff.1 h1;obtain⟨f,hf,hr⟩:=hel n cs' _ (by omega) h3;exact⟨f,fun _=>⟨⟨cs',h2,hf⟩,hr⟩⟩
   .exact ⟨default,fun h=>absurd h hi⟩
  obtain⟨A,hA3⟩:=Classical.axiomOfChoice hA;have hlenA:((List.range len).map A).length=len:=by simp
  have hx: ∀i r,i<len->r<k->W.cell? ((a.add (i*k)).add r)=(cells (A i))[r]?:=fun i r hi hr=>by
   obtain⟨⟨cs',h1,h2⟩,_⟩:=hA3 i hi;rw[<-h2];exact(World.cells?_some h1).2.2 r hr
  have hsm:0<len->∃u,W.cell? ((a.add (0*k)).add 0)=some u:=fun h0=>by
   rw[hx 0 0 h0 hk0];exact⟨_,List.getElem?_eq_getElem (by rw[hc];exact hk0)⟩
  have hsp:0<len->a.spot=none:=fun h0=>by
   obtain⟨u,hu⟩:=hsm h0;have:=World.cell?_spot hu;simpa[Addr.add] using this
  have hbk:0<len->a.block<W.heap.size:=fun h0=>by
   obtain⟨u,hu⟩:=hsm h0;have:=World.block_lt_of_cell? W _ hu;simpa[Addr.add] using this
  refine⟨(List.range len).map A,?_,by rw[hlenA];omega,fun p hp=>?_⟩
  .rw [hlenA];refine⟨by rw[Pg cells hc,hlenA],.inr ⟨a,cap,rfl,hl,fun h0=>⟨hsp h0,hbk h0⟩,fun j hj=>?_⟩⟩;have hjq:j / k<len:=Nat.div_lt_of_lt_mul (by rw[Nat.mul_comm];exact hj);have hjr:j % k<k:=Nat.mod_lt _ hk0;have hje:j=j / k*k+j % k:=by rw[Nat.mul_comm];exact(Nat.div_add_mod j k).symm
   generalize j / k=q at hjq hje;generalize j % k=r at hjr hje;subst hje;rw[flat_get cells hc _ q r (by rw[hlenA];exact hjq) hjr];have e:((List.range len).map A).getD q default=A q:=by simp[hjq]
   rw[e,<-hx q r hjq hjr];have h4:=hsp (by omega);obtain⟨ab,ao,asp⟩:=a;simp only at h4;subst h4;rw[IL,IL,Nat.add_assoc]
  .simp only [List.mem_map,List.mem_range] at hp;obtain⟨i,hi,rfl⟩:=hp;exact(hA3 i hi).2
abbrev Tu:=Tm×Value
def uJ (p:Tu):List Value:=[.string p.1.name,.string p.1.sort,p.2]
def tJ (W:World) (p:Tu):Prop:=ay (fun b=>b<W.heap.size) W p.1.kids p.2
theorem KT: ∀l:List Tu,l.flatMap uJ=bY (l.map (·.1)) (l.map (·.2))
 |[]=>rfl
 |p::l=>by
  rw[List.flatMap_cons,KT l];rfl
theorem abJ {l:List Tu} {v:Value} (h:aA (fun b=>b<W.heap.size) W 3 v l.length (l.flatMap uJ)) (hR: ∀p∈l,tJ W p):ay (fun b=>b<W.heap.size) W (l.map (·.1)) v:=by
 rw[KT] at h;refine .mk _ (l.map (·.2)) v (by simp) (by rw[List.length_map];exact h) (fun i hi=>?_);rw[List.length_map] at hi;have h1:=hR _ (List.getElem_mem hi);unfold tJ at h1;have e1:tg (l.map (·.1)) i=(l[i]).1:=by unfold tg;simp[hi]
 have e2:ug (l.map (·.2)) i=(l[i]).2:=by unfold ug;simp[hi]
 rw[e1,e2];exact h1
theorem Ju (fuel:Nat): ∀{held:Bool} (cs:List Value) (y:DataW H×List MemPlace),Ry enc W held fuel 24 cs=some y->∃p:Tu,cs=uJ p/\tJ W p:=by
 induction fuel using Nat.strongRecOn with
 |_ fuel ih=>
  intro held cs y h;obtain⟨xs,n,hfu,hx,hcl,hxl,hf⟩:=DataW.trod_struct Tryz.underlying24 h;rw[cells25] at hcl
  match cs,hcl,xs,hxl with
  |[v0,v1,v2],_,[y0,y1,y2],_=>
   have g0:=hf 0 _ rfl;have g1:=hf 1 _ rfl;have g2:=hf 2 _ rfl;simp[cells9,cells23] at g0 g1 g2;obtain⟨s0,e0,_,_⟩:=DataW.trod_string Tryz.underlying9 g0;obtain⟨s1,e1,_,_⟩:=DataW.trod_string Tryz.underlying9 g1;simp only[List.cons.injEq,and_true] at e0 e1;subst e0;subst e1;obtain⟨l,hl,_,hR⟩:=EK (α:=Tu) uJ (tJ W) Tryz.underlying22 cells25 (fun _=>rfl) (by decide) (fun n' cs' y' hn h'=>ih n' (by omega) cs' y' h') g2;exact⟨((Tm.mk s0 s1 (l.map fun(x:Tu)=>x.1),v2):Tu),rfl,abJ hl hR⟩
theorem Uk {v:Value} {d:DataW H} {ps:List MemPlace} (h:DataW.Trod enc Tryz.prog W 0 (fun _=>true) true 24 v d ps) (hv: ∃a b c,v= .agg #[a,b,c]/\v.cells= #[a,b,c]): ∃t:Tm,bG (fun b=>b<W.heap.size) W t v:=by
 obtain⟨fuel,hf⟩:=h;obtain⟨a,b,c,rfl,hc⟩:=hv;rw[hc] at hf;obtain⟨p,hp,hR⟩:=Ju fuel _ _ hf;unfold uJ at hp;simp only[List.cons.injEq,and_true] at hp;obtain⟨rfl,rfl,rfl⟩:=hp;exact⟨p.1,bG.of hR⟩
abbrev Ru:=Tu×Tu
def wU (p:Ru):List Value:=uJ p.1++uJ p.2
theorem abK (fuel:Nat) {held:Bool} (cs:List Value) (y:DataW H×List MemPlace) (h:Ry enc W held fuel 146 cs=some y): ∃p:Ru,cs=wU p/\tJ W p.1/\tJ W p.2:=by
 obtain⟨xs,n,hfu,hx,hcl,hxl,hf⟩:=DataW.trod_struct Tryz.underlying146 h;rw[cells38] at hcl
 match cs,hcl,xs,hxl with
 |[v0,v1,v2,v3,v4,v5],_,[y0,y1],_=>
  have g0:=hf 0 _ rfl;have g1:=hf 1 _ rfl;simp[cells25] at g0 g1;obtain⟨p,hp,h1⟩:=Ju _ _ _ g0;obtain⟨q,hq,h2⟩:=Ju _ _ _ g1;refine⟨(p,q),?_,h1,h2⟩;unfold wU;rw[<-hp,<-hq];rfl
theorem Ug {v:Value} {d:DataW H} {ps:List MemPlace} (h:DataW.Trod enc Tryz.prog W 0 (fun _=>true) true 50 v d ps) (hs: ∃a len cap,v= .slice a len cap): ∃l:List Ru,aA (fun b=>b<W.heap.size) W 6 v l.length (l.flatMap wU)/\l.length<=maxLen/\∀p∈l,tJ W p.1/\tJ W p.2:=by
 obtain⟨fuel,hf⟩:=h;obtain⟨a,len,cap,rfl⟩:=hs;exact EK (α:=Ru) wU (fun p=>tJ W p.1/\tJ W p.2) Tryz.underlying50 cells38 (fun _=>rfl) (by decide) (fun n' cs' y' hn h'=>abK n' cs' y' h') hf
end
end
section
open Go.ChangeShapes Go.WideShapes Go.ChangeAt
def Ep:List (String×DataW Unit):=[("unicode.White_Space",Rows.laid_unicode_White_Space),("strings.asciiSpace",Rows.laid_strings_asciiSpace)]
open Go.Deep Go.Joins Tm
theorem WZ:(Rows.laid_strings_asciiSpace:DataW Unit)=Lib.tabData .u8 Lib.asciiSpaceTab:=by kernel_rfl
theorem Uj:(Ep.filter fun x=>x.1== "strings.asciiSpace")=[("strings.asciiSpace",Lib.tabData .u8 Lib.asciiSpaceTab)]:=by
 rw[<-WZ];kernel_rfl
theorem Py {W:World} (h:laidMetH Tryz.prog Ep W):cO W:=by
 rw[MakeChecks.laidMetH_plain _ _ _ (by kernel_rfl)] at h;have h2:=laidMet.filter (fun x=>x.1== "strings.asciiSpace") h;rw[Uj] at h2;exact Lib.tabIs_of_head (g:=(Tryz.prog.globalNamed "strings.asciiSpace").getD 0) (t:=260) (e:=5) (n:=256) (by kernel_rfl) (by kernel_rfl) (by kernel_rfl) (by kernel_rfl) (by kernel_rfl) (by kernel_rfl) h2
theorem aaG {H:Type} {enc:TypeId×Value->H} {W:World} {r:Reach} {b0:Nat} {v:Value} {d:DataW H} {ps:List MemPlace} (hv:Value.okWide Tryz.prog W r b0 24 v) (h:DataW.Trod enc Tryz.prog W 0 (fun _=>true) true 24 v d ps): ∃t:Tm,bG (fun b=>b<W.heap.size) W t v:=
 Uk h (by
  obtain⟨cs,rfl,hsz⟩:=okWide_struct Tryz.underlying24 hv;obtain⟨c0,c1,c2,rfl⟩:=array3 (hsz.trans (by kernel_rfl));exact⟨c0,c1,c2,rfl,by simp[Value.cells]⟩)
end
def Ej (l:List Ru):List Rl:=l.map fun p=>(p.1.1,p.2.1)
theorem KU: ∀l:List Ru,l.flatMap wU=bY (FC (Ej l)) (l.flatMap fun p=>[p.1.2,p.2.2])
 |[]=>rfl
 |p::l=>by
  rw[List.flatMap_cons,KU l];rfl
theorem aaE: ∀l:List Ru,(l.flatMap fun p=>[p.1.2,p.2.2]).length=2*l.length
 |[]=>rfl
 |p::l=>by
  rw[List.flatMap_cons,List.length_append,aaE l,List.length_cons];simp;omega
theorem RD {W:World}: ∀{l:List Ru},(∀p∈l,tJ W p.1/\tJ W p.2)->∀i,i<2*l.length->ay (fun b=>b<W.heap.size) W (tg (FC (Ej l)) i).kids (ug (l.flatMap fun p=>[p.1.2,p.2.2]) i)
 |[],_,i,h=>absurd h (by simp)
 |p::l,hR,0,_=>(hR p (List.mem_cons_self ..)).1
 |p::l,hR,1,_=>(hR p (List.mem_cons_self ..)).2
 |p::l,hR,i+2,h=>RD (l:=l) (fun q hq=>hR q (List.mem_cons_of_mem _ hq)) i (by simp only[List.length_cons] at h;omega)
theorem Y5 {W:World} {l:List Ru} {v:Value} (h:aA (fun b=>b<W.heap.size) W 6 v l.length (l.flatMap wU)) (hR: ∀p∈l,tJ W p.1/\tJ W p.2):iJ (fun b=>b<W.heap.size) W (Ej l) v:=by
 have hlen:(Ej l).length=l.length:=by unfold Ej;simp
 have hfl:=RF (Ej l);have hus:=aaE l;have hk:=RD hR;obtain⟨hl,h⟩:=h;rcases h with⟨rfl,h0⟩|⟨ad,cap,rfl,hc,hS,hj⟩
 .have:l=[]:=List.eq_nil_of_length_eq_zero h0;subst this;exact⟨none,0,rfl,ay.nil _ _⟩
 .refine ⟨some ad,cap,by rw[hlen],.mk _ (l.flatMap fun p=>[p.1.2,p.2.2]) _ (by rw[hus,hfl,hlen]) ?_ (fun i hi=>hk i (by omega))⟩;rw[hfl,hlen];refine⟨by rw[IM,hfl,hlen],.inr ⟨ad,2*cap,rfl,by omega,fun h=>hS (by omega),fun j hjj=>?_⟩⟩;rw[<-KU];exact hj j (by omega)
section
open Go.ChangeShapes Go.WideShapes Go.Deep Go.Joins Go.ChangeAt
theorem Rz:Tryz.prog.cellsOf 65=2:=by kernel_rfl
theorem Y3:Tryz.prog.cellsOf 63=1:=by kernel_rfl
abbrev Xu:=Rx×Value
def EL (p:Xu):List Value:=[.int .i64 p.1.1,p.2]
def Uh (W:World) (p:Xu):Prop:=pG (fun b=>b<W.heap.size) W p.2 p.1.2
theorem Ph: ∀l:List Xu,l.flatMap EL=tK (l.map (·.1)) (l.map (·.2))
 |[]=>rfl
 |p::l=>by
  rw[List.flatMap_cons,Ph l];rfl
theorem abL {W:World} {l:List Xu} {v:Value} (h:aA (fun b=>b<W.heap.size) W 2 v l.length (l.flatMap EL)) (hR: ∀p∈l,Uh W p):l7 (fun b=>b<W.heap.size) (fun b=>b<W.heap.size) W v (l.map (·.1)):=by
 rw[Ph] at h;refine⟨l.map (·.2),by simp,by rw[List.length_map];exact h,fun i hi=>?_⟩;rw[List.length_map] at hi;have h1:=hR _ (List.getElem_mem hi);unfold Uh at h1;have e1:xg (l.map (·.1)) i=(l[i]).1:=by unfold xg;simp[hi]
 have e2:ug (l.map (·.2)) i=(l[i]).2:=by unfold ug;simp[hi]
 rw[e1,e2];exact h1
section
variable {H:Type} {enc:TypeId×Value->H} {W:World}
theorem abM (fuel:Nat) {held:Bool} (v:Value) (y:DataW H×List MemPlace) (h:Ry enc W held fuel 63 [v]=some y): ∃l:List Int,pG (fun b=>b<W.heap.size) W v l:=by
 obtain⟨l,hl,hm,hR⟩:=EK (α:=Int) (fun s=>[.int .i64 s]) (fun _=>True) Tryz.underlying63 cells3 (fun _=>rfl) (by decide) (fun n' cs' y' hn h'=>by
  obtain⟨s0,e0,_,w0⟩:=DataW.trod_int Tryz.underlying3 h';exact⟨s0,e0,trivial⟩) h
 refine⟨l,?_⟩;have e:l.flatMap (fun s=>[Value.int .i64 s])=l.map (Value.int .i64):=O_ _ l;unfold pG;rw[<-e];exact hl
theorem agy (fuel:Nat) {held:Bool} (cs:List Value) (y:DataW H×List MemPlace) (h:Ry enc W held fuel 65 cs=some y): ∃p:Xu,cs=EL p/\Uh W p:=by
 obtain⟨xs,n,hfu,hx,hcl,hxl,hf⟩:=DataW.trod_struct Tryz.underlying65 h;rw[Rz] at hcl
 match cs,hcl,xs,hxl with
 |[v0,v1],_,[y0,y1],_=>
  have g0:=hf 0 _ rfl;have g1:=hf 1 _ rfl;simp[cells3,Y3] at g0 g1;obtain⟨s0,e0,_,_⟩:=DataW.trod_int Tryz.underlying3 g0;simp only[List.cons.injEq,and_true] at e0;subst e0;obtain⟨l,hl⟩:=abM _ _ _ g1;exact⟨((s0,l),v1),rfl,hl⟩
theorem WJ {v:Value} {d:DataW H} {ps:List MemPlace} (h:DataW.Trod enc Tryz.prog W 0 (fun _=>true) true 54 v d ps) (hs: ∃a len cap,v= .slice a len cap): ∃l:List Rx,l7 (fun b=>b<W.heap.size) (fun b=>b<W.heap.size) W v l:=by
 obtain⟨fuel,hf⟩:=h;obtain⟨a,len,cap,rfl⟩:=hs
 haveI:Inhabited Xu:=⟨((0,[]),qF)⟩
 obtain⟨ds,hd,_,hR⟩:=EK (α:=Xu) EL (Uh W) Tryz.underlying54 Rz (fun _=>rfl) (by decide) (fun n' cs' y' hn h'=>agy n' cs' y' h') hf;exact⟨_,abL hd hR⟩
end
end
section
open Go.ChangeShapes Go.WideShapes Go.ChangeAt
theorem zQ (os:Os) (started:os.Started) (H:Type) (enc:TypeId×Value->H):
  ReturnsInHanded {} Tryz.checked os 10 .any (fun w args=>(Rows.rewriteReplaysSpec.pre enc Tryz.prog Tryz.f10 [] false w args/\laidMetH Tryz.prog Ep w)/\sizedMet enc Tryz.prog Tryz.f10 (OpenSpec.ofChange Rows.rewriteReplaysSpec) false w args)
   (Rows.rewriteReplaysSpec.post enc Tryz.prog Tryz.f10 false true false false):=by
 refine returnsInHanded_of_change_and (C:=Tryz.checked) (X:=fun w _=>laidMetH Tryz.prog Ep w) (fun _ _ _ hh h=>h.of_heap hh) Tryz.own started (by kernel_rfl) Tryz.func10
  (ChangeSpec.witness_shaped (enc:=enc) (C:=Tryz.checked) (os:=os) (X:=fun w _=>laidMetH Tryz.prog Ep w) false (World.laidAll Tryz.prog os Ep) #[.slice none 0 0,.agg #[.string ⟨#[]⟩,.string ⟨#[]⟩,.slice none 0 0],.slice none 0 0] 8 (World.laidAll_os _ _ _)
   (World.shaped_of_ZipB (by kernel_rfl) (by kernel_rfl)) (by kernel_rfl) (by kernel_rfl) (by kernel_rfl)
   (by rw[MakeChecks.laidMetH_plain _ _ _ (by kernel_rfl)];exact laidMet_laidAll _ (by kernel_rfl) (by kernel_rfl))) ?_
 intro W base args ds gs before hval0 hW hcnd aml hL _;have hval: ∀(j:Nat) t v,Tryz.f10.params[j]?=some t->args[j]?=some v->Value.okWide Tryz.prog W .any base t v:=hval0;have hW':=hW;obtain⟨p,q,hA0,hV,rfl,hfz,hnd⟩:=hW;have hA:DataW.TrodAll enc Tryz.prog W 0 (fun _=>true) true Tryz.f10.params.toList args.toList ds p:=hA0;rw[Tryz.params10] at hA hval;obtain⟨v0,vs0,d0,ds0,p0,q0,hargs,rfl,rfl,h0,r0⟩:=trodAll_cons hA;obtain⟨v1,vs1,d1,ds1,p1,q1,rfl,rfl,rfl,h1,r1⟩:=trodAll_cons r0;obtain⟨v2,vs2,d2,ds2,p2,q2,rfl,rfl,rfl,h2,r2⟩:=trodAll_cons r1;obtain⟨rfl,rfl,rfl⟩:=trodAll_nil r2;obtain rfl:args= #[v0,v1,v2]:=by cases args;simp_all
 obtain⟨rfl,rfl⟩:=trodVars_none hV;simp only[List.append_nil] at hW';have hlt: ∀x∈p0++(p1++p2),x.block<W.heap.size:=fun x hx=>by simpa using hW'.lt x hx
 have k0: ∀(W':World),Below W.heap.size W W'->DataW.Trod enc Tryz.prog W' 0 (fun b=>decide (b<W.heap.size)) true 50 v0 d0 p0:=
  fun W' hn=>Below.trod Tryz.laidOut (by kernel_rfl) (of_decide_eq_true (by kernel_rfl)) h0 hn (fun x hx=>hlt x (by simp[hx]))
 have k1: ∀(W':World),Below W.heap.size W W'->DataW.Trod enc Tryz.prog W' 0 (fun b=>decide (b<W.heap.size)) true 24 v1 d1 p1:=
  fun W' hn=>Below.trod Tryz.laidOut (by kernel_rfl) (of_decide_eq_true (by kernel_rfl)) h1 hn (fun x hx=>hlt x (by simp[hx]))
 have k2: ∀(W':World),Below W.heap.size W W'->DataW.Trod enc Tryz.prog W' 0 (fun b=>decide (b<W.heap.size)) true 54 v2 d2 p2:=
  fun W' hn=>Below.trod Tryz.laidOut (by kernel_rfl) (of_decide_eq_true (by kernel_rfl)) h2 hn (fun x hx=>hlt x (by simp[hx]))
 obtain⟨l0,hl0,hm0,hu0⟩:=Ug h0 (okWide_slice Tryz.underlying50 (hval 0 50 v0 rfl rfl));have hR0:=Y5 hl0 hu0;obtain⟨t1,ht1⟩:=aaG (hval 1 24 v1 rfl rfl) h1;obtain⟨l2,hx2⟩:=WJ h2 (okWide_slice Tryz.underlying54 (hval 2 54 v2 rfl rfl));have HA:=Py hL;clear hA0 hval0;refine(YZ (Ej l0) t1 l2 v0 v1 v2 W hR0 (by simp only[Ej,List.length_map];exact hm0) ht1 hx2 HA).mono fun e W' ⟨he,hx⟩=>?_;subst he;have hn:=Ext.below hx;refine⟨_,rfl,_,_,_,[],p0++(p1++(p2++[])),[],hW',?_,?_,rfl,hn.frame _,fun h=>by cases h⟩
 .exact trodAll_cons_mk (shut_bool Tryz.underlying4 true) trodAll_mk0
 .exact trodAll_cons_mk (k0 _ hn) (trodAll_cons_mk (k1 _ hn) (trodAll_cons_mk (k2 _ hn) trodAll_mk0))
theorem rewriteReplays_row_holds:Rows.RewriteReplaysSaid:=
 OpenClaim.holds_of_wide 10 Tryz.f10 rfl rfl rfl rfl rfl rfl rfl ⟨rfl,rfl,rfl,rfl,rfl⟩ rfl rfl rfl rfl rfl (by kernel_rfl) Tryz.func10 z_
  (of_decide_eq_true (by kernel_rfl)) (by unfold Func.isWrapper;first|(rw[if_pos (by decide+kernel)];kernel_rfl)|(rw[if_neg (by decide+kernel)];exact⟨rfl,rfl⟩))
  (fun os started H enc _=>zQ os started H enc)
theorem rewriteReplays_holds:Rows.RewriteReplaysCardSaid:=
 Claim7.holds_tied_plain_at .later [] [.listed,.data] true (true, "cc6e0dfd2657a1d5001888bae87d69dd842751b3419e4c067c8fdf9a6138912c") false rewriteReplays_row_holds (fun _ h=>by cases h) (by kernel_rfl) (fun _ h=>by cases h) rewriteReplays_row_tie rfl ⟨rfl,rfl⟩ (by kernel_rfl) rfl
  (fun f fn hf hfn=>by
   obtain rfl:f=10:=Option.some.inj ((show Tryz.prog.funcNamed "heartwood/heartwoodlaw06.RewriteReplays" =some 10 by kernel_rfl).symm.trans hf)|>.symm;obtain rfl:fn=Tryz.f10:=(Option.some.inj (Tryz.func10.symm.trans hfn)).symm;exact⟨by kernel_rfl,fun j t ht=>by
    rw[Tryz.params10] at ht;have hm:t∈[50,24,54]:=by simpa using Array.mem_of_getElem? ht
    have hall:([50,24,54].all fun u=>!Tryz.prog.wantsStandIn u)=true:=by kernel_rfl
    exact(show Tryz.prog.wantsStandIn t=false by simpa using List.all_eq_true.1 hall t hm)⟩)
  (by kernel_rfl)
#print axioms rewriteReplays_holds
end
end Go.Proofs.YtlkcjmaiahnodaaGreatDoor
