/- Check, the plain part. -/
import Derived.Test.YtlbnilhbfiidmaaDoorP2
import Derived.Test.YtlbnilhbfiidmaaDoorB16
namespace Go.Proofs.YtlbnilhbfiidmaaDoor
open Go.RowKit Go.Hw
set_option linter.unusedVariables false
set_option linter.unusedSimpArgs false

def ckF (c : Cd) : Nat → Nat → Int × Int × Int
  | 0, _ => (0, 0, 0)
  | n + 1, i => if (hP c (c.funcs.getD i default)).2.2 = 0 then ckF c n (i + 1) else (i, (hP c (c.funcs.getD i default)).2.1, (hP c (c.funcs.getD i default)).2.2)
def ckP (c : Cd) : Int × Int × Int := if headB c = false then (0, 0, 1) else if (wrP c).2.2 = true then ((wrP c).1, (wrP c).2.1, 7) else ckF c c.funcs.length 0
def hgP (c : Cd) (i : Int) : List Int × Int := if headB c = false then ([], 1) else if formB c = false then ([], 7) else if i < 0 ∨ (c.funcs.length : Int) ≤ i then ([], 2) else ((hP c (c.funcs.getD i.toNat default)).1, (hP c (c.funcs.getD i.toNat default)).2.2)
def HgtP (c : Cd) (i : Int) (w : World) (e : Ending) (w' : World) : Prop := ∃ v, e = .returned (.tuple #[v, .int .i64 (hgP c i).2]) ∧ SlR Any1 w' 1 v (hgP c i).1.length (ints (hgP c i).1) ∧ Ext w w'

end Go.Proofs.YtlbnilhbfiidmaaDoor
