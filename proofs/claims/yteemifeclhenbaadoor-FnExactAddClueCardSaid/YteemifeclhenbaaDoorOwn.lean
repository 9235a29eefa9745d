import Derived.Test.YteemifeclhenbaaDoorWWords
import Derived.Test.YteemifeclhenbaaDoorWLast
/- What peels a fact's world. -/
namespace Go.Proofs.YteemifeclhenbaaDoorW.PrintMore
open Go.RowKit Go.Proofs.YteemifeclhenbaaDoorW.PrintWords
theorem pkB {P Q : Prop} (h : P) (e : P → Q := by (intro h_; (with_reducible repeat (first | refine blk_drewN ?_ _ | refine blk_drew ?_ | refine blk_alloc ?_ _)); exact h_)) : Q := e h
theorem pkR {P Q : Prop} (h : P) (e : P → Q := by (intro h_; (with_reducible repeat (first | apply Kd.R_alloc | apply Kd.R_drewN | apply Kd.R_drew)); exact h_)) : Q := e h
end Go.Proofs.YteemifeclhenbaaDoorW.PrintMore
