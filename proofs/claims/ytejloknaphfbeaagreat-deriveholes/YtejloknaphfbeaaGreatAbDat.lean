import Derived.Test.YtejloknaphfbeaaGreatAbFunc
/-
  The pieces of a function's code by their places: for functions that are known by their code's shape.
-/
set_option linter.unusedVariables false
set_option linter.unusedSimpArgs false
namespace Go.Ab

/-- The regions of code in order. -/
def regsOf : Code → List (Nat × Array Oper)
  | .region id ops _ => [(id, ops)]
  | .seq a b | .cond _ a b | .rangeFunc _ _ a b => regsOf a ++ regsOf b
  | .block _ c | .loop c | .scope c => regsOf c
  | _ => []
def blocksOf : Code → List Nat
  | .seq a b | .cond _ a b | .rangeFunc _ _ a b => blocksOf a ++ blocksOf b
  | .block i c => i :: blocksOf c
  | .loop c | .scope c => blocksOf c
  | _ => []
def bodyOf (fn : Func) : Code := match fn.body with | some c => c | none => .skip
def regOf (fn : Func) (i : Nat) : Array Oper := match (regsOf (bodyOf fn))[i]? with | some (_, o) => o | none => #[]
def regNo (fn : Func) (i : Nat) : Nat := match (regsOf (bodyOf fn))[i]? with | some (n, _) => n | none => 0
def blockNo (fn : Func) (i : Nat) : Nat := match (blocksOf (bodyOf fn))[i]? with | some n => n | none => 0
def operOf (fn : Func) (i j : Nat) : Oper := match (regOf fn i).toList[j]? with | some o => o | none => default
def typesOf (o : Oper) : Array TypeId := match o.op with | .call c => c.argTypes | _ => #[]
def unType (o : Oper) : TypeId := match o.op with | .unOp _ t _ => t | _ => 0
def binTypes (o : Oper) : TypeId × TypeId := match o.op with | .binOp _ t _ _ u => (t, u) | _ => (0, 0)
def elOf (P : Program) (t : TypeId) : TypeId := match P.underlying t with | some (.slice e) => e | _ => 0

end Go.Ab
