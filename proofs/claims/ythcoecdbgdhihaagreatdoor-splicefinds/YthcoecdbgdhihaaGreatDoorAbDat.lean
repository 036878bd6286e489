import Derived.Test.YthcoecdbgdhihaaGreatDoorAbFunc
/-
  The pieces of a function's code by their places: for functions that are known by their code's shape.
-/
set_option linter.unusedVariables false
set_option linter.unusedSimpArgs false
set_option linter.unnecessarySimpa false
set_option maxRecDepth 100000
set_option maxHeartbeats 8000000
namespace Go.Ab
def rJ:Code→List (Nat×Array Oper)
 | .region id ops _=>[(id,ops)]
 | .seq a b | .cond _ a b | .rangeFunc _ _ a b=>rJ a++rJ b
 | .block _ c | .loop c | .scope c=>rJ c
 | _=>[]
def lu:Code→List Nat
 | .seq a b | .cond _ a b | .rangeFunc _ _ a b=>lu a++lu b
 | .block i c=>i::lu c
 | .loop c | .scope c=>lu c
 | _=>[]
def fQ (fn:Func):Code:=match fn.body with | some c=>c | none=>.skip
def lx (fn:Func) (i:Nat):Array Oper:=match (rJ (fQ fn))[i]? with | some (_,o)=>o | none=>#[]
def dH (fn:Func) (i:Nat):Nat:=match (rJ (fQ fn))[i]? with | some (n,_)=>n | none=>0
def qc (fn:Func) (i:Nat):Nat:=match (lu (fQ fn))[i]? with | some n=>n | none=>0
def bl (fn:Func) (i j:Nat):Oper:=match (lx fn i).toList[j]? with | some o=>o | none=>default
def typesOf (o:Oper):Array TypeId:=match o.op with | .call c=>c.argTypes | _=>#[]
def dY (o:Oper):TypeId×TypeId:=match o.op with | .binOp _ t _ _ u=>(t,u) | _=>(0,0)
def Ho (P:Program) (t:TypeId):TypeId:=match P.underlying t with | some (.slice e)=>e | _=>0
end Go.Ab
