import Derived.Test.YthcoecdbgdhihaaGreatDoorAbFunc
/-
  The pieces of a function's code by their places: for functions that are known by their code's shape.
-/
set_option linter.unusedVariables false
set_option linter.unusedSimpArgs false
set_option linter.unnecessarySimpa false
set_option maxRecDepth 100000
set_option maxHeartbeats 8000000
namespace Go.Ab
def sa:Code→List (Nat×Array Oper)
 | .region id ops _=>[(id,ops)]
 | .seq a b | .cond _ a b | .rangeFunc _ _ a b=>sa a++sa b
 | .block _ c | .loop c | .scope c=>sa c
 | _=>[]
def lF:Code→List Nat
 | .seq a b | .cond _ a b | .rangeFunc _ _ a b=>lF a++lF b
 | .block i c=>i::lF c
 | .loop c | .scope c=>lF c
 | _=>[]
def ga (fn:Func):Code:=match fn.body with | some c=>c | none=>.skip
def lG (fn:Func) (i:Nat):Array Oper:=match (sa (ga fn))[i]? with | some (_,o)=>o | none=>#[]
def dL (fn:Func) (i:Nat):Nat:=match (sa (ga fn))[i]? with | some (n,_)=>n | none=>0
def qw (fn:Func) (i:Nat):Nat:=match (lF (ga fn))[i]? with | some n=>n | none=>0
def bm (fn:Func) (i j:Nat):Oper:=match (lG fn i).toList[j]? with | some o=>o | none=>default
def typesOf (o:Oper):Array TypeId:=match o.op with | .call c=>c.argTypes | _=>#[]
def d4 (o:Oper):TypeId×TypeId:=match o.op with | .binOp _ t _ _ u=>(t,u) | _=>(0,0)
def H4 (P:Program) (t:TypeId):TypeId:=match P.underlying t with | some (.slice e)=>e | _=>0
end Go.Ab
