import Derived.Test.YtfhhognolpjikaaAbFunc
/-
  The pieces of a function's code by their places: for functions that are known by their code's shape.
-/
set_option linter.unusedVariables false
set_option linter.unusedSimpArgs false
set_option maxRecDepth 100000
set_option maxHeartbeats 8000000
namespace Go.Ab
def nF:Code→List (Nat×Array Oper)
 | .region id ops _=>[(id,ops)]
 | .seq a b | .cond _ a b | .rangeFunc _ _ a b=>nF a++nF b
 | .block _ c | .loop c | .scope c=>nF c
 | _=>[]
def qg (fn:Func):Code:=match fn.body with | some c=>c | none=>.skip
def GX (fn:Func) (i:Nat):Array Oper:=match (nF (qg fn))[i]? with | some (_,o)=>o | none=>#[]
def mi (fn:Func) (i:Nat):Nat:=match (nF (qg fn))[i]? with | some (n,_)=>n | none=>0
def dn (fn:Func) (i j:Nat):Oper:=match (GX fn i).toList[j]? with | some o=>o | none=>default
def ie (o:Oper):TypeId×TypeId:=match o.op with | .binOp _ t _ _ u=>(t,u) | _=>(0,0)
def GY (P:Program) (t:TypeId):TypeId:=match P.underlying t with | some (.slice e)=>e | _=>0
end Go.Ab
