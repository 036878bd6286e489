import Derived.Test.YtcjggpmnbcfedaaGreatDoorAbFunc
/-
  The pieces of a function's code by their places: for functions that are known by their code's shape.
-/
set_option linter.unusedVariables false
set_option linter.unusedSimpArgs false
set_option linter.unnecessarySimpa false
set_option maxRecDepth 100000
set_option maxHeartbeats 8000000
namespace Go.Ab
def me (fn:Func):Code:=match fn.body with | some c=>c | none=>.skip
def regsOf:Code→List (Nat×Array Oper)
 | .region id ops _=>[(id,ops)]
 | .seq a b | .cond _ a b | .rangeFunc _ _ a b=>regsOf a++regsOf b
 | .block _ c | .loop c | .scope c=>regsOf c
 | _=>[]
def blocksOf:Code→List Nat
 | .seq a b | .cond _ a b | .rangeFunc _ _ a b=>blocksOf a++blocksOf b
 | .block i c=>i::blocksOf c
 | .loop c | .scope c=>blocksOf c
 | _=>[]
def pC (fn:Func) (i:Nat):Array Oper:=match (regsOf (me fn))[i]? with | some (_,o)=>o | none=>#[]
def lH (fn:Func) (i:Nat):Nat:=match (regsOf (me fn))[i]? with | some (n,_)=>n | none=>0
def xQ (fn:Func) (i:Nat):Nat:=match (blocksOf (me fn))[i]? with | some n=>n | none=>0
def d9 (fn:Func) (i j:Nat):Oper:=match (pC fn i).toList[j]? with | some o=>o | none=>default
def typesOf (o:Oper):Array TypeId:=match o.op with | .call c=>c.argTypes | _=>#[]
end Go.Ab
