import Derived.Test.YtcjggpmnbcfedaaDoorAbFunc
/-
  The pieces of a function's code by their places: for functions that are known by their code's shape.
-/
set_option linter.unusedVariables false
set_option linter.unusedSimpArgs false
set_option linter.unnecessarySimpa false
set_option maxRecDepth 100000
set_option maxHeartbeats 8000000
namespace Go.Ab
def yC (fn:Func):Code:=match fn.body with | some c=>c | none=>.skip
end Go.Ab
