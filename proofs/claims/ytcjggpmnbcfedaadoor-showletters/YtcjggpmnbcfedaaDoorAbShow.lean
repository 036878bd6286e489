import Derived.Test.YtcjggpmnbcfedaaDoorAbClone
import Derived.Test.YtcjggpmnbcfedaaDoorAbPrim
import Derived.Lib.Builder
import Derived.Lib.UnsafeStr
import Derived.Lib.AppendStr
/-
  A program's text written through a strings.Builder: what the declarations' and the bindings' texts are, one after another.
-/
set_option linter.unusedVariables false
set_option linter.unusedSimpArgs false
set_option linter.unnecessarySimpa false
set_option maxRecDepth 100000
set_option maxHeartbeats 8000000
namespace Go.Ab
open Ev
def tK (o:Nat→List PV→Option (List PV)) (g:Nat):List PV→Option (List UInt8)
 | []=>some []
 | d::r=>match o g [d] with
   | some [.str s]=>(tK o g r).map (s++·)
   | _=>none
def t_ (n:Nat):PV→Bool
 | .agg cs=>cs.length == n && cs.all dY
 | _=>false
def yP (gd gb:Nat) (o:Nat→List PV→Option (List PV)):List PV→Option (List PV)
 | [.agg [.bz ds,.bz bs]]=>
   if ds.all (t_ 4)=true∧bs.all (t_ 20)=true∧ds.length<4611686018427387904∧bs.length<4611686018427387904 then
     match tK o gd ds,tK o gb bs with
     | some a,some b=>if (a++b).length≤140737488355328 then some [.str (a++b)] else none
     | _,_=>none
   else none
 | _=>none
theorem mh {o:Nat→List PV→Option (List PV)} {g:Nat}:∀{l:List PV} {s:List UInt8},tK o g l=some s →
   ∃c:List (Nat×List PV×List PV),(∀x∈c,o x.1 x.2.1=some x.2.2)∧∀o',(∀x∈c,o' x.1 x.2.1=some x.2.2)→tK o' g l=some s
 | [],s,h=>⟨[],by simp,fun _ _=>h⟩
 | d::r,s,h=>by
   simp only [tK] at h
   split at h
   · rename_i t ht
     simp only [Option.map_eq_some_iff] at h
     obtain ⟨u,hu,rfl⟩:=h
     obtain ⟨c,h1,h2⟩:=mh hu
     refine ⟨(g,[d],[.str t])::c,?_,fun o' ho=>?_⟩
     · intro x hx
       simp only [List.mem_cons] at hx
       rcases hx with rfl | hx
       · exact ht
       · exact h1 x hx
     · have e1:=ho _ (List.mem_cons_self)
       simp only [tK,e1,h2 o' (fun x hx=>ho x (List.mem_cons_of_mem _ hx)),Option.map_some]
   · cases h
def Cy (gd gb:Nat):Prim:=⟨yP gd gb,by
 intro o x r h
 unfold yP at h
 split at h
 · rename_i ds bs
   rw [Option.ite_none_right_eq_some] at h
   obtain ⟨hc,h⟩:=h
   split at h
   · rename_i a b ha hb
     obtain ⟨c1,f1,f2⟩:=mh ha
     obtain ⟨c2,k1,k2⟩:=mh hb
     refine ⟨c1++c2,?_,fun o' ho=>?_⟩
     · intro x hx
       rcases List.mem_append.1 hx with hx | hx
       · exact f1 x hx
       · exact k1 x hx
     · unfold yP
       simp only
       rw [if_pos hc,f2 o' (fun x hx=>ho x (List.mem_append_left _ hx)),k2 o' (fun x hx=>ho x (List.mem_append_right _ hx))]
       exact h
   · cases h
 · cases h⟩
section
variable {T E:TypeId} {B b:Nat} {w w':World}
end
section
variable {P:Program} {ns:Names}
end
end Go.Ab
