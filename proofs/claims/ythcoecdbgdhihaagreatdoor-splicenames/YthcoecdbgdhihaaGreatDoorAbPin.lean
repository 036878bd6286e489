import Derived.Test.YthcoecdbgdhihaaGreatDoorAbPrim
/-
  The table that strconv reads, as the rows list it.
-/
set_option linter.unusedVariables false
set_option linter.unusedSimpArgs false
set_option linter.unnecessarySimpa false
set_option maxRecDepth 100000
set_option maxHeartbeats 8000000
namespace Go.Ab
section
variable {P:Program} {w:World}
def Ih (g:Nat):Nat→Option (Array Value):=fun b=>if b=g then some we else none
theorem FT (g:Nat):Ih g g=some we:=if_pos rfl
theorem B6 {g:Nat} (hg:P.globalNamed "internal/strconv.uint64pow10"=some g) (h:Lib.TabIs P w "internal/strconv.uint64pow10" .u64 Lib.pow10Tab):mS (Ih g) w:=by
 intro b c e;unfold Ih at e;simp only [Option.ite_none_right_eq_some,Option.some.injEq] at e;obtain ⟨rfl,rfl⟩:=e;unfold Lib.TabIs World.var? at h;rw [hg,Option.bind_some] at h;split at h
 · rename_i cs t z hh;cases h;exact ⟨t,z,hh⟩
 · cases h
theorem uw {x:String×DataW Unit} {r:List (String×DataW Unit)} (h:laidMet P (x::r) w):laidMet P r w:=by
 obtain ⟨ps,hv,hnd,hrows⟩:=h;obtain ⟨n,d⟩:=x;obtain ⟨g,t,cs,fuel,p,q,_,_,_,_,hq,rfl⟩:=hv;exact ⟨q,hq,List.Nodup.sublist (List.sublist_append_right _ _) hnd,fun b off hm=>hrows b off (List.mem_append_right _ hm)⟩
theorem Ii {g t e:Nat} {x y:String×DataW Unit} {d:DataW Unit} (hg:P.globalNamed "internal/strconv.uint64pow10"=some g) (hty:(P.globals[g]?).map (·.type)=some t) (ht:P.underlying t=some (.array 20 e))
   (he:P.underlying e=some (.int .u64)) (hce:P.cellsOf e=1) (hct:P.cellsOf t=20) (hd:d=Lib.tabData .u64 Lib.pow10Tab) (h:laidMet P [x,y,("internal/strconv.uint64pow10",d)] w):mS (Ih g) w:=by
 subst hd;exact B6 hg (Lib.tabIs_of_head hg hty ht he hce hct (uw (uw h)))
end
end Go.Ab
