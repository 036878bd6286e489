/-
  No cell of these rows narrows 'for every input' (looked for: loops, veiled, ifaces, maps, wideKeys, modest, calm, conditions, laid).
  DERIVED. THE GIVEN ROWS OF THIS SEAT. 2 by the template 'for every input the law returns true; each argument reads behind the call as it read before'; 0 by the template 'total and deterministic' (their statements: YtfhhognolpjikaaGreatTotals.lean).
  GIVEN WITH THE SEED: the statements are not yours to turn. If you find one false, say at which input.
  Laid BY PROGRAM, IN A SANDBOX (cutbox-rows.mjs): the forced cells as the released guide's own fill.sh prints them over the translation ae45c2950df3345a… (all of the seat's roots in one cut). By AI agents, Wed Nov 11 2026. No macro, syntax, notation, axiom, sorry.
-/
import Derived.Test.YtfhhognolpjikaaGreatChecked
import GoSem.Claim
import GoSem.ClaimJoined
import GoSem.ClaimMapViews
import Derived.JoinedTies
import Derived.KernelRfl
namespace Go.Proofs.YtfhhognolpjikaaGreat
/- THE CELL 'sum', in the pinned program and in every row, IS THE sha256 OF THE DUMP (.gsa) THAT YtfhhognolpjikaaGreatProg.lean LOADS. Nothing in Lean hashes anything: it is a label: what it is worth is what the hold of that sum in a sandbox is worth. -/
noncomputable def Tryz.pinned : Pinned := { name := "ytfhhognolpjikaagreat", sum := "ae45c2950df3345ac8855668aff219260f3661d8aa63d8ca13f84e7f1f81b4ab", checked := Tryz.checked }
namespace Rows
def none {H : Type} : Left H := { results := [], args := [] }

/-- 'typedholeslaw10.ScopePrograms': WHATEVER THE INPUT: true; the input reads as it did. -/
def scopeProgramsSpec : ChangeSpec := { name := "scopePrograms", fn := fun _ => fun
  | [d1, d2, d3, d4] => { results := [.lit (.bool true)], args := [d1, d2, d3, d4] }
  | _ => none }
def scopeProgramsRow : OpenClaim := { program := "ytfhhognolpjikaagreat", sum := "ae45c2950df3345ac8855668aff219260f3661d8aa63d8ca13f84e7f1f81b4ab", func := "typedholes/typedholeslaw10.ScopePrograms", spec := "scopePrograms", unfollowed := true, recurses := true, apart := false }
def ScopeProgramsSaid : Prop := scopeProgramsRow.holds Tryz.pinned (OpenSpec.ofChange scopeProgramsSpec)

/-- ITS FALSE NEIGHBOUR: 'it returns false'. Refute it at one input. -/
def scopeProgramsWrong : ChangeSpec := { name := "scopePrograms", fn := fun _ => fun
  | [d1, d2, d3, d4] => { results := [.lit (.bool false)], args := [d1, d2, d3, d4] }
  | _ => none }
def ScopeProgramsWrongFalsely : Prop := scopeProgramsRow.holds Tryz.pinned (OpenSpec.ofChange scopeProgramsWrong)

/-- 'typedholeslaw10.ScopeSound': WHATEVER THE INPUT: true; the input reads as it did. -/
def scopeSoundSpec : ChangeSpec := { name := "scopeSound", fn := fun _ => fun
  | [d1, d2, d3, d4] => { results := [.lit (.bool true)], args := [d1, d2, d3, d4] }
  | _ => none }
def scopeSoundRow : OpenClaim := { program := "ytfhhognolpjikaagreat", sum := "ae45c2950df3345ac8855668aff219260f3661d8aa63d8ca13f84e7f1f81b4ab", func := "typedholes/typedholeslaw10.ScopeSound", spec := "scopeSound", unfollowed := true, recurses := true, apart := false }
def ScopeSoundSaid : Prop := scopeSoundRow.holds Tryz.pinned (OpenSpec.ofChange scopeSoundSpec)

/-- ITS FALSE NEIGHBOUR: 'it returns false'. Refute it at one input. -/
def scopeSoundWrong : ChangeSpec := { name := "scopeSound", fn := fun _ => fun
  | [d1, d2, d3, d4] => { results := [.lit (.bool false)], args := [d1, d2, d3, d4] }
  | _ => none }
def ScopeSoundWrongFalsely : Prop := scopeSoundRow.holds Tryz.pinned (OpenSpec.ofChange scopeSoundWrong)

/- THE SECOND FORM. 'bulk': how many values and letters a reading holds, each counted each time it is reached (what is shared counts as often as it is met; a slice's spare places count too). A statement '..UptoSaid' is the law's where the arguments, and the package variables that the reading takes, are together of bulk at most 1048576: NARROWER than '..Said'. Prove '..Said' where nothing that the law and all that it calls make is longer than what came in: it says more and counts as full. Else prove '..UptoSaid'. A law counts once. -/
mutual
def uptoBulk {H : Type} : DataW H → Nat
  | .lit (.string bytes) => bytes.length + 1
  | .lit _ => 1
  | .nil => 1
  | .ptr d => uptoBulk d + 1
  | .slice elems spare => uptoBulkAll elems + uptoBulkAll spare + 1
  | .agg parts => uptoBulkAll parts + 1
  | .iface _ d => uptoBulk d + 1
  | .map entries => uptoBulkEntries entries + 1
  | .held _ => 1
def uptoBulkAll {H : Type} : List (DataW H) → Nat
  | [] => 0
  | d :: r => uptoBulk d + uptoBulkAll r
def uptoBulkEntries {H : Type} : List (Lit × DataW H) → Nat
  | [] => 0
  | x :: r => uptoBulkEntry x + uptoBulkEntries r
def uptoBulkEntry {H : Type} : Lit × DataW H → Nat
  | (.string bytes, d) => bytes.length + uptoBulk d + 1
  | (_, d) => uptoBulk d + 1
 end
def uptoSmall : (H : Type) → List (DataW H) → Bool := fun _ ds => decide (uptoBulkAll ds ≤ 1048576)
def OpenSpec.upto (s : _root_.Go.ChangeSpec) : _root_.Go.OpenSpec := { _root_.Go.OpenSpec.ofChange s with cond := some uptoSmall }

/-- 'typedholeslaw10.ScopePrograms', WHERE WHAT IT READS IS OF BULK AT MOST 1048576: true; the input reads as it did. -/
def scopeProgramsUptoRow : OpenClaim := { program := "ytfhhognolpjikaagreat", sum := "ae45c2950df3345ac8855668aff219260f3661d8aa63d8ca13f84e7f1f81b4ab", func := "typedholes/typedholeslaw10.ScopePrograms", spec := "scopePrograms", unfollowed := true, recurses := true, apart := false, narrowed := true }
def ScopeProgramsUptoSaid : Prop := scopeProgramsUptoRow.holds Tryz.pinned (OpenSpec.upto scopeProgramsSpec)

/-- 'typedholeslaw10.ScopeSound', WHERE WHAT IT READS IS OF BULK AT MOST 1048576: true; the input reads as it did. -/
def scopeSoundUptoRow : OpenClaim := { program := "ytfhhognolpjikaagreat", sum := "ae45c2950df3345ac8855668aff219260f3661d8aa63d8ca13f84e7f1f81b4ab", func := "typedholes/typedholeslaw10.ScopeSound", spec := "scopeSound", unfollowed := true, recurses := true, apart := false, narrowed := true }
def ScopeSoundUptoSaid : Prop := scopeSoundUptoRow.holds Tryz.pinned (OpenSpec.upto scopeSoundSpec)

end Rows
end Go.Proofs.YtfhhognolpjikaaGreat
