/-
  No cell of these rows narrows 'for every input' (looked for: loops, veiled, ifaces, maps, wideKeys, modest, calm, conditions, laid).
  DERIVED. THE GIVEN ROWS OF THIS SEAT. 7 by the template 'for every input the law returns true; each argument reads behind the call as it read before'; 0 by the template 'total and deterministic' (their statements: YtolepbdmbedloadTotals.lean).
  GIVEN WITH THE SEED: the statements are not yours to turn. If you find one false, say at which input.
  Laid BY PROGRAM, IN A SANDBOX (cutbox-rows.mjs): the forced cells as the released guide's own fill.sh prints them over the translation 1c63e26035bac729… (all of the seat's roots in one cut). By AI agents, Wed Nov 11 2026. No macro, syntax, notation, axiom, sorry.
-/
import Derived.Test.YtolepbdmbedloadChecked
import GoSem.Claim
import GoSem.ClaimJoined
import GoSem.ClaimMapViews
import Derived.JoinedTies
import Derived.KernelRfl
namespace Go.Proofs.Ytolepbdmbedload
/- THE CELL 'sum', in the pinned program and in every row, IS THE sha256 OF THE DUMP (.gsa) THAT YtolepbdmbedloadProg.lean LOADS. Nothing in Lean hashes anything: it is a label: what it is worth is what the hold of that sum in a sandbox is worth. -/
noncomputable def Try.pinned : Pinned := { name := "ytolepbdmbedload", sum := "1c63e26035bac729197cb6346fdd4938aa6277dade04f719a60c770acf753ff2", checked := Try.checked }
namespace Rows
def none {H : Type} : Left H := { results := [], args := [] }

/-- 'laws.FnExactPlaceAt': WHATEVER THE INPUT: true; the input reads as it did. -/
def fnExactPlaceAtSpec : ChangeSpec := { name := "fnExactPlaceAt", fn := fun _ => fun
  | [d1, d2] => { results := [.lit (.bool true)], args := [d1, d2] }
  | _ => none }
def fnExactPlaceAtRow : OpenClaim := { program := "ytolepbdmbedload", sum := "1c63e26035bac729197cb6346fdd4938aa6277dade04f719a60c770acf753ff2", func := "loop.example/g00599/laws.FnExactPlaceAt", spec := "fnExactPlaceAt", apart := false }
def FnExactPlaceAtSaid : Prop := fnExactPlaceAtRow.holds Try.pinned (OpenSpec.ofChange fnExactPlaceAtSpec)

/-- ITS FALSE NEIGHBOUR: 'it returns false'. Refute it at one input. -/
def fnExactPlaceAtWrong : ChangeSpec := { name := "fnExactPlaceAt", fn := fun _ => fun
  | [d1, d2] => { results := [.lit (.bool false)], args := [d1, d2] }
  | _ => none }
def FnExactPlaceAtWrongFalsely : Prop := fnExactPlaceAtRow.holds Try.pinned (OpenSpec.ofChange fnExactPlaceAtWrong)

/-- 'laws.FnExactRoundOf': WHATEVER THE INPUT: true; the input reads as it did. -/
def fnExactRoundOfSpec : ChangeSpec := { name := "fnExactRoundOf", fn := fun _ => fun
  | [d] => { results := [.lit (.bool true)], args := [d] }
  | _ => none }
def fnExactRoundOfRow : OpenClaim := { program := "ytolepbdmbedload", sum := "1c63e26035bac729197cb6346fdd4938aa6277dade04f719a60c770acf753ff2", func := "loop.example/g00599/laws.FnExactRoundOf", spec := "fnExactRoundOf", apart := false }
def FnExactRoundOfSaid : Prop := fnExactRoundOfRow.holds Try.pinned (OpenSpec.ofChange fnExactRoundOfSpec)

/-- ITS FALSE NEIGHBOUR: 'it returns false'. Refute it at one input. -/
def fnExactRoundOfWrong : ChangeSpec := { name := "fnExactRoundOf", fn := fun _ => fun
  | [d] => { results := [.lit (.bool false)], args := [d] }
  | _ => none }
def FnExactRoundOfWrongFalsely : Prop := fnExactRoundOfRow.holds Try.pinned (OpenSpec.ofChange fnExactRoundOfWrong)

/-- 'laws.FnExactWidenArc': WHATEVER THE INPUT: true; the input reads as it did. -/
def fnExactWidenArcSpec : ChangeSpec := { name := "fnExactWidenArc", fn := fun _ => fun
  | [d1, d2] => { results := [.lit (.bool true)], args := [d1, d2] }
  | _ => none }
def fnExactWidenArcRow : OpenClaim := { program := "ytolepbdmbedload", sum := "1c63e26035bac729197cb6346fdd4938aa6277dade04f719a60c770acf753ff2", func := "loop.example/g00599/laws.FnExactWidenArc", spec := "fnExactWidenArc", apart := false }
def FnExactWidenArcSaid : Prop := fnExactWidenArcRow.holds Try.pinned (OpenSpec.ofChange fnExactWidenArcSpec)

/-- ITS FALSE NEIGHBOUR: 'it returns false'. Refute it at one input. -/
def fnExactWidenArcWrong : ChangeSpec := { name := "fnExactWidenArc", fn := fun _ => fun
  | [d1, d2] => { results := [.lit (.bool false)], args := [d1, d2] }
  | _ => none }
def FnExactWidenArcWrongFalsely : Prop := fnExactWidenArcRow.holds Try.pinned (OpenSpec.ofChange fnExactWidenArcWrong)

/-- 'laws.FnExactPlacesAt': WHATEVER THE INPUT: true; the input reads as it did. -/
def fnExactPlacesAtSpec : ChangeSpec := { name := "fnExactPlacesAt", fn := fun _ => fun
  | [d1, d2] => { results := [.lit (.bool true)], args := [d1, d2] }
  | _ => none }
def fnExactPlacesAtRow : OpenClaim := { program := "ytolepbdmbedload", sum := "1c63e26035bac729197cb6346fdd4938aa6277dade04f719a60c770acf753ff2", func := "loop.example/g00599/laws.FnExactPlacesAt", spec := "fnExactPlacesAt", apart := false }
def FnExactPlacesAtSaid : Prop := fnExactPlacesAtRow.holds Try.pinned (OpenSpec.ofChange fnExactPlacesAtSpec)

/-- ITS FALSE NEIGHBOUR: 'it returns false'. Refute it at one input. -/
def fnExactPlacesAtWrong : ChangeSpec := { name := "fnExactPlacesAt", fn := fun _ => fun
  | [d1, d2] => { results := [.lit (.bool false)], args := [d1, d2] }
  | _ => none }
def FnExactPlacesAtWrongFalsely : Prop := fnExactPlacesAtRow.holds Try.pinned (OpenSpec.ofChange fnExactPlacesAtWrong)

/-- 'laws.FnExactFirstAt': WHATEVER THE INPUT: true; the input reads as it did. -/
def fnExactFirstAtSpec : ChangeSpec := { name := "fnExactFirstAt", fn := fun _ => fun
  | [d1, d2, d3, d4] => { results := [.lit (.bool true)], args := [d1, d2, d3, d4] }
  | _ => none }
def fnExactFirstAtRow : OpenClaim := { program := "ytolepbdmbedload", sum := "1c63e26035bac729197cb6346fdd4938aa6277dade04f719a60c770acf753ff2", func := "loop.example/g00599/laws.FnExactFirstAt", spec := "fnExactFirstAt", apart := false }
def FnExactFirstAtSaid : Prop := fnExactFirstAtRow.holds Try.pinned (OpenSpec.ofChange fnExactFirstAtSpec)

/-- ITS FALSE NEIGHBOUR: 'it returns false'. Refute it at one input. -/
def fnExactFirstAtWrong : ChangeSpec := { name := "fnExactFirstAt", fn := fun _ => fun
  | [d1, d2, d3, d4] => { results := [.lit (.bool false)], args := [d1, d2, d3, d4] }
  | _ => none }
def FnExactFirstAtWrongFalsely : Prop := fnExactFirstAtRow.holds Try.pinned (OpenSpec.ofChange fnExactFirstAtWrong)

/-- 'laws.FnAngles': WHATEVER THE INPUT: true; the input reads as it did. -/
def fnAnglesSpec : ChangeSpec := { name := "fnAngles", fn := fun _ => fun
  | [d] => { results := [.lit (.bool true)], args := [d] }
  | _ => none }
def fnAnglesRow : OpenClaim := { program := "ytolepbdmbedload", sum := "1c63e26035bac729197cb6346fdd4938aa6277dade04f719a60c770acf753ff2", func := "loop.example/g00599/laws.FnAngles", spec := "fnAngles", apart := false }
def FnAnglesSaid : Prop := fnAnglesRow.holds Try.pinned (OpenSpec.ofChange fnAnglesSpec)

/-- ITS FALSE NEIGHBOUR: 'it returns false'. Refute it at one input. -/
def fnAnglesWrong : ChangeSpec := { name := "fnAngles", fn := fun _ => fun
  | [d] => { results := [.lit (.bool false)], args := [d] }
  | _ => none }
def FnAnglesWrongFalsely : Prop := fnAnglesRow.holds Try.pinned (OpenSpec.ofChange fnAnglesWrong)

/-- 'laws.FnOrbits': WHATEVER THE INPUT: true; the input reads as it did. -/
def fnOrbitsSpec : ChangeSpec := { name := "fnOrbits", fn := fun _ => fun
  | [d] => { results := [.lit (.bool true)], args := [d] }
  | _ => none }
def fnOrbitsRow : OpenClaim := { program := "ytolepbdmbedload", sum := "1c63e26035bac729197cb6346fdd4938aa6277dade04f719a60c770acf753ff2", func := "loop.example/g00599/laws.FnOrbits", spec := "fnOrbits", apart := false }
def FnOrbitsSaid : Prop := fnOrbitsRow.holds Try.pinned (OpenSpec.ofChange fnOrbitsSpec)

/-- ITS FALSE NEIGHBOUR: 'it returns false'. Refute it at one input. -/
def fnOrbitsWrong : ChangeSpec := { name := "fnOrbits", fn := fun _ => fun
  | [d] => { results := [.lit (.bool false)], args := [d] }
  | _ => none }
def FnOrbitsWrongFalsely : Prop := fnOrbitsRow.holds Try.pinned (OpenSpec.ofChange fnOrbitsWrong)

/- THE SECOND FORM. 'bulk': how many values and letters a reading holds, each counted each time it is reached (what is shared counts as often as it is met; a slice's spare places count too). A statement '..UptoSaid' is the law's where the arguments, and the package variables that the reading takes, are together of bulk at most 1048576: NARROWER than '..Said'. Prove '..Said' where nothing that the law and all that it calls make is longer than what came in: it says more and counts as full. Else prove '..UptoSaid'. A law counts once. -/
mutual
def uptoBulk {H : Type} : DataW H → Nat
  | .lit (.string bytes) => bytes.length + 1
  | .lit _ => 1
  | .nil => 1
  | .ptr d => uptoBulk d + 1
  | .slice elems spare => uptoBulkAll elems + uptoBulkAll spare + 1
  | .agg parts => uptoBulkAll parts + 1
  | .iface _ d => uptoBulk d + 1
  | .map entries => uptoBulkEntries entries + 1
  | .held _ => 1
def uptoBulkAll {H : Type} : List (DataW H) → Nat
  | [] => 0
  | d :: r => uptoBulk d + uptoBulkAll r
def uptoBulkEntries {H : Type} : List (Lit × DataW H) → Nat
  | [] => 0
  | x :: r => uptoBulkEntry x + uptoBulkEntries r
def uptoBulkEntry {H : Type} : Lit × DataW H → Nat
  | (.string bytes, d) => bytes.length + uptoBulk d + 1
  | (_, d) => uptoBulk d + 1
 end
def uptoSmall : (H : Type) → List (DataW H) → Bool := fun _ ds => decide (uptoBulkAll ds ≤ 1048576)
def OpenSpec.upto (s : _root_.Go.ChangeSpec) : _root_.Go.OpenSpec := { _root_.Go.OpenSpec.ofChange s with cond := some uptoSmall }

/-- 'laws.FnExactPlaceAt', WHERE WHAT IT READS IS OF BULK AT MOST 1048576: true; the input reads as it did. -/
def fnExactPlaceAtUptoRow : OpenClaim := { program := "ytolepbdmbedload", sum := "1c63e26035bac729197cb6346fdd4938aa6277dade04f719a60c770acf753ff2", func := "loop.example/g00599/laws.FnExactPlaceAt", spec := "fnExactPlaceAt", apart := false, narrowed := true }
def FnExactPlaceAtUptoSaid : Prop := fnExactPlaceAtUptoRow.holds Try.pinned (OpenSpec.upto fnExactPlaceAtSpec)

/-- 'laws.FnExactRoundOf', WHERE WHAT IT READS IS OF BULK AT MOST 1048576: true; the input reads as it did. -/
def fnExactRoundOfUptoRow : OpenClaim := { program := "ytolepbdmbedload", sum := "1c63e26035bac729197cb6346fdd4938aa6277dade04f719a60c770acf753ff2", func := "loop.example/g00599/laws.FnExactRoundOf", spec := "fnExactRoundOf", apart := false, narrowed := true }
def FnExactRoundOfUptoSaid : Prop := fnExactRoundOfUptoRow.holds Try.pinned (OpenSpec.upto fnExactRoundOfSpec)

/-- 'laws.FnExactWidenArc', WHERE WHAT IT READS IS OF BULK AT MOST 1048576: true; the input reads as it did. -/
def fnExactWidenArcUptoRow : OpenClaim := { program := "ytolepbdmbedload", sum := "1c63e26035bac729197cb6346fdd4938aa6277dade04f719a60c770acf753ff2", func := "loop.example/g00599/laws.FnExactWidenArc", spec := "fnExactWidenArc", apart := false, narrowed := true }
def FnExactWidenArcUptoSaid : Prop := fnExactWidenArcUptoRow.holds Try.pinned (OpenSpec.upto fnExactWidenArcSpec)

/-- 'laws.FnExactPlacesAt', WHERE WHAT IT READS IS OF BULK AT MOST 1048576: true; the input reads as it did. -/
def fnExactPlacesAtUptoRow : OpenClaim := { program := "ytolepbdmbedload", sum := "1c63e26035bac729197cb6346fdd4938aa6277dade04f719a60c770acf753ff2", func := "loop.example/g00599/laws.FnExactPlacesAt", spec := "fnExactPlacesAt", apart := false, narrowed := true }
def FnExactPlacesAtUptoSaid : Prop := fnExactPlacesAtUptoRow.holds Try.pinned (OpenSpec.upto fnExactPlacesAtSpec)

/-- 'laws.FnExactFirstAt', WHERE WHAT IT READS IS OF BULK AT MOST 1048576: true; the input reads as it did. -/
def fnExactFirstAtUptoRow : OpenClaim := { program := "ytolepbdmbedload", sum := "1c63e26035bac729197cb6346fdd4938aa6277dade04f719a60c770acf753ff2", func := "loop.example/g00599/laws.FnExactFirstAt", spec := "fnExactFirstAt", apart := false, narrowed := true }
def FnExactFirstAtUptoSaid : Prop := fnExactFirstAtUptoRow.holds Try.pinned (OpenSpec.upto fnExactFirstAtSpec)

/-- 'laws.FnAngles', WHERE WHAT IT READS IS OF BULK AT MOST 1048576: true; the input reads as it did. -/
def fnAnglesUptoRow : OpenClaim := { program := "ytolepbdmbedload", sum := "1c63e26035bac729197cb6346fdd4938aa6277dade04f719a60c770acf753ff2", func := "loop.example/g00599/laws.FnAngles", spec := "fnAngles", apart := false, narrowed := true }
def FnAnglesUptoSaid : Prop := fnAnglesUptoRow.holds Try.pinned (OpenSpec.upto fnAnglesSpec)

/-- 'laws.FnOrbits', WHERE WHAT IT READS IS OF BULK AT MOST 1048576: true; the input reads as it did. -/
def fnOrbitsUptoRow : OpenClaim := { program := "ytolepbdmbedload", sum := "1c63e26035bac729197cb6346fdd4938aa6277dade04f719a60c770acf753ff2", func := "loop.example/g00599/laws.FnOrbits", spec := "fnOrbits", apart := false, narrowed := true }
def FnOrbitsUptoSaid : Prop := fnOrbitsUptoRow.holds Try.pinned (OpenSpec.upto fnOrbitsSpec)

end Rows
end Go.Proofs.Ytolepbdmbedload
