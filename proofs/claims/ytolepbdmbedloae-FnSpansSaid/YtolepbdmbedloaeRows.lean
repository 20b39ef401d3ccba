/-
  No cell of these rows narrows 'for every input' (looked for: loops, veiled, ifaces, maps, wideKeys, modest, calm, conditions, laid).
  DERIVED. THE GIVEN ROWS OF THIS SEAT. 6 by the template 'for every input the law returns true; each argument reads behind the call as it read before'; 0 by the template 'total and deterministic' (their statements: YtolepbdmbedloaeTotals.lean).
  GIVEN WITH THE SEED: the statements are not yours to turn. If you find one false, say at which input.
  Laid BY PROGRAM, IN A SANDBOX (cutbox-rows.mjs): the forced cells as the released guide's own fill.sh prints them over the translation c5abc60454a6c63e… (all of the seat's roots in one cut). By AI agents, Wed Nov 11 2026. No macro, syntax, notation, axiom, sorry.
-/
import Derived.Test.YtolepbdmbedloaeChecked
import GoSem.Claim
import GoSem.ClaimJoined
import GoSem.ClaimMapViews
import Derived.JoinedTies
import Derived.KernelRfl
namespace Go.Proofs.Ytolepbdmbedloae
/- THE CELL 'sum', in the pinned program and in every row, IS THE sha256 OF THE DUMP (.gsa) THAT YtolepbdmbedloaeProg.lean LOADS. Nothing in Lean hashes anything: it is a label: what it is worth is what the hold of that sum in a sandbox is worth. -/
noncomputable def Try.pinned : Pinned := { name := "ytolepbdmbedloae", sum := "c5abc60454a6c63ebdca449b4fc80a72e81d7c0c9b4b71434dbe9c7a3a3ec078", checked := Try.checked }
namespace Rows
def none {H : Type} : Left H := { results := [], args := [] }

/-- 'laws.FnExactTicksOf': WHATEVER THE INPUT: true; the input reads as it did. -/
def fnExactTicksOfSpec : ChangeSpec := { name := "fnExactTicksOf", fn := fun _ => fun
  | [d] => { results := [.lit (.bool true)], args := [d] }
  | _ => none }
def fnExactTicksOfRow : OpenClaim := { program := "ytolepbdmbedloae", sum := "c5abc60454a6c63ebdca449b4fc80a72e81d7c0c9b4b71434dbe9c7a3a3ec078", func := "loop.example/g00599/laws.FnExactTicksOf", spec := "fnExactTicksOf", unfollowed := true, recurses := true, apart := false }
def FnExactTicksOfSaid : Prop := fnExactTicksOfRow.holds Try.pinned (OpenSpec.ofChange fnExactTicksOfSpec)

/-- ITS FALSE NEIGHBOUR: 'it returns false'. Refute it at one input. -/
def fnExactTicksOfWrong : ChangeSpec := { name := "fnExactTicksOf", fn := fun _ => fun
  | [d] => { results := [.lit (.bool false)], args := [d] }
  | _ => none }
def FnExactTicksOfWrongFalsely : Prop := fnExactTicksOfRow.holds Try.pinned (OpenSpec.ofChange fnExactTicksOfWrong)

/-- 'laws.FnExactCutSpans': WHATEVER THE INPUT: true; the input reads as it did. -/
def fnExactCutSpansSpec : ChangeSpec := { name := "fnExactCutSpans", fn := fun _ => fun
  | [d1, d2] => { results := [.lit (.bool true)], args := [d1, d2] }
  | _ => none }
def fnExactCutSpansRow : OpenClaim := { program := "ytolepbdmbedloae", sum := "c5abc60454a6c63ebdca449b4fc80a72e81d7c0c9b4b71434dbe9c7a3a3ec078", func := "loop.example/g00599/laws.FnExactCutSpans", spec := "fnExactCutSpans", unfollowed := true, recurses := true, apart := false }
def FnExactCutSpansSaid : Prop := fnExactCutSpansRow.holds Try.pinned (OpenSpec.ofChange fnExactCutSpansSpec)

/-- ITS FALSE NEIGHBOUR: 'it returns false'. Refute it at one input. -/
def fnExactCutSpansWrong : ChangeSpec := { name := "fnExactCutSpans", fn := fun _ => fun
  | [d1, d2] => { results := [.lit (.bool false)], args := [d1, d2] }
  | _ => none }
def FnExactCutSpansWrongFalsely : Prop := fnExactCutSpansRow.holds Try.pinned (OpenSpec.ofChange fnExactCutSpansWrong)

/-- 'laws.FnExactJoinSpans': WHATEVER THE INPUT: true; the input reads as it did. -/
def fnExactJoinSpansSpec : ChangeSpec := { name := "fnExactJoinSpans", fn := fun _ => fun
  | [d] => { results := [.lit (.bool true)], args := [d] }
  | _ => none }
def fnExactJoinSpansRow : OpenClaim := { program := "ytolepbdmbedloae", sum := "c5abc60454a6c63ebdca449b4fc80a72e81d7c0c9b4b71434dbe9c7a3a3ec078", func := "loop.example/g00599/laws.FnExactJoinSpans", spec := "fnExactJoinSpans", unfollowed := true, recurses := true, apart := false }
def FnExactJoinSpansSaid : Prop := fnExactJoinSpansRow.holds Try.pinned (OpenSpec.ofChange fnExactJoinSpansSpec)

/-- ITS FALSE NEIGHBOUR: 'it returns false'. Refute it at one input. -/
def fnExactJoinSpansWrong : ChangeSpec := { name := "fnExactJoinSpans", fn := fun _ => fun
  | [d] => { results := [.lit (.bool false)], args := [d] }
  | _ => none }
def FnExactJoinSpansWrongFalsely : Prop := fnExactJoinSpansRow.holds Try.pinned (OpenSpec.ofChange fnExactJoinSpansWrong)

/-- 'laws.FnExactMeetSpans': WHATEVER THE INPUT: true; the input reads as it did. -/
def fnExactMeetSpansSpec : ChangeSpec := { name := "fnExactMeetSpans", fn := fun _ => fun
  | [d1, d2] => { results := [.lit (.bool true)], args := [d1, d2] }
  | _ => none }
def fnExactMeetSpansRow : OpenClaim := { program := "ytolepbdmbedloae", sum := "c5abc60454a6c63ebdca449b4fc80a72e81d7c0c9b4b71434dbe9c7a3a3ec078", func := "loop.example/g00599/laws.FnExactMeetSpans", spec := "fnExactMeetSpans", unfollowed := true, recurses := true, apart := false }
def FnExactMeetSpansSaid : Prop := fnExactMeetSpansRow.holds Try.pinned (OpenSpec.ofChange fnExactMeetSpansSpec)

/-- ITS FALSE NEIGHBOUR: 'it returns false'. Refute it at one input. -/
def fnExactMeetSpansWrong : ChangeSpec := { name := "fnExactMeetSpans", fn := fun _ => fun
  | [d1, d2] => { results := [.lit (.bool false)], args := [d1, d2] }
  | _ => none }
def FnExactMeetSpansWrongFalsely : Prop := fnExactMeetSpansRow.holds Try.pinned (OpenSpec.ofChange fnExactMeetSpansWrong)

/-- 'laws.FnExactShortenSpans': WHATEVER THE INPUT: true; the input reads as it did. -/
def fnExactShortenSpansSpec : ChangeSpec := { name := "fnExactShortenSpans", fn := fun _ => fun
  | [d1, d2, d3] => { results := [.lit (.bool true)], args := [d1, d2, d3] }
  | _ => none }
def fnExactShortenSpansRow : OpenClaim := { program := "ytolepbdmbedloae", sum := "c5abc60454a6c63ebdca449b4fc80a72e81d7c0c9b4b71434dbe9c7a3a3ec078", func := "loop.example/g00599/laws.FnExactShortenSpans", spec := "fnExactShortenSpans", unfollowed := true, recurses := true, apart := false }
def FnExactShortenSpansSaid : Prop := fnExactShortenSpansRow.holds Try.pinned (OpenSpec.ofChange fnExactShortenSpansSpec)

/-- ITS FALSE NEIGHBOUR: 'it returns false'. Refute it at one input. -/
def fnExactShortenSpansWrong : ChangeSpec := { name := "fnExactShortenSpans", fn := fun _ => fun
  | [d1, d2, d3] => { results := [.lit (.bool false)], args := [d1, d2, d3] }
  | _ => none }
def FnExactShortenSpansWrongFalsely : Prop := fnExactShortenSpansRow.holds Try.pinned (OpenSpec.ofChange fnExactShortenSpansWrong)

/-- 'laws.FnSpans': WHATEVER THE INPUT: true; the input reads as it did. -/
def fnSpansSpec : ChangeSpec := { name := "fnSpans", fn := fun _ => fun
  | [d] => { results := [.lit (.bool true)], args := [d] }
  | _ => none }
def fnSpansRow : OpenClaim := { program := "ytolepbdmbedloae", sum := "c5abc60454a6c63ebdca449b4fc80a72e81d7c0c9b4b71434dbe9c7a3a3ec078", func := "loop.example/g00599/laws.FnSpans", spec := "fnSpans", unfollowed := true, recurses := true, apart := false }
def FnSpansSaid : Prop := fnSpansRow.holds Try.pinned (OpenSpec.ofChange fnSpansSpec)

/-- ITS FALSE NEIGHBOUR: 'it returns false'. Refute it at one input. -/
def fnSpansWrong : ChangeSpec := { name := "fnSpans", fn := fun _ => fun
  | [d] => { results := [.lit (.bool false)], args := [d] }
  | _ => none }
def FnSpansWrongFalsely : Prop := fnSpansRow.holds Try.pinned (OpenSpec.ofChange fnSpansWrong)

/- THE SECOND FORM. 'bulk': how many values and letters a reading holds, each counted each time it is reached (what is shared counts as often as it is met; a slice's spare places count too). A statement '..UptoSaid' is the law's where the arguments, and the package variables that the reading takes, are together of bulk at most 1048576: NARROWER than '..Said'. Prove '..Said' where nothing that the law and all that it calls make is longer than what came in: it says more and counts as full. Else prove '..UptoSaid'. A law counts once. -/
mutual
def uptoBulk {H : Type} : DataW H → Nat
  | .lit (.string bytes) => bytes.length + 1
  | .lit _ => 1
  | .nil => 1
  | .ptr d => uptoBulk d + 1
  | .slice elems spare => uptoBulkAll elems + uptoBulkAll spare + 1
  | .agg parts => uptoBulkAll parts + 1
  | .iface _ d => uptoBulk d + 1
  | .map entries => uptoBulkEntries entries + 1
  | .held _ => 1
def uptoBulkAll {H : Type} : List (DataW H) → Nat
  | [] => 0
  | d :: r => uptoBulk d + uptoBulkAll r
def uptoBulkEntries {H : Type} : List (Lit × DataW H) → Nat
  | [] => 0
  | x :: r => uptoBulkEntry x + uptoBulkEntries r
def uptoBulkEntry {H : Type} : Lit × DataW H → Nat
  | (.string bytes, d) => bytes.length + uptoBulk d + 1
  | (_, d) => uptoBulk d + 1
 end
def uptoSmall : (H : Type) → List (DataW H) → Bool := fun _ ds => decide (uptoBulkAll ds ≤ 1048576)
def OpenSpec.upto (s : _root_.Go.ChangeSpec) : _root_.Go.OpenSpec := { _root_.Go.OpenSpec.ofChange s with cond := some uptoSmall }

/-- 'laws.FnExactTicksOf', WHERE WHAT IT READS IS OF BULK AT MOST 1048576: true; the input reads as it did. -/
def fnExactTicksOfUptoRow : OpenClaim := { program := "ytolepbdmbedloae", sum := "c5abc60454a6c63ebdca449b4fc80a72e81d7c0c9b4b71434dbe9c7a3a3ec078", func := "loop.example/g00599/laws.FnExactTicksOf", spec := "fnExactTicksOf", unfollowed := true, recurses := true, apart := false, narrowed := true }
def FnExactTicksOfUptoSaid : Prop := fnExactTicksOfUptoRow.holds Try.pinned (OpenSpec.upto fnExactTicksOfSpec)

/-- 'laws.FnExactCutSpans', WHERE WHAT IT READS IS OF BULK AT MOST 1048576: true; the input reads as it did. -/
def fnExactCutSpansUptoRow : OpenClaim := { program := "ytolepbdmbedloae", sum := "c5abc60454a6c63ebdca449b4fc80a72e81d7c0c9b4b71434dbe9c7a3a3ec078", func := "loop.example/g00599/laws.FnExactCutSpans", spec := "fnExactCutSpans", unfollowed := true, recurses := true, apart := false, narrowed := true }
def FnExactCutSpansUptoSaid : Prop := fnExactCutSpansUptoRow.holds Try.pinned (OpenSpec.upto fnExactCutSpansSpec)

/-- 'laws.FnExactJoinSpans', WHERE WHAT IT READS IS OF BULK AT MOST 1048576: true; the input reads as it did. -/
def fnExactJoinSpansUptoRow : OpenClaim := { program := "ytolepbdmbedloae", sum := "c5abc60454a6c63ebdca449b4fc80a72e81d7c0c9b4b71434dbe9c7a3a3ec078", func := "loop.example/g00599/laws.FnExactJoinSpans", spec := "fnExactJoinSpans", unfollowed := true, recurses := true, apart := false, narrowed := true }
def FnExactJoinSpansUptoSaid : Prop := fnExactJoinSpansUptoRow.holds Try.pinned (OpenSpec.upto fnExactJoinSpansSpec)

/-- 'laws.FnExactMeetSpans', WHERE WHAT IT READS IS OF BULK AT MOST 1048576: true; the input reads as it did. -/
def fnExactMeetSpansUptoRow : OpenClaim := { program := "ytolepbdmbedloae", sum := "c5abc60454a6c63ebdca449b4fc80a72e81d7c0c9b4b71434dbe9c7a3a3ec078", func := "loop.example/g00599/laws.FnExactMeetSpans", spec := "fnExactMeetSpans", unfollowed := true, recurses := true, apart := false, narrowed := true }
def FnExactMeetSpansUptoSaid : Prop := fnExactMeetSpansUptoRow.holds Try.pinned (OpenSpec.upto fnExactMeetSpansSpec)

/-- 'laws.FnExactShortenSpans', WHERE WHAT IT READS IS OF BULK AT MOST 1048576: true; the input reads as it did. -/
def fnExactShortenSpansUptoRow : OpenClaim := { program := "ytolepbdmbedloae", sum := "c5abc60454a6c63ebdca449b4fc80a72e81d7c0c9b4b71434dbe9c7a3a3ec078", func := "loop.example/g00599/laws.FnExactShortenSpans", spec := "fnExactShortenSpans", unfollowed := true, recurses := true, apart := false, narrowed := true }
def FnExactShortenSpansUptoSaid : Prop := fnExactShortenSpansUptoRow.holds Try.pinned (OpenSpec.upto fnExactShortenSpansSpec)

/-- 'laws.FnSpans', WHERE WHAT IT READS IS OF BULK AT MOST 1048576: true; the input reads as it did. -/
def fnSpansUptoRow : OpenClaim := { program := "ytolepbdmbedloae", sum := "c5abc60454a6c63ebdca449b4fc80a72e81d7c0c9b4b71434dbe9c7a3a3ec078", func := "loop.example/g00599/laws.FnSpans", spec := "fnSpans", unfollowed := true, recurses := true, apart := false, narrowed := true }
def FnSpansUptoSaid : Prop := fnSpansUptoRow.holds Try.pinned (OpenSpec.upto fnSpansSpec)

end Rows
end Go.Proofs.Ytolepbdmbedloae
