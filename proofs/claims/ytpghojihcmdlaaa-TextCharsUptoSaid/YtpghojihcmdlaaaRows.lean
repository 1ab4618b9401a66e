/-
  No cell of these rows narrows 'for every input' (looked for: loops, veiled, ifaces, maps, wideKeys, modest, calm, conditions, laid).
  DERIVED. THE GIVEN ROWS OF THIS SEAT. 5 by the template 'for every input the law returns true; each argument reads behind the call as it read before'; 0 by the template 'total and deterministic' (their statements: YtpghojihcmdlaaaTotals.lean).
  GIVEN WITH THE SEED: the statements are not yours to turn. If you find one false, say at which input.
  Laid BY PROGRAM, IN A SANDBOX (cutbox-rows.mjs): the forced cells as the released guide's own fill.sh prints them over the translation 2e74733189432fcf… (all of the seat's roots in one cut). By AI agents, Wed Nov 11 2026. No macro, syntax, notation, axiom, sorry.
-/
import Derived.Test.YtpghojihcmdlaaaChecked
import GoSem.Claim
import GoSem.ClaimJoined
import GoSem.ClaimMapViews
import Derived.JoinedTies
import Derived.KernelRfl
namespace Go.Proofs.Ytpghojihcmdlaaa
/- THE CELL 'sum', in the pinned program and in every row, IS THE sha256 OF THE DUMP (.gsa) THAT YtpghojihcmdlaaaProg.lean LOADS. Nothing in Lean hashes anything: it is a label: what it is worth is what the hold of that sum in a sandbox is worth. -/
noncomputable def Try.pinned : Pinned := { name := "ytpghojihcmdlaaa", sum := "2e74733189432fcfb3d0525adcdda2ce3ae0965651d83fe1618fc43ca4b11ef2", checked := Try.checked }
namespace Rows
def none {H : Type} : Left H := { results := [], args := [] }

/-- 'aukletlaw02.TextSubs': WHATEVER THE INPUT: true; the input reads as it did. -/
def textSubsSpec : ChangeSpec := { name := "textSubs", fn := fun _ => fun
  | [d1, d2, d3] => { results := [.lit (.bool true)], args := [d1, d2, d3] }
  | _ => none }
def textSubsRow : OpenClaim := { program := "ytpghojihcmdlaaa", sum := "2e74733189432fcfb3d0525adcdda2ce3ae0965651d83fe1618fc43ca4b11ef2", func := "auklet/aukletlaw02.TextSubs", spec := "textSubs", apart := false }
def TextSubsSaid : Prop := textSubsRow.holds Try.pinned (OpenSpec.ofChange textSubsSpec)

/-- ITS FALSE NEIGHBOUR: 'it returns false'. Refute it at one input. -/
def textSubsWrong : ChangeSpec := { name := "textSubs", fn := fun _ => fun
  | [d1, d2, d3] => { results := [.lit (.bool false)], args := [d1, d2, d3] }
  | _ => none }
def TextSubsWrongFalsely : Prop := textSubsRow.holds Try.pinned (OpenSpec.ofChange textSubsWrong)

/-- 'aukletlaw02.TextFinds': WHATEVER THE INPUT: true; the input reads as it did. -/
def textFindsSpec : ChangeSpec := { name := "textFinds", fn := fun _ => fun
  | [d1, d2] => { results := [.lit (.bool true)], args := [d1, d2] }
  | _ => none }
def textFindsRow : OpenClaim := { program := "ytpghojihcmdlaaa", sum := "2e74733189432fcfb3d0525adcdda2ce3ae0965651d83fe1618fc43ca4b11ef2", func := "auklet/aukletlaw02.TextFinds", spec := "textFinds", apart := false }
def TextFindsSaid : Prop := textFindsRow.holds Try.pinned (OpenSpec.ofChange textFindsSpec)

/-- ITS FALSE NEIGHBOUR: 'it returns false'. Refute it at one input. -/
def textFindsWrong : ChangeSpec := { name := "textFinds", fn := fun _ => fun
  | [d1, d2] => { results := [.lit (.bool false)], args := [d1, d2] }
  | _ => none }
def TextFindsWrongFalsely : Prop := textFindsRow.holds Try.pinned (OpenSpec.ofChange textFindsWrong)

/-- 'aukletlaw02.TextOrders': WHATEVER THE INPUT: true; the input reads as it did. -/
def textOrdersSpec : ChangeSpec := { name := "textOrders", fn := fun _ => fun
  | [d1, d2] => { results := [.lit (.bool true)], args := [d1, d2] }
  | _ => none }
def textOrdersRow : OpenClaim := { program := "ytpghojihcmdlaaa", sum := "2e74733189432fcfb3d0525adcdda2ce3ae0965651d83fe1618fc43ca4b11ef2", func := "auklet/aukletlaw02.TextOrders", spec := "textOrders", inPlace := ["internal/bytealg.abigen_runtime_cmpstring"], apart := false }
def TextOrdersSaid : Prop := textOrdersRow.holds Try.pinned (OpenSpec.ofChange textOrdersSpec)

/-- ITS FALSE NEIGHBOUR: 'it returns false'. Refute it at one input. -/
def textOrdersWrong : ChangeSpec := { name := "textOrders", fn := fun _ => fun
  | [d1, d2] => { results := [.lit (.bool false)], args := [d1, d2] }
  | _ => none }
def TextOrdersWrongFalsely : Prop := textOrdersRow.holds Try.pinned (OpenSpec.ofChange textOrdersWrong)

/-- 'aukletlaw02.TextCases': WHATEVER THE INPUT: true; the input reads as it did. -/
def textCasesSpec : ChangeSpec := { name := "textCases", fn := fun _ => fun
  | [d] => { results := [.lit (.bool true)], args := [d] }
  | _ => none }
def textCasesRow : OpenClaim := { program := "ytpghojihcmdlaaa", sum := "2e74733189432fcfb3d0525adcdda2ce3ae0965651d83fe1618fc43ca4b11ef2", func := "auklet/aukletlaw02.TextCases", spec := "textCases", apart := false }
def TextCasesSaid : Prop := textCasesRow.holds Try.pinned (OpenSpec.ofChange textCasesSpec)

/-- ITS FALSE NEIGHBOUR: 'it returns false'. Refute it at one input. -/
def textCasesWrong : ChangeSpec := { name := "textCases", fn := fun _ => fun
  | [d] => { results := [.lit (.bool false)], args := [d] }
  | _ => none }
def TextCasesWrongFalsely : Prop := textCasesRow.holds Try.pinned (OpenSpec.ofChange textCasesWrong)

/-- 'aukletlaw02.TextChars': WHATEVER THE INPUT: true; the input reads as it did. -/
def textCharsSpec : ChangeSpec := { name := "textChars", fn := fun _ => fun
  | [d] => { results := [.lit (.bool true)], args := [d] }
  | _ => none }
def textCharsRow : OpenClaim := { program := "ytpghojihcmdlaaa", sum := "2e74733189432fcfb3d0525adcdda2ce3ae0965651d83fe1618fc43ca4b11ef2", func := "auklet/aukletlaw02.TextChars", spec := "textChars", apart := false }
def TextCharsSaid : Prop := textCharsRow.holds Try.pinned (OpenSpec.ofChange textCharsSpec)

/-- ITS FALSE NEIGHBOUR: 'it returns false'. Refute it at one input. -/
def textCharsWrong : ChangeSpec := { name := "textChars", fn := fun _ => fun
  | [d] => { results := [.lit (.bool false)], args := [d] }
  | _ => none }
def TextCharsWrongFalsely : Prop := textCharsRow.holds Try.pinned (OpenSpec.ofChange textCharsWrong)

/- THE SECOND FORM. 'bulk': how many values and letters a reading holds, each counted each time it is reached (what is shared counts as often as it is met; a slice's spare places count too). A statement '..UptoSaid' is the law's where the arguments, and the package variables that the reading takes, are together of bulk at most 1048576: NARROWER than '..Said'. Prove '..Said' where nothing that the law and all that it calls make is longer than what came in: it says more and counts as full. Else prove '..UptoSaid'. A law counts once. -/
mutual
def uptoBulk {H : Type} : DataW H → Nat
  | .lit (.string bytes) => bytes.length + 1
  | .lit _ => 1
  | .nil => 1
  | .ptr d => uptoBulk d + 1
  | .slice elems spare => uptoBulkAll elems + uptoBulkAll spare + 1
  | .agg parts => uptoBulkAll parts + 1
  | .iface _ d => uptoBulk d + 1
  | .map entries => uptoBulkEntries entries + 1
  | .held _ => 1
def uptoBulkAll {H : Type} : List (DataW H) → Nat
  | [] => 0
  | d :: r => uptoBulk d + uptoBulkAll r
def uptoBulkEntries {H : Type} : List (Lit × DataW H) → Nat
  | [] => 0
  | x :: r => uptoBulkEntry x + uptoBulkEntries r
def uptoBulkEntry {H : Type} : Lit × DataW H → Nat
  | (.string bytes, d) => bytes.length + uptoBulk d + 1
  | (_, d) => uptoBulk d + 1
 end
def uptoSmall : (H : Type) → List (DataW H) → Bool := fun _ ds => decide (uptoBulkAll ds ≤ 1048576)
def OpenSpec.upto (s : _root_.Go.ChangeSpec) : _root_.Go.OpenSpec := { _root_.Go.OpenSpec.ofChange s with cond := some uptoSmall }

/-- 'aukletlaw02.TextSubs', WHERE WHAT IT READS IS OF BULK AT MOST 1048576: true; the input reads as it did. -/
def textSubsUptoRow : OpenClaim := { program := "ytpghojihcmdlaaa", sum := "2e74733189432fcfb3d0525adcdda2ce3ae0965651d83fe1618fc43ca4b11ef2", func := "auklet/aukletlaw02.TextSubs", spec := "textSubs", apart := false, narrowed := true }
def TextSubsUptoSaid : Prop := textSubsUptoRow.holds Try.pinned (OpenSpec.upto textSubsSpec)

/-- 'aukletlaw02.TextFinds', WHERE WHAT IT READS IS OF BULK AT MOST 1048576: true; the input reads as it did. -/
def textFindsUptoRow : OpenClaim := { program := "ytpghojihcmdlaaa", sum := "2e74733189432fcfb3d0525adcdda2ce3ae0965651d83fe1618fc43ca4b11ef2", func := "auklet/aukletlaw02.TextFinds", spec := "textFinds", apart := false, narrowed := true }
def TextFindsUptoSaid : Prop := textFindsUptoRow.holds Try.pinned (OpenSpec.upto textFindsSpec)

/-- 'aukletlaw02.TextOrders', WHERE WHAT IT READS IS OF BULK AT MOST 1048576: true; the input reads as it did. -/
def textOrdersUptoRow : OpenClaim := { program := "ytpghojihcmdlaaa", sum := "2e74733189432fcfb3d0525adcdda2ce3ae0965651d83fe1618fc43ca4b11ef2", func := "auklet/aukletlaw02.TextOrders", spec := "textOrders", inPlace := ["internal/bytealg.abigen_runtime_cmpstring"], apart := false, narrowed := true }
def TextOrdersUptoSaid : Prop := textOrdersUptoRow.holds Try.pinned (OpenSpec.upto textOrdersSpec)

/-- 'aukletlaw02.TextCases', WHERE WHAT IT READS IS OF BULK AT MOST 1048576: true; the input reads as it did. -/
def textCasesUptoRow : OpenClaim := { program := "ytpghojihcmdlaaa", sum := "2e74733189432fcfb3d0525adcdda2ce3ae0965651d83fe1618fc43ca4b11ef2", func := "auklet/aukletlaw02.TextCases", spec := "textCases", apart := false, narrowed := true }
def TextCasesUptoSaid : Prop := textCasesUptoRow.holds Try.pinned (OpenSpec.upto textCasesSpec)

/-- 'aukletlaw02.TextChars', WHERE WHAT IT READS IS OF BULK AT MOST 1048576: true; the input reads as it did. -/
def textCharsUptoRow : OpenClaim := { program := "ytpghojihcmdlaaa", sum := "2e74733189432fcfb3d0525adcdda2ce3ae0965651d83fe1618fc43ca4b11ef2", func := "auklet/aukletlaw02.TextChars", spec := "textChars", apart := false, narrowed := true }
def TextCharsUptoSaid : Prop := textCharsUptoRow.holds Try.pinned (OpenSpec.upto textCharsSpec)

end Rows
end Go.Proofs.Ytpghojihcmdlaaa
