/-
  No cell of these rows narrows 'for every input' (looked for: loops, veiled, ifaces, maps, wideKeys, modest, calm, conditions, laid).
  DERIVED. THE GIVEN ROWS OF THIS SEAT. 8 by the template 'for every input the law returns true; each argument reads behind the call as it read before'; 0 by the template 'total and deterministic' (their statements: YtjbblmdpiapmbaaTotals.lean).
  GIVEN WITH THE SEED: the statements are not yours to turn. If you find one false, say at which input.
  Laid BY PROGRAM, IN A SANDBOX (cutbox-rows.mjs): the forced cells as the released guide's own fill.sh prints them over the translation 083b12896d56075f… (all of the seat's roots in one cut). By AI agents, Wed Nov 11 2026. No macro, syntax, notation, axiom, sorry.
-/
import Derived.Test.YtjbblmdpiapmbaaChecked
import GoSem.Claim
import GoSem.ClaimJoined
import GoSem.ClaimMapViews
import Derived.JoinedTies
import Derived.KernelRfl
namespace Go.Proofs.Ytjbblmdpiapmbaa
/- THE CELL 'sum', in the pinned program and in every row, IS THE sha256 OF THE DUMP (.gsa) THAT YtjbblmdpiapmbaaProg.lean LOADS. Nothing in Lean hashes anything: it is a label: what it is worth is what the hold of that sum in a sandbox is worth. -/
noncomputable def Try.pinned : Pinned := { name := "ytjbblmdpiapmbaa", sum := "083b12896d56075f9c67af04374d1cf8176049c42ce5009ae289ff0af98413e0", checked := Try.checked }
namespace Rows
def none {H : Type} : Left H := { results := [], args := [] }

/-- 'aukletlaw01.DecProducts': WHATEVER THE INPUT: true; the input reads as it did. -/
def decProductsSpec : ChangeSpec := { name := "decProducts", fn := fun _ => fun
  | [d1, d2] => { results := [.lit (.bool true)], args := [d1, d2] }
  | _ => none }
def decProductsRow : OpenClaim := { program := "ytjbblmdpiapmbaa", sum := "083b12896d56075f9c67af04374d1cf8176049c42ce5009ae289ff0af98413e0", func := "auklet/aukletlaw01.DecProducts", spec := "decProducts", inPlace := ["math/bits.Add64"], unfollowed := true, recurses := true, named := ["math/bits.divideError", "math/bits.overflowError"], apart := false }
def DecProductsSaid : Prop := decProductsRow.holds Try.pinned (OpenSpec.ofChange decProductsSpec)

/-- ITS FALSE NEIGHBOUR: 'it returns false'. Refute it at one input. -/
def decProductsWrong : ChangeSpec := { name := "decProducts", fn := fun _ => fun
  | [d1, d2] => { results := [.lit (.bool false)], args := [d1, d2] }
  | _ => none }
def DecProductsWrongFalsely : Prop := decProductsRow.holds Try.pinned (OpenSpec.ofChange decProductsWrong)

/-- 'aukletlaw01.DecParses': WHATEVER THE INPUT: true; the input reads as it did. -/
def decParsesSpec : ChangeSpec := { name := "decParses", fn := fun _ => fun
  | [d] => { results := [.lit (.bool true)], args := [d] }
  | _ => none }
def decParsesRow : OpenClaim := { program := "ytjbblmdpiapmbaa", sum := "083b12896d56075f9c67af04374d1cf8176049c42ce5009ae289ff0af98413e0", func := "auklet/aukletlaw01.DecParses", spec := "decParses", inPlace := ["math/bits.Add64"], unfollowed := true, recurses := true, named := ["math/bits.divideError", "math/bits.overflowError"], apart := false }
def DecParsesSaid : Prop := decParsesRow.holds Try.pinned (OpenSpec.ofChange decParsesSpec)

/-- ITS FALSE NEIGHBOUR: 'it returns false'. Refute it at one input. -/
def decParsesWrong : ChangeSpec := { name := "decParses", fn := fun _ => fun
  | [d] => { results := [.lit (.bool false)], args := [d] }
  | _ => none }
def DecParsesWrongFalsely : Prop := decParsesRow.holds Try.pinned (OpenSpec.ofChange decParsesWrong)

/-- 'aukletlaw01.DecShows': WHATEVER THE INPUT: true; the input reads as it did. -/
def decShowsSpec : ChangeSpec := { name := "decShows", fn := fun _ => fun
  | [d1, d2] => { results := [.lit (.bool true)], args := [d1, d2] }
  | _ => none }
def decShowsRow : OpenClaim := { program := "ytjbblmdpiapmbaa", sum := "083b12896d56075f9c67af04374d1cf8176049c42ce5009ae289ff0af98413e0", func := "auklet/aukletlaw01.DecShows", spec := "decShows", inPlace := ["math/bits.Add64"], unfollowed := true, recurses := true, named := ["math/bits.divideError", "math/bits.overflowError"], apart := false }
def DecShowsSaid : Prop := decShowsRow.holds Try.pinned (OpenSpec.ofChange decShowsSpec)

/-- ITS FALSE NEIGHBOUR: 'it returns false'. Refute it at one input. -/
def decShowsWrong : ChangeSpec := { name := "decShows", fn := fun _ => fun
  | [d1, d2] => { results := [.lit (.bool false)], args := [d1, d2] }
  | _ => none }
def DecShowsWrongFalsely : Prop := decShowsRow.holds Try.pinned (OpenSpec.ofChange decShowsWrong)

/-- 'aukletlaw01.DecWholes': WHATEVER THE INPUT: true; the input reads as it did. -/
def decWholesSpec : ChangeSpec := { name := "decWholes", fn := fun _ => fun
  | [d] => { results := [.lit (.bool true)], args := [d] }
  | _ => none }
def decWholesRow : OpenClaim := { program := "ytjbblmdpiapmbaa", sum := "083b12896d56075f9c67af04374d1cf8176049c42ce5009ae289ff0af98413e0", func := "auklet/aukletlaw01.DecWholes", spec := "decWholes", inPlace := ["math/bits.Add64"], unfollowed := true, recurses := true, named := ["math/bits.divideError", "math/bits.overflowError"], apart := false }
def DecWholesSaid : Prop := decWholesRow.holds Try.pinned (OpenSpec.ofChange decWholesSpec)

/-- ITS FALSE NEIGHBOUR: 'it returns false'. Refute it at one input. -/
def decWholesWrong : ChangeSpec := { name := "decWholes", fn := fun _ => fun
  | [d] => { results := [.lit (.bool false)], args := [d] }
  | _ => none }
def DecWholesWrongFalsely : Prop := decWholesRow.holds Try.pinned (OpenSpec.ofChange decWholesWrong)

/-- 'aukletlaw01.DecOrders': WHATEVER THE INPUT: true; the input reads as it did. -/
def decOrdersSpec : ChangeSpec := { name := "decOrders", fn := fun _ => fun
  | [d1, d2, d3] => { results := [.lit (.bool true)], args := [d1, d2, d3] }
  | _ => none }
def decOrdersRow : OpenClaim := { program := "ytjbblmdpiapmbaa", sum := "083b12896d56075f9c67af04374d1cf8176049c42ce5009ae289ff0af98413e0", func := "auklet/aukletlaw01.DecOrders", spec := "decOrders", inPlace := ["math/bits.Add64"], unfollowed := true, recurses := true, named := ["math/bits.divideError", "math/bits.overflowError"], apart := false }
def DecOrdersSaid : Prop := decOrdersRow.holds Try.pinned (OpenSpec.ofChange decOrdersSpec)

/-- ITS FALSE NEIGHBOUR: 'it returns false'. Refute it at one input. -/
def decOrdersWrong : ChangeSpec := { name := "decOrders", fn := fun _ => fun
  | [d1, d2, d3] => { results := [.lit (.bool false)], args := [d1, d2, d3] }
  | _ => none }
def DecOrdersWrongFalsely : Prop := decOrdersRow.holds Try.pinned (OpenSpec.ofChange decOrdersWrong)

/-- 'aukletlaw01.DecQuotients': WHATEVER THE INPUT: true; the input reads as it did. -/
def decQuotientsSpec : ChangeSpec := { name := "decQuotients", fn := fun _ => fun
  | [d1, d2] => { results := [.lit (.bool true)], args := [d1, d2] }
  | _ => none }
def decQuotientsRow : OpenClaim := { program := "ytjbblmdpiapmbaa", sum := "083b12896d56075f9c67af04374d1cf8176049c42ce5009ae289ff0af98413e0", func := "auklet/aukletlaw01.DecQuotients", spec := "decQuotients", inPlace := ["math/bits.Add64"], unfollowed := true, recurses := true, named := ["math/bits.divideError", "math/bits.overflowError"], apart := false }
def DecQuotientsSaid : Prop := decQuotientsRow.holds Try.pinned (OpenSpec.ofChange decQuotientsSpec)

/-- ITS FALSE NEIGHBOUR: 'it returns false'. Refute it at one input. -/
def decQuotientsWrong : ChangeSpec := { name := "decQuotients", fn := fun _ => fun
  | [d1, d2] => { results := [.lit (.bool false)], args := [d1, d2] }
  | _ => none }
def DecQuotientsWrongFalsely : Prop := decQuotientsRow.holds Try.pinned (OpenSpec.ofChange decQuotientsWrong)

/-- 'aukletlaw01.DecSums': WHATEVER THE INPUT: true; the input reads as it did. -/
def decSumsSpec : ChangeSpec := { name := "decSums", fn := fun _ => fun
  | [d1, d2] => { results := [.lit (.bool true)], args := [d1, d2] }
  | _ => none }
def decSumsRow : OpenClaim := { program := "ytjbblmdpiapmbaa", sum := "083b12896d56075f9c67af04374d1cf8176049c42ce5009ae289ff0af98413e0", func := "auklet/aukletlaw01.DecSums", spec := "decSums", inPlace := ["math/bits.Add64"], unfollowed := true, recurses := true, named := ["math/bits.divideError", "math/bits.overflowError"], apart := false }
def DecSumsSaid : Prop := decSumsRow.holds Try.pinned (OpenSpec.ofChange decSumsSpec)

/-- ITS FALSE NEIGHBOUR: 'it returns false'. Refute it at one input. -/
def decSumsWrong : ChangeSpec := { name := "decSums", fn := fun _ => fun
  | [d1, d2] => { results := [.lit (.bool false)], args := [d1, d2] }
  | _ => none }
def DecSumsWrongFalsely : Prop := decSumsRow.holds Try.pinned (OpenSpec.ofChange decSumsWrong)

/-- 'aukletlaw01.DecRests': WHATEVER THE INPUT: true; the input reads as it did. -/
def decRestsSpec : ChangeSpec := { name := "decRests", fn := fun _ => fun
  | [d1, d2] => { results := [.lit (.bool true)], args := [d1, d2] }
  | _ => none }
def decRestsRow : OpenClaim := { program := "ytjbblmdpiapmbaa", sum := "083b12896d56075f9c67af04374d1cf8176049c42ce5009ae289ff0af98413e0", func := "auklet/aukletlaw01.DecRests", spec := "decRests", inPlace := ["math/bits.Add64"], unfollowed := true, recurses := true, named := ["math/bits.divideError", "math/bits.overflowError"], apart := false }
def DecRestsSaid : Prop := decRestsRow.holds Try.pinned (OpenSpec.ofChange decRestsSpec)

/-- ITS FALSE NEIGHBOUR: 'it returns false'. Refute it at one input. -/
def decRestsWrong : ChangeSpec := { name := "decRests", fn := fun _ => fun
  | [d1, d2] => { results := [.lit (.bool false)], args := [d1, d2] }
  | _ => none }
def DecRestsWrongFalsely : Prop := decRestsRow.holds Try.pinned (OpenSpec.ofChange decRestsWrong)

/- THE SECOND FORM. 'bulk': how many values and letters a reading holds, each counted each time it is reached (what is shared counts as often as it is met; a slice's spare places count too). A statement '..UptoSaid' is the law's where the arguments, and the package variables that the reading takes, are together of bulk at most 1048576: NARROWER than '..Said'. Prove '..Said' where nothing that the law and all that it calls make is longer than what came in: it says more and counts as full. Else prove '..UptoSaid'. A law counts once. -/
mutual
def uptoBulk {H : Type} : DataW H → Nat
  | .lit (.string bytes) => bytes.length + 1
  | .lit _ => 1
  | .nil => 1
  | .ptr d => uptoBulk d + 1
  | .slice elems spare => uptoBulkAll elems + uptoBulkAll spare + 1
  | .agg parts => uptoBulkAll parts + 1
  | .iface _ d => uptoBulk d + 1
  | .map entries => uptoBulkEntries entries + 1
  | .held _ => 1
def uptoBulkAll {H : Type} : List (DataW H) → Nat
  | [] => 0
  | d :: r => uptoBulk d + uptoBulkAll r
def uptoBulkEntries {H : Type} : List (Lit × DataW H) → Nat
  | [] => 0
  | x :: r => uptoBulkEntry x + uptoBulkEntries r
def uptoBulkEntry {H : Type} : Lit × DataW H → Nat
  | (.string bytes, d) => bytes.length + uptoBulk d + 1
  | (_, d) => uptoBulk d + 1
 end
def uptoSmall : (H : Type) → List (DataW H) → Bool := fun _ ds => decide (uptoBulkAll ds ≤ 1048576)
def OpenSpec.upto (s : _root_.Go.ChangeSpec) : _root_.Go.OpenSpec := { _root_.Go.OpenSpec.ofChange s with cond := some uptoSmall }

/-- 'aukletlaw01.DecProducts', WHERE WHAT IT READS IS OF BULK AT MOST 1048576: true; the input reads as it did. -/
def decProductsUptoRow : OpenClaim := { program := "ytjbblmdpiapmbaa", sum := "083b12896d56075f9c67af04374d1cf8176049c42ce5009ae289ff0af98413e0", func := "auklet/aukletlaw01.DecProducts", spec := "decProducts", inPlace := ["math/bits.Add64"], unfollowed := true, recurses := true, named := ["math/bits.divideError", "math/bits.overflowError"], apart := false, narrowed := true }
def DecProductsUptoSaid : Prop := decProductsUptoRow.holds Try.pinned (OpenSpec.upto decProductsSpec)

/-- 'aukletlaw01.DecParses', WHERE WHAT IT READS IS OF BULK AT MOST 1048576: true; the input reads as it did. -/
def decParsesUptoRow : OpenClaim := { program := "ytjbblmdpiapmbaa", sum := "083b12896d56075f9c67af04374d1cf8176049c42ce5009ae289ff0af98413e0", func := "auklet/aukletlaw01.DecParses", spec := "decParses", inPlace := ["math/bits.Add64"], unfollowed := true, recurses := true, named := ["math/bits.divideError", "math/bits.overflowError"], apart := false, narrowed := true }
def DecParsesUptoSaid : Prop := decParsesUptoRow.holds Try.pinned (OpenSpec.upto decParsesSpec)

/-- 'aukletlaw01.DecShows', WHERE WHAT IT READS IS OF BULK AT MOST 1048576: true; the input reads as it did. -/
def decShowsUptoRow : OpenClaim := { program := "ytjbblmdpiapmbaa", sum := "083b12896d56075f9c67af04374d1cf8176049c42ce5009ae289ff0af98413e0", func := "auklet/aukletlaw01.DecShows", spec := "decShows", inPlace := ["math/bits.Add64"], unfollowed := true, recurses := true, named := ["math/bits.divideError", "math/bits.overflowError"], apart := false, narrowed := true }
def DecShowsUptoSaid : Prop := decShowsUptoRow.holds Try.pinned (OpenSpec.upto decShowsSpec)

/-- 'aukletlaw01.DecWholes', WHERE WHAT IT READS IS OF BULK AT MOST 1048576: true; the input reads as it did. -/
def decWholesUptoRow : OpenClaim := { program := "ytjbblmdpiapmbaa", sum := "083b12896d56075f9c67af04374d1cf8176049c42ce5009ae289ff0af98413e0", func := "auklet/aukletlaw01.DecWholes", spec := "decWholes", inPlace := ["math/bits.Add64"], unfollowed := true, recurses := true, named := ["math/bits.divideError", "math/bits.overflowError"], apart := false, narrowed := true }
def DecWholesUptoSaid : Prop := decWholesUptoRow.holds Try.pinned (OpenSpec.upto decWholesSpec)

/-- 'aukletlaw01.DecOrders', WHERE WHAT IT READS IS OF BULK AT MOST 1048576: true; the input reads as it did. -/
def decOrdersUptoRow : OpenClaim := { program := "ytjbblmdpiapmbaa", sum := "083b12896d56075f9c67af04374d1cf8176049c42ce5009ae289ff0af98413e0", func := "auklet/aukletlaw01.DecOrders", spec := "decOrders", inPlace := ["math/bits.Add64"], unfollowed := true, recurses := true, named := ["math/bits.divideError", "math/bits.overflowError"], apart := false, narrowed := true }
def DecOrdersUptoSaid : Prop := decOrdersUptoRow.holds Try.pinned (OpenSpec.upto decOrdersSpec)

/-- 'aukletlaw01.DecQuotients', WHERE WHAT IT READS IS OF BULK AT MOST 1048576: true; the input reads as it did. -/
def decQuotientsUptoRow : OpenClaim := { program := "ytjbblmdpiapmbaa", sum := "083b12896d56075f9c67af04374d1cf8176049c42ce5009ae289ff0af98413e0", func := "auklet/aukletlaw01.DecQuotients", spec := "decQuotients", inPlace := ["math/bits.Add64"], unfollowed := true, recurses := true, named := ["math/bits.divideError", "math/bits.overflowError"], apart := false, narrowed := true }
def DecQuotientsUptoSaid : Prop := decQuotientsUptoRow.holds Try.pinned (OpenSpec.upto decQuotientsSpec)

/-- 'aukletlaw01.DecSums', WHERE WHAT IT READS IS OF BULK AT MOST 1048576: true; the input reads as it did. -/
def decSumsUptoRow : OpenClaim := { program := "ytjbblmdpiapmbaa", sum := "083b12896d56075f9c67af04374d1cf8176049c42ce5009ae289ff0af98413e0", func := "auklet/aukletlaw01.DecSums", spec := "decSums", inPlace := ["math/bits.Add64"], unfollowed := true, recurses := true, named := ["math/bits.divideError", "math/bits.overflowError"], apart := false, narrowed := true }
def DecSumsUptoSaid : Prop := decSumsUptoRow.holds Try.pinned (OpenSpec.upto decSumsSpec)

/-- 'aukletlaw01.DecRests', WHERE WHAT IT READS IS OF BULK AT MOST 1048576: true; the input reads as it did. -/
def decRestsUptoRow : OpenClaim := { program := "ytjbblmdpiapmbaa", sum := "083b12896d56075f9c67af04374d1cf8176049c42ce5009ae289ff0af98413e0", func := "auklet/aukletlaw01.DecRests", spec := "decRests", inPlace := ["math/bits.Add64"], unfollowed := true, recurses := true, named := ["math/bits.divideError", "math/bits.overflowError"], apart := false, narrowed := true }
def DecRestsUptoSaid : Prop := decRestsUptoRow.holds Try.pinned (OpenSpec.upto decRestsSpec)

end Rows
end Go.Proofs.Ytjbblmdpiapmbaa
