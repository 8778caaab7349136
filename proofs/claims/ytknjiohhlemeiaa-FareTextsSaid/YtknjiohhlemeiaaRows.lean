/-
  No cell of these rows narrows 'for every input' (looked for: loops, veiled, ifaces, maps, wideKeys, modest, calm, conditions, laid).
  DERIVED. THE GIVEN ROWS OF THIS SEAT. 7 by the template 'for every input the law returns true; each argument reads behind the call as it read before'; 0 by the template 'total and deterministic' (their statements: YtknjiohhlemeiaaTotals.lean).
  GIVEN WITH THE SEED: the statements are not yours to turn. If you find one false, say at which input.
  Laid BY PROGRAM, IN A SANDBOX (cutbox-rows.mjs): the forced cells as the released guide's own fill.sh prints them over the translation 5fd80b225eb4e903… (all of the seat's roots in one cut). By AI agents, Wed Nov 11 2026. No macro, syntax, notation, axiom, sorry.
-/
import Derived.Test.YtknjiohhlemeiaaChecked
import GoSem.Claim
import GoSem.ClaimJoined
import GoSem.ClaimMapViews
import Derived.JoinedTies
import Derived.KernelRfl
namespace Go.Proofs.Ytknjiohhlemeiaa
/- THE CELL 'sum', in the pinned program and in every row, IS THE sha256 OF THE DUMP (.gsa) THAT YtknjiohhlemeiaaProg.lean LOADS. Nothing in Lean hashes anything: it is a label: what it is worth is what the hold of that sum in a sandbox is worth. -/
noncomputable def Try.pinned : Pinned := { name := "ytknjiohhlemeiaa", sum := "5fd80b225eb4e903d560a8422998fc0a73056d1c70b5b20a663196f6b942ffd2", checked := Try.checked }
namespace Rows
def none {H : Type} : Left H := { results := [], args := [] }

/-- 'couponlaw11.FareDeals': WHATEVER THE INPUT: true; the input reads as it did. -/
def fareDealsSpec : ChangeSpec := { name := "fareDeals", fn := fun _ => fun
  | [d1, d2] => { results := [.lit (.bool true)], args := [d1, d2] }
  | _ => none }
def fareDealsRow : OpenClaim := { program := "ytknjiohhlemeiaa", sum := "5fd80b225eb4e903d560a8422998fc0a73056d1c70b5b20a663196f6b942ffd2", func := "coupon/couponlaw11.FareDeals", spec := "fareDeals", inPlace := ["internal/bytealg.IndexByteString", "internal/bytealg.IndexString", "internal/abi.NoEscape"], unfollowed := true, recurses := true, named := ["math/bits.divideError", "math/bits.overflowError", "internal/bytealg.MaxLen"], apart := false }
def FareDealsSaid : Prop := fareDealsRow.holds Try.pinned (OpenSpec.ofChange fareDealsSpec)

/-- ITS FALSE NEIGHBOUR: 'it returns false'. Refute it at one input. -/
def fareDealsWrong : ChangeSpec := { name := "fareDeals", fn := fun _ => fun
  | [d1, d2] => { results := [.lit (.bool false)], args := [d1, d2] }
  | _ => none }
def FareDealsWrongFalsely : Prop := fareDealsRow.holds Try.pinned (OpenSpec.ofChange fareDealsWrong)

/-- 'couponlaw11.FareWhole': WHATEVER THE INPUT: true; the input reads as it did. -/
def fareWholeSpec : ChangeSpec := { name := "fareWhole", fn := fun _ => fun
  | [d1, d2] => { results := [.lit (.bool true)], args := [d1, d2] }
  | _ => none }
def fareWholeRow : OpenClaim := { program := "ytknjiohhlemeiaa", sum := "5fd80b225eb4e903d560a8422998fc0a73056d1c70b5b20a663196f6b942ffd2", func := "coupon/couponlaw11.FareWhole", spec := "fareWhole", inPlace := ["internal/bytealg.IndexByteString", "internal/bytealg.IndexString", "internal/abi.NoEscape"], unfollowed := true, recurses := true, named := ["math/bits.divideError", "math/bits.overflowError", "internal/bytealg.MaxLen"], apart := false }
def FareWholeSaid : Prop := fareWholeRow.holds Try.pinned (OpenSpec.ofChange fareWholeSpec)

/-- ITS FALSE NEIGHBOUR: 'it returns false'. Refute it at one input. -/
def fareWholeWrong : ChangeSpec := { name := "fareWhole", fn := fun _ => fun
  | [d1, d2] => { results := [.lit (.bool false)], args := [d1, d2] }
  | _ => none }
def FareWholeWrongFalsely : Prop := fareWholeRow.holds Try.pinned (OpenSpec.ofChange fareWholeWrong)

/-- 'couponlaw11.FareAlike': WHATEVER THE INPUT: true; the input reads as it did. -/
def fareAlikeSpec : ChangeSpec := { name := "fareAlike", fn := fun _ => fun
  | [d1, d2, d3, d4] => { results := [.lit (.bool true)], args := [d1, d2, d3, d4] }
  | _ => none }
def fareAlikeRow : OpenClaim := { program := "ytknjiohhlemeiaa", sum := "5fd80b225eb4e903d560a8422998fc0a73056d1c70b5b20a663196f6b942ffd2", func := "coupon/couponlaw11.FareAlike", spec := "fareAlike", inPlace := ["internal/bytealg.IndexByteString", "internal/bytealg.IndexString", "internal/abi.NoEscape"], unfollowed := true, recurses := true, named := ["math/bits.divideError", "math/bits.overflowError", "internal/bytealg.MaxLen"], apart := false }
def FareAlikeSaid : Prop := fareAlikeRow.holds Try.pinned (OpenSpec.ofChange fareAlikeSpec)

/-- ITS FALSE NEIGHBOUR: 'it returns false'. Refute it at one input. -/
def fareAlikeWrong : ChangeSpec := { name := "fareAlike", fn := fun _ => fun
  | [d1, d2, d3, d4] => { results := [.lit (.bool false)], args := [d1, d2, d3, d4] }
  | _ => none }
def FareAlikeWrongFalsely : Prop := fareAlikeRow.holds Try.pinned (OpenSpec.ofChange fareAlikeWrong)

/-- 'couponlaw11.FareRates': WHATEVER THE INPUT: true; the input reads as it did. -/
def fareRatesSpec : ChangeSpec := { name := "fareRates", fn := fun _ => fun
  | [d1, d2, d3] => { results := [.lit (.bool true)], args := [d1, d2, d3] }
  | _ => none }
def fareRatesRow : OpenClaim := { program := "ytknjiohhlemeiaa", sum := "5fd80b225eb4e903d560a8422998fc0a73056d1c70b5b20a663196f6b942ffd2", func := "coupon/couponlaw11.FareRates", spec := "fareRates", inPlace := ["internal/bytealg.IndexByteString", "internal/bytealg.IndexString", "internal/abi.NoEscape"], unfollowed := true, recurses := true, named := ["math/bits.divideError", "math/bits.overflowError", "internal/bytealg.MaxLen"], apart := false }
def FareRatesSaid : Prop := fareRatesRow.holds Try.pinned (OpenSpec.ofChange fareRatesSpec)

/-- ITS FALSE NEIGHBOUR: 'it returns false'. Refute it at one input. -/
def fareRatesWrong : ChangeSpec := { name := "fareRates", fn := fun _ => fun
  | [d1, d2, d3] => { results := [.lit (.bool false)], args := [d1, d2, d3] }
  | _ => none }
def FareRatesWrongFalsely : Prop := fareRatesRow.holds Try.pinned (OpenSpec.ofChange fareRatesWrong)

/-- 'couponlaw11.FareTexts': WHATEVER THE INPUT: true; the input reads as it did. -/
def fareTextsSpec : ChangeSpec := { name := "fareTexts", fn := fun _ => fun
  | [d1, d2] => { results := [.lit (.bool true)], args := [d1, d2] }
  | _ => none }
def fareTextsRow : OpenClaim := { program := "ytknjiohhlemeiaa", sum := "5fd80b225eb4e903d560a8422998fc0a73056d1c70b5b20a663196f6b942ffd2", func := "coupon/couponlaw11.FareTexts", spec := "fareTexts", inPlace := ["internal/bytealg.IndexByteString", "internal/bytealg.IndexString", "internal/abi.NoEscape"], unfollowed := true, recurses := true, named := ["math/bits.divideError", "math/bits.overflowError", "internal/bytealg.MaxLen"], apart := false }
def FareTextsSaid : Prop := fareTextsRow.holds Try.pinned (OpenSpec.ofChange fareTextsSpec)

/-- ITS FALSE NEIGHBOUR: 'it returns false'. Refute it at one input. -/
def fareTextsWrong : ChangeSpec := { name := "fareTexts", fn := fun _ => fun
  | [d1, d2] => { results := [.lit (.bool false)], args := [d1, d2] }
  | _ => none }
def FareTextsWrongFalsely : Prop := fareTextsRow.holds Try.pinned (OpenSpec.ofChange fareTextsWrong)

/-- 'couponlaw11.FareSums': WHATEVER THE INPUT: true; the input reads as it did. -/
def fareSumsSpec : ChangeSpec := { name := "fareSums", fn := fun _ => fun
  | [d] => { results := [.lit (.bool true)], args := [d] }
  | _ => none }
def fareSumsRow : OpenClaim := { program := "ytknjiohhlemeiaa", sum := "5fd80b225eb4e903d560a8422998fc0a73056d1c70b5b20a663196f6b942ffd2", func := "coupon/couponlaw11.FareSums", spec := "fareSums", inPlace := ["internal/bytealg.IndexByteString", "internal/bytealg.IndexString", "internal/abi.NoEscape"], unfollowed := true, recurses := true, named := ["math/bits.divideError", "math/bits.overflowError", "internal/bytealg.MaxLen"], apart := false }
def FareSumsSaid : Prop := fareSumsRow.holds Try.pinned (OpenSpec.ofChange fareSumsSpec)

/-- ITS FALSE NEIGHBOUR: 'it returns false'. Refute it at one input. -/
def fareSumsWrong : ChangeSpec := { name := "fareSums", fn := fun _ => fun
  | [d] => { results := [.lit (.bool false)], args := [d] }
  | _ => none }
def FareSumsWrongFalsely : Prop := fareSumsRow.holds Try.pinned (OpenSpec.ofChange fareSumsWrong)

/-- 'couponlaw11.FareMany': WHATEVER THE INPUT: true; the input reads as it did. -/
def fareManySpec : ChangeSpec := { name := "fareMany", fn := fun _ => fun
  | [d1, d2] => { results := [.lit (.bool true)], args := [d1, d2] }
  | _ => none }
def fareManyRow : OpenClaim := { program := "ytknjiohhlemeiaa", sum := "5fd80b225eb4e903d560a8422998fc0a73056d1c70b5b20a663196f6b942ffd2", func := "coupon/couponlaw11.FareMany", spec := "fareMany", inPlace := ["internal/bytealg.IndexByteString", "internal/bytealg.IndexString", "internal/abi.NoEscape"], unfollowed := true, recurses := true, named := ["math/bits.divideError", "math/bits.overflowError", "internal/bytealg.MaxLen"], apart := false }
def FareManySaid : Prop := fareManyRow.holds Try.pinned (OpenSpec.ofChange fareManySpec)

/-- ITS FALSE NEIGHBOUR: 'it returns false'. Refute it at one input. -/
def fareManyWrong : ChangeSpec := { name := "fareMany", fn := fun _ => fun
  | [d1, d2] => { results := [.lit (.bool false)], args := [d1, d2] }
  | _ => none }
def FareManyWrongFalsely : Prop := fareManyRow.holds Try.pinned (OpenSpec.ofChange fareManyWrong)

/- THE SECOND FORM. 'bulk': how many values and letters a reading holds, each counted each time it is reached (what is shared counts as often as it is met; a slice's spare places count too). A statement '..UptoSaid' is the law's where the arguments, and the package variables that the reading takes, are together of bulk at most 1048576: NARROWER than '..Said'. Prove '..Said' where nothing that the law and all that it calls make is longer than what came in: it says more and counts as full. Else prove '..UptoSaid'. A law counts once. -/
mutual
def uptoBulk {H : Type} : DataW H → Nat
  | .lit (.string bytes) => bytes.length + 1
  | .lit _ => 1
  | .nil => 1
  | .ptr d => uptoBulk d + 1
  | .slice elems spare => uptoBulkAll elems + uptoBulkAll spare + 1
  | .agg parts => uptoBulkAll parts + 1
  | .iface _ d => uptoBulk d + 1
  | .map entries => uptoBulkEntries entries + 1
  | .held _ => 1
def uptoBulkAll {H : Type} : List (DataW H) → Nat
  | [] => 0
  | d :: r => uptoBulk d + uptoBulkAll r
def uptoBulkEntries {H : Type} : List (Lit × DataW H) → Nat
  | [] => 0
  | x :: r => uptoBulkEntry x + uptoBulkEntries r
def uptoBulkEntry {H : Type} : Lit × DataW H → Nat
  | (.string bytes, d) => bytes.length + uptoBulk d + 1
  | (_, d) => uptoBulk d + 1
 end
def uptoSmall : (H : Type) → List (DataW H) → Bool := fun _ ds => decide (uptoBulkAll ds ≤ 1048576)
def OpenSpec.upto (s : _root_.Go.ChangeSpec) : _root_.Go.OpenSpec := { _root_.Go.OpenSpec.ofChange s with cond := some uptoSmall }

/-- 'couponlaw11.FareDeals', WHERE WHAT IT READS IS OF BULK AT MOST 1048576: true; the input reads as it did. -/
def fareDealsUptoRow : OpenClaim := { program := "ytknjiohhlemeiaa", sum := "5fd80b225eb4e903d560a8422998fc0a73056d1c70b5b20a663196f6b942ffd2", func := "coupon/couponlaw11.FareDeals", spec := "fareDeals", inPlace := ["internal/bytealg.IndexByteString", "internal/bytealg.IndexString", "internal/abi.NoEscape"], unfollowed := true, recurses := true, named := ["math/bits.divideError", "math/bits.overflowError", "internal/bytealg.MaxLen"], apart := false, narrowed := true }
def FareDealsUptoSaid : Prop := fareDealsUptoRow.holds Try.pinned (OpenSpec.upto fareDealsSpec)

/-- 'couponlaw11.FareWhole', WHERE WHAT IT READS IS OF BULK AT MOST 1048576: true; the input reads as it did. -/
def fareWholeUptoRow : OpenClaim := { program := "ytknjiohhlemeiaa", sum := "5fd80b225eb4e903d560a8422998fc0a73056d1c70b5b20a663196f6b942ffd2", func := "coupon/couponlaw11.FareWhole", spec := "fareWhole", inPlace := ["internal/bytealg.IndexByteString", "internal/bytealg.IndexString", "internal/abi.NoEscape"], unfollowed := true, recurses := true, named := ["math/bits.divideError", "math/bits.overflowError", "internal/bytealg.MaxLen"], apart := false, narrowed := true }
def FareWholeUptoSaid : Prop := fareWholeUptoRow.holds Try.pinned (OpenSpec.upto fareWholeSpec)

/-- 'couponlaw11.FareAlike', WHERE WHAT IT READS IS OF BULK AT MOST 1048576: true; the input reads as it did. -/
def fareAlikeUptoRow : OpenClaim := { program := "ytknjiohhlemeiaa", sum := "5fd80b225eb4e903d560a8422998fc0a73056d1c70b5b20a663196f6b942ffd2", func := "coupon/couponlaw11.FareAlike", spec := "fareAlike", inPlace := ["internal/bytealg.IndexByteString", "internal/bytealg.IndexString", "internal/abi.NoEscape"], unfollowed := true, recurses := true, named := ["math/bits.divideError", "math/bits.overflowError", "internal/bytealg.MaxLen"], apart := false, narrowed := true }
def FareAlikeUptoSaid : Prop := fareAlikeUptoRow.holds Try.pinned (OpenSpec.upto fareAlikeSpec)

/-- 'couponlaw11.FareRates', WHERE WHAT IT READS IS OF BULK AT MOST 1048576: true; the input reads as it did. -/
def fareRatesUptoRow : OpenClaim := { program := "ytknjiohhlemeiaa", sum := "5fd80b225eb4e903d560a8422998fc0a73056d1c70b5b20a663196f6b942ffd2", func := "coupon/couponlaw11.FareRates", spec := "fareRates", inPlace := ["internal/bytealg.IndexByteString", "internal/bytealg.IndexString", "internal/abi.NoEscape"], unfollowed := true, recurses := true, named := ["math/bits.divideError", "math/bits.overflowError", "internal/bytealg.MaxLen"], apart := false, narrowed := true }
def FareRatesUptoSaid : Prop := fareRatesUptoRow.holds Try.pinned (OpenSpec.upto fareRatesSpec)

/-- 'couponlaw11.FareTexts', WHERE WHAT IT READS IS OF BULK AT MOST 1048576: true; the input reads as it did. -/
def fareTextsUptoRow : OpenClaim := { program := "ytknjiohhlemeiaa", sum := "5fd80b225eb4e903d560a8422998fc0a73056d1c70b5b20a663196f6b942ffd2", func := "coupon/couponlaw11.FareTexts", spec := "fareTexts", inPlace := ["internal/bytealg.IndexByteString", "internal/bytealg.IndexString", "internal/abi.NoEscape"], unfollowed := true, recurses := true, named := ["math/bits.divideError", "math/bits.overflowError", "internal/bytealg.MaxLen"], apart := false, narrowed := true }
def FareTextsUptoSaid : Prop := fareTextsUptoRow.holds Try.pinned (OpenSpec.upto fareTextsSpec)

/-- 'couponlaw11.FareSums', WHERE WHAT IT READS IS OF BULK AT MOST 1048576: true; the input reads as it did. -/
def fareSumsUptoRow : OpenClaim := { program := "ytknjiohhlemeiaa", sum := "5fd80b225eb4e903d560a8422998fc0a73056d1c70b5b20a663196f6b942ffd2", func := "coupon/couponlaw11.FareSums", spec := "fareSums", inPlace := ["internal/bytealg.IndexByteString", "internal/bytealg.IndexString", "internal/abi.NoEscape"], unfollowed := true, recurses := true, named := ["math/bits.divideError", "math/bits.overflowError", "internal/bytealg.MaxLen"], apart := false, narrowed := true }
def FareSumsUptoSaid : Prop := fareSumsUptoRow.holds Try.pinned (OpenSpec.upto fareSumsSpec)

/-- 'couponlaw11.FareMany', WHERE WHAT IT READS IS OF BULK AT MOST 1048576: true; the input reads as it did. -/
def fareManyUptoRow : OpenClaim := { program := "ytknjiohhlemeiaa", sum := "5fd80b225eb4e903d560a8422998fc0a73056d1c70b5b20a663196f6b942ffd2", func := "coupon/couponlaw11.FareMany", spec := "fareMany", inPlace := ["internal/bytealg.IndexByteString", "internal/bytealg.IndexString", "internal/abi.NoEscape"], unfollowed := true, recurses := true, named := ["math/bits.divideError", "math/bits.overflowError", "internal/bytealg.MaxLen"], apart := false, narrowed := true }
def FareManyUptoSaid : Prop := fareManyUptoRow.holds Try.pinned (OpenSpec.upto fareManySpec)

end Rows
end Go.Proofs.Ytknjiohhlemeiaa
