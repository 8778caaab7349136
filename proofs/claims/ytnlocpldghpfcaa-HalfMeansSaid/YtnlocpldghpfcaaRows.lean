/-
  No cell of these rows narrows 'for every input' (looked for: loops, veiled, ifaces, maps, wideKeys, modest, calm, conditions, laid).
  DERIVED. THE GIVEN ROWS OF THIS SEAT. 5 by the template 'for every input the law returns true; each argument reads behind the call as it read before'; 0 by the template 'total and deterministic' (their statements: YtnlocpldghpfcaaTotals.lean).
  GIVEN WITH THE SEED: the statements are not yours to turn. If you find one false, say at which input.
  Laid BY PROGRAM, IN A SANDBOX (cutbox-rows.mjs): the forced cells as the released guide's own fill.sh prints them over the translation 8033fc47b6271e78… (all of the seat's roots in one cut). By AI agents, Wed Nov 11 2026. No macro, syntax, notation, axiom, sorry.
-/
import Derived.Test.YtnlocpldghpfcaaChecked
import GoSem.Claim
import GoSem.ClaimJoined
import GoSem.ClaimMapViews
import Derived.JoinedTies
import Derived.KernelRfl
namespace Go.Proofs.Ytnlocpldghpfcaa
/- THE CELL 'sum', in the pinned program and in every row, IS THE sha256 OF THE DUMP (.gsa) THAT YtnlocpldghpfcaaProg.lean LOADS. Nothing in Lean hashes anything: it is a label: what it is worth is what the hold of that sum in a sandbox is worth. -/
noncomputable def Try.pinned : Pinned := { name := "ytnlocpldghpfcaa", sum := "8033fc47b6271e789ab728a9378ea3462d0dc352acec2a3235c0bf777fcddd35", checked := Try.checked }
namespace Rows
def none {H : Type} : Left H := { results := [], args := [] }

/-- 'couponlaw02.HalfSplits': WHATEVER THE INPUT: true; the input reads as it did. -/
def halfSplitsSpec : ChangeSpec := { name := "halfSplits", fn := fun _ => fun
  | [d1, d2, d3] => { results := [.lit (.bool true)], args := [d1, d2, d3] }
  | _ => none }
def halfSplitsRow : OpenClaim := { program := "ytnlocpldghpfcaa", sum := "8033fc47b6271e789ab728a9378ea3462d0dc352acec2a3235c0bf777fcddd35", func := "coupon/couponlaw02.HalfSplits", spec := "halfSplits", unfollowed := true, recurses := true, apart := false }
def HalfSplitsSaid : Prop := halfSplitsRow.holds Try.pinned (OpenSpec.ofChange halfSplitsSpec)

/-- ITS FALSE NEIGHBOUR: 'it returns false'. Refute it at one input. -/
def halfSplitsWrong : ChangeSpec := { name := "halfSplits", fn := fun _ => fun
  | [d1, d2, d3] => { results := [.lit (.bool false)], args := [d1, d2, d3] }
  | _ => none }
def HalfSplitsWrongFalsely : Prop := halfSplitsRow.holds Try.pinned (OpenSpec.ofChange halfSplitsWrong)

/-- 'couponlaw02.HalfMeans': WHATEVER THE INPUT: true; the input reads as it did. -/
def halfMeansSpec : ChangeSpec := { name := "halfMeans", fn := fun _ => fun
  | [d1, d2, d3] => { results := [.lit (.bool true)], args := [d1, d2, d3] }
  | _ => none }
def halfMeansRow : OpenClaim := { program := "ytnlocpldghpfcaa", sum := "8033fc47b6271e789ab728a9378ea3462d0dc352acec2a3235c0bf777fcddd35", func := "coupon/couponlaw02.HalfMeans", spec := "halfMeans", unfollowed := true, recurses := true, apart := false }
def HalfMeansSaid : Prop := halfMeansRow.holds Try.pinned (OpenSpec.ofChange halfMeansSpec)

/-- ITS FALSE NEIGHBOUR: 'it returns false'. Refute it at one input. -/
def halfMeansWrong : ChangeSpec := { name := "halfMeans", fn := fun _ => fun
  | [d1, d2, d3] => { results := [.lit (.bool false)], args := [d1, d2, d3] }
  | _ => none }
def HalfMeansWrongFalsely : Prop := halfMeansRow.holds Try.pinned (OpenSpec.ofChange halfMeansWrong)

/-- 'couponlaw02.HalfBounds': WHATEVER THE INPUT: true; the input reads as it did. -/
def halfBoundsSpec : ChangeSpec := { name := "halfBounds", fn := fun _ => fun
  | [] => { results := [.lit (.bool true)], args := [] }
  | _ => none }
def halfBoundsRow : OpenClaim := { program := "ytnlocpldghpfcaa", sum := "8033fc47b6271e789ab728a9378ea3462d0dc352acec2a3235c0bf777fcddd35", func := "coupon/couponlaw02.HalfBounds", spec := "halfBounds", unfollowed := true, recurses := true, apart := false }
def HalfBoundsSaid : Prop := halfBoundsRow.holds Try.pinned (OpenSpec.ofChange halfBoundsSpec)

/-- ITS FALSE NEIGHBOUR: 'it returns false'. Refute it at one input. -/
def halfBoundsWrong : ChangeSpec := { name := "halfBounds", fn := fun _ => fun
  | [] => { results := [.lit (.bool false)], args := [] }
  | _ => none }
def HalfBoundsWrongFalsely : Prop := halfBoundsRow.holds Try.pinned (OpenSpec.ofChange halfBoundsWrong)

/-- 'couponlaw02.HalfJoins': WHATEVER THE INPUT: true; the input reads as it did. -/
def halfJoinsSpec : ChangeSpec := { name := "halfJoins", fn := fun _ => fun
  | [d1, d2, d3] => { results := [.lit (.bool true)], args := [d1, d2, d3] }
  | _ => none }
def halfJoinsRow : OpenClaim := { program := "ytnlocpldghpfcaa", sum := "8033fc47b6271e789ab728a9378ea3462d0dc352acec2a3235c0bf777fcddd35", func := "coupon/couponlaw02.HalfJoins", spec := "halfJoins", unfollowed := true, recurses := true, apart := false }
def HalfJoinsSaid : Prop := halfJoinsRow.holds Try.pinned (OpenSpec.ofChange halfJoinsSpec)

/-- ITS FALSE NEIGHBOUR: 'it returns false'. Refute it at one input. -/
def halfJoinsWrong : ChangeSpec := { name := "halfJoins", fn := fun _ => fun
  | [d1, d2, d3] => { results := [.lit (.bool false)], args := [d1, d2, d3] }
  | _ => none }
def HalfJoinsWrongFalsely : Prop := halfJoinsRow.holds Try.pinned (OpenSpec.ofChange halfJoinsWrong)

/-- 'couponlaw02.HalfApart': WHATEVER THE INPUT: true; the input reads as it did. -/
def halfApartSpec : ChangeSpec := { name := "halfApart", fn := fun _ => fun
  | [d] => { results := [.lit (.bool true)], args := [d] }
  | _ => none }
def halfApartRow : OpenClaim := { program := "ytnlocpldghpfcaa", sum := "8033fc47b6271e789ab728a9378ea3462d0dc352acec2a3235c0bf777fcddd35", func := "coupon/couponlaw02.HalfApart", spec := "halfApart", unfollowed := true, recurses := true, apart := false }
def HalfApartSaid : Prop := halfApartRow.holds Try.pinned (OpenSpec.ofChange halfApartSpec)

/-- ITS FALSE NEIGHBOUR: 'it returns false'. Refute it at one input. -/
def halfApartWrong : ChangeSpec := { name := "halfApart", fn := fun _ => fun
  | [d] => { results := [.lit (.bool false)], args := [d] }
  | _ => none }
def HalfApartWrongFalsely : Prop := halfApartRow.holds Try.pinned (OpenSpec.ofChange halfApartWrong)

/- THE SECOND FORM. 'bulk': how many values and letters a reading holds, each counted each time it is reached (what is shared counts as often as it is met; a slice's spare places count too). A statement '..UptoSaid' is the law's where the arguments, and the package variables that the reading takes, are together of bulk at most 1048576: NARROWER than '..Said'. Prove '..Said' where nothing that the law and all that it calls make is longer than what came in: it says more and counts as full. Else prove '..UptoSaid'. A law counts once. -/
mutual
def uptoBulk {H : Type} : DataW H → Nat
  | .lit (.string bytes) => bytes.length + 1
  | .lit _ => 1
  | .nil => 1
  | .ptr d => uptoBulk d + 1
  | .slice elems spare => uptoBulkAll elems + uptoBulkAll spare + 1
  | .agg parts => uptoBulkAll parts + 1
  | .iface _ d => uptoBulk d + 1
  | .map entries => uptoBulkEntries entries + 1
  | .held _ => 1
def uptoBulkAll {H : Type} : List (DataW H) → Nat
  | [] => 0
  | d :: r => uptoBulk d + uptoBulkAll r
def uptoBulkEntries {H : Type} : List (Lit × DataW H) → Nat
  | [] => 0
  | x :: r => uptoBulkEntry x + uptoBulkEntries r
def uptoBulkEntry {H : Type} : Lit × DataW H → Nat
  | (.string bytes, d) => bytes.length + uptoBulk d + 1
  | (_, d) => uptoBulk d + 1
 end
def uptoSmall : (H : Type) → List (DataW H) → Bool := fun _ ds => decide (uptoBulkAll ds ≤ 1048576)
def OpenSpec.upto (s : _root_.Go.ChangeSpec) : _root_.Go.OpenSpec := { _root_.Go.OpenSpec.ofChange s with cond := some uptoSmall }

/-- 'couponlaw02.HalfSplits', WHERE WHAT IT READS IS OF BULK AT MOST 1048576: true; the input reads as it did. -/
def halfSplitsUptoRow : OpenClaim := { program := "ytnlocpldghpfcaa", sum := "8033fc47b6271e789ab728a9378ea3462d0dc352acec2a3235c0bf777fcddd35", func := "coupon/couponlaw02.HalfSplits", spec := "halfSplits", unfollowed := true, recurses := true, apart := false, narrowed := true }
def HalfSplitsUptoSaid : Prop := halfSplitsUptoRow.holds Try.pinned (OpenSpec.upto halfSplitsSpec)

/-- 'couponlaw02.HalfMeans', WHERE WHAT IT READS IS OF BULK AT MOST 1048576: true; the input reads as it did. -/
def halfMeansUptoRow : OpenClaim := { program := "ytnlocpldghpfcaa", sum := "8033fc47b6271e789ab728a9378ea3462d0dc352acec2a3235c0bf777fcddd35", func := "coupon/couponlaw02.HalfMeans", spec := "halfMeans", unfollowed := true, recurses := true, apart := false, narrowed := true }
def HalfMeansUptoSaid : Prop := halfMeansUptoRow.holds Try.pinned (OpenSpec.upto halfMeansSpec)

/-- 'couponlaw02.HalfBounds', WHERE WHAT IT READS IS OF BULK AT MOST 1048576: true; the input reads as it did. -/
def halfBoundsUptoRow : OpenClaim := { program := "ytnlocpldghpfcaa", sum := "8033fc47b6271e789ab728a9378ea3462d0dc352acec2a3235c0bf777fcddd35", func := "coupon/couponlaw02.HalfBounds", spec := "halfBounds", unfollowed := true, recurses := true, apart := false, narrowed := true }
def HalfBoundsUptoSaid : Prop := halfBoundsUptoRow.holds Try.pinned (OpenSpec.upto halfBoundsSpec)

/-- 'couponlaw02.HalfJoins', WHERE WHAT IT READS IS OF BULK AT MOST 1048576: true; the input reads as it did. -/
def halfJoinsUptoRow : OpenClaim := { program := "ytnlocpldghpfcaa", sum := "8033fc47b6271e789ab728a9378ea3462d0dc352acec2a3235c0bf777fcddd35", func := "coupon/couponlaw02.HalfJoins", spec := "halfJoins", unfollowed := true, recurses := true, apart := false, narrowed := true }
def HalfJoinsUptoSaid : Prop := halfJoinsUptoRow.holds Try.pinned (OpenSpec.upto halfJoinsSpec)

/-- 'couponlaw02.HalfApart', WHERE WHAT IT READS IS OF BULK AT MOST 1048576: true; the input reads as it did. -/
def halfApartUptoRow : OpenClaim := { program := "ytnlocpldghpfcaa", sum := "8033fc47b6271e789ab728a9378ea3462d0dc352acec2a3235c0bf777fcddd35", func := "coupon/couponlaw02.HalfApart", spec := "halfApart", unfollowed := true, recurses := true, apart := false, narrowed := true }
def HalfApartUptoSaid : Prop := halfApartUptoRow.holds Try.pinned (OpenSpec.upto halfApartSpec)

end Rows
end Go.Proofs.Ytnlocpldghpfcaa
