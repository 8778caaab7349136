/- The contract of Go's maps.Clone, of the guide's shelf, laid at this program's numbers by the kit's program. -/
import Derived.Shelf.SlMaps.Clone
import Derived.Test.YtpndhildmfmcgaaProg
import Derived.Test.YtpndhildmfmcgaaVm19
namespace Go.Proofs
open Go.Shelf
def Try.cloneM_ren : Go.Shelf.Ren := ⟨fun | 5 => 42 | 7 => 48 | n => n, fun | 23 => 61 | 25 => 3 | 3 => 52 | 4 => 4 | 20 => 20 | n => n, fun | n => n⟩
theorem Try.cloneM : Go.Proofs.SlLaysW.n5 Try.prog Try.cloneM_ren := {
  mixed := by kernel_rfl
  f5 := ⟨Try.f42.name, by decide, Try.func42.trans (congrArg some (by kernel_rfl))⟩
  f7 := Try.func48.trans (congrArg some (by kernel_rfl))
  t4 := Try.underlying4
  a4 := Try.isAgg4
  z4 := Try.sizeOf4
  v4 := Try.zeroValue4
  t20 := Try.underlying20
  a20 := Try.isAgg20
  z20 := Try.sizeOf20
  v20 := Try.zeroValue20
  t23 := Try.underlying61
  a23 := Try.isAgg61
  z23 := Try.sizeOf61
  v23 := Try.zeroValue61 }
end Go.Proofs
namespace Go.Proofs.Ytpndhildmfmcgaa
open Go Go.RowKit Go.Maps Go.Shelf Coup
theorem cloneMapC {w : World} {k : TypeId} {m N : Nat} {f : Nat → Option Value} (h : MapAt Try.prog k w m N f) :
    Calls Try.prog 42 [.map (some m)].toArray w (Ret fun v w' => ∃ m', v = .map (some m') ∧ w.heap.size ≤ m' ∧ MapAt Try.prog k w' m' N f ∧ Below w.heap.size w w') := by
  have := AnyW.maps_Clone_owns Try.cloneM k RH m N _ w h
  change Calls Try.prog 42 _ _ _ at this
  exact this.mono fun e w' ⟨h1, h2, _, h3⟩ => ⟨_, h1, _, rfl, Nat.le_refl _, h2, h3⟩
end Go.Proofs.Ytpndhildmfmcgaa
