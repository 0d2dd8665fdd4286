/- Contracts of functions of the program: no statement of the seat is proved here. Each under the conditions that stand in it. -/
import Derived.Test.YtgcnbfplihjelaaGreatDoorUa
import Derived.Test.YtgcnbfplihjelaaGreatDoorSe
set_option linter.all false
namespace Go.Proofs.YtgcnbfplihjelaaGreatDoor
open Go.Vs Go.Proofs
theorem shcY {n : NF} {b : List UInt8} : WkR (O (.sl true n 1 (byts b))) (Ys false b) := ⟨rfl, .inr (by simp only [shcL, Vs.shc, shcLL_byts]; exact .top .nil)⟩
theorem setY {b : List UInt8} {i : Nat} {v : UInt8} : (byts b).set i (spliceAV [cY (b[i]?.getD 0)] 0 [cY v]) = byts (b.set i v) := by
  simp [byts, List.map_set, spliceAV]
theorem getY {b : List UInt8} {i : Int} (h : 0 ≤ i ∧ i < b.length) : (byts b)[i.toNat]? = some [cY (b[i.toNat]?.getD 0)] := by
  have h2 : i.toNat < b.length := by omega
  simp [byts, h2]
end Go.Proofs.YtgcnbfplihjelaaGreatDoor
