/- Contracts of functions of the program: no statement of the seat is proved here. Each under the conditions that stand in it. -/
import Derived.Test.YtoekfmkbkffciaaFq
import Derived.Test.YtoekfmkbkffciaaGw
set_option linter.all false
namespace Go.Proofs.Ytoekfmkbkffciaa
open Go.Vs Go.Proofs
/-! Secrets -/
theorem flat_pre {d r : List (List Int)} : (d ++ r).flatten.length = d.flatten.length + r.flatten.length := by simp
def mac (k : Int) (l : List Int) : Int := digest (k :: (l ++ [k]))
theorem mac_b (k : Int) (l : List Int) : 0 ≤ mac k l ∧ mac k l < 2147483647 := digest_b _
def dsec (k : Int) (s : ByteArray) : Int := ma 1 (mac k (b2i s.data.toList))
theorem dsec_b (k : Int) (s : ByteArray) : 1 ≤ dsec k s ∧ dsec k s < 2147483647 := by
  have := mac_b k (b2i s.data.toList)
  unfold dsec ma; split <;> omega
theorem b2i_len (b : List UInt8) : (b2i b).length = b.length + 1 := by simp [b2i]
theorem dsz {s : ByteArray} : s.data.toList.length = s.size := by rw [Array.length_toList]; rfl
end Go.Proofs.Ytoekfmkbkffciaa
