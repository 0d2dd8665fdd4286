/- Contracts of functions of the program: no statement of the seat is proved here. Each under the conditions that stand in it. -/
import Derived.Test.YtgcnbfplihjelaaFv
import Derived.Test.YtgcnbfplihjelaaFw0
set_option linter.all false
namespace Go.Proofs.Ytgcnbfplihjelaa
open Go.Vs Go.Proofs
theorem mrkF_size {f : Fetc} {i : Int} (h : Fetc.size f ≤ 1048576) : Fetc.size (mrkF f i) ≤ 1048576 := by
  unfold mrkF; split <;> exact h
theorem lostF_size {f : Fetc} {i : Int} (h : Fetc.size f ≤ 1048576) : Fetc.size (lostF f i) ≤ 1048576 := by
  unfold lostF; split
  · split <;> exact h
  · exact h
theorem sumN_set {α : Type} (f : α → Nat) : ∀ (l : List α) (k : Nat) (x : α), sumN f (l.set k x) ≤ sumN f l + f x
  | [], _, _ => by simp [sumN]
  | y :: l, 0, x => by simp [sumN]; omega
  | y :: l, k + 1, x => by have := sumN_set f l k x; simp [sumN]; omega
theorem rcvF_size {f : Fetc} {i : Int} {b : List UInt8} (h : Fetc.size f ≤ 1048576) (hb : b.length ≤ 1048576) : Fetc.size (rcvF f i b) ≤ 2097152 := by
  unfold rcvF
  split
  · omega
  · simp only [Fetc.size, Mani.size, List.length_set] at *
    have := sumN_set Segm.size f.segs i.toNat ⟨b⟩
    have e : Segm.size ⟨b⟩ = b.length := rfl
    omega
end Go.Proofs.Ytgcnbfplihjelaa
