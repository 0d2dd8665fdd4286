/- Contracts of functions of the program: no statement of the seat is proved here. Each under the conditions that stand in it. -/
import Derived.Test.YtigkmijoefibiaaGreatSb
import Derived.Test.YtigkmijoefibiaaGreatM4
set_option linter.all false
namespace Go.Proofs.YtigkmijoefibiaaGreat
open Go.Vs Go.Proofs
/-! Readers -/
theorem rd_len {l : List Read} {r : Read} {z : Nat} (hz : l.length + sumN Read.size l ≤ z) (h : r ∈ l) : strsSize r.name.parts ≤ z ∧ r.name.parts.length ≤ z := by
  have := sumN_mem Read.size h
  have h2 : Read.size r = strsSize r.name.parts := rfl
  have h3 : r.name.parts.length ≤ strsSize r.name.parts := by unfold strsSize; omega
  omega
def mayR (who : Int) (n : Name) (r : Read) : Bool := (r.node == who) && hasPre n r.name
def exB (a b : List Read) (n : Name) (r : Read) : Bool := a.any (mayR r.node n) && !b.any (mayR r.node n)
def anyEx (a b : List Read) (n : Name) : Bool := a.any (exB a b n)
theorem exB_step {a b d : List Read} {n : Name} {x : Read} (hd : d.any (exB a b n) = false) (h : exB a b n x = false) : (d ++ [x]).any (exB a b n) = false := by
  rw [List.any_append, hd]; simp [h]
theorem exB_yes {a b : List Read} {n : Name} {x : Read} (hx : x ∈ a) (h : exB a b n x = true) : anyEx a b n = true := by
  unfold anyEx; rw [List.any_eq_true]; exact ⟨x, hx, h⟩
def rdsT (l : List Read) (n : Name) (j : Nat) : List Int := ((List.range j).filter fun (k : Nat) => l.any (mayR (k : Int) n)).map fun (k : Nat) => (k : Int)
theorem rdsT_zero (l : List Read) (n : Name) : rdsT l n 0 = [] := by simp [rdsT]
theorem rdsT_yes {l : List Read} {n : Name} {j : Nat} (h : l.any (mayR (j : Int) n) = true) : rdsT l n (j + 1) = rdsT l n j ++ [(j : Int)] := by
  simp only [rdsT, List.range_succ, List.filter_append, List.map_append, List.filter_cons, List.filter_nil, h]; simp
theorem rdsT_no {l : List Read} {n : Name} {j : Nat} (h : l.any (mayR (j : Int) n) = false) : rdsT l n (j + 1) = rdsT l n j := by
  simp only [rdsT, List.range_succ, List.filter_append, List.map_append, List.filter_cons, List.filter_nil, h]; simp
theorem rdsT_len (l : List Read) (n : Name) (j : Nat) : (rdsT l n j).length ≤ j := by
  have := List.length_filter_le (fun (k : Nat) => l.any (mayR (k : Int) n)) (List.range j)
  simp at this
  simpa [rdsT] using this
end Go.Proofs.YtigkmijoefibiaaGreat
