/- Contracts of functions of the program: no statement of the seat is proved here. Each under the conditions that stand in it. -/
import Derived.Test.YtkleapappjagfaaFd
set_option linter.all false
namespace Go.Proofs.Ytkleapappjagfaa
open Go.Vs Go.Proofs
/-- The first place at which p holds; -1 where none. -/
def findI {α : Type} (p : α → Bool) : List α → Int → Int
  | [], _ => -1
  | x :: l, i => if p x then i else findI p l (i + 1)
theorem findI_none {α : Type} {p : α → Bool} {l : List α} (h : l.any p = false) (i : Int) : findI p l i = -1 := by
  induction l generalizing i with
  | nil => rfl
  | cons x l ih => simp at h; simp [findI, h.1]; exact ih (by simpa using h.2) _
theorem findI_at {α : Type} {p : α → Bool} {d r : List α} {x : α} (h : d.any p = false) (hx : p x = true) (i : Int) : findI p (d ++ x :: r) i = i + d.length := by
  induction d generalizing i with
  | nil => simp [findI, hx]
  | cons y d ih => simp at h; simp [findI, h.1]; rw [ih (by simpa using h.2)]; omega
theorem findI_ge {α : Type} {p : α → Bool} (l : List α) (i : Int) (hi : 0 ≤ i) : decide (findI p l i ≥ 0) = l.any p := by
  induction l generalizing i with
  | nil => rfl
  | cons x l ih =>
    simp only [findI, List.any_cons]
    split
    · simp_all
    · rename_i h
      rw [ih (i + 1) (by omega)]
      simp [h]

end Go.Proofs.Ytkleapappjagfaa
