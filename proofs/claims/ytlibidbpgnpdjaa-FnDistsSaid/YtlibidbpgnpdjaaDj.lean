/- Contracts of functions of the program: no statement of the seat is proved here. Each under the conditions that stand in it. -/
import Derived.Test.YtlibidbpgnpdjaaDi
set_option linter.all false
namespace Go.Proofs.Ytlibidbpgnpdjaa
open Go.Vs Go.Proofs
def cmpI (a b : Int) : Int := if a < b then -1 else if a > b then 1 else 0
def orL : List Int → Int
  | [] => 0
  | x :: r => if x = 0 then orL r else x
def cmpLk (a b : Link) : Int := orL [cmpI a.a b.a, cmpI a.b b.b]
theorem cmpLk_ge (a b : Link) : decide (cmpLk a b ≥ 0) = !ltL a b := by
  unfold cmpLk ltL
  simp only [orL]
  have h : cmpI a.a b.a = -1 ∧ a.a < b.a ∨ cmpI a.a b.a = 0 ∧ a.a = b.a ∨ cmpI a.a b.a = 1 ∧ b.a < a.a := by unfold cmpI; split <;> (try split) <;> omega
  have h2 : cmpI a.b b.b = -1 ∧ a.b < b.b ∨ cmpI a.b b.b = 0 ∧ a.b = b.b ∨ cmpI a.b b.b = 1 ∧ b.b < a.b := by unfold cmpI; split <;> (try split) <;> omega
  rcases h with ⟨h, h'⟩ | ⟨h, h'⟩ | ⟨h, h'⟩ <;> rcases h2 with ⟨k, k'⟩ | ⟨k, k'⟩ | ⟨k, k'⟩ <;> simp [h, k] <;> omega
end Go.Proofs.Ytlibidbpgnpdjaa
