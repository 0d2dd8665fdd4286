/- Contracts of functions of the program: no statement of the seat is proved here. Each under the conditions that stand in it. -/
import Derived.Test.YtoekfmkbkffciaaEnv
import Derived.Shelf.RegionOpenPlain
import Derived.WalkKit
import Derived.Lib.Walk
import Derived.Lib.SliceRun
import Derived.Lib.AppendZerosOnto
set_option linter.all false
namespace Go.Proofs.Ytoekfmkbkffciaa
open Go.Vs Go.Proofs
/-! What the library makes anew -/
theorem repsW {w w' : World} {S S' : Nat → Prop} {args : List Arg} {vals : List Value} {fp : List Nat} (h : Reps w S args vals fp) (hS : ∀ b, S b → S' b ∧ w'.heap[b]? = w.heap[b]?) (hfp : ∀ b ∈ fp, w'.heap[b]? = w.heap[b]?) : Reps w' S' args vals fp := by
  induction h with
  | nil => exact .nil
  | cons h t ih => exact .cons (h.mono hS (fun b hb => hfp b (by simp [hb])) (fun _ _ h => h)) (ih (fun b hb => hfp b (by simp [hb])))
theorem fresh_post {w : World} {S : Nat → Prop} {args : List Arg} {vals : List Value} {e : TypeId} {cur : Array Value} {n cap sz : Nat} {els : List (List AV)} (hn : els.length = n) (hsz : ∀ el ∈ els, el.length = sz) (hpos : 0 < sz) (hcap : n ≤ cap) (hmax : cap ≤ maxLen) (hcur : cur.size = cap * sz)
    (hin : Rep (w.drew.alloc (.cells cur e)) (fun _ => none) (fun b => S b) els.flatten (cur.toList.take (n * sz)) []) (hargs : Reps w S args vals []) (hS : ∀ b, S b → b < w.heap.size) :
    FPost w S vals [] args (O (sl true sz els)) (.returned (.slice (some ⟨w.heap.size, 0, none⟩) n cap)) (w.drew.alloc (.cells cur e)) := by
  have hold : ∀ b, b < w.heap.size → (w.drew.alloc (.cells cur e)).heap[b]? = w.heap[b]? := by
    intro b hb
    show (w.heap.push _)[b]? = _
    rw [Array.getElem?_push, if_neg (by omega)]
  have hlt : w.heap.size < (w.drew.alloc (.cells cur e)).heap.size := by
    show _ < (w.heap.push _).size
    simp
  have hSS : ∀ b, S b → ((S b ∨ b ∈ ([] : List Nat) ∨ w.heap.size ≤ b) ∧ b < (w.drew.alloc (.cells cur e)).heap.size ∧ b ∉ [w.heap.size] ++ []) := by
    intro b hb
    have := hS b hb
    exact ⟨.inl hb, by omega, by simp; omega⟩
  refine ⟨[.slice (some ⟨w.heap.size, 0, none⟩) n cap], [w.heap.size], [], rfl, rfl, ⟨rfl, rfl, rfl, by omega, fun b hb _ => hold b hb⟩, by simp, ?_, ?_, ?_⟩
  · intro b hb
    simp at hb
    subst hb
    exact ⟨.inr (Nat.le_refl _), hlt⟩
  · have := @Rep.owd (w.drew.alloc (.cells cur e)) (fun _ => none) (fun b => (S b ∨ b ∈ ([] : List Nat) ∨ w.heap.size ≤ b) ∧ b < (w.drew.alloc (.cells cur e)).heap.size ∧ b ∉ [w.heap.size] ++ []) .unk sz w.heap.size n cap els cur e [] [] [] [] (by simp) (by show (w.heap.push _)[w.heap.size]? = _; simp) hn hsz hpos hcap hmax (Nat.le_of_eq hcur.symm)
      (hin.mono (fun b hb => ⟨hSS b hb, rfl⟩) (by simp) (fun _ _ h => h)) .nil
    simpa using this
  · exact repsW hargs (fun b hb => ⟨hSS b hb, hold b (hS b hb)⟩) (by simp)
end Go.Proofs.Ytoekfmkbkffciaa
