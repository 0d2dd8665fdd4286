/- Contracts of functions of the program: no statement of the seat is proved here. Each under the conditions that stand in it. -/
import Derived.Test.YtoekfmkbkffciaaGreatDoorFu
import Derived.Test.YtoekfmkbkffciaaGreatDoorFv
set_option linter.all false
namespace Go.Proofs.YtoekfmkbkffciaaGreatDoor
open Go.Vs Go.Proofs
theorem wkSet (l : List Segm) (k : Nat) (b : List UInt8) (z : List AV) (hz : WkL z (Segm.c true ⟨b⟩)) : WkL ((l.map (Segm.c true)).set k z).flatten ((l.set k ⟨b⟩).map (Segm.c true)).flatten := by
  induction l generalizing k with
  | nil => exact .nil
  | cons x l ih =>
    cases k with
    | zero => simp only [List.map_cons, List.set_cons_zero, List.flatten_cons]; exact wkApp hz (.refl _)
    | succ k => simp only [List.map_cons, List.set_cons_succ, List.flatten_cons]; exact .keep (ih k)
where
  wkApp {a b c d : List AV} (h1 : WkL a b) (h2 : WkL c d) : WkL (a ++ c) (b ++ d) := by
    induction h1 with
    | nil => exact h2
    | keep _ ih => exact .keep ih
    | nils _ ih => exact .nils ih
    | sl hn hl hs hin _ _ ih => exact .sl hn hl hs hin ih
    | top _ ih => exact .top ih
theorem rcv_no {f : Fetc} {i : Int} {b : List UInt8} (h : inSt f.received i = true ∨ vSeg f.mani i b = false ∨ f.received < 0 ∨ f.outst < 0 ∨ i ≥ f.segs.length) : rcvF f i b = f := by
  refine if_pos ?_
  rcases h with h | h | h | h | h <;> simp [h]
theorem rcv_yes {f : Fetc} {i : Int} {b : List UInt8} (h1 : inSt f.received i = false) (h2 : vSeg f.mani i b = true) (h3 : ¬ f.received < 0) (h4 : ¬ f.outst < 0) (h5 : ¬ i ≥ f.segs.length) : rcvF f i b = { f with segs := f.segs.set i.toNat ⟨b⟩, received := bOr f.received (bitL i), outst := bClr f.outst (bitL i), losses := 0, window := if decide (f.window < f.thresh) || decide (bClr f.outst (bitL i) = 0) then mi 8 (IntKind.wrap .i64 (f.window + 1)) else f.window } := by
  refine if_neg ?_
  simp [h1, h2]; omega
theorem getJ {α : Type} {c : α → List AV} {l : List α} {j : Nat} (h : j < l.length) : (l.map c)[((j : Nat) : Int).toNat]? = some (c (l[j]'h)) := by
  simp [h]
theorem mi_comm (a b : Int) : mi a b = mi b a := by unfold mi; split <;> split <;> omega
set_option maxRecDepth 20000
theorem mrkF_size {f : Fetc} {i : Int} (h : Fetc.size f ≤ 1048576) : Fetc.size (mrkF f i) ≤ 1048576 := by
  unfold mrkF; split <;> exact h
theorem lostF_size {f : Fetc} {i : Int} (h : Fetc.size f ≤ 1048576) : Fetc.size (lostF f i) ≤ 1048576 := by
  unfold lostF; split
  · split <;> exact h
  · exact h
theorem sumN_set {α : Type} (f : α → Nat) : ∀ (l : List α) (k : Nat) (x : α), sumN f (l.set k x) ≤ sumN f l + f x
  | [], _, _ => by simp [sumN]
  | y :: l, 0, x => by simp [sumN]; omega
  | y :: l, k + 1, x => by have := sumN_set f l k x; simp [sumN]; omega
theorem rcvF_size {f : Fetc} {i : Int} {b : List UInt8} (h : Fetc.size f ≤ 1048576) (hb : b.length ≤ 1048576) : Fetc.size (rcvF f i b) ≤ 2097152 := by
  unfold rcvF
  split
  · omega
  · simp only [Fetc.size, Mani.size, List.length_set] at *
    have := sumN_set Segm.size f.segs i.toNat ⟨b⟩
    have e : Segm.size ⟨b⟩ = b.length := rfl
    omega
end Go.Proofs.YtoekfmkbkffciaaGreatDoor
