/- Contracts of functions of the program: no statement of the seat is proved here. Each under the conditions that stand in it. -/
import Derived.Test.YtoekfmkbkffciaaFt
set_option linter.all false
namespace Go.Proofs.Ytoekfmkbkffciaa
open Go.Vs Go.Proofs
def hasI (l : List Int) (x : Int) : Bool := l.any fun y => decide (y = x)
theorem nxt_nn {f : Fetc} {i : Int} (h : hasI (nxt f) i = true) : 0 ≤ i ∧ i < 8 ∧ i < f.mani.dig.length ∧ inSt f.received i = false ∧ inSt f.outst i = false := by
  simp only [hasI, List.any_eq_true, decide_eq_true_eq] at h
  obtain ⟨y, hy, rfl⟩ := h
  simp only [nxt, nxtT, List.mem_map] at hy
  obtain ⟨k, hk, rfl⟩ := hy
  have := List.mem_of_mem_take hk
  simp only [fSegs, List.mem_filter, List.mem_range] at this
  simp at this
  exact ⟨by omega, by omega, by omega, this.2.1, this.2.2⟩
theorem nxt_len (f : Fetc) : (nxt f).length ≤ 8 := by
  have := nxtT_len f (min 8 f.mani.dig.length)
  unfold nxt; omega
def mrkF (f : Fetc) (i : Int) : Fetc := if hasI (nxt f) i && decide (f.outst ≥ 0) then { f with outst := bOr f.outst (bitL i) } else f
def lostF (f : Fetc) (i : Int) : Fetc :=
  if inSt f.outst i then
    (if IntKind.wrap .i64 (f.losses + 1) ≥ 3 then { f with outst := bClr f.outst (bitL i), losses := 0, thresh := ma 1 (f.window / 2), window := ma 1 (f.window / 2) }
     else { f with outst := bClr f.outst (bitL i), losses := IntKind.wrap .i64 (f.losses + 1) })
  else f
def rcvF (f : Fetc) (i : Int) (b : List UInt8) : Fetc :=
  if inSt f.received i || !vSeg f.mani i b || decide (f.received < 0) || decide (f.outst < 0) || decide (i ≥ f.segs.length) then f
  else
    { f with segs := f.segs.set i.toNat ⟨b⟩, received := bOr f.received (bitL i), outst := bClr f.outst (bitL i), losses := 0,
             window := if decide (f.window < f.thresh) || decide (bClr f.outst (bitL i) = 0) then mi 8 (IntKind.wrap .i64 (f.window + 1)) else f.window }
theorem inSt_nn {s i : Int} (h : inSt s i = true) : 0 ≤ i ∧ i ≤ 30 ∧ 0 ≤ s := by
  simp [inSt, inR_t] at h; omega
theorem vSeg_i {p : Mani} {i : Int} {b : List UInt8} (h : vSeg p i b = true) : 0 ≤ i ∧ i < 8 ∧ i < p.dig.length := by
  have hv : vMani p = true := by simp [vSeg] at h; simp_all
  have h8 := vMani_len hv
  simp [vSeg, inR_t] at h
  omega
end Go.Proofs.Ytoekfmkbkffciaa
