/- Contracts of functions of the program: no statement of the seat is proved here. Each under the conditions that stand in it. -/
import Derived.Test.YtoekfmkbkffciaaFo
import Derived.Test.YtoekfmkbkffciaaFm
import Derived.Test.YtoekfmkbkffciaaFe
set_option linter.all false
namespace Go.Proofs.Ytoekfmkbkffciaa
open Go.Vs Go.Proofs
/-- How many of 0 .. j-1 are members. -/
def cntS (s : Int) (j : Nat) : Nat := ((List.range j).filter fun (i : Nat) => inSt s (i : Int)).length
theorem cntS_zero (s : Int) : ((cntS s 0 : Nat) : Int) = 0 := rfl
theorem cntS_succ (s : Int) (j : Nat) : cntS s (j + 1) = cntS s j + if inSt s (j : Int) = true then 1 else 0 := by
  unfold cntS
  rw [List.range_succ, List.filter_append, List.length_append]
  split <;> simp_all
theorem cntS_le (s : Int) (j : Nat) : cntS s j ≤ j := by
  have := List.length_filter_le (fun (i : Nat) => inSt s (i : Int)) (List.range j)
  simp at this
  exact this
def fSegs (r o : Int) (j : Nat) : List Nat := (List.range j).filter fun (i : Nat) => !inSt r (i : Int) && !inSt o (i : Int)
def roomF (f : Fetc) : Int := ma 0 f.window - cntS f.outst 8
def nxtT (f : Fetc) (j : Nat) : List Int := ((fSegs f.received f.outst j).take (roomF f).toNat).map fun (i : Nat) => (i : Int)
def nxt (f : Fetc) : List Int := nxtT f (min 8 f.mani.dig.length)
theorem fSegs_succ (r o : Int) (j : Nat) : fSegs r o (j + 1) = fSegs r o j ++ if (!inSt r (j : Int) && !inSt o (j : Int)) = true then [j] else [] := by
  unfold fSegs
  rw [List.range_succ, List.filter_append]
  congr 1
  simp only [List.filter_cons, List.filter_nil]
theorem fSegs_le (r o : Int) (j : Nat) : (fSegs r o j).length ≤ j := by
  have := List.length_filter_le (fun (i : Nat) => !inSt r (i : Int) && !inSt o (i : Int)) (List.range j)
  simp at this
  exact this
theorem nxtT_zero (f : Fetc) : nxtT f 0 = [] := by simp [nxtT, fSegs]
theorem nxtT_len (f : Fetc) (j : Nat) : (nxtT f j).length ≤ j := by
  have := fSegs_le f.received f.outst j
  simp [nxtT]; omega
theorem nxtT_yes {f : Fetc} {j : Nat} (h : (!inSt f.received (j : Int) && !inSt f.outst (j : Int)) = true) (hr : ((nxtT f j).length : Int) < roomF f) : nxtT f (j + 1) = nxtT f j ++ [(j : Int)] := by
  unfold nxtT at *
  rw [fSegs_succ, if_pos h, List.take_append]
  simp only [List.length_map, List.length_take] at hr
  have : ¬ (roomF f).toNat ≤ (fSegs f.received f.outst j).length := by omega
  obtain ⟨k, hk⟩ : ∃ k, (roomF f).toNat - (fSegs f.received f.outst j).length = k + 1 := ⟨(roomF f).toNat - (fSegs f.received f.outst j).length - 1, by omega⟩
  rw [hk]
  simp
theorem nxtT_no {f : Fetc} {j : Nat} (h : (!inSt f.received (j : Int) && !inSt f.outst (j : Int)) = true → ¬ ((nxtT f j).length : Int) < roomF f) : nxtT f (j + 1) = nxtT f j := by
  unfold nxtT at *
  rw [fSegs_succ]
  split
  · rename_i h1
    have h2 := h h1
    simp only [List.length_map, List.length_take] at h2
    rw [List.take_append]
    have : (roomF f).toNat - (fSegs f.received f.outst j).length = 0 := by omega
    rw [this]
    simp
  · simp
theorem nxtT_full {f : Fetc} {j : Nat} (h : ¬ ((nxtT f j).length : Int) < roomF f) : ∀ k, nxtT f (j + k) = nxtT f j
  | 0 => rfl
  | k + 1 => by
    have ih := nxtT_full h k
    have := nxtT_no (f := f) (j := j + k) (fun _ => by rw [ih]; exact h)
    rw [← ih, ← this]; rfl
theorem nxt_end {f : Fetc} {j : Nat} (h8 : j ≤ 8) (hl : j ≤ f.mani.dig.length) (h : f.mani.dig.length ≤ j ∨ 8 ≤ j ∨ roomF f ≤ (nxtT f j).length) : nxt f = nxtT f j := by
  unfold nxt
  rcases h with h | h | h
  · rw [show min 8 f.mani.dig.length = j by omega]
  · rw [show min 8 f.mani.dig.length = j by omega]
  · rw [show min 8 f.mani.dig.length = j + (min 8 f.mani.dig.length - j) by omega]
    exact nxtT_full (by omega) _
def reass (l : List Segm) : List UInt8 := l.flatMap (·.content)
theorem reass_len (l : List Segm) : (reass l).length = sumN (fun s : Segm => s.content.length) l := by
  induction l with
  | nil => rfl
  | cons x l ih => simp [reass, sumN] at *; exact ih
theorem reass_le {f : Fetc} (h : Fetc.size f ≤ 1048576) : (reass f.segs).length ≤ 1048576 := by
  rw [reass_len]
  simp only [Fetc.size] at h
  have : sumN Segm.size f.segs = sumN (fun s : Segm => s.content.length) f.segs := rfl
  omega
theorem reass_pre (d r : List Segm) : (reass d).length ≤ (reass (d ++ r)).length := by simp [reass]
def newF (p : Mani) : Fetc := if vMani p then ⟨p, 0, List.replicate p.dig.length ⟨[]⟩, 0, 1, 8, 0⟩ else ⟨⟨0, 0, []⟩, 0, [], 0, 0, 0, 0⟩
theorem wkSegs (n : Nat) : WkL (List.replicate n [AV.sl true .isnil 0 []]).flatten ((List.replicate n (⟨[]⟩ : Segm)).map (Segm.c true)).flatten := by
  induction n with
  | zero => exact .nil
  | succ n ih => simp only [List.replicate_succ, List.map_cons, List.flatten_cons]; exact .nils ih
theorem newF_size {p : Mani} (h : Mani.size p ≤ 1048576) : Fetc.size (newF p) ≤ 2097152 := by
  unfold newF
  split
  · simp only [Fetc.size, Mani.size, List.length_replicate] at *
    have : sumN Segm.size (List.replicate p.dig.length ⟨[]⟩) = 0 := by
      generalize p.dig.length = n
      induction n with
      | zero => rfl
      | succ n ih => simp [List.replicate_succ, sumN, ih, Segm.size]
    omega
  · simp [Fetc.size, Mani.size, sumN]
end Go.Proofs.Ytoekfmkbkffciaa
