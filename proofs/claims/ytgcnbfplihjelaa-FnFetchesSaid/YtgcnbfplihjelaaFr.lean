/- Contracts of functions of the program: no statement of the seat is proved here. Each under the conditions that stand in it. -/
import Derived.Test.YtgcnbfplihjelaaFq
set_option linter.all false
namespace Go.Proofs.Ytgcnbfplihjelaa
open Go.Vs Go.Proofs
/-! Codes of lists, plans -/
theorem rdV_le : ∀ (l : List UInt8) (k n : Nat) (x c : Nat), rdV l k n = some (x, c) → x ≤ 1000000000000 ∧ k < c ∧ c ≤ k + l.length
  | [], k, n, x, c, h => by simp [rdV] at h
  | y :: r, k, n, x, c, h => by
    rw [rdV] at h
    split at h
    · split at h
      · split at h
        · simp at h
        · simp at h; simp; omega
      · have := rdV_le r (k + 1) _ x c h
        simp; omega
    · simp at h
def decA (b : List UInt8) : Nat → Nat → List Int → Option (List Int × Nat)
  | 0, q, o => some (o, q)
  | n + 1, q, o => match rdV (b.drop q) 0 0 with
    | none => none
    | some (x, c) => decA b n (q + c) (o ++ [(x : Int)])
def decI (b : List UInt8) (q : Nat) (n : Int) : Option (List Int × Nat) := if inR n 0 100 then decA b n.toNat q [] else none
abbrev TIs (l : List Int) (e : Int) (b : Bool) : Arg := (.tup [(false, 1), (false, 1), (false, 1)], [cIs true l, cI e, cB b])
abbrev TI (o : Option (List Int × Nat)) : Arg := match o with
  | none => TIs [] 0 false
  | some (l, e) => TIs l e true
theorem decA_le {b : List UInt8} : ∀ (n q : Nat) (o : List Int) (l : List Int) (e : Nat), q ≤ b.length → decA b n q o = some (l, e) → l.length = o.length + n ∧ e ≤ b.length
  | 0, q, o, l, e, hq, h => by simp [decA] at h; simp [← h.1, ← h.2, hq]
  | n + 1, q, o, l, e, hq, h => by
    rw [decA] at h
    split at h
    · simp at h
    · rename_i x c hx
      have := rdV_le _ _ _ _ _ hx
      simp at this
      have := decA_le n (q + c) _ l e (by omega) h
      simp at this; omega
theorem decI_le {b : List UInt8} {q : Nat} {n : Int} {l : List Int} {e : Nat} (hq : q ≤ b.length) (h : decI b q n = some (l, e)) : (l.length : Int) = n ∧ e ≤ b.length ∧ 0 ≤ n ∧ n ≤ 100 := by
  unfold decI at h
  split at h
  · rename_i hn
    have := decA_le _ _ _ _ _ hq h
    simp [inR_t] at hn
    simp at this
    omega
  · simp at h
theorem vMani_len {p : Mani} (h : vMani p = true) : p.dig.length ≤ 8 := by
  simp [vMani, inR_t] at h
  obtain ⟨⟨⟨h1, h2⟩, h3⟩, -⟩ := h
  have h4 : cdiv p.len p.seg ≤ 8 := by
    unfold cdiv
    split
    · have : (p.len + p.seg - 1) / p.seg < 9 := Int.ediv_lt_of_lt_mul (by omega) (by omega)
      omega
    · omega
  omega
def decM (b : List UInt8) : Option Mani := match decI b 0 2 with
  | some ([x, y], e) => match decI b e (cdiv y x) with
    | some (ds, e2) => if e2 = b.length ∧ vMani ⟨x, y, ds⟩ = true then some ⟨x, y, ds⟩ else none
    | none => none
  | _ => none
abbrev TMs (p : Mani) (b : Bool) : Arg := (.tup [(true, 3), (false, 1)], [cI p.seg, cI p.len, cIs true p.dig, cB b])
abbrev TM (o : Option Mani) : Arg := match o with
  | none => TMs ⟨0, 0, []⟩ false
  | some p => TMs p true

theorem encM_len (p : Mani) : (if vMani p = true then encs (p.seg :: p.len :: p.dig) else []).length ≤ 1048576 := by
  split
  · rename_i h
    have := vMani_len h
    have := encs_len (p.seg :: p.len :: p.dig)
    simp at this
    omega
  · simp
def dM (b : List UInt8) : Mani := (decM b).getD ⟨0, 0, []⟩
theorem dM_size (b : List UInt8) : Mani.size (dM b) ≤ 1048576 := by
  unfold dM
  cases h : decM b with
  | none => simp [Mani.size]
  | some p =>
    unfold decM at h
    split at h
    · split at h
      · split at h
        · rename_i h1
          simp at h
          have := vMani_len h1.2
          simp [Mani.size, ← h] at *
          omega
        · simp at h
      · simp at h
    · simp at h
end Go.Proofs.Ytgcnbfplihjelaa
