/- Contracts of functions of the program: no statement of the seat is proved here. Each under the conditions that stand in it. -/
import Derived.Test.YtoekfmkbkffciaaEo
set_option linter.all false
namespace Go.Proofs.Ytoekfmkbkffciaa
open Go.Vs Go.Proofs
/-! Advertisements decoded: the size, the contracts as the law asks them -/
theorem fin7_some {b : List UInt8} {o v : Int} {s : List Int} {r : Option (List Name × Nat)} {a : Adve} (h : fin7 b o v s r = some a) : a.nbs = s ∧ vAdv a = true := by
  unfold fin7 at h
  split at h
  · cases h
  · split at h
    · rename_i hc; cases h; exact ⟨rfl, hc.2⟩
    · cases h
theorem decAd_some {b : List UInt8} {a : Adve} (h : decAd b = some a) : a.nbs.length ≤ 6 ∧ vAdv a = true := by
  unfold decAd at h
  split at h
  · rename_i o v n e h1
    split at h
    · rename_i hn
      split at h
      · cases h
      · rename_i s e1 h2
        have hl0 := decI_le (by omega) h1
        have hl := decI_le (by omega) h2
        split at h
        · cases h
        · split at h
          · obtain ⟨e1, e2⟩ := fin7_some h
            exact ⟨by rw [e1]; omega, e2⟩
          · cases h
    · cases h
  · cases h
def dAd (b : List UInt8) : Adve := (decAd b).getD ⟨0, 0, [], []⟩
theorem dAd_size (b : List UInt8) : Adve.size (dAd b) ≤ 1048576 := by
  unfold dAd
  cases h : decAd b with
  | none => show 0 + (0 + 0) ≤ 1048576; omega
  | some a =>
    obtain ⟨h1, h2⟩ := decAd_some h
    simp only [vAdv, Bool.and_eq_true, decide_eq_true_eq] at h2
    have h3 := nms_size (w := a.prefs) h2.2.2
    have h4 := h2.1.2
    show a.nbs.length + (a.prefs.length + sumN Name.size a.prefs) ≤ 1048576
    omega
theorem s_DAd (b : List UInt8) (hb : b.length ≤ 1048576) : FO 4 [Ys false b] [Ys false b] (TAw (dAd b) (decAd b).isSome) := by
  have h := s_DecAdO b hb
  unfold dAd
  cases hd : decAd b with
  | none => rw [hd] at h; exact h
  | some a => rw [hd] at h; exact h
theorem i_DAd (b : List UInt8) (hb : b.length ≤ 1048576) : FO 6 [Ys false b] [Ys false b] (TAw (dAd b) (decAd b).isSome) := by
  have h := i_DecAdO b hb
  unfold dAd
  cases hd : decAd b with
  | none => rw [hd] at h; exact h
  | some a => rw [hd] at h; exact h
end Go.Proofs.Ytoekfmkbkffciaa
