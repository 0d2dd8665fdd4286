/- Contracts of functions of the program: no statement of the seat is proved here. Each under the conditions that stand in it. -/
import Derived.Test.YtigkmijoefibiaaGreatM7
set_option linter.all false
namespace Go.Proofs.YtigkmijoefibiaaGreat
open Go.Vs Go.Proofs
/-! Plans are read back -/
theorem evi_v {d : Int} (h : 0 ≤ d ∧ d ≤ 1000000000000) : evi d = vint d.toNat := by
  unfold evi; rw [if_pos (inR_t.2 h)]
theorem decA_enc : ∀ (ds : List Int) (pre suf : List UInt8) (o : List Int), (∀ d ∈ ds, 0 ≤ d ∧ d ≤ 1000000000000) → decA (pre ++ (encs ds ++ suf)) ds.length pre.length o = some (o ++ ds, pre.length + (encs ds).length)
  | [], pre, suf, o, h => by simp [decA, encs]
  | d :: ds, pre, suf, o, h => by
    have hd := h d (by simp)
    obtain ⟨x, rfl⟩ : ∃ x : Nat, d = x := ⟨d.toNat, by omega⟩
    have he : encs ((x : Int) :: ds) = vint x ++ encs ds := by
      show evi x ++ encs ds = _
      rw [evi_v hd, Int.toNat_natCast]
    have hr : rdV ((pre ++ (encs ((x : Int) :: ds) ++ suf)).drop pre.length) 0 0 = some (x, (vint x).length) := by
      rw [List.drop_left, he, List.append_assoc, rdV_vint 5 x 0 0 _ (by omega) (by omega) (by omega) (by omega)]
      simp
    rw [List.length_cons, decA, hr]
    have ih := decA_enc ds (pre ++ vint x) suf (o ++ [(x : Int)]) (fun y hy => h y (by simp [hy]))
    simp only [List.length_append, List.append_assoc] at ih
    simp only [he, List.append_assoc]
    rw [ih]
    simp [Nat.add_assoc]
theorem okDig_b {d : Int} (h : okDig d = true) : 0 ≤ d ∧ d ≤ 1000000000000 := by
  simp [okDig, inR_t] at h; omega
theorem vMani_dig {p : Mani} (h : vMani p = true) : ∀ d ∈ p.dig, 0 ≤ d ∧ d ≤ 1000000000000 := by
  intro d hd
  simp only [vMani, Bool.and_eq_true, List.all_eq_true] at h
  exact okDig_b (h.2 d hd)
theorem dec_encM {p : Mani} (h : vMani p = true) : decM (encs (p.seg :: p.len :: p.dig)) = some p := by
  have hb := vMani_b h
  have h8 := vMani_len h
  have hd := vMani_dig h
  have e1 : encs (p.seg :: p.len :: p.dig) = [] ++ (encs [p.seg, p.len] ++ encs p.dig) := by simp [encs]
  have h1 := decA_enc [p.seg, p.len] [] (encs p.dig) [] (by intro d hd; simp at hd; omega)
  have e2 : encs (p.seg :: p.len :: p.dig) = encs [p.seg, p.len] ++ (encs p.dig ++ []) := by simp [encs]
  have h2 := decA_enc p.dig (encs [p.seg, p.len]) [] [] hd
  rw [← e1] at h1
  rw [← e2] at h2
  have i1 : decI (encs (p.seg :: p.len :: p.dig)) 0 2 = some ([p.seg, p.len], (encs [p.seg, p.len]).length) := by
    unfold decI; rw [if_pos (by decide)]
    simpa using h1
  have i2 : decI (encs (p.seg :: p.len :: p.dig)) (encs [p.seg, p.len]).length (cdiv p.len p.seg) = some (p.dig, (encs (p.seg :: p.len :: p.dig)).length) := by
    unfold decI; rw [if_pos (inR_t.2 (by omega)), ← hb.2.2.2.2, Int.toNat_natCast, h2, e2]
    simp
  unfold decM
  rw [i1]
  simp only [i2]
  rw [if_pos ⟨trivial, h⟩]
theorem rdV_canon : ∀ (l : List UInt8) (k n x c : Nat), rdV l k n = some (x, c) → k < c ∧ ∃ y, l.take (c - k) = vint y ∧ x = n + y * 2 ^ (7 * k) ∧ (0 < k → 0 < y)
  | [], k, n, x, c, h => by simp [rdV] at h
  | z :: r, k, n, x, c, h => by
    have hz := z.toNat_lt
    rw [rdV] at h
    split at h
    · split at h
      · rename_i hz2
        split at h
        · cases h
        · rename_i h3
          simp only [Option.some.injEq, Prod.mk.injEq] at h
          obtain ⟨rfl, rfl⟩ := h
          refine ⟨by omega, z.toNat, ?_, ?_, ?_⟩
          · rw [vint_lt hz2, Nat.add_sub_cancel_left]; simp
          · rw [Nat.mod_eq_of_lt hz2]
          · intro hk; omega
      · rename_i hz2
        obtain ⟨h4, y, h5, h6, h7⟩ := rdV_canon r (k + 1) _ x c h
        have h7 := h7 (by omega)
        have e3 : 2 ^ (7 * (k + 1)) = 128 * 2 ^ (7 * k) := by rw [show 7 * (k + 1) = 7 * k + 7 by omega, Nat.pow_add]; omega
        refine ⟨by omega, z.toNat % 128 + 128 * y, ?_, ?_, ?_⟩
        · rw [vint_ge (n := z.toNat % 128 + 128 * y) (by omega), show c - k = (c - (k + 1)) + 1 by omega, List.take_succ_cons, h5]
          rw [show (z.toNat % 128 + 128 * y) % 128 + 128 = z.toNat by omega, show (z.toNat % 128 + 128 * y) / 128 = y by omega, UInt8.ofNat_toNat]
        · rw [h6, e3, Nat.add_mul, Nat.add_assoc]
          congr 2
          rw [← Nat.mul_assoc, Nat.mul_comm y 128]
        · intro _; omega
    · cases h
theorem decA_canon {b : List UInt8} : ∀ (n q : Nat) (o l : List Int) (e : Nat), decA b n q o = some (l, e) → ∃ ds, l = o ++ ds ∧ q ≤ e ∧ (b.drop q).take (e - q) = encs ds
  | 0, q, o, l, e, h => by
    simp only [decA, Option.some.injEq, Prod.mk.injEq] at h
    obtain ⟨rfl, rfl⟩ := h
    exact ⟨[], by simp, Nat.le_refl _, by simp [encs]⟩
  | n + 1, q, o, l, e, h => by
    rw [decA] at h
    split at h
    · cases h
    · rename_i x c hx
      obtain ⟨ds, h1, h2, h3⟩ := decA_canon n (q + c) _ l e h
      obtain ⟨_, y, h5, h6, _⟩ := rdV_canon _ _ _ _ _ hx
      have hle := (rdV_le _ _ _ _ _ hx).1
      obtain rfl : x = y := by simpa using h6
      refine ⟨(x : Int) :: ds, by simp [h1], by omega, ?_⟩
      show _ = evi x ++ encs ds
      rw [evi_v (by omega), Int.toNat_natCast, ← h3, show e - q = c + (e - (q + c)) by omega, List.take_add, List.drop_drop, ← h5, Nat.sub_zero]
theorem enc_decM {c : List UInt8} {p : Mani} (h : decM c = some p) : vMani p = true ∧ encs (p.seg :: p.len :: p.dig) = c := by
  unfold decM at h
  split at h
  · rename_i x y e h1
    split at h
    · rename_i ds e2 h2
      split at h
      · rename_i h3
        cases h
        refine ⟨h3.2, ?_⟩
        have a1 : decA c 2 0 [] = some ([x, y], e) := by
          unfold decI at h1; rw [if_pos (by decide)] at h1; exact h1
        have a2 : ∃ n, decA c n e [] = some (ds, e2) := by
          unfold decI at h2
          split at h2
          · exact ⟨_, h2⟩
          · cases h2
        obtain ⟨n, a2⟩ := a2
        obtain ⟨d1, b1, _, b2⟩ := decA_canon _ _ _ _ _ a1
        obtain ⟨d2, b3, b4, b5⟩ := decA_canon _ _ _ _ _ a2
        simp only [List.nil_append] at b1 b3
        subst b1 b3
        rw [h3.1] at b5
        have : encs (x :: y :: ds) = encs [x, y] ++ encs ds := by simp [encs]
        rw [this, ← b2, ← b5, List.drop_zero, Nat.sub_zero, List.take_of_length_le (l := c.drop e) (by simp), List.take_append_drop]
      · cases h
    · cases h
  · cases h
end Go.Proofs.YtigkmijoefibiaaGreat
