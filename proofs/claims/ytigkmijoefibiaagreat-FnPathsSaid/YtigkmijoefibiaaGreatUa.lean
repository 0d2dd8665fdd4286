/- Contracts of functions of the program: no statement of the seat is proved here. Each under the conditions that stand in it. -/
import Derived.Test.YtigkmijoefibiaaGreatTd
import Derived.Test.YtigkmijoefibiaaGreatM4
set_option linter.all false
namespace Go.Proofs.YtigkmijoefibiaaGreat
open Go.Vs Go.Proofs
/-! What the laws over draws share -/
theorem Brsself {x : List UInt8} {X Y : Prop} (h : Y) : Br (!(x == x)) X Y := by
  rw [beq_self_eq_true]; exact Br.ff h
abbrev IN (k : Int) (n : Name) : Arg := (.tup [(false, 1), (true, 1)], [cI k, cSs true n.parts])
theorem is23 : FI 23 Tryz.f23 := ⟨⟨Tryz.f23, Tryz.func23, rfl, rfl, rfl, rfl⟩, rfl⟩
set_option maxRecDepth 20000 in
set_option maxHeartbeats 16000000 in
theorem big_no (l : List UInt8) (h : l.length ≤ 1048576) : FO 23 [Ys false l] [Ys false l] (B false) := by
  refine fok envOk mixed is23 ⟨rfl, rfl, ?_⟩
  have f1 : decide ((l.length : Int) > 1048576) = false := by simp; omega
  (repeat' ((conv => whnf); first | refine stp ?_ ))
  rw [f1]
  exact Vs.Fin.mk (WkR.refl _) (.refl _)
set_option maxRecDepth 20000 in
set_option maxHeartbeats 16000000 in
theorem big_yes (l : List UInt8) (h : ¬ l.length ≤ 1048576) : FO 23 [Ys false l] [Ys false l] (B true) := by
  refine fok envOk mixed is23 ⟨rfl, rfl, ?_⟩
  have f1 : decide ((l.length : Int) > 1048576) = true := by simp; omega
  (repeat' ((conv => whnf); first | refine stp ?_ ))
  rw [f1]
  exact Vs.Fin.mk (WkR.refl _) (.refl _)
theorem is179 : FI 179 Tryz.f179 := ⟨⟨Tryz.f179, Tryz.func179, rfl, rfl, rfl, rfl⟩, rfl⟩
set_option maxRecDepth 20000 in
set_option maxHeartbeats 16000000 in
theorem same_Texts (l : List ByteArray) (hl : l.length ≤ 1099511627776) : FO 179 [Ss false l, Ss false l] [Ss false l, Ss false l] (B true) := by
  refine fok envOk mixed is179 ⟨rfl, rfl, ?_⟩
  (repeat' ((conv => whnf); first | refine stp ?_ ))
  refine Lp.mk [.sl 0, .sl 1, .sl 5] (fun m σ => ∃ d r, l = d ++ r ∧ m = r.length ∧ σ = [Sa 0 (Ss false l), Sa 1 (Ss false l), Sa 5 (I d.length)]) (l.length) _ (WkS.weak _ _) ⟨[], l, rfl, rfl, (by first | rfl | (simp only [zlen, zsum, Nat.zero_mul, Int.add_zero, Int.sub_zero, List.nil_append, markG]; rfl))⟩ ?_
  rintro m τ ⟨d, r, hl2, rfl, rfl⟩
  have hy : l.length = d.length + r.length := by rw [hl2]; simp
  refine Nm.mk lenC ?_
  cases r with
  | nil =>
    refine Br.neg (by simp at * <;> omega) ?_
    (repeat' ((conv => whnf); first | refine stp ?_ ))
    exact Vs.Fin.mk (WkR.refl _) (.refl _)
  | cons x r =>
    simp at hy
    refine Br.pos (by simp <;> omega) ?_
    (repeat' ((conv => whnf); first | refine stp ?_ | refine El.mk (getH hl2 rfl) ?_ | refine Brsself ?_ | refine Cl.pre (by simp only [shcLL_ints, shcLL_byts, shcLL_strs, Fetc.shcs, Gran.shcs, Mani.shcs, Name.shcs, Read.shcs, Segm.shcs]; rfl) ?_))
    refine Nx.intro r.length (by simp) _ (WkS.weak _ _) ⟨d ++ [x], r, by simp [hl2], rfl, ?_⟩
    rw [len1]; rfl
theorem is99 : FI 99 Tryz.f99 := ⟨⟨Tryz.f99, Tryz.func99, rfl, rfl, rfl, rfl⟩, rfl⟩
set_option maxRecDepth 20000 in
set_option maxHeartbeats 16000000 in
theorem same_Name (n : Name) (hl : n.parts.length ≤ 1099511627776) : FO 99 [A (Name.c false n), A (Name.c false n)] [A (Name.c false n), A (Name.c false n)] (B true) := by
  refine fok envOk mixed is99 ⟨rfl, rfl, ?_⟩
  (repeat' ((conv => whnf); first | refine stp ?_ | refine Cl.mk (same_Texts n.parts hl) ?_ | refine Cl.pre (by simp only [shcLL_ints, shcLL_byts, shcLL_strs, Fetc.shcs, Gran.shcs, Mani.shcs, Name.shcs, Read.shcs, Segm.shcs]; rfl) ?_))
  exact Vs.Fin.mk (WkR.refl _) (.refl _)
theorem strs_take {l : List ByteArray} {k : Nat} : strsSize (l.take k) ≤ strsSize l := by
  have h : strsSize (l.take k ++ l.drop k) = strsSize l := by rw [List.take_append_drop]
  unfold strsSize at *
  rw [sumN_append] at h
  simp at *
  omega
theorem gsec_pre (k : Int) (n : Name) (j : Nat) : gsec [mkGran k ⟨n.parts.take j⟩] n = nsec k n.parts := by
  have h : covs n (mkGran k ⟨n.parts.take j⟩) = true := by
    simp [covs, hasPre, mkGran, List.length_take, Nat.min_le_right]
  unfold gsec
  rw [List.find?_cons_of_pos h]
  simp only [mkGran, nsec, ← List.foldl_append]
  congr 1
  simp only [List.length_take]
  rcases Nat.le_total j n.parts.length with h2 | h2
  · rw [Nat.min_eq_left h2, List.take_append_drop]
  · rw [Nat.min_eq_right h2, List.take_of_length_le h2]; simp
end Go.Proofs.YtigkmijoefibiaaGreat
