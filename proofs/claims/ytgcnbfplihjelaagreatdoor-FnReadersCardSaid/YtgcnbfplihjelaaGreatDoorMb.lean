/- Contracts of functions of the program: no statement of the seat is proved here. Each under the conditions that stand in it. -/
import Derived.Test.YtgcnbfplihjelaaGreatDoorMa
import Derived.Test.YtgcnbfplihjelaaGreatDoorQa
set_option linter.all false
namespace Go.Proofs.YtgcnbfplihjelaaGreatDoor
open Go.Vs Go.Proofs
/-! Removed readers -/
theorem mayR_ne {who i : Int} {n : Name} (h : i ≠ who) (l : List Read) : (remR l who n).any (mayR i n) = l.any (mayR i n) := by
  unfold remR
  induction l with
  | nil => rfl
  | cons x l ih =>
    rw [List.filter_cons]
    cases hr : rmR who n x with
    | false => simp [ih]
    | true =>
      have hx : mayR i n x = false := by
        simp only [rmR, Bool.and_eq_true, beq_iff_eq] at hr
        have : ¬ x.node = i := by rw [hr.1]; exact fun h' => h h'.symm
        simp [mayR, this]
      simp [ih, hx]
theorem mayR_who {who : Int} {n : Name} (l : List Read) : (remR l who n).any (mayR who n) = false := by
  rw [List.any_eq_false]
  intro r hr hm
  simp only [remR, List.mem_filter, Bool.not_eq_true'] at hr
  simp only [mayR, Bool.and_eq_true] at hm
  have : rmR who n r = true := by simp [rmR, hm.1, hm.2]
  rw [this] at hr
  cases hr.2
theorem anyEx_rem {who : Int} {n : Name} (l : List Read) : anyEx l (remR l who n) n = l.any (mayR who n) := by
  cases hm : l.any (mayR who n) with
  | true =>
    have h0 := hm
    rw [List.any_eq_true] at hm
    obtain ⟨r, hr, hm⟩ := hm
    have hn : r.node = who := by simp only [mayR, Bool.and_eq_true, beq_iff_eq] at hm; exact hm.1
    refine exB_yes hr ?_
    rw [exB, hn, h0, mayR_who]; rfl
  | false =>
    unfold anyEx
    rw [List.any_eq_false]
    intro r hr h
    rw [exB, Bool.and_eq_true] at h
    by_cases hn : r.node = who
    · rw [hn, hm] at h; cases h.1
    · rw [mayR_ne hn] at h
      rw [h.1] at h
      cases h.2
theorem vRdG_sub {who : Int} {n : Name} : ∀ {r d e : List Read}, vRdG d r = true → (∀ x ∈ e, x ∈ d) → vRdG e (remR r who n) = true
  | [], _, _, _, _ => rfl
  | x :: r, d, e, h, he => by
    simp only [vRdG, Bool.and_eq_true, Bool.not_eq_true'] at h
    have h2 : e.any (sameR x.node x.name) = false := by
      rw [List.any_eq_false] at h ⊢
      exact fun y hy => h.1.2 y (he y hy)
    unfold remR
    rw [List.filter_cons]
    split
    · simp only [vRdG, Bool.and_eq_true, Bool.not_eq_true']
      refine ⟨⟨h.1.1, h2⟩, vRdG_sub h.2 ?_⟩
      intro y hy
      rcases List.mem_append.1 hy with hy | hy
      · exact List.mem_append.2 (.inl (he y hy))
      · exact List.mem_append.2 (.inr hy)
    · exact vRdG_sub h.2 fun y hy => List.mem_append.2 (.inl (he y hy))
theorem vRds_rem {l : List Read} (h : vRds l = true) (who : Int) (n : Name) : vRds (remR l who n) = true := by
  simp only [vRds, Bool.and_eq_true, decide_eq_true_eq] at h ⊢
  refine ⟨vRdG_sub h.1 (by simp), ?_⟩
  have : (remR l who n).length ≤ l.length := List.length_filter_le _ _
  omega
def hasJ (l : List Int) (x : Int) : Bool := l.any fun y => y == x
theorem is32 : FI 32 Tryz.f32 := ⟨⟨Tryz.f32, Tryz.func32, rfl, rfl, rfl, rfl⟩, rfl⟩
set_option maxRecDepth 20000 in
set_option maxHeartbeats 16000000 in
theorem l_in (l : List Int) (x : Int) (hl : l.length ≤ 1099511627776) : FO 32 [Is false l, I x] [Is false l, I x] (B (hasJ l x)) := by
  refine fok envOk mixed is32 ⟨rfl, rfl, ?_⟩
  (repeat' ((conv => whnf); first | refine Br.tt ?_ | refine Br.ff ?_ | refine Br.pos (by assumption) ?_ | refine Br.neg (by assumption) ?_ | refine Br.bself ?_ | refine Br.dself ?_ | refine Br.iself ?_ | refine Nm.mk lenC ?_ | refine Nm.mk (wrapI (by (first | omega | (simp [inR_t, inR_f] at *; omega))) (by (first | omega | (simp [inR_t, inR_f] at *; omega)))) ?_ | refine Nm.mk (wrapQ (by (first | omega | (simp [inR_t, inR_f] at *; omega))) (by (first | omega | (simp [inR_t, inR_f] at *; omega))) (by (first | omega | (simp [inR_t, inR_f] at *; omega)))) ?_ | refine Nm.mk (tmodN (by (first | omega | (simp [inR_t, inR_f] at *; omega)))) ?_ | refine Nm.mk (szS _) ?_ | refine Nm.mk (mi_eq _ _) ?_ | refine Nm.mk (ma_eq _ _) ?_ | refine Rq.mk (by first | (simp [dOwnL, dOwn] <;> fail) | (first | omega | (simp [inR_t, inR_f] at *; omega))) ?_ | refine And.intro (orderFast (by kernel_rfl)) ?_ | refine And.intro (by kernel_rfl) ?_ ))
  refine Lp.mk [.sl 0, .sl 1, .sl 5] (fun m σ => ∃ d r, l = d ++ r ∧ m = r.length ∧ hasJ d x = false ∧ σ = [Sa 0 (Is false l), Sa 1 (I x), Sa 5 (I d.length)]) (l.length) _ (WkS.weak _ _) ⟨[], l, rfl, rfl, rfl, (by first | rfl | (simp only [zlen, zsum, Nat.zero_mul, Int.add_zero, Int.sub_zero, List.nil_append, markG]; rfl))⟩ ?_
  rintro m τ ⟨d, r, rfl, rfl, hd, rfl⟩
  refine Nm.mk lenC ?_
  cases r with
  | nil =>
    refine Br.neg (by simp) ?_
    (repeat' ((conv => whnf); first | refine Br.tt ?_ | refine Br.ff ?_ | refine Br.pos (by assumption) ?_ | refine Br.neg (by assumption) ?_ | refine Br.bself ?_ | refine Br.dself ?_ | refine Br.iself ?_ | refine Nm.mk lenC ?_ | refine Nm.mk (wrapI (by (first | omega | (simp [inR_t, inR_f] at *; omega))) (by (first | omega | (simp [inR_t, inR_f] at *; omega)))) ?_ | refine Nm.mk (wrapQ (by (first | omega | (simp [inR_t, inR_f] at *; omega))) (by (first | omega | (simp [inR_t, inR_f] at *; omega))) (by (first | omega | (simp [inR_t, inR_f] at *; omega)))) ?_ | refine Nm.mk (tmodN (by (first | omega | (simp [inR_t, inR_f] at *; omega)))) ?_ | refine Nm.mk (szS _) ?_ | refine Nm.mk (mi_eq _ _) ?_ | refine Nm.mk (ma_eq _ _) ?_ | refine Rq.mk (by first | (simp [dOwnL, dOwn] <;> fail) | (first | omega | (simp [inR_t, inR_f] at *; omega))) ?_ | refine And.intro (orderFast (by kernel_rfl)) ?_ | refine And.intro (by kernel_rfl) ?_ ))
    refine Vs.Fin.mk (WkR.eq ?_) (.refl _)
    rw [List.append_nil, hd]
  | cons y r =>
    simp at hl
    refine Br.pos (by simp; omega) ?_
    (repeat' ((conv => whnf); first | refine Br.tt ?_ | refine Br.ff ?_ | refine Br.pos (by assumption) ?_ | refine Br.neg (by assumption) ?_ | refine Br.bself ?_ | refine Br.dself ?_ | refine Br.iself ?_ | refine Nm.mk lenC ?_ | refine Nm.mk (wrapI (by (first | omega | (simp [inR_t, inR_f] at *; omega))) (by (first | omega | (simp [inR_t, inR_f] at *; omega)))) ?_ | refine Nm.mk (wrapQ (by (first | omega | (simp [inR_t, inR_f] at *; omega))) (by (first | omega | (simp [inR_t, inR_f] at *; omega))) (by (first | omega | (simp [inR_t, inR_f] at *; omega)))) ?_ | refine Nm.mk (tmodN (by (first | omega | (simp [inR_t, inR_f] at *; omega)))) ?_ | refine Nm.mk (szS _) ?_ | refine Nm.mk (mi_eq _ _) ?_ | refine Nm.mk (ma_eq _ _) ?_ | refine Rq.mk (by first | (simp [dOwnL, dOwn] <;> fail) | (first | omega | (simp [inR_t, inR_f] at *; omega))) ?_ | refine And.intro (orderFast (by kernel_rfl)) ?_ | refine And.intro (by kernel_rfl) ?_ | refine El.mk (getA rfl) ?_ | refine Cl.pre (by simp only [shcLL_ints, shcLL_byts, shcLL_strs, Fetc.shcs, Gran.shcs, Mani.shcs, Name.shcs, Read.shcs, Segm.shcs]; rfl) ?_))
    refine Br.mk (fun h => ?_) (fun h => ?_)
    · (repeat' ((conv => whnf); first | refine Br.tt ?_ | refine Br.ff ?_ | refine Br.pos (by assumption) ?_ | refine Br.neg (by assumption) ?_ | refine Br.bself ?_ | refine Br.dself ?_ | refine Br.iself ?_ | refine Nm.mk lenC ?_ | refine Nm.mk (wrapI (by (first | omega | (simp [inR_t, inR_f] at *; omega))) (by (first | omega | (simp [inR_t, inR_f] at *; omega)))) ?_ | refine Nm.mk (wrapQ (by (first | omega | (simp [inR_t, inR_f] at *; omega))) (by (first | omega | (simp [inR_t, inR_f] at *; omega))) (by (first | omega | (simp [inR_t, inR_f] at *; omega)))) ?_ | refine Nm.mk (tmodN (by (first | omega | (simp [inR_t, inR_f] at *; omega)))) ?_ | refine Nm.mk (szS _) ?_ | refine Nm.mk (mi_eq _ _) ?_ | refine Nm.mk (ma_eq _ _) ?_ | refine Rq.mk (by first | (simp [dOwnL, dOwn] <;> fail) | (first | omega | (simp [inR_t, inR_f] at *; omega))) ?_ | refine And.intro (orderFast (by kernel_rfl)) ?_ | refine And.intro (by kernel_rfl) ?_ ))
      refine Vs.Fin.mk (WkR.eq ?_) (.refl _)
      rw [show hasJ (d ++ y :: r) x = true by simp only [hasJ, List.any_append, List.any_cons, h]; simp]
    · (repeat' ((conv => whnf); first | refine Br.tt ?_ | refine Br.ff ?_ | refine Br.pos (by assumption) ?_ | refine Br.neg (by assumption) ?_ | refine Br.bself ?_ | refine Br.dself ?_ | refine Br.iself ?_ | refine Nm.mk lenC ?_ | refine Nm.mk (wrapI (by (first | omega | (simp [inR_t, inR_f] at *; omega))) (by (first | omega | (simp [inR_t, inR_f] at *; omega)))) ?_ | refine Nm.mk (wrapQ (by (first | omega | (simp [inR_t, inR_f] at *; omega))) (by (first | omega | (simp [inR_t, inR_f] at *; omega))) (by (first | omega | (simp [inR_t, inR_f] at *; omega)))) ?_ | refine Nm.mk (tmodN (by (first | omega | (simp [inR_t, inR_f] at *; omega)))) ?_ | refine Nm.mk (szS _) ?_ | refine Nm.mk (mi_eq _ _) ?_ | refine Nm.mk (ma_eq _ _) ?_ | refine Rq.mk (by first | (simp [dOwnL, dOwn] <;> fail) | (first | omega | (simp [inR_t, inR_f] at *; omega))) ?_ | refine And.intro (orderFast (by kernel_rfl)) ?_ | refine And.intro (by kernel_rfl) ?_ ))
      refine Nx.intro r.length (by simp) _ (WkS.weak _ _) ⟨d ++ [y], r, by simp, rfl, by simp only [hasJ, List.any_append, List.any_cons, List.any_nil, h] at hd ⊢; rw [hd]; rfl, ?_⟩
      rw [len1]; rfl
theorem in_rds {l : List Read} {n : Name} {i : Nat} (hi : i < 6) : hasJ (rdsT l n 6) i = l.any (mayR (i : Int) n) := by
  cases hm : l.any (mayR (i : Int) n) with
  | true =>
    unfold hasJ
    rw [List.any_eq_true]
    refine ⟨(i : Int), ?_, by simp⟩
    simp only [rdsT, List.mem_map, List.mem_filter, List.mem_range]
    exact ⟨i, ⟨hi, hm⟩, rfl⟩
  | false =>
    unfold hasJ
    rw [List.any_eq_false]
    intro y hy h
    simp only [rdsT, List.mem_map, List.mem_filter, List.mem_range] at hy
    obtain ⟨k, ⟨-, hk⟩, rfl⟩ := hy
    have : k = i := by simp at h; omega
    subst this
    rw [hm] at hk; cases hk
theorem is18 : FI 18 Tryz.f18 := ⟨⟨Tryz.f18, Tryz.func18, rfl, rfl, rfl, rfl⟩, rfl⟩
set_option maxRecDepth 20000 in
set_option maxHeartbeats 16000000 in
theorem same_Readers (l : List Read) (hl : l.length ≤ 1048576) (hz : ∀ x ∈ l, x.name.parts.length ≤ 1048576) : FO 18 [O (sl false 3 (l.map (Read.c false))), O (sl false 3 (l.map (Read.c false)))] [O (sl false 3 (l.map (Read.c false))), O (sl false 3 (l.map (Read.c false)))] (B true) := by
  refine fok envOk mixed is18 ⟨rfl, rfl, ?_⟩
  (repeat' ((conv => whnf); first | refine Br.tt ?_ | refine Br.ff ?_ | refine Br.pos (by assumption) ?_ | refine Br.neg (by assumption) ?_ | refine Br.bself ?_ | refine Br.dself ?_ | refine Br.iself ?_ | refine Nm.mk lenC ?_ | refine Nm.mk (wrapI (by (first | omega | (simp [inR_t, inR_f] at *; omega))) (by (first | omega | (simp [inR_t, inR_f] at *; omega)))) ?_ | refine Nm.mk (wrapQ (by (first | omega | (simp [inR_t, inR_f] at *; omega))) (by (first | omega | (simp [inR_t, inR_f] at *; omega))) (by (first | omega | (simp [inR_t, inR_f] at *; omega)))) ?_ | refine Nm.mk (tmodN (by (first | omega | (simp [inR_t, inR_f] at *; omega)))) ?_ | refine Nm.mk (szS _) ?_ | refine Nm.mk (mi_eq _ _) ?_ | refine Nm.mk (ma_eq _ _) ?_ | refine Rq.mk (by first | (simp [dOwnL, dOwn] <;> fail) | (first | omega | (simp [inR_t, inR_f] at *; omega))) ?_ | refine And.intro (orderFast (by kernel_rfl)) ?_ | refine And.intro (by kernel_rfl) ?_ ))
  refine Lp.mk [.sl 0, .sl 1, .sl 5] (fun m σ => ∃ d r, l = d ++ r ∧ m = r.length ∧ σ = [Sa 0 (O (sl false 3 (l.map (Read.c false)))), Sa 1 (O (sl false 3 (l.map (Read.c false)))), Sa 5 (I d.length)]) (l.length) _ (WkS.weak _ _) ⟨[], l, rfl, rfl, (by first | rfl | (simp only [zlen, zsum, Nat.zero_mul, Int.add_zero, Int.sub_zero, List.nil_append, markG]; rfl))⟩ ?_
  rintro m τ ⟨d, r, hl2, rfl, rfl⟩
  have hy : l.length = d.length + r.length := by rw [hl2]; simp
  refine Nm.mk lenC ?_
  cases r with
  | nil =>
    refine Br.neg (by simp at * <;> omega) ?_
    (repeat' ((conv => whnf); first | refine Br.tt ?_ | refine Br.ff ?_ | refine Br.pos (by assumption) ?_ | refine Br.neg (by assumption) ?_ | refine Br.bself ?_ | refine Br.dself ?_ | refine Br.iself ?_ | refine Nm.mk lenC ?_ | refine Nm.mk (wrapI (by (first | omega | (simp [inR_t, inR_f] at *; omega))) (by (first | omega | (simp [inR_t, inR_f] at *; omega)))) ?_ | refine Nm.mk (wrapQ (by (first | omega | (simp [inR_t, inR_f] at *; omega))) (by (first | omega | (simp [inR_t, inR_f] at *; omega))) (by (first | omega | (simp [inR_t, inR_f] at *; omega)))) ?_ | refine Nm.mk (tmodN (by (first | omega | (simp [inR_t, inR_f] at *; omega)))) ?_ | refine Nm.mk (szS _) ?_ | refine Nm.mk (mi_eq _ _) ?_ | refine Nm.mk (ma_eq _ _) ?_ | refine Rq.mk (by first | (simp [dOwnL, dOwn] <;> fail) | (first | omega | (simp [inR_t, inR_f] at *; omega))) ?_ | refine And.intro (orderFast (by kernel_rfl)) ?_ | refine And.intro (by kernel_rfl) ?_ ))
    exact Vs.Fin.mk (WkR.refl _) (.refl _)
  | cons x r =>
    simp at hy
    have hx := hz x (by rw [hl2]; simp)
    refine Br.pos (by simp <;> omega) ?_
    (repeat' ((conv => whnf); first | refine Br.tt ?_ | refine Br.ff ?_ | refine Br.pos (by assumption) ?_ | refine Br.neg (by assumption) ?_ | refine Br.bself ?_ | refine Br.dself ?_ | refine Br.iself ?_ | refine Nm.mk lenC ?_ | refine Nm.mk (wrapI (by (first | omega | (simp [inR_t, inR_f] at *; omega))) (by (first | omega | (simp [inR_t, inR_f] at *; omega)))) ?_ | refine Nm.mk (wrapQ (by (first | omega | (simp [inR_t, inR_f] at *; omega))) (by (first | omega | (simp [inR_t, inR_f] at *; omega))) (by (first | omega | (simp [inR_t, inR_f] at *; omega)))) ?_ | refine Nm.mk (tmodN (by (first | omega | (simp [inR_t, inR_f] at *; omega)))) ?_ | refine Nm.mk (szS _) ?_ | refine Nm.mk (mi_eq _ _) ?_ | refine Nm.mk (ma_eq _ _) ?_ | refine Rq.mk (by first | (simp [dOwnL, dOwn] <;> fail) | (first | omega | (simp [inR_t, inR_f] at *; omega))) ?_ | refine And.intro (orderFast (by kernel_rfl)) ?_ | refine And.intro (by kernel_rfl) ?_ | refine El.mk (getH hl2 rfl) ?_ | refine Cl.mk (same_Name x.name (by omega)) ?_ | refine Cl.pre (by simp only [shcLL_ints, shcLL_byts, shcLL_strs, Fetc.shcs, Gran.shcs, Mani.shcs, Name.shcs, Read.shcs, Segm.shcs]; rfl) ?_))
    refine Nx.intro r.length (by simp) _ (WkS.weak _ _) ⟨d ++ [x], r, by simp [hl2], rfl, ?_⟩
    rw [len1]; rfl
theorem rds_mem {l : List Read} {z : Nat} (h : l.length + sumN Read.size l ≤ z) : l.length ≤ z ∧ ∀ x ∈ l, x.name.parts.length ≤ z := ⟨by omega, fun _ hx => (rd_len h hx).2⟩
set_option maxHeartbeats 64000000
theorem is3 : FI 3 Tryz.f3 := ⟨⟨Tryz.f3, Tryz.func3, rfl, rfl, rfl, rfl⟩, rfl⟩
set_option maxRecDepth 20000 in
set_option maxHeartbeats 16000000 in
theorem ex0Readers (l : List UInt8) (hl : l.length ≤ 1048576) (L : List Read) (who : Int) (n : Name) (hv : vRds L = true) (hL : L.length + sumN Read.size L ≤ 168) (hn : strsSize n.parts ≤ 27) (k1 : FO 7 [Ys false l] [Ys false l] (RIN L who n))    (A0 : List Read) (r : Read) (hA : A0.length + sumN Read.size A0 ≤ 400) (hr : Read.size r ≤ 50) (k2 : FO 8 [Ys false l] [Ys false l] (RR1 A0 r)) (B0 : List Read) (w : Int) (u : Name) (hB : B0.length + sumN Read.size B0 ≤ 400) (hu : strsSize u.parts ≤ 500) (k3 : FO 11 [Ys false l] [Ys false l] (RIN B0 w u))    (k4 : FO 12 [Ys false l] [Ys false l] (RIN B0 w u)) (k5 : FO 13 [Ys false l] [Ys false l] (RRN B0 (remR B0 w u) u)) (k6 : FO 14 [Ys false l] [Ys false l] (RII B0 900 w)) (s t : Int) (ht : -1 ≤ t ∧ t ≤ 11) (k7 : FO 17 [Ys false l] [Ys false l] (II s t)) : FO 3 [Ys false l] [Ys false l] (B true) := by
  refine fok envOk mixed is3 ⟨rfl, rfl, ?_⟩
  have hAi := i_AddReader A0 r (by omega)
  have hAs := s_AddReader A0 r (by omega)
  have hAz := rds_mem (Nat.le_trans (addR_size A0 r) (show _ ≤ 1048576 by omega))
  generalize addR A0 r = ar at hAi hAs hAz
  generalize vRds (A0 ++ [r]) = av at hAi hAs
  have hMi := i_MayRead B0 w u (by omega) (by omega)
  have hMs := s_MayRead B0 w u (by omega) (by omega)
  generalize B0.any (mayR w u) = mb at hMi hMs
  have hRz := remR_size B0 w u
  have hRi := i_RemoveReader B0 w u (by omega) (by omega)
  have hRs := s_RemoveReader B0 w u (by omega) (by omega)
  have hXi := i_AnyoneExcluded B0 (remR B0 w u) u (by omega) (by omega) (by omega)
  have hXs := s_AnyoneExcluded B0 (remR B0 w u) u (by omega) (by omega) (by omega)
  generalize remR B0 w u = rb at hRi hRs hRz hXi hXs k5
  have hRm := rds_mem (l := rb) (z := 1048576) (by omega)
  generalize anyEx B0 rb u = xb at hXi hXs
  have hGi := i_GrantsOf B0 900 w (by omega)
  have hGs := s_GrantsOf B0 900 w (by omega)
  generalize gOf B0 900 w = gb at hGi hGs
  have hOi := i_ReadersOf B0 u (by omega) (by omega)
  have hOs := s_ReadersOf B0 u (by omega) (by omega)
  have hOl := rdsT_len B0 u 6
  generalize rdsT B0 u 6 = ob at hOi hOs hOl
  have hEi := i_EpochSecret s t (by omega)
  have hEs := s_EpochSecret s t (by omega)
  generalize epS s t = es at hEi hEs
  have hVi := i_ValidReaders B0 (by omega)
  have hVs := s_ValidReaders B0 (by omega)
  generalize vRds B0 = vb at hVi hVs
  have hZ := i_RemoveReader L who n (by omega) (by omega)
  have hZz := remR_size L who n
  (repeat' ((conv => whnf); first | refine Br.tt ?_ | refine Br.ff ?_ | refine Br.pos (by assumption) ?_ | refine Br.neg (by assumption) ?_ | refine Br.bself ?_ | refine Br.dself ?_ | refine Br.iself ?_ | refine Nm.mk lenC ?_ | refine Nm.mk (wrapI (by (first | omega | (simp [inR_t, inR_f] at *; omega))) (by (first | omega | (simp [inR_t, inR_f] at *; omega)))) ?_ | refine Nm.mk (wrapQ (by (first | omega | (simp [inR_t, inR_f] at *; omega))) (by (first | omega | (simp [inR_t, inR_f] at *; omega))) (by (first | omega | (simp [inR_t, inR_f] at *; omega)))) ?_ | refine Nm.mk (tmodN (by (first | omega | (simp [inR_t, inR_f] at *; omega)))) ?_ | refine Nm.mk (szS _) ?_ | refine Nm.mk (mi_eq _ _) ?_ | refine Nm.mk (ma_eq _ _) ?_ | refine Rq.mk (by first | (simp [dOwnL, dOwn] <;> fail) | (first | omega | (simp [inR_t, inR_f] at *; omega))) ?_ | refine And.intro (orderFast (by kernel_rfl)) ?_ | refine And.intro (by kernel_rfl) ?_ | refine Cl.mk (big_no l hl) ?_ | refine Cl.mk (k1) ?_ | refine Cl.mk (k2) ?_ | refine Cl.mk (hAi) ?_ | refine Cl.mk (hAs) ?_ | refine Cl.mk (k3) ?_ | refine Cl.mk (k4) ?_ | refine Cl.mk (k5) ?_ | refine Cl.mk (k6) ?_ | refine Cl.mk (hGi) ?_ | refine Cl.mk (hGs) ?_ | refine Cl.mk (k7) ?_ | refine Cl.mk (same_Readers ar hAz.1 hAz.2) ?_ | refine Cl.mk (hMi) ?_ | refine Cl.mk (hMs) ?_ | refine Cl.mk (hRi) ?_ | refine Cl.mk (hRs) ?_ | refine Cl.mk (same_Readers rb hRm.1 hRm.2) ?_ | refine Cl.mk (hXi) ?_ | refine Cl.mk (hXs) ?_ | refine Cl.mk (hOi) ?_ | refine Cl.mk (hOs) ?_ | refine Cl.mk (same_Ints ob (by omega)) ?_ | refine Cl.mk (hEi) ?_ | refine Cl.mk (hEs) ?_ | refine Cl.mk (hVi) ?_ | refine Cl.mk (hVs) ?_ | refine Cl.mk (hZ) ?_ | refine Cl.pre (by simp only [shcLL_ints, shcLL_byts, shcLL_strs, Fetc.shcs, Gran.shcs, Mani.shcs, Name.shcs, Read.shcs, Segm.shcs]; rfl) ?_))
  refine Lp.mk [.sl 3, .sl 4, .bx 5, .sl 5, .sl 28, .sl 29] (fun m σ => ∃ i, i + m = 6 ∧ σ = [Sa 3 (O (sl true 3 (L.map (Read.c true)))), Sa 4 (I who), Bx 5 (Name.c true n), Pt 5, Sa 28 (O (sl true 3 ((remR L who n).map (Read.c true)))), Sa 29 (I i)]) (6) _ (WkS.weak _ _) ⟨0, by simp, (by first | rfl | (simp only [zlen, zsum, Nat.zero_mul, Int.add_zero, Int.sub_zero, List.nil_append, markG]; rfl))⟩ ?_
  rintro m τ ⟨i, hi, rfl⟩
  by_cases h : i < 6
  · have f1 : decide ((i : Int) < 6) = true := by simp; omega
    have hLm := i_MayRead L i n (by omega) (by omega)
    have hRo := i_ReadersOf L n (by omega) (by omega)
    have hRl := rdsT_len L n 6
    have hin := l_in (rdsT L n 6) i (by omega)
    rw [in_rds h] at hin
    generalize rdsT L n 6 = rl at hRo hRl hin
    by_cases hw : (i : Int) = who
    · have f2 : ((i : Int) != who) = false := by simp [hw]
      generalize L.any (mayR (i : Int) n) = lb at hLm hin
      (repeat' ((conv => whnf); first | refine Br.tt ?_ | refine Br.ff ?_ | refine Br.pos (by assumption) ?_ | refine Br.neg (by assumption) ?_ | refine Br.bself ?_ | refine Br.dself ?_ | refine Br.iself ?_ | refine Nm.mk lenC ?_ | refine Nm.mk (wrapI (by (first | omega | (simp [inR_t, inR_f] at *; omega))) (by (first | omega | (simp [inR_t, inR_f] at *; omega)))) ?_ | refine Nm.mk (wrapQ (by (first | omega | (simp [inR_t, inR_f] at *; omega))) (by (first | omega | (simp [inR_t, inR_f] at *; omega))) (by (first | omega | (simp [inR_t, inR_f] at *; omega)))) ?_ | refine Nm.mk (tmodN (by (first | omega | (simp [inR_t, inR_f] at *; omega)))) ?_ | refine Nm.mk (szS _) ?_ | refine Nm.mk (mi_eq _ _) ?_ | refine Nm.mk (ma_eq _ _) ?_ | refine Rq.mk (by first | (simp [dOwnL, dOwn] <;> fail) | (first | omega | (simp [inR_t, inR_f] at *; omega))) ?_ | refine And.intro (orderFast (by kernel_rfl)) ?_ | refine And.intro (by kernel_rfl) ?_ | refine Cl.mk (hRo) ?_ | refine Cl.mk (hin) ?_ | refine Cl.mk (hLm) ?_ | refine Cl.pre (by simp only [shcLL_ints, shcLL_byts, shcLL_strs, Fetc.shcs, Gran.shcs, Mani.shcs, Name.shcs, Read.shcs, Segm.shcs]; rfl) ?_))
      refine Nx.intro (m - 1) (by omega) _ (WkS.weak _ _) ⟨i + 1, by omega, ?_⟩
      (repeat' (first | exact rfl | refine consE ?_ ?_ | refine entE ?_ | refine vI ?_ | refine vS ?_ | refine vT ?_ | refine vB ?_))
    · have f2 : ((i : Int) != who) = true := by simp [hw]
      have hZm := i_MayRead (remR L who n) i n (by omega) (by omega)
      rw [mayR_ne hw] at hZm
      generalize L.any (mayR (i : Int) n) = lb at hLm hin hZm
      (repeat' ((conv => whnf); first | refine Br.tt ?_ | refine Br.ff ?_ | refine Br.pos (by assumption) ?_ | refine Br.neg (by assumption) ?_ | refine Br.bself ?_ | refine Br.dself ?_ | refine Br.iself ?_ | refine Nm.mk lenC ?_ | refine Nm.mk (wrapI (by (first | omega | (simp [inR_t, inR_f] at *; omega))) (by (first | omega | (simp [inR_t, inR_f] at *; omega)))) ?_ | refine Nm.mk (wrapQ (by (first | omega | (simp [inR_t, inR_f] at *; omega))) (by (first | omega | (simp [inR_t, inR_f] at *; omega))) (by (first | omega | (simp [inR_t, inR_f] at *; omega)))) ?_ | refine Nm.mk (tmodN (by (first | omega | (simp [inR_t, inR_f] at *; omega)))) ?_ | refine Nm.mk (szS _) ?_ | refine Nm.mk (mi_eq _ _) ?_ | refine Nm.mk (ma_eq _ _) ?_ | refine Rq.mk (by first | (simp [dOwnL, dOwn] <;> fail) | (first | omega | (simp [inR_t, inR_f] at *; omega))) ?_ | refine And.intro (orderFast (by kernel_rfl)) ?_ | refine And.intro (by kernel_rfl) ?_ | refine Cl.mk (hZm) ?_ | refine Cl.mk (hLm) ?_ | refine Cl.mk (hRo) ?_ | refine Cl.mk (hin) ?_ | refine Cl.pre (by simp only [shcLL_ints, shcLL_byts, shcLL_strs, Fetc.shcs, Gran.shcs, Mani.shcs, Name.shcs, Read.shcs, Segm.shcs]; rfl) ?_))
      refine Nx.intro (m - 1) (by omega) _ (WkS.weak _ _) ⟨i + 1, by omega, ?_⟩
      (repeat' (first | exact rfl | refine consE ?_ ?_ | refine entE ?_ | refine vI ?_ | refine vS ?_ | refine vT ?_ | refine vB ?_))
  · obtain rfl : i = 6 := by omega
    have f1 : decide (((6 : Nat) : Int) < 6) = false := by decide
    have hLv := i_ValidReaders L (by omega)
    rw [hv] at hLv
    have hZv := i_ValidReaders (remR L who n) (by omega)
    rw [vRds_rem hv] at hZv
    have hZw := i_MayRead (remR L who n) who n (by omega) (by omega)
    rw [mayR_who] at hZw
    have hLw := i_MayRead L who n (by omega) (by omega)
    have hEx := i_AnyoneExcluded L (remR L who n) n (by omega) (by omega) (by omega)
    rw [anyEx_rem] at hEx
    generalize L.any (mayR who n) = lw at hLw hEx
    generalize remR L who n = zr at hZv hZw hEx ⊢
    (repeat' ((conv => whnf); first | refine Br.tt ?_ | refine Br.ff ?_ | refine Br.pos (by assumption) ?_ | refine Br.neg (by assumption) ?_ | refine Br.bself ?_ | refine Br.dself ?_ | refine Br.iself ?_ | refine Nm.mk lenC ?_ | refine Nm.mk (wrapI (by (first | omega | (simp [inR_t, inR_f] at *; omega))) (by (first | omega | (simp [inR_t, inR_f] at *; omega)))) ?_ | refine Nm.mk (wrapQ (by (first | omega | (simp [inR_t, inR_f] at *; omega))) (by (first | omega | (simp [inR_t, inR_f] at *; omega))) (by (first | omega | (simp [inR_t, inR_f] at *; omega)))) ?_ | refine Nm.mk (tmodN (by (first | omega | (simp [inR_t, inR_f] at *; omega)))) ?_ | refine Nm.mk (szS _) ?_ | refine Nm.mk (mi_eq _ _) ?_ | refine Nm.mk (ma_eq _ _) ?_ | refine Rq.mk (by first | (simp [dOwnL, dOwn] <;> fail) | (first | omega | (simp [inR_t, inR_f] at *; omega))) ?_ | refine And.intro (orderFast (by kernel_rfl)) ?_ | refine And.intro (by kernel_rfl) ?_ | refine Cl.mk (hLv) ?_ | refine Cl.mk (hZv) ?_ | refine Cl.mk (hZw) ?_ | refine Cl.mk (hEx) ?_ | refine Cl.mk (hLw) ?_ | refine Cl.pre (by simp only [shcLL_ints, shcLL_byts, shcLL_strs, Fetc.shcs, Gran.shcs, Mani.shcs, Name.shcs, Read.shcs, Segm.shcs]; rfl) ?_))
    refine Vs.Fin.mk (WkR.eq ?_) (.refl _)
    simp
set_option maxRecDepth 20000 in
set_option maxHeartbeats 16000000 in
theorem ex1Readers (l : List UInt8) (hl : ¬ l.length ≤ 1048576) : FO 3 [Ys false l] [Ys false l] (B true) := by
  refine fok envOk mixed is3 ⟨rfl, rfl, ?_⟩
  (repeat' ((conv => whnf); first | refine Br.tt ?_ | refine Br.ff ?_ | refine Br.pos (by assumption) ?_ | refine Br.neg (by assumption) ?_ | refine Br.bself ?_ | refine Br.dself ?_ | refine Br.iself ?_ | refine Nm.mk lenC ?_ | refine Nm.mk (wrapI (by (first | omega | (simp [inR_t, inR_f] at *; omega))) (by (first | omega | (simp [inR_t, inR_f] at *; omega)))) ?_ | refine Nm.mk (wrapQ (by (first | omega | (simp [inR_t, inR_f] at *; omega))) (by (first | omega | (simp [inR_t, inR_f] at *; omega))) (by (first | omega | (simp [inR_t, inR_f] at *; omega)))) ?_ | refine Nm.mk (tmodN (by (first | omega | (simp [inR_t, inR_f] at *; omega)))) ?_ | refine Nm.mk (szS _) ?_ | refine Nm.mk (mi_eq _ _) ?_ | refine Nm.mk (ma_eq _ _) ?_ | refine Rq.mk (by first | (simp [dOwnL, dOwn] <;> fail) | (first | omega | (simp [inR_t, inR_f] at *; omega))) ?_ | refine And.intro (orderFast (by kernel_rfl)) ?_ | refine And.intro (by kernel_rfl) ?_ | refine Cl.mk (big_yes l hl) ?_ | refine Cl.pre (by simp only [shcLL_ints, shcLL_byts, shcLL_strs, Fetc.shcs, Gran.shcs, Mani.shcs, Name.shcs, Read.shcs, Segm.shcs]; rfl) ?_))
  exact Vs.Fin.mk (WkR.refl _) (.refl _)
theorem exReaders (l : List UInt8) : FO 3 [Ys false l] [Ys false l] (B true) := by
  by_cases hl : l.length ≤ 1048576
  · obtain ⟨c0, i0, k0⟩ := new_ok l hl
    obtain ⟨c1, L, i1, hv, hL, k1⟩ := draw26_ok i0
    obtain ⟨c2, n, i2, hn, k2⟩ := name_ok i1
    obtain ⟨c3, x, i3, -, -, k3⟩ := below_ok i2 4
    obtain ⟨d1, A0, j1, hA, q1⟩ := any26_ok i0
    obtain ⟨d2, m, j2, hm, q2⟩ := any_ok j1
    obtain ⟨d3, y, j3, -, -, q3⟩ := below_ok j2 7
    obtain ⟨B0, w, u, hB, hu, p1⟩ := trio26_ok l hl
    obtain ⟨e1, s, m1, hs, r1⟩ := word_ok i0
    obtain ⟨e2, t, m2, ht, -, r2⟩ := below_ok m1 12
    have ht := ht (by omega)
    exact ex0Readers l hl L x n hv hL hn (DRds0 l c0 c1 c2 c3 L x n k0 k1 k2 k3) A0 ⟨y, m, 0⟩ hA (by have : Read.size ⟨y, m, 0⟩ = strsSize m.parts := rfl; omega) (DAdd0 l c0 d1 d2 d3 A0 y m k0 q1 q2 q3) B0 w u hB hu (DMay0 l B0 w u p1) (DRem0 l B0 w u p1) (DAny0 l B0 w u hB hu p1) (DGra0 l B0 w u p1) s (t - 1) (by omega) (DEps0 l c0 e1 e2 s t ht k0 r1 r2)
  · exact ex1Readers l hl
end Go.Proofs.YtgcnbfplihjelaaGreatDoor
