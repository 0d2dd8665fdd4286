/- Contracts of functions of the program: no statement of the seat is proved here. Each under the conditions that stand in it. -/
import Derived.Test.YtgcnbfplihjelaaKpx
import Derived.Test.YtgcnbfplihjelaaFx
import Derived.Test.YtgcnbfplihjelaaFw
import Derived.Test.YtgcnbfplihjelaaFs
set_option linter.all false
namespace Go.Proofs.Ytgcnbfplihjelaa
open Go.Vs Go.Proofs
/-! Fetchers that are drawn, right or bent -/
abbrev FI1 (f : Fetc) (i : Int) : Arg := (.tup [(true, 9), (false, 1)], Fetc.c true f ++ [cI i])
abbrev FIY (f : Fetc) (i : Int) (b : List UInt8) : Arg := (.tup [(true, 9), (false, 1), (false, 1)], Fetc.c true f ++ [cI i, cYs false b])
abbrev CFY (cs : List AV) (f : Fetc) (b : List UInt8) : Arg := (.tup [(false, 1), (true, 9), (false, 1)], AV.own cs :: (Fetc.c true f ++ [cYs true b]))
theorem wrap_rng (x : Int) : -9223372036854775808 ≤ IntKind.wrap .i64 x ∧ IntKind.wrap .i64 x ≤ 9223372036854775807 := by
  rw [IntKind.wrap_i64]; omega
theorem rcvF_rng {f : Fetc} {i : Int} {b : List UInt8} (h : Fetc.rng f) : Fetc.rng (rcvF f i b) := by
  unfold rcvF
  split
  · exact h
  · obtain ⟨h0, h1, h2, h3, h4, h5⟩ := h
    have w1 : -9223372036854775808 ≤ bOr f.received (bitL i) ∧ bOr f.received (bitL i) ≤ 9223372036854775807 := wrap_rng _
    have w2 : -9223372036854775808 ≤ bClr f.outst (bitL i) ∧ bClr f.outst (bitL i) ≤ 9223372036854775807 := wrap_rng _
    have w3 := wrap_rng (f.window + 1)
    refine ⟨h0, w1, w2, ?_, h4, by simp⟩
    simp only []
    split
    · unfold mi; split <;> omega
    · exact h3
theorem rcvF_mani (f : Fetc) (i : Int) (b : List UInt8) : (rcvF f i b).mani = f.mani := by unfold rcvF; split <;> rfl
theorem rcvF_size2 (f : Fetc) (i : Int) (b : List UInt8) : Fetc.size (rcvF f i b) ≤ Fetc.size f + b.length := by
  unfold rcvF
  split
  · omega
  · simp only [Fetc.size, Mani.size, List.length_set]
    have := sumN_set Segm.size f.segs i.toNat ⟨b⟩
    have e : Segm.size ⟨b⟩ = b.length := rfl
    omega
theorem is21 : FI 21 Try.f21 := ⟨⟨Try.f21, Try.func21, rfl, rfl, rfl, rfl⟩, rfl⟩
set_option maxRecDepth 20000 in
set_option maxHeartbeats 16000000 in
theorem same_Fetch (f : Fetc) (hz : Fetc.size f ≤ 1048576) : FO 21 [A (Fetc.c false f), A (Fetc.c false f)] [A (Fetc.c false f), A (Fetc.c false f)] (B true) := by
  refine fok envOk mixed is21 ⟨rfl, rfl, ?_⟩
  have hdl := Fetc.size_dig hz
  have hsl := Fetc.size_segs hz
  (repeat' ((conv => whnf); first | refine Br.tt ?_ | refine Br.ff ?_ | refine Br.pos (by assumption) ?_ | refine Br.neg (by assumption) ?_ | refine Br.bself ?_ | refine Br.dself ?_ | refine Br.iself ?_ | refine Nm.mk lenC ?_ | refine Nm.mk (wrapI (by (first | omega | (simp [inR_t, inR_f] at *; omega))) (by (first | omega | (simp [inR_t, inR_f] at *; omega)))) ?_ | refine Nm.mk (wrapQ (by (first | omega | (simp [inR_t, inR_f] at *; omega))) (by (first | omega | (simp [inR_t, inR_f] at *; omega))) (by (first | omega | (simp [inR_t, inR_f] at *; omega)))) ?_ | refine Nm.mk (tmodN (by (first | omega | (simp [inR_t, inR_f] at *; omega)))) ?_ | refine Nm.mk (szS _) ?_ | refine Nm.mk (mi_eq _ _) ?_ | refine Nm.mk (ma_eq _ _) ?_ | refine Rq.mk (by first | (simp [dOwnL, dOwn] <;> fail) | (first | omega | (simp [inR_t, inR_f] at *; omega))) ?_ | refine And.intro (orderFast (by kernel_rfl)) ?_ | refine And.intro (by kernel_rfl) ?_ | refine Cl.mk (same_Plan f.mani (by omega)) ?_ | refine Cl.pre (by simp only [shcLL_ints, shcLL_byts, shcLL_strs, Fetc.shcs, Gran.shcs, Mani.shcs, Name.shcs, Read.shcs, Segm.shcs]; rfl) ?_))
  refine Lp.mk [.bx 2, .sl 2, .bx 3, .sl 3, .sl 5] (fun m σ => ∃ d r, f.segs = d ++ r ∧ m = r.length ∧ σ = [Bx 2 (Fetc.c false f), Pt 2, Bx 3 (Fetc.c false f), Pt 3, Sa 5 (I d.length)]) (f.segs.length) _ (WkS.weak _ _) ⟨[], f.segs, rfl, rfl, (by first | rfl | (simp only [zlen, zsum, Nat.zero_mul, Int.add_zero, Int.sub_zero, List.nil_append, markG]; rfl))⟩ ?_
  rintro m τ ⟨d, r, hl2, rfl, rfl⟩
  have hy : f.segs.length = d.length + r.length := by rw [hl2]; simp
  refine Nm.mk lenC ?_
  cases r with
  | nil =>
    refine Br.neg (by simp at * <;> omega) ?_
    (repeat' ((conv => whnf); first | refine Br.tt ?_ | refine Br.ff ?_ | refine Br.pos (by assumption) ?_ | refine Br.neg (by assumption) ?_ | refine Br.bself ?_ | refine Br.dself ?_ | refine Br.iself ?_ | refine Nm.mk lenC ?_ | refine Nm.mk (wrapI (by (first | omega | (simp [inR_t, inR_f] at *; omega))) (by (first | omega | (simp [inR_t, inR_f] at *; omega)))) ?_ | refine Nm.mk (wrapQ (by (first | omega | (simp [inR_t, inR_f] at *; omega))) (by (first | omega | (simp [inR_t, inR_f] at *; omega))) (by (first | omega | (simp [inR_t, inR_f] at *; omega)))) ?_ | refine Nm.mk (tmodN (by (first | omega | (simp [inR_t, inR_f] at *; omega)))) ?_ | refine Nm.mk (szS _) ?_ | refine Nm.mk (mi_eq _ _) ?_ | refine Nm.mk (ma_eq _ _) ?_ | refine Rq.mk (by first | (simp [dOwnL, dOwn] <;> fail) | (first | omega | (simp [inR_t, inR_f] at *; omega))) ?_ | refine And.intro (orderFast (by kernel_rfl)) ?_ | refine And.intro (by kernel_rfl) ?_ ))
    exact Vs.Fin.mk (WkR.refl _) (.refl _)
  | cons x r =>
    simp at hy
    have hx : x.content.length ≤ 1048576 := by
      have h1 : Segm.size x ≤ sumN Segm.size f.segs := sumN_mem Segm.size (by rw [hl2]; simp)
      simp only [Fetc.size] at hz
      have e : Segm.size x = x.content.length := rfl
      omega
    refine Br.pos (by simp <;> omega) ?_
    (repeat' ((conv => whnf); first | refine Br.tt ?_ | refine Br.ff ?_ | refine Br.pos (by assumption) ?_ | refine Br.neg (by assumption) ?_ | refine Br.bself ?_ | refine Br.dself ?_ | refine Br.iself ?_ | refine Nm.mk lenC ?_ | refine Nm.mk (wrapI (by (first | omega | (simp [inR_t, inR_f] at *; omega))) (by (first | omega | (simp [inR_t, inR_f] at *; omega)))) ?_ | refine Nm.mk (wrapQ (by (first | omega | (simp [inR_t, inR_f] at *; omega))) (by (first | omega | (simp [inR_t, inR_f] at *; omega))) (by (first | omega | (simp [inR_t, inR_f] at *; omega)))) ?_ | refine Nm.mk (tmodN (by (first | omega | (simp [inR_t, inR_f] at *; omega)))) ?_ | refine Nm.mk (szS _) ?_ | refine Nm.mk (mi_eq _ _) ?_ | refine Nm.mk (ma_eq _ _) ?_ | refine Rq.mk (by first | (simp [dOwnL, dOwn] <;> fail) | (first | omega | (simp [inR_t, inR_f] at *; omega))) ?_ | refine And.intro (orderFast (by kernel_rfl)) ?_ | refine And.intro (by kernel_rfl) ?_ | refine El.mk (getH hl2 rfl) ?_ | refine Cl.mk (same_Bytes x.content (by omega)) ?_ | refine Cl.pre (by simp only [shcLL_ints, shcLL_byts, shcLL_strs, Fetc.shcs, Gran.shcs, Mani.shcs, Name.shcs, Read.shcs, Segm.shcs]; rfl) ?_))
    refine Nx.intro r.length (by simp) _ (WkS.weak _ _) ⟨d ++ [x], r, by simp [hl2], rfl, ?_⟩
    rw [len1]; rfl
def rcvs (b : List UInt8) (f : Fetc) : Nat → Fetc
  | 0 => f
  | j + 1 => rcvF (rcvs b f j) j (segAt b (rcvs b f j).mani j)
theorem rcvs_facts {b : List UInt8} {f : Fetc} (hb : b.length ≤ 20) (hr : Fetc.rng f) : ∀ j, Fetc.rng (rcvs b f j) ∧ (rcvs b f j).mani = f.mani ∧ Fetc.size (rcvs b f j) ≤ Fetc.size f + 20 * j
  | 0 => ⟨hr, rfl, by simp [rcvs]⟩
  | j + 1 => by
    obtain ⟨h1, h2, h3⟩ := rcvs_facts hb hr j
    have h4 := rcvF_size2 (rcvs b f j) j (segAt b (rcvs b f j).mani j)
    have h5 := segAt_len2 (b := b) (p := (rcvs b f j).mani) (i := j) hb
    exact ⟨rcvF_rng h1, (rcvF_mani _ _ _).trans h2, by rw [rcvs]; omega⟩
theorem is19 : FI 19 Try.f19 := ⟨⟨Try.f19, Try.func19, rfl, rfl, rfl, rfl⟩, rfl⟩
set_option maxRecDepth 20000 in
set_option maxHeartbeats 16000000 in
theorem DComp0 (l : List UInt8) (hl : l.length ≤ 1048576) (c1 : List AV) (F : Nat → Fetc) (n : Nat) (b : List UInt8) (hb : b.length ≤ 20) (hn : n ≤ 8) (he : (l.length : Int) % 2 = 0) (hF : ∀ j, j ≤ n → Fetc.rng (F j) ∧ Fetc.size (F j) ≤ 1000 ∧ (F j).mani.dig.length = n ∧ F (j + 1) = rcvF (F j) j (segAt b (F j).mani j)) (k1 : FO 58 [Ys false l] [Ys false l] (CFY c1 (F 0) b)) : FO 19 [Ys false l] [Ys false l] (A (Fetc.c true (F n))) := by
  refine fok envOk mixed is19 ⟨rfl, rfl, ?_⟩
  have f1 : ((l.length : Int) % 2 == 0) = true := by simp; omega
  (repeat' ((conv => whnf); first | refine Br.tt ?_ | refine Br.ff ?_ | refine Br.pos (by assumption) ?_ | refine Br.neg (by assumption) ?_ | refine Br.bself ?_ | refine Br.dself ?_ | refine Br.iself ?_ | refine Nm.mk lenC ?_ | refine Nm.mk (wrapI (by (first | omega | (simp [inR_t, inR_f] at *; omega))) (by (first | omega | (simp [inR_t, inR_f] at *; omega)))) ?_ | refine Nm.mk (wrapQ (by (first | omega | (simp [inR_t, inR_f] at *; omega))) (by (first | omega | (simp [inR_t, inR_f] at *; omega))) (by (first | omega | (simp [inR_t, inR_f] at *; omega)))) ?_ | refine Nm.mk (tmodN (by (first | omega | (simp [inR_t, inR_f] at *; omega)))) ?_ | refine Nm.mk (szS _) ?_ | refine Nm.mk (mi_eq _ _) ?_ | refine Nm.mk (ma_eq _ _) ?_ | refine Rq.mk (by first | (simp [dOwnL, dOwn] <;> fail) | (first | omega | (simp [inR_t, inR_f] at *; omega))) ?_ | refine And.intro (orderFast (by kernel_rfl)) ?_ | refine And.intro (by kernel_rfl) ?_ | refine Cl.mk (k1) ?_ | refine Cl.pre (by simp only [shcLL_ints, shcLL_byts, shcLL_strs, Fetc.shcs, Gran.shcs, Mani.shcs, Name.shcs, Read.shcs, Segm.shcs]; rfl) ?_))
  refine Lp.mk [.bx 2, .sl 2, .bx 4, .sl 4, .sl 5, .sl 6] (fun m σ => ∃ j, j + m = n ∧ σ = [Bx 2 ([cI 0, cI 0, .sl true .isnil 0 [], cI 0, .sl true .isnil 0 [], cI 0, cI 0, cI 0, cI 0]), Pt 2, Bx 4 (Fetc.c true (F j)), Pt 4, Sa 5 (Ys true b), Sa 6 (I j)]) (n) _ (WkS.weak _ _) ⟨0, by simp, (by first | rfl | (simp only [zlen, zsum, Nat.zero_mul, Int.add_zero, Int.sub_zero, List.nil_append, markG]; rfl))⟩ ?_
  rintro m τ ⟨j, hj, rfl⟩
  obtain ⟨hr, hz, hd, hs⟩ := hF j (by omega)
  by_cases h : j < n
  · have f2 : decide ((j : Int) < ((F j).mani.dig.length : Int)) = true := by simp; omega
    have hA := s_SegmentAt b (F j).mani j (by omega) (by omega)
    have hle := segAt_len2 (b := b) (p := (F j).mani) (i := j) (by omega)
    have hM := s_SegmentReceived (F j) j (segAt b (F j).mani j) hr (by omega) (by omega)
    rw [← hs] at hM
    clear hs hF
    generalize segAt b (F j).mani j = sg at hA hle hM
    (repeat' ((conv => whnf); first | refine Br.tt ?_ | refine Br.ff ?_ | refine Br.pos (by assumption) ?_ | refine Br.neg (by assumption) ?_ | refine Br.bself ?_ | refine Br.dself ?_ | refine Br.iself ?_ | refine Nm.mk lenC ?_ | refine Nm.mk (wrapI (by (first | omega | (simp [inR_t, inR_f] at *; omega))) (by (first | omega | (simp [inR_t, inR_f] at *; omega)))) ?_ | refine Nm.mk (wrapQ (by (first | omega | (simp [inR_t, inR_f] at *; omega))) (by (first | omega | (simp [inR_t, inR_f] at *; omega))) (by (first | omega | (simp [inR_t, inR_f] at *; omega)))) ?_ | refine Nm.mk (tmodN (by (first | omega | (simp [inR_t, inR_f] at *; omega)))) ?_ | refine Nm.mk (szS _) ?_ | refine Nm.mk (mi_eq _ _) ?_ | refine Nm.mk (ma_eq _ _) ?_ | refine Rq.mk (by first | (simp [dOwnL, dOwn] <;> fail) | (first | omega | (simp [inR_t, inR_f] at *; omega))) ?_ | refine And.intro (orderFast (by kernel_rfl)) ?_ | refine And.intro (by kernel_rfl) ?_ | refine Cl.mk (hA) ?_ | refine Cl.mk (hM) ?_ | refine Cl.pre (by simp only [shcLL_ints, shcLL_byts, shcLL_strs, Fetc.shcs, Gran.shcs, Mani.shcs, Name.shcs, Read.shcs, Segm.shcs]; rfl) ?_))
    refine Nx.intro (m - 1) (by omega) _ (WkS.weak _ _) ⟨j + 1, by omega, ?_⟩
    (repeat' (first | exact rfl | refine consE ?_ ?_ | refine entE ?_ | refine vI ?_ | refine vS ?_ | refine vT ?_ | refine vB ?_))
  · obtain rfl : j = n := by omega
    have f2 : decide ((j : Int) < ((F j).mani.dig.length : Int)) = false := by simp; omega
    (repeat' ((conv => whnf); first | refine Br.tt ?_ | refine Br.ff ?_ | refine Br.pos (by assumption) ?_ | refine Br.neg (by assumption) ?_ | refine Br.bself ?_ | refine Br.dself ?_ | refine Br.iself ?_ | refine Nm.mk lenC ?_ | refine Nm.mk (wrapI (by (first | omega | (simp [inR_t, inR_f] at *; omega))) (by (first | omega | (simp [inR_t, inR_f] at *; omega)))) ?_ | refine Nm.mk (wrapQ (by (first | omega | (simp [inR_t, inR_f] at *; omega))) (by (first | omega | (simp [inR_t, inR_f] at *; omega))) (by (first | omega | (simp [inR_t, inR_f] at *; omega)))) ?_ | refine Nm.mk (tmodN (by (first | omega | (simp [inR_t, inR_f] at *; omega)))) ?_ | refine Nm.mk (szS _) ?_ | refine Nm.mk (mi_eq _ _) ?_ | refine Nm.mk (ma_eq _ _) ?_ | refine Rq.mk (by first | (simp [dOwnL, dOwn] <;> fail) | (first | omega | (simp [inR_t, inR_f] at *; omega))) ?_ | refine And.intro (orderFast (by kernel_rfl)) ?_ | refine And.intro (by kernel_rfl) ?_ ))
    exact Vs.Fin.mk (WkR.refl _) (.refl _)
set_option maxRecDepth 20000 in
set_option maxHeartbeats 16000000 in
theorem DComp1 (l : List UInt8) (hl : l.length ≤ 1048576) (c1 : List AV) (f : Fetc) (b : List UInt8) (he : ¬ (l.length : Int) % 2 = 0) (k1 : FO 58 [Ys false l] [Ys false l] (CFY c1 f b)) : FO 19 [Ys false l] [Ys false l] (A (Fetc.c true f)) := by
  refine fok envOk mixed is19 ⟨rfl, rfl, ?_⟩
  have f1 : ((l.length : Int) % 2 == 0) = false := by simp; omega
  (repeat' ((conv => whnf); first | refine Br.tt ?_ | refine Br.ff ?_ | refine Br.pos (by assumption) ?_ | refine Br.neg (by assumption) ?_ | refine Br.bself ?_ | refine Br.dself ?_ | refine Br.iself ?_ | refine Nm.mk lenC ?_ | refine Nm.mk (wrapI (by (first | omega | (simp [inR_t, inR_f] at *; omega))) (by (first | omega | (simp [inR_t, inR_f] at *; omega)))) ?_ | refine Nm.mk (wrapQ (by (first | omega | (simp [inR_t, inR_f] at *; omega))) (by (first | omega | (simp [inR_t, inR_f] at *; omega))) (by (first | omega | (simp [inR_t, inR_f] at *; omega)))) ?_ | refine Nm.mk (tmodN (by (first | omega | (simp [inR_t, inR_f] at *; omega)))) ?_ | refine Nm.mk (szS _) ?_ | refine Nm.mk (mi_eq _ _) ?_ | refine Nm.mk (ma_eq _ _) ?_ | refine Rq.mk (by first | (simp [dOwnL, dOwn] <;> fail) | (first | omega | (simp [inR_t, inR_f] at *; omega))) ?_ | refine And.intro (orderFast (by kernel_rfl)) ?_ | refine And.intro (by kernel_rfl) ?_ | refine Cl.mk (k1) ?_ | refine Cl.pre (by simp only [shcLL_ints, shcLL_byts, shcLL_strs, Fetc.shcs, Gran.shcs, Mani.shcs, Name.shcs, Read.shcs, Segm.shcs]; rfl) ?_))
  exact Vs.Fin.mk (WkR.refl _) (.refl _)
end Go.Proofs.Ytgcnbfplihjelaa
