/- Contracts of functions of the program: no statement of the seat is proved here. Each under the conditions that stand in it. -/
import Derived.Test.YtgcnbfplihjelaaKb1
import Derived.Test.YtgcnbfplihjelaaKb2
set_option linter.all false
namespace Go.Proofs.Ytgcnbfplihjelaa
open Go.Vs Go.Proofs
theorem fetch_ok {cs : List AV} (hc : IsC cs) : ∃ (cs' : List AV) (p : Mani) (G : Nat → List UInt8) (b : List UInt8) (f : Fetc) (r o : Nat), IsC cs' ∧ b.length ≤ 20 ∧ Good p G f r o ∧ (∀ t, t < p.dig.length → segAt b p t = G t ∧ vSeg p t (G t) = true ∧ 0 < (G t).length) ∧ (∀ t, (G t).length ≤ 24) ∧ (List.range p.dig.length).flatMap G = b ∧ FO 45 [O (.own cs)] [O (.own cs')] (FY f b) := by
  obtain ⟨c1, x, i1, hx, -, k1⟩ := below_ok hc 20
  have hx := hx (by omega)
  obtain ⟨c2, b, i2, hb, k2⟩ := bytes_ok i1 x (by omega)
  obtain ⟨c3, v, i3, hv, k3⟩ := int_ok i2 [3, 4, 6, 20] (by decide) (by decide)
  have kp := l23Plan0 cs c1 c2 c3 x v b (by omega) k1 k2 k3
  have hv2 : 3 ≤ v ∧ v ≤ 60 := by simp at hv; omega
  obtain ⟨p, G, hp, hvm, h8, hG, hGl, hfl⟩ := plan_facts2 b v (by omega) hv2
  rw [hp] at kp
  obtain ⟨c4, n, i4, hn, -, k4⟩ := below_ok i3 14
  have hn := hn (by omega)
  have g0 := Good.new hvm G
  by_cases hd : p.dig.length = 0
  · exact ⟨c4, p, G, b, newF p, 0, 0, i4, by omega, g0, hG, hGl, hfl, l24Draw_z cs c3 c4 p b n (newF p) rfl hd kp k4⟩
  · obtain ⟨n, rfl⟩ : ∃ k : Nat, n = k := ⟨n.toNat, by omega⟩
    obtain ⟨C, X, h0, h⟩ := draws (σ := List AV × Fetc) (χ := Int × Int × List AV) (P := fun s => IsC s.1 ∧ ∃ r o, Good p G s.2 r o)
      (R := fun s x s' => (0 ≤ x.2.1 ∧ x.2.1 < 3) ∧ s'.2 = stpF b p s.2 x.1 x.2.1 ∧ FO 59 [O (.own s.1), I p.dig.length] [O (.own x.2.2), I p.dig.length] (I x.1) ∧ FO 59 [O (.own x.2.2), I 3] [O (.own s'.1), I 3] (I x.2.1))
      (fun s hs => by
        obtain ⟨hs1, r, o, g⟩ := hs
        obtain ⟨d1, k, j1, hk, -, q1⟩ := below_ok hs1 p.dig.length
        obtain ⟨d2, y, j2, hy, -, q2⟩ := below_ok j1 3
        have hk := hk (by omega)
        exact ⟨(d2, stpF b p s.2 k y), (k, y, d1), ⟨j2, g.stp hG k y (by omega)⟩, hy (by omega), rfl, q1, q2⟩) (c4, newF p) ⟨i4, 0, 0, g0⟩
    obtain ⟨⟨hc', r, o, g⟩, -⟩ := h n
    refine ⟨(C n).1, p, G, b, (C n).2, r, o, hc', by omega, g, hG, hGl, hfl, l24Draw0 cs c3 C X p b n (by omega) (by omega) (by omega) kp (by rw [h0]; exact k4) (by rw [h0]) (fun j => ?_)⟩
    obtain ⟨⟨-, r, o, g⟩, y1, y2, y3, y4⟩ := h j
    exact ⟨g.rng, g.size hGl, y1, y2, y3, y4⟩
theorem is7 : FI 7 Try.f7 := ⟨⟨Try.f7, Try.func7, rfl, rfl, rfl, rfl⟩, rfl⟩
set_option maxRecDepth 20000 in
set_option maxHeartbeats 16000000 in
theorem DFetch0 (l : List UInt8) (c0 c1 : List AV) (f : Fetc) (b : List UInt8) (k0 : FO 44 [Ys false l] [Ys false l] (O (.own c0))) (k1 : FO 45 [O (.own c0)] [O (.own c1)] (FY f b)) : FO 7 [Ys false l] [Ys false l] (FY f b) := by
  refine fok envOk mixed is7 ⟨rfl, rfl, ?_⟩
  (repeat' ((conv => whnf); first | refine Br.tt ?_ | refine Br.ff ?_ | refine Br.pos (by assumption) ?_ | refine Br.neg (by assumption) ?_ | refine Br.bself ?_ | refine Br.dself ?_ | refine Br.iself ?_ | refine Nm.mk lenC ?_ | refine Nm.mk (wrapI (by (first | omega | (simp [inR_t, inR_f] at *; omega))) (by (first | omega | (simp [inR_t, inR_f] at *; omega)))) ?_ | refine Nm.mk (wrapQ (by (first | omega | (simp [inR_t, inR_f] at *; omega))) (by (first | omega | (simp [inR_t, inR_f] at *; omega))) (by (first | omega | (simp [inR_t, inR_f] at *; omega)))) ?_ | refine Nm.mk (tmodN (by (first | omega | (simp [inR_t, inR_f] at *; omega)))) ?_ | refine Nm.mk (szS _) ?_ | refine Nm.mk (mi_eq _ _) ?_ | refine Nm.mk (ma_eq _ _) ?_ | refine Rq.mk (by first | (simp [dOwnL, dOwn] <;> fail) | (first | omega | (simp [inR_t, inR_f] at *; omega))) ?_ | refine And.intro (orderFast (by kernel_rfl)) ?_ | refine And.intro (by kernel_rfl) ?_ | refine Cl.mk (k0) ?_ | refine Cl.mk (k1) ?_ | refine Cl.pre (by simp only [shcLL_ints, shcLL_byts, shcLL_strs, Fetc.shcs, Gran.shcs, Mani.shcs, Name.shcs, Read.shcs, Segm.shcs]; rfl) ?_))
  exact Vs.Fin.mk (WkR.refl _) (.refl _)
abbrev FYs (f : Fetc) (b : List UInt8) : Arg := (.tup [(true, 9), (false, 1)], Fetc.c false f ++ [cYs false b])
theorem sh_FY {fn : Nat} {args outs : List Arg} {x : Fetc} {b : List UInt8} (h : FO fn args outs (FY x b)) : FO fn args outs (FYs x b) := by
  have := sh_res h
  rwa [show shcL (Fetc.c true x ++ [cYs true b]) = Fetc.c false x ++ [cYs false b] by simp [Fetc.c, shcL, Vs.shc, shcLL_ints, shcLL_byts, Segm.shcs]] at this
theorem DFetch_ok (l : List UInt8) (hl : l.length ≤ 1048576) : ∃ (p : Mani) (G : Nat → List UInt8) (b : List UInt8) (f : Fetc) (r o : Nat), b.length ≤ 20 ∧ Good p G f r o ∧ (∀ t, t < p.dig.length → segAt b p t = G t ∧ vSeg p t (G t) = true ∧ 0 < (G t).length) ∧ (∀ t, (G t).length ≤ 24) ∧ (List.range p.dig.length).flatMap G = b ∧ FO 7 [Ys false l] [Ys false l] (FYs f b) := by
  obtain ⟨c0, i0, k0⟩ := new_ok l hl
  obtain ⟨c1, p, G, b, f, r, o, i1, hb, g, hG, hGl, hfl, k1⟩ := fetch_ok i0
  exact ⟨p, G, b, f, r, o, hb, g, hG, hGl, hfl, sh_FY (DFetch0 l c0 c1 f b k0 k1)⟩
end Go.Proofs.Ytgcnbfplihjelaa
