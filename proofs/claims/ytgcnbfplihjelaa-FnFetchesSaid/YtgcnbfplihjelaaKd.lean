/- Contracts of functions of the program: no statement of the seat is proved here. Each under the conditions that stand in it. -/
import Derived.Test.YtgcnbfplihjelaaKb3
import Derived.Test.YtgcnbfplihjelaaKd1
import Derived.Test.YtgcnbfplihjelaaKd2
import Derived.Test.YtgcnbfplihjelaaKdx
import Derived.Test.YtgcnbfplihjelaaKd4
set_option linter.all false
namespace Go.Proofs.Ytgcnbfplihjelaa
open Go.Vs Go.Proofs
theorem any24_ok {cs : List AV} (hc : IsC cs) : ∃ (cs' : List AV) (f : Fetc) (b : List UInt8), IsC cs' ∧ b.length ≤ 20 ∧ Fetc.rng f ∧ Fetc.size f ≤ 600 ∧ f.mani.dig.length ≤ 8 ∧ FO 96 [O (.own cs)] [O (.own cs')] (FY f b) := by
  obtain ⟨c1, p, G, b, f, r, o, i1, hb, g, hG, hGl, hfl, k1⟩ := fetch_ok hc
  obtain ⟨h0, h1, h2, h3, h4, h5⟩ := g.rng
  have hz := g.size hGl
  have h8 : f.mani.dig.length ≤ 8 := by rw [g.hm]; exact vMani_len g.hv
  have hz2 := hz
  simp only [Fetc.size] at hz2
  obtain ⟨c2, x, i2, hx, -, k2⟩ := below_ok i1 14
  have hx := hx (by omega)
  by_cases x0 : x = 0
  · subst x0
    obtain ⟨c3, v, i3, hv, k3⟩ := int_ok i2 [-1, 1, 255, 256] (by decide) (by decide)
    exact ⟨c3, { f with received := v }, b, i3, hb, ⟨h0, by simp at hv; simp only []; omega, h2, h3, h4, h5⟩, (by simp only [Fetc.size]; omega), h8, l24Any_a cs c1 c2 c3 f b v k1 k2 k3⟩
  by_cases x1 : x = 1
  · subst x1
    obtain ⟨c3, v, i3, hv, k3⟩ := int_ok i2 [-1, 1, 255, 256] (by decide) (by decide)
    exact ⟨c3, { f with outst := v }, b, i3, hb, ⟨h0, h1, by simp at hv; simp only []; omega, h3, h4, h5⟩, (by simp only [Fetc.size]; omega), h8, l24Any_b cs c1 c2 c3 f b v k1 k2 k3⟩
  by_cases x2 : x = 2
  · subst x2
    obtain ⟨c3, v, i3, hv, k3⟩ := int_ok i2 [0, 8, 9, -5] (by decide) (by decide)
    exact ⟨c3, { f with window := v }, b, i3, hb, ⟨h0, h1, h2, by simp at hv; simp only []; omega, h4, h5⟩, (by simp only [Fetc.size]; omega), h8, l24Any_c cs c1 c2 c3 f b v k1 k2 k3⟩
  by_cases x3 : x = 3
  · subst x3
    obtain ⟨c3, v, i3, hv, k3⟩ := int_ok i2 [-1, 2, 3] (by decide) (by decide)
    exact ⟨c3, { f with losses := v }, b, i3, hb, ⟨h0, h1, h2, h3, h4, by simp at hv; simp only []; omega⟩, (by simp only [Fetc.size]; omega), h8, l24Any_d cs c1 c2 c3 f b v k1 k2 k3⟩
  by_cases x4 : x = 4
  · subst x4
    refine ⟨c2, { f with segs := f.segs ++ [⟨[1]⟩] }, b, i2, hb, ⟨h0, h1, h2, h3, h4, h5⟩, ?_, h8, l24Any_e cs c1 c2 f b (by omega) k1 k2⟩
    have e : ∀ l : List Segm, sumN Segm.size (l ++ [⟨[1]⟩]) = sumN Segm.size l + 1 := by
      intro l
      induction l with
      | nil => rfl
      | cons x l ih => simp only [List.cons_append, sumN, ih]; omega
    simp only [Fetc.size, e, List.length_append, List.length_cons, List.length_nil]
    omega
  · exact ⟨c2, f, b, i2, hb, ⟨h0, h1, h2, h3, h4, h5⟩, by omega, h8, l24Any_f cs c1 c2 f b x (by omega) k1 k2⟩
theorem is58 : FI 58 Try.f58 := ⟨⟨Try.f58, Try.func58, rfl, rfl, rfl, rfl⟩, rfl⟩
set_option maxRecDepth 20000 in
set_option maxHeartbeats 16000000 in
theorem l24One0 (l : List UInt8) (c0 c1 : List AV) (f : Fetc) (b : List UInt8) (k0 : FO 44 [Ys false l] [Ys false l] (O (.own c0))) (k1 : FO 96 [O (.own c0)] [O (.own c1)] (FY f b)) : FO 58 [Ys false l] [Ys false l] (CFY c1 f b) := by
  refine fok envOk mixed is58 ⟨rfl, rfl, ?_⟩
  (repeat' ((conv => whnf); first | refine Br.tt ?_ | refine Br.ff ?_ | refine Br.pos (by assumption) ?_ | refine Br.neg (by assumption) ?_ | refine Br.bself ?_ | refine Br.dself ?_ | refine Br.iself ?_ | refine Nm.mk lenC ?_ | refine Nm.mk (wrapI (by (first | omega | (simp [inR_t, inR_f] at *; omega))) (by (first | omega | (simp [inR_t, inR_f] at *; omega)))) ?_ | refine Nm.mk (wrapQ (by (first | omega | (simp [inR_t, inR_f] at *; omega))) (by (first | omega | (simp [inR_t, inR_f] at *; omega))) (by (first | omega | (simp [inR_t, inR_f] at *; omega)))) ?_ | refine Nm.mk (tmodN (by (first | omega | (simp [inR_t, inR_f] at *; omega)))) ?_ | refine Nm.mk (szS _) ?_ | refine Nm.mk (mi_eq _ _) ?_ | refine Nm.mk (ma_eq _ _) ?_ | refine Rq.mk (by first | (simp [dOwnL, dOwn] <;> fail) | (first | omega | (simp [inR_t, inR_f] at *; omega))) ?_ | refine And.intro (orderFast (by kernel_rfl)) ?_ | refine And.intro (by kernel_rfl) ?_ | refine Cl.mk (k0) ?_ | refine Cl.mk (k1) ?_ | refine Cl.pre (by simp only [shcLL_ints, shcLL_byts, shcLL_strs, Fetc.shcs, Gran.shcs, Mani.shcs, Name.shcs, Read.shcs, Segm.shcs]; rfl) ?_))
  exact Vs.Fin.mk (WkR.refl _) (.refl _)
theorem one24_ok (l : List UInt8) (hl : l.length ≤ 1048576) : ∃ (c1 : List AV) (f : Fetc) (b : List UInt8), IsC c1 ∧ b.length ≤ 20 ∧ Fetc.rng f ∧ Fetc.size f ≤ 600 ∧ f.mani.dig.length ≤ 8 ∧ FO 58 [Ys false l] [Ys false l] (CFY c1 f b) := by
  obtain ⟨c0, i0, k0⟩ := new_ok l hl
  obtain ⟨c1, f, b, i1, hb, hr, hz, h8, k1⟩ := any24_ok i0
  exact ⟨c1, f, b, i1, hb, hr, hz, h8, l24One0 l c0 c1 f b k0 k1⟩
theorem DMark_ok (l : List UInt8) (hl : l.length ≤ 1048576) : ∃ (f : Fetc) (x : Int), Fetc.rng f ∧ Fetc.size f ≤ 600 ∧ FO 16 [Ys false l] [Ys false l] (FI1 f x) ∧ FO 18 [Ys false l] [Ys false l] (FI1 f x) := by
  obtain ⟨c1, f, b, i1, hb, hr, hz, -, k1⟩ := one24_ok l hl
  obtain ⟨c2, x, i2, hx, -, k2⟩ := below_ok i1 8
  have := DMark0 l c1 c2 f b x (hx (by omega)) k1 k2
  exact ⟨f, x - 1, hr, hz, this, DLost0 l f _ this⟩
theorem is17 : FI 17 Try.f17 := ⟨⟨Try.f17, Try.func17, rfl, rfl, rfl, rfl⟩, rfl⟩
set_option maxRecDepth 20000 in
set_option maxHeartbeats 16000000 in
theorem DRecv0 (l : List UInt8) (c1 c2 c3 : List AV) (f : Fetc) (b e d : List UInt8) (x : Int) (hb : b.length ≤ 20) (hx : 0 ≤ x ∧ x < 6) (hz : Fetc.size f ≤ 600) (he : e = segAt b f.mani x) (k1 : FO 58 [Ys false l] [Ys false l] (CFY c1 f b)) (k2 : FO 59 [O (.own c1), I 6] [O (.own c2), I 6] (I x)) (k3 : FO 60 [O (.own c2), Ys false e] [O (.own c3), Ys false e] (Ys false d)) : FO 17 [Ys false l] [Ys false l] (FIY f x d) := by
  refine fok envOk mixed is17 ⟨rfl, rfl, ?_⟩
  have hE := s_SegmentAt b f.mani x (Fetc.size_dig (show Fetc.size f ≤ 1048576 by omega)) (by omega)
  rw [← he] at hE
  clear he
  (repeat' ((conv => whnf); first | refine Br.tt ?_ | refine Br.ff ?_ | refine Br.pos (by assumption) ?_ | refine Br.neg (by assumption) ?_ | refine Br.bself ?_ | refine Br.dself ?_ | refine Br.iself ?_ | refine Nm.mk lenC ?_ | refine Nm.mk (wrapI (by (first | omega | (simp [inR_t, inR_f] at *; omega))) (by (first | omega | (simp [inR_t, inR_f] at *; omega)))) ?_ | refine Nm.mk (wrapQ (by (first | omega | (simp [inR_t, inR_f] at *; omega))) (by (first | omega | (simp [inR_t, inR_f] at *; omega))) (by (first | omega | (simp [inR_t, inR_f] at *; omega)))) ?_ | refine Nm.mk (tmodN (by (first | omega | (simp [inR_t, inR_f] at *; omega)))) ?_ | refine Nm.mk (szS _) ?_ | refine Nm.mk (mi_eq _ _) ?_ | refine Nm.mk (ma_eq _ _) ?_ | refine Rq.mk (by first | (simp [dOwnL, dOwn] <;> fail) | (first | omega | (simp [inR_t, inR_f] at *; omega))) ?_ | refine And.intro (orderFast (by kernel_rfl)) ?_ | refine And.intro (by kernel_rfl) ?_ | refine Cl.mk (k1) ?_ | refine Cl.mk (k2) ?_ | refine Cl.mk (hE) ?_ | refine Cl.mk (k3) ?_ | refine Cl.pre (by simp only [shcLL_ints, shcLL_byts, shcLL_strs, Fetc.shcs, Gran.shcs, Mani.shcs, Name.shcs, Read.shcs, Segm.shcs]; rfl) ?_))
  exact Vs.Fin.mk (WkR.refl _) (.refl _)
theorem DRecv_ok (l : List UInt8) (hl : l.length ≤ 1048576) : ∃ (f : Fetc) (x : Int) (d : List UInt8), Fetc.rng f ∧ Fetc.size f ≤ 600 ∧ d.length ≤ 30 ∧ FO 17 [Ys false l] [Ys false l] (FIY f x d) := by
  obtain ⟨c1, f, b, i1, hb, hr, hz, -, k1⟩ := one24_ok l hl
  obtain ⟨c2, x, i2, hx, -, k2⟩ := below_ok i1 6
  have hle := segAt_len2 (b := b) (p := f.mani) (i := x) hb
  obtain ⟨c3, d, i3, hd, k3⟩ := bent_ok i2 (segAt b f.mani x) (by omega)
  exact ⟨f, x, d, hr, hz, by omega, DRecv0 l c1 c2 c3 f b _ d x hb (hx (by omega)) hz rfl k1 k2 k3⟩
theorem DComp_ok (l : List UInt8) (hl : l.length ≤ 1048576) : ∃ (f : Fetc), Fetc.rng f ∧ Fetc.size f ≤ 1000 ∧ FO 19 [Ys false l] [Ys false l] (A (Fetc.c true f)) := by
  obtain ⟨c1, f, b, i1, hb, hr, hz, h8, k1⟩ := one24_ok l hl
  by_cases he : (l.length : Int) % 2 = 0
  · have hf := rcvs_facts hb hr
    obtain ⟨h1, -, h3⟩ := hf f.mani.dig.length
    refine ⟨rcvs b f f.mani.dig.length, h1, by omega, DComp0 l hl c1 (rcvs b f) _ b hb h8 he (fun j hj => ?_) k1⟩
    obtain ⟨g1, g2, g3⟩ := hf j
    exact ⟨g1, by omega, by rw [g2], rfl⟩
  · exact ⟨f, hr, by omega, DComp1 l hl c1 f b he k1⟩
theorem is20 : FI 20 Try.f20 := ⟨⟨Try.f20, Try.func20, rfl, rfl, rfl, rfl⟩, rfl⟩
set_option maxRecDepth 20000 in
set_option maxHeartbeats 16000000 in
theorem DNewF0 (l : List UInt8) (c0 c1 : List AV) (p : Mani) (b : List UInt8) (k0 : FO 44 [Ys false l] [Ys false l] (O (.own c0))) (k1 : FO 62 [O (.own c0)] [O (.own c1)] (MY p b)) : FO 20 [Ys false l] [Ys false l] (A (Mani.c true p)) := by
  refine fok envOk mixed is20 ⟨rfl, rfl, ?_⟩
  (repeat' ((conv => whnf); first | refine Br.tt ?_ | refine Br.ff ?_ | refine Br.pos (by assumption) ?_ | refine Br.neg (by assumption) ?_ | refine Br.bself ?_ | refine Br.dself ?_ | refine Br.iself ?_ | refine Nm.mk lenC ?_ | refine Nm.mk (wrapI (by (first | omega | (simp [inR_t, inR_f] at *; omega))) (by (first | omega | (simp [inR_t, inR_f] at *; omega)))) ?_ | refine Nm.mk (wrapQ (by (first | omega | (simp [inR_t, inR_f] at *; omega))) (by (first | omega | (simp [inR_t, inR_f] at *; omega))) (by (first | omega | (simp [inR_t, inR_f] at *; omega)))) ?_ | refine Nm.mk (tmodN (by (first | omega | (simp [inR_t, inR_f] at *; omega)))) ?_ | refine Nm.mk (szS _) ?_ | refine Nm.mk (mi_eq _ _) ?_ | refine Nm.mk (ma_eq _ _) ?_ | refine Rq.mk (by first | (simp [dOwnL, dOwn] <;> fail) | (first | omega | (simp [inR_t, inR_f] at *; omega))) ?_ | refine And.intro (orderFast (by kernel_rfl)) ?_ | refine And.intro (by kernel_rfl) ?_ | refine Cl.mk (k0) ?_ | refine Cl.mk (k1) ?_ | refine Cl.pre (by simp only [shcLL_ints, shcLL_byts, shcLL_strs, Fetc.shcs, Gran.shcs, Mani.shcs, Name.shcs, Read.shcs, Segm.shcs]; rfl) ?_))
  exact Vs.Fin.mk (WkR.refl _) (.refl _)
theorem DNewF_ok (l : List UInt8) (hl : l.length ≤ 1048576) : ∃ p : Mani, p.dig.length ≤ 21 ∧ FO 20 [Ys false l] [Ys false l] (A (Mani.c true p)) := by
  obtain ⟨c0, i0, k0⟩ := new_ok l hl
  obtain ⟨c1, p, b, i1, hb, hp, k1⟩ := any23_ok i0
  exact ⟨p, hp, DNewF0 l c0 c1 p b k0 k1⟩
end Go.Proofs.Ytgcnbfplihjelaa
