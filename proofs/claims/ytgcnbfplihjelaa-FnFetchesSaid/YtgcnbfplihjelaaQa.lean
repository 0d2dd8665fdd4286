/- Contracts of functions of the program: no statement of the seat is proved here. Each under the conditions that stand in it. -/
import Derived.Test.YtgcnbfplihjelaaUb
import Derived.Test.YtgcnbfplihjelaaUd
import Derived.Test.YtgcnbfplihjelaaFr
set_option linter.all false
namespace Go.Proofs.Ytgcnbfplihjelaa
open Go.Vs Go.Proofs
/-! Plans, drawn -/
abbrev MY (p : Mani) (b : List UInt8) : Arg := (.tup [(true, 3), (false, 1)], [cI p.seg, cI p.len, cIs true p.dig, cYs true b])
abbrev YI (b : List UInt8) (i : Int) : Arg := (.tup [(false, 1), (false, 1)], [cYs true b, cI i])
abbrev YMI (b : List UInt8) (p : Mani) (i : Int) : Arg := (.tup [(false, 1), (true, 3), (false, 1)], [cYs true b, cI p.seg, cI p.len, cIs true p.dig, cI i])
abbrev MIY (p : Mani) (i : Int) (b : List UInt8) : Arg := (.tup [(true, 3), (false, 1), (false, 1)], [cI p.seg, cI p.len, cIs true p.dig, cI i, cYs false b])
abbrev NI (n : Name) (i : Int) : Arg := (.tup [(true, 1), (false, 1)], [cSs true n.parts, cI i])
theorem is85 : FI 85 Try.f85 := ⟨⟨Try.f85, Try.func85, rfl, rfl, rfl, rfl⟩, rfl⟩
set_option maxRecDepth 20000 in
set_option maxHeartbeats 16000000 in
theorem l23Plan0 (cs c1 c2 c3 : List AV) (x v : Int) (b : List UInt8) (hb : b.length ≤ 20) (k1 : FO 59 [O (.own cs), I 20] [O (.own c1), I 20] (I x)) (k2 : FO 108 [O (.own c1), I x] [O (.own c2), I x] (Ys true b)) (k3 : FO 98 [O (.own c2), Is false [3, 4, 6, 20]] [O (.own c3), Is false [3, 4, 6, 20]] (I v)) : FO 85 [O (.own cs)] [O (.own c3)] (MY (mkMani b v) b) := by
  refine fok envOk mixed is85 ⟨rfl, rfl, ?_⟩
  (repeat' ((conv => whnf); first | refine Br.tt ?_ | refine Br.ff ?_ | refine Br.pos (by assumption) ?_ | refine Br.neg (by assumption) ?_ | refine Br.bself ?_ | refine Br.dself ?_ | refine Br.iself ?_ | refine Nm.mk lenC ?_ | refine Nm.mk (wrapI (by (first | omega | (simp [inR_t, inR_f] at *; omega))) (by (first | omega | (simp [inR_t, inR_f] at *; omega)))) ?_ | refine Nm.mk (wrapQ (by (first | omega | (simp [inR_t, inR_f] at *; omega))) (by (first | omega | (simp [inR_t, inR_f] at *; omega))) (by (first | omega | (simp [inR_t, inR_f] at *; omega)))) ?_ | refine Nm.mk (tmodN (by (first | omega | (simp [inR_t, inR_f] at *; omega)))) ?_ | refine Nm.mk (szS _) ?_ | refine Nm.mk (mi_eq _ _) ?_ | refine Nm.mk (ma_eq _ _) ?_ | refine Rq.mk (by first | (simp [dOwnL, dOwn] <;> fail) | (first | omega | (simp [inR_t, inR_f] at *; omega))) ?_ | refine And.intro (orderFast (by kernel_rfl)) ?_ | refine And.intro (by kernel_rfl) ?_ | refine Cl.mk (k1) ?_ | refine Cl.mk (k2) ?_ | refine Cl.eq k3 (by simp only [shcLL, shcL, Vs.shc]; rfl) ?_ | refine Cl.mk (s_MakeManifest b v (by omega)) ?_ | refine Cl.pre (by simp only [shcLL_ints, shcLL_byts, shcLL_strs, Fetc.shcs, Gran.shcs, Mani.shcs, Name.shcs, Read.shcs, Segm.shcs]; rfl) ?_))
  exact Vs.Fin.mk (WkR.refl _) (.refl _)
theorem mkMani_b {b : List UInt8} {v : Int} (hb : b.length ≤ 20) : (mkMani b v).dig.length ≤ 20 ∧ 0 ≤ (mkMani b v).len ∧ (mkMani b v).len ≤ 20 := by
  unfold mkMani
  split
  · rename_i h
    simp [inR_t] at h
    simp only [digs_len]
    have h2 : cdiv b.length v ≤ 8 := by
      unfold cdiv
      split
      · have : ((b.length : Int) + v - 1) / v < 9 := Int.ediv_lt_of_lt_mul (by omega) (by omega)
        omega
      · omega
    omega
  · simp
theorem plan_ok {cs : List AV} (hc : IsC cs) : ∃ cs' b v, IsC cs' ∧ b.length ≤ 20 ∧ FO 85 [O (.own cs)] [O (.own cs')] (MY (mkMani b v) b) := by
  obtain ⟨c1, x, i1, hx, -, k1⟩ := below_ok hc 20
  have hx := hx (by omega)
  obtain ⟨c2, b, i2, hb, k2⟩ := bytes_ok i1 x (by omega)
  obtain ⟨c3, v, i3, hv, k3⟩ := int_ok i2 [3, 4, 6, 20] (by decide) (by decide)
  exact ⟨c3, b, v, i3, by omega, l23Plan0 cs c1 c2 c3 x v b (by omega) k1 k2 k3⟩
theorem setI {l : List Int} {v : Int} {k : Nat} : (ints l).set k (spliceAV [cI (l[k]?.getD 0)] 0 [cI v]) = ints (l.set k v) := by
  simp [ints, List.map_set, spliceAV]
theorem getI {l : List Int} {k : Nat} (h : k < l.length) : (ints l)[k]? = some [cI (l[k]?.getD 0)] := by
  simp [ints, h]
theorem is62 : FI 62 Try.f62 := ⟨⟨Try.f62, Try.func62, rfl, rfl, rfl, rfl⟩, rfl⟩
set_option maxRecDepth 20000 in
set_option maxHeartbeats 16000000 in
theorem l23Any_a (cs c1 c2 c3 : List AV) (p : Mani) (b : List UInt8) (v : Int) (k1 : FO 85 [O (.own cs)] [O (.own c1)] (MY p b)) (k2 : FO 59 [O (.own c1), I 10] [O (.own c2), I 10] (I 0)) (k3 : FO 98 [O (.own c2), Is false [0, 1, 60, 61]] [O (.own c3), Is false [0, 1, 60, 61]] (I v)) : FO 62 [O (.own cs)] [O (.own c3)] (MY ⟨v, p.len, p.dig⟩ b) := by
  refine fok envOk mixed is62 ⟨rfl, rfl, ?_⟩
  (repeat' ((conv => whnf); first | refine Br.tt ?_ | refine Br.ff ?_ | refine Br.pos (by assumption) ?_ | refine Br.neg (by assumption) ?_ | refine Br.bself ?_ | refine Br.dself ?_ | refine Br.iself ?_ | refine Nm.mk lenC ?_ | refine Nm.mk (wrapI (by (first | omega | (simp [inR_t, inR_f] at *; omega))) (by (first | omega | (simp [inR_t, inR_f] at *; omega)))) ?_ | refine Nm.mk (wrapQ (by (first | omega | (simp [inR_t, inR_f] at *; omega))) (by (first | omega | (simp [inR_t, inR_f] at *; omega))) (by (first | omega | (simp [inR_t, inR_f] at *; omega)))) ?_ | refine Nm.mk (tmodN (by (first | omega | (simp [inR_t, inR_f] at *; omega)))) ?_ | refine Nm.mk (szS _) ?_ | refine Nm.mk (mi_eq _ _) ?_ | refine Nm.mk (ma_eq _ _) ?_ | refine Rq.mk (by first | (simp [dOwnL, dOwn] <;> fail) | (first | omega | (simp [inR_t, inR_f] at *; omega))) ?_ | refine And.intro (orderFast (by kernel_rfl)) ?_ | refine And.intro (by kernel_rfl) ?_ | refine Cl.mk (k1) ?_ | refine Cl.mk (k2) ?_ | refine Cl.eq k3 (by simp only [shcLL, shcL, Vs.shc]; rfl) ?_ | refine Cl.pre (by simp only [shcLL_ints, shcLL_byts, shcLL_strs, Fetc.shcs, Gran.shcs, Mani.shcs, Name.shcs, Read.shcs, Segm.shcs]; rfl) ?_))
  exact Vs.Fin.mk (WkR.refl _) (.refl _)
set_option maxRecDepth 20000 in
set_option maxHeartbeats 16000000 in
theorem l23Any_b (cs c1 c2 : List AV) (p : Mani) (b : List UInt8) (hp : 0 ≤ p.len ∧ p.len ≤ 20) (k1 : FO 85 [O (.own cs)] [O (.own c1)] (MY p b)) (k2 : FO 59 [O (.own c1), I 10] [O (.own c2), I 10] (I 1)) : FO 62 [O (.own cs)] [O (.own c2)] (MY ⟨p.seg, p.len + 1, p.dig⟩ b) := by
  refine fok envOk mixed is62 ⟨rfl, rfl, ?_⟩
  (repeat' ((conv => whnf); first | refine Br.tt ?_ | refine Br.ff ?_ | refine Br.pos (by assumption) ?_ | refine Br.neg (by assumption) ?_ | refine Br.bself ?_ | refine Br.dself ?_ | refine Br.iself ?_ | refine Nm.mk lenC ?_ | refine Nm.mk (wrapI (by (first | omega | (simp [inR_t, inR_f] at *; omega))) (by (first | omega | (simp [inR_t, inR_f] at *; omega)))) ?_ | refine Nm.mk (wrapQ (by (first | omega | (simp [inR_t, inR_f] at *; omega))) (by (first | omega | (simp [inR_t, inR_f] at *; omega))) (by (first | omega | (simp [inR_t, inR_f] at *; omega)))) ?_ | refine Nm.mk (tmodN (by (first | omega | (simp [inR_t, inR_f] at *; omega)))) ?_ | refine Nm.mk (szS _) ?_ | refine Nm.mk (mi_eq _ _) ?_ | refine Nm.mk (ma_eq _ _) ?_ | refine Rq.mk (by first | (simp [dOwnL, dOwn] <;> fail) | (first | omega | (simp [inR_t, inR_f] at *; omega))) ?_ | refine And.intro (orderFast (by kernel_rfl)) ?_ | refine And.intro (by kernel_rfl) ?_ | refine Cl.mk (k1) ?_ | refine Cl.mk (k2) ?_ | refine Cl.pre (by simp only [shcLL_ints, shcLL_byts, shcLL_strs, Fetc.shcs, Gran.shcs, Mani.shcs, Name.shcs, Read.shcs, Segm.shcs]; rfl) ?_))
  exact Vs.Fin.mk (WkR.refl _) (.refl _)
set_option maxRecDepth 20000 in
set_option maxHeartbeats 16000000 in
theorem l23Any_c (cs c1 c2 : List AV) (p : Mani) (b : List UInt8) (hp : p.dig.length ≤ 20) (k1 : FO 85 [O (.own cs)] [O (.own c1)] (MY p b)) (k2 : FO 59 [O (.own c1), I 10] [O (.own c2), I 10] (I 2)) : FO 62 [O (.own cs)] [O (.own c2)] (MY ⟨p.seg, p.len, p.dig ++ [1]⟩ b) := by
  refine fok envOk mixed is62 ⟨rfl, rfl, ?_⟩
  (repeat' ((conv => whnf); first | refine Br.tt ?_ | refine Br.ff ?_ | refine Br.pos (by assumption) ?_ | refine Br.neg (by assumption) ?_ | refine Br.bself ?_ | refine Br.dself ?_ | refine Br.iself ?_ | refine Nm.mk lenC ?_ | refine Nm.mk (wrapI (by (first | omega | (simp [inR_t, inR_f] at *; omega))) (by (first | omega | (simp [inR_t, inR_f] at *; omega)))) ?_ | refine Nm.mk (wrapQ (by (first | omega | (simp [inR_t, inR_f] at *; omega))) (by (first | omega | (simp [inR_t, inR_f] at *; omega))) (by (first | omega | (simp [inR_t, inR_f] at *; omega)))) ?_ | refine Nm.mk (tmodN (by (first | omega | (simp [inR_t, inR_f] at *; omega)))) ?_ | refine Nm.mk (szS _) ?_ | refine Nm.mk (mi_eq _ _) ?_ | refine Nm.mk (ma_eq _ _) ?_ | refine Rq.mk (by first | (simp [dOwnL, dOwn] <;> fail) | (first | omega | (simp [inR_t, inR_f] at *; omega))) ?_ | refine And.intro (orderFast (by kernel_rfl)) ?_ | refine And.intro (by kernel_rfl) ?_ | refine Cl.mk (k1) ?_ | refine Cl.mk (k2) ?_ | refine Rq.mk (by simp; omega) ?_ | refine Cl.pre (by simp only [shcLL_ints, shcLL_byts, shcLL_strs, Fetc.shcs, Gran.shcs, Mani.shcs, Name.shcs, Read.shcs, Segm.shcs]; rfl) ?_))
  refine Vs.Fin.mk (WkR.of (.keep (.keep (.sl1 ?_ (.refl _))))) (.refl _)
  simp
set_option maxRecDepth 20000 in
set_option maxHeartbeats 16000000 in
theorem l23Any_d (cs c1 c2 c3 : List AV) (p : Mani) (b : List UInt8) (v : Int) (hp : 0 < p.dig.length ∧ p.dig.length ≤ 20) (k1 : FO 85 [O (.own cs)] [O (.own c1)] (MY p b)) (k2 : FO 59 [O (.own c1), I 10] [O (.own c2), I 10] (I 3)) (k3 : FO 100 [O (.own c2)] [O (.own c3)] (I v)) : FO 62 [O (.own cs)] [O (.own c3)] (MY ⟨p.seg, p.len, p.dig.set 0 v⟩ b) := by
  refine fok envOk mixed is62 ⟨rfl, rfl, ?_⟩
  have f1 : decide ((p.dig.length : Int) > 0) = true := by simp; omega
  (repeat' ((conv => whnf); first | refine Br.tt ?_ | refine Br.ff ?_ | refine Br.pos (by assumption) ?_ | refine Br.neg (by assumption) ?_ | refine Br.bself ?_ | refine Br.dself ?_ | refine Br.iself ?_ | refine Nm.mk lenC ?_ | refine Nm.mk (wrapI (by (first | omega | (simp [inR_t, inR_f] at *; omega))) (by (first | omega | (simp [inR_t, inR_f] at *; omega)))) ?_ | refine Nm.mk (wrapQ (by (first | omega | (simp [inR_t, inR_f] at *; omega))) (by (first | omega | (simp [inR_t, inR_f] at *; omega))) (by (first | omega | (simp [inR_t, inR_f] at *; omega)))) ?_ | refine Nm.mk (tmodN (by (first | omega | (simp [inR_t, inR_f] at *; omega)))) ?_ | refine Nm.mk (szS _) ?_ | refine Nm.mk (mi_eq _ _) ?_ | refine Nm.mk (ma_eq _ _) ?_ | refine Rq.mk (by first | (simp [dOwnL, dOwn] <;> fail) | (first | omega | (simp [inR_t, inR_f] at *; omega))) ?_ | refine And.intro (orderFast (by kernel_rfl)) ?_ | refine And.intro (by kernel_rfl) ?_ | refine Cl.mk (k1) ?_ | refine Cl.mk (k2) ?_ | refine Cl.mk (k3) ?_ | refine El.mk (getI hp.1) ?_ | refine Cl.pre (by simp only [shcLL_ints, shcLL_byts, shcLL_strs, Fetc.shcs, Gran.shcs, Mani.shcs, Name.shcs, Read.shcs, Segm.shcs]; rfl) ?_))
  refine Vs.Fin.mk (WkR.of (.keep (.keep (.sl1 ?_ (.refl _))))) (.refl _)
  rw [← setI]; rfl
set_option maxRecDepth 20000 in
set_option maxHeartbeats 16000000 in
theorem l23Any_e (cs c1 c2 : List AV) (p : Mani) (b : List UInt8) (hp : p.dig.length = 0) (k1 : FO 85 [O (.own cs)] [O (.own c1)] (MY p b)) (k2 : FO 59 [O (.own c1), I 10] [O (.own c2), I 10] (I 3)) : FO 62 [O (.own cs)] [O (.own c2)] (MY p b) := by
  refine fok envOk mixed is62 ⟨rfl, rfl, ?_⟩
  have f1 : decide ((p.dig.length : Int) > 0) = false := by rw [hp]; rfl
  (repeat' ((conv => whnf); first | refine Br.tt ?_ | refine Br.ff ?_ | refine Br.pos (by assumption) ?_ | refine Br.neg (by assumption) ?_ | refine Br.bself ?_ | refine Br.dself ?_ | refine Br.iself ?_ | refine Nm.mk lenC ?_ | refine Nm.mk (wrapI (by (first | omega | (simp [inR_t, inR_f] at *; omega))) (by (first | omega | (simp [inR_t, inR_f] at *; omega)))) ?_ | refine Nm.mk (wrapQ (by (first | omega | (simp [inR_t, inR_f] at *; omega))) (by (first | omega | (simp [inR_t, inR_f] at *; omega))) (by (first | omega | (simp [inR_t, inR_f] at *; omega)))) ?_ | refine Nm.mk (tmodN (by (first | omega | (simp [inR_t, inR_f] at *; omega)))) ?_ | refine Nm.mk (szS _) ?_ | refine Nm.mk (mi_eq _ _) ?_ | refine Nm.mk (ma_eq _ _) ?_ | refine Rq.mk (by first | (simp [dOwnL, dOwn] <;> fail) | (first | omega | (simp [inR_t, inR_f] at *; omega))) ?_ | refine And.intro (orderFast (by kernel_rfl)) ?_ | refine And.intro (by kernel_rfl) ?_ | refine Cl.mk (k1) ?_ | refine Cl.mk (k2) ?_ | refine Cl.pre (by simp only [shcLL_ints, shcLL_byts, shcLL_strs, Fetc.shcs, Gran.shcs, Mani.shcs, Name.shcs, Read.shcs, Segm.shcs]; rfl) ?_))
  exact Vs.Fin.mk (WkR.refl _) (.refl _)
set_option maxRecDepth 20000 in
set_option maxHeartbeats 16000000 in
theorem l23Any_f (cs c1 c2 : List AV) (p : Mani) (b : List UInt8) (x : Int) (hx : 4 ≤ x) (k1 : FO 85 [O (.own cs)] [O (.own c1)] (MY p b)) (k2 : FO 59 [O (.own c1), I 10] [O (.own c2), I 10] (I x)) : FO 62 [O (.own cs)] [O (.own c2)] (MY p b) := by
  refine fok envOk mixed is62 ⟨rfl, rfl, ?_⟩
  have f1 : (x == 0) = false := by simp; omega
  have f2 : (x == 1) = false := by simp; omega
  have f3 : (x == 2) = false := by simp; omega
  have f4 : (x == 3) = false := by simp; omega
  (repeat' ((conv => whnf); first | refine Br.tt ?_ | refine Br.ff ?_ | refine Br.pos (by assumption) ?_ | refine Br.neg (by assumption) ?_ | refine Br.bself ?_ | refine Br.dself ?_ | refine Br.iself ?_ | refine Nm.mk lenC ?_ | refine Nm.mk (wrapI (by (first | omega | (simp [inR_t, inR_f] at *; omega))) (by (first | omega | (simp [inR_t, inR_f] at *; omega)))) ?_ | refine Nm.mk (wrapQ (by (first | omega | (simp [inR_t, inR_f] at *; omega))) (by (first | omega | (simp [inR_t, inR_f] at *; omega))) (by (first | omega | (simp [inR_t, inR_f] at *; omega)))) ?_ | refine Nm.mk (tmodN (by (first | omega | (simp [inR_t, inR_f] at *; omega)))) ?_ | refine Nm.mk (szS _) ?_ | refine Nm.mk (mi_eq _ _) ?_ | refine Nm.mk (ma_eq _ _) ?_ | refine Rq.mk (by first | (simp [dOwnL, dOwn] <;> fail) | (first | omega | (simp [inR_t, inR_f] at *; omega))) ?_ | refine And.intro (orderFast (by kernel_rfl)) ?_ | refine And.intro (by kernel_rfl) ?_ | refine Cl.mk (k1) ?_ | refine Cl.mk (k2) ?_ | refine Cl.pre (by simp only [shcLL_ints, shcLL_byts, shcLL_strs, Fetc.shcs, Gran.shcs, Mani.shcs, Name.shcs, Read.shcs, Segm.shcs]; rfl) ?_))
  exact Vs.Fin.mk (WkR.refl _) (.refl _)
theorem any23_ok {cs : List AV} (hc : IsC cs) : ∃ cs' p b, IsC cs' ∧ b.length ≤ 20 ∧ p.dig.length ≤ 21 ∧ FO 62 [O (.own cs)] [O (.own cs')] (MY p b) := by
  obtain ⟨c1, b, v, i1, hb, k1⟩ := plan_ok hc
  obtain ⟨hm, hm2⟩ := mkMani_b (v := v) hb
  generalize mkMani b v = p at k1 hm hm2
  obtain ⟨c2, x, i2, hx, -, k2⟩ := below_ok i1 10
  have hx := hx (by omega)
  by_cases h0 : x = 0
  · subst h0
    obtain ⟨c3, v, i3, hv, k3⟩ := int_ok i2 [0, 1, 60, 61] (by decide) (by decide)
    exact ⟨c3, ⟨v, p.len, p.dig⟩, b, i3, hb, (by show p.dig.length ≤ 21; omega), l23Any_a cs c1 c2 c3 p b v k1 k2 k3⟩
  by_cases h1 : x = 1
  · subst h1
    exact ⟨c2, ⟨p.seg, p.len + 1, p.dig⟩, b, i2, hb, (by show p.dig.length ≤ 21; omega), l23Any_b cs c1 c2 p b hm2 k1 k2⟩
  by_cases h2 : x = 2
  · subst h2
    exact ⟨c2, ⟨p.seg, p.len, p.dig ++ [1]⟩, b, i2, hb, (by simp; omega), l23Any_c cs c1 c2 p b hm k1 k2⟩
  by_cases h3 : x = 3
  · subst h3
    by_cases hd : p.dig.length = 0
    · exact ⟨c2, p, b, i2, hb, by omega, l23Any_e cs c1 c2 p b hd k1 k2⟩
    · obtain ⟨c3, v, i3, hv, k3⟩ := word_ok i2
      exact ⟨c3, ⟨p.seg, p.len, p.dig.set 0 v⟩, b, i3, hb, (by simp; omega), l23Any_d cs c1 c2 c3 p b v (by omega) k1 k2 k3⟩
  · exact ⟨c2, p, b, i2, hb, by omega, l23Any_f cs c1 c2 p b x (by omega) k1 k2⟩
theorem is31 : FI 31 Try.f31 := ⟨⟨Try.f31, Try.func31, rfl, rfl, rfl, rfl⟩, rfl⟩
set_option maxRecDepth 20000 in
set_option maxHeartbeats 16000000 in
theorem same_Ints (l : List Int) (hl : l.length ≤ 1099511627776) : FO 31 [Is false l, Is false l] [Is false l, Is false l] (B true) := by
  refine fok envOk mixed is31 ⟨rfl, rfl, ?_⟩
  (repeat' ((conv => whnf); first | refine Br.tt ?_ | refine Br.ff ?_ | refine Br.pos (by assumption) ?_ | refine Br.neg (by assumption) ?_ | refine Br.bself ?_ | refine Br.dself ?_ | refine Br.iself ?_ | refine Nm.mk lenC ?_ | refine Nm.mk (wrapI (by (first | omega | (simp [inR_t, inR_f] at *; omega))) (by (first | omega | (simp [inR_t, inR_f] at *; omega)))) ?_ | refine Nm.mk (wrapQ (by (first | omega | (simp [inR_t, inR_f] at *; omega))) (by (first | omega | (simp [inR_t, inR_f] at *; omega))) (by (first | omega | (simp [inR_t, inR_f] at *; omega)))) ?_ | refine Nm.mk (tmodN (by (first | omega | (simp [inR_t, inR_f] at *; omega)))) ?_ | refine Nm.mk (szS _) ?_ | refine Nm.mk (mi_eq _ _) ?_ | refine Nm.mk (ma_eq _ _) ?_ | refine Rq.mk (by first | (simp [dOwnL, dOwn] <;> fail) | (first | omega | (simp [inR_t, inR_f] at *; omega))) ?_ | refine And.intro (orderFast (by kernel_rfl)) ?_ | refine And.intro (by kernel_rfl) ?_ ))
  refine Lp.mk [.sl 0, .sl 1, .sl 5] (fun m σ => ∃ d r, l = d ++ r ∧ m = r.length ∧ σ = [Sa 0 (Is false l), Sa 1 (Is false l), Sa 5 (I d.length)]) (l.length) _ (WkS.weak _ _) ⟨[], l, rfl, rfl, (by first | rfl | (simp only [zlen, zsum, Nat.zero_mul, Int.add_zero, Int.sub_zero, List.nil_append, markG]; rfl))⟩ ?_
  rintro m τ ⟨d, r, hl2, rfl, rfl⟩
  have hy : l.length = d.length + r.length := by rw [hl2]; simp
  refine Nm.mk lenC ?_
  cases r with
  | nil =>
    refine Br.neg (by simp at * <;> omega) ?_
    (repeat' ((conv => whnf); first | refine Br.tt ?_ | refine Br.ff ?_ | refine Br.pos (by assumption) ?_ | refine Br.neg (by assumption) ?_ | refine Br.bself ?_ | refine Br.dself ?_ | refine Br.iself ?_ | refine Nm.mk lenC ?_ | refine Nm.mk (wrapI (by (first | omega | (simp [inR_t, inR_f] at *; omega))) (by (first | omega | (simp [inR_t, inR_f] at *; omega)))) ?_ | refine Nm.mk (wrapQ (by (first | omega | (simp [inR_t, inR_f] at *; omega))) (by (first | omega | (simp [inR_t, inR_f] at *; omega))) (by (first | omega | (simp [inR_t, inR_f] at *; omega)))) ?_ | refine Nm.mk (tmodN (by (first | omega | (simp [inR_t, inR_f] at *; omega)))) ?_ | refine Nm.mk (szS _) ?_ | refine Nm.mk (mi_eq _ _) ?_ | refine Nm.mk (ma_eq _ _) ?_ | refine Rq.mk (by first | (simp [dOwnL, dOwn] <;> fail) | (first | omega | (simp [inR_t, inR_f] at *; omega))) ?_ | refine And.intro (orderFast (by kernel_rfl)) ?_ | refine And.intro (by kernel_rfl) ?_ ))
    exact Vs.Fin.mk (WkR.refl _) (.refl _)
  | cons x r =>
    simp at hy
    refine Br.pos (by simp <;> omega) ?_
    (repeat' ((conv => whnf); first | refine Br.tt ?_ | refine Br.ff ?_ | refine Br.pos (by assumption) ?_ | refine Br.neg (by assumption) ?_ | refine Br.bself ?_ | refine Br.dself ?_ | refine Br.iself ?_ | refine Nm.mk lenC ?_ | refine Nm.mk (wrapI (by (first | omega | (simp [inR_t, inR_f] at *; omega))) (by (first | omega | (simp [inR_t, inR_f] at *; omega)))) ?_ | refine Nm.mk (wrapQ (by (first | omega | (simp [inR_t, inR_f] at *; omega))) (by (first | omega | (simp [inR_t, inR_f] at *; omega))) (by (first | omega | (simp [inR_t, inR_f] at *; omega)))) ?_ | refine Nm.mk (tmodN (by (first | omega | (simp [inR_t, inR_f] at *; omega)))) ?_ | refine Nm.mk (szS _) ?_ | refine Nm.mk (mi_eq _ _) ?_ | refine Nm.mk (ma_eq _ _) ?_ | refine Rq.mk (by first | (simp [dOwnL, dOwn] <;> fail) | (first | omega | (simp [inR_t, inR_f] at *; omega))) ?_ | refine And.intro (orderFast (by kernel_rfl)) ?_ | refine And.intro (by kernel_rfl) ?_ | refine El.mk (getH hl2 rfl) ?_ | refine Cl.pre (by simp only [shcLL_ints, shcLL_byts, shcLL_strs, Fetc.shcs, Gran.shcs, Mani.shcs, Name.shcs, Read.shcs, Segm.shcs]; rfl) ?_))
    refine Nx.intro r.length (by simp) _ (WkS.weak _ _) ⟨d ++ [x], r, by simp [hl2], rfl, ?_⟩
    rw [len1]; rfl
theorem Breqt {x : Int} {X Y : Prop} (h : X) : Br (x == x) X Y := by
  rw [beq_self_eq_true]; exact Br.tt h
theorem is63 : FI 63 Try.f63 := ⟨⟨Try.f63, Try.func63, rfl, rfl, rfl, rfl⟩, rfl⟩
set_option maxRecDepth 20000 in
set_option maxHeartbeats 16000000 in
theorem same_Plan (p : Mani) (hl : p.dig.length ≤ 1099511627776) : FO 63 [A (Mani.c false p), A (Mani.c false p)] [A (Mani.c false p), A (Mani.c false p)] (B true) := by
  refine fok envOk mixed is63 ⟨rfl, rfl, ?_⟩
  (repeat' ((conv => whnf); first | refine Br.tt ?_ | refine Br.ff ?_ | refine Br.pos (by assumption) ?_ | refine Br.neg (by assumption) ?_ | refine Br.bself ?_ | refine Br.dself ?_ | refine Br.iself ?_ | refine Nm.mk lenC ?_ | refine Nm.mk (wrapI (by (first | omega | (simp [inR_t, inR_f] at *; omega))) (by (first | omega | (simp [inR_t, inR_f] at *; omega)))) ?_ | refine Nm.mk (wrapQ (by (first | omega | (simp [inR_t, inR_f] at *; omega))) (by (first | omega | (simp [inR_t, inR_f] at *; omega))) (by (first | omega | (simp [inR_t, inR_f] at *; omega)))) ?_ | refine Nm.mk (tmodN (by (first | omega | (simp [inR_t, inR_f] at *; omega)))) ?_ | refine Nm.mk (szS _) ?_ | refine Nm.mk (mi_eq _ _) ?_ | refine Nm.mk (ma_eq _ _) ?_ | refine Rq.mk (by first | (simp [dOwnL, dOwn] <;> fail) | (first | omega | (simp [inR_t, inR_f] at *; omega))) ?_ | refine And.intro (orderFast (by kernel_rfl)) ?_ | refine And.intro (by kernel_rfl) ?_ | refine Cl.mk (same_Ints p.dig hl) ?_ | refine Breqt ?_ | refine Cl.pre (by simp only [shcLL_ints, shcLL_byts, shcLL_strs, Fetc.shcs, Gran.shcs, Mani.shcs, Name.shcs, Read.shcs, Segm.shcs]; rfl) ?_))
  exact Vs.Fin.mk (WkR.refl _) (.refl _)
end Go.Proofs.Ytgcnbfplihjelaa
