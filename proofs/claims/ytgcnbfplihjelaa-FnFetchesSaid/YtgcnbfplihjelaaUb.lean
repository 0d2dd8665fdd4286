/- Contracts of functions of the program: no statement of the seat is proved here. Each under the conditions that stand in it. -/
import Derived.Test.YtgcnbfplihjelaaUa
import Derived.Test.YtgcnbfplihjelaaSe
set_option linter.all false
namespace Go.Proofs.Ytgcnbfplihjelaa
open Go.Vs Go.Proofs
theorem shcY {n : NF} {b : List UInt8} : WkR (O (.sl true n 1 (byts b))) (Ys false b) := ⟨rfl, .inr (by simp only [shcL, Vs.shc, shcLL_byts]; exact .top .nil)⟩
theorem setY {b : List UInt8} {i : Nat} {v : UInt8} : (byts b).set i (spliceAV [cY (b[i]?.getD 0)] 0 [cY v]) = byts (b.set i v) := by
  simp [byts, List.map_set, spliceAV]
theorem getY {b : List UInt8} {i : Int} (h : 0 ≤ i ∧ i < b.length) : (byts b)[i.toNat]? = some [cY (b[i.toNat]?.getD 0)] := by
  have h2 : i.toNat < b.length := by omega
  simp [byts, h2]
theorem is60 : FI 60 Try.f60 := ⟨⟨Try.f60, Try.func60, rfl, rfl, rfl, rfl⟩, rfl⟩
set_option maxRecDepth 20000 in
set_option maxHeartbeats 16000000 in
theorem l1Bent_a (cs c1 c2 c3 : List AV) (b : List UInt8) (i v : Int) (hb : b.length ≤ 1048576) (hi : 0 ≤ i ∧ i < b.length) (hv : 0 ≤ v ∧ v ≤ 255) (k1 : FO 59 [O (.own cs), I 6] [O (.own c1), I 6] (I 0)) (k2 : FO 59 [O (.own c1), I b.length] [O (.own c2), I b.length] (I i)) (k3 : FO 59 [O (.own c2), I 256] [O (.own c3), I 256] (I v)) : FO 60 [O (.own cs), Ys false b] [O (.own c3), Ys false b] (Ys false (b.set i.toNat (UInt8.ofNat v.toNat))) := by
  refine fok envOk mixed is60 ⟨rfl, rfl, ?_⟩
  have f1 : decide ((b.length : Int) > 0) = true := by simp; omega
  (repeat' ((conv => whnf); first | refine Br.tt ?_ | refine Br.ff ?_ | refine Br.pos (by assumption) ?_ | refine Br.neg (by assumption) ?_ | refine Br.bself ?_ | refine Br.dself ?_ | refine Br.iself ?_ | refine Nm.mk lenC ?_ | refine Nm.mk (wrapI (by (first | omega | (simp [inR_t, inR_f] at *; omega))) (by (first | omega | (simp [inR_t, inR_f] at *; omega)))) ?_ | refine Nm.mk (wrapQ (by (first | omega | (simp [inR_t, inR_f] at *; omega))) (by (first | omega | (simp [inR_t, inR_f] at *; omega))) (by (first | omega | (simp [inR_t, inR_f] at *; omega)))) ?_ | refine Nm.mk (tmodN (by (first | omega | (simp [inR_t, inR_f] at *; omega)))) ?_ | refine Nm.mk (szS _) ?_ | refine Nm.mk (mi_eq _ _) ?_ | refine Nm.mk (ma_eq _ _) ?_ | refine Rq.mk (by first | (simp [dOwnL, dOwn] <;> fail) | (first | omega | (simp [inR_t, inR_f] at *; omega))) ?_ | refine And.intro (orderFast (by kernel_rfl)) ?_ | refine And.intro (by kernel_rfl) ?_ | refine Cl.mk (k1) ?_ | refine Cl.mk (k2) ?_ | refine Cl.mk (k3) ?_ | refine Nm.mk (wrap8d hv) ?_ | refine El.mk (getY hi) ?_ | refine Cl.pre (by simp only [shcLL_ints, shcLL_byts, shcLL_strs, Fetc.shcs, Gran.shcs, Mani.shcs, Name.shcs, Read.shcs, Segm.shcs]; rfl) ?_))
  refine Vs.Fin.mk ⟨rfl, .inr ?_⟩ (.refl _)
  simp only [shcL, Vs.shc]
  rw [List.nil_append, setY, shcLL_byts]
  exact .top .nil
set_option maxRecDepth 20000 in
set_option maxHeartbeats 16000000 in
theorem l1Bent_a0 (cs c1 : List AV) (k1 : FO 59 [O (.own cs), I 6] [O (.own c1), I 6] (I 0)) : FO 60 [O (.own cs), Ys false []] [O (.own c1), Ys false []] (Ys false []) := by
  refine fok envOk mixed is60 ⟨rfl, rfl, ?_⟩
  (repeat' ((conv => whnf); first | refine Br.tt ?_ | refine Br.ff ?_ | refine Br.pos (by assumption) ?_ | refine Br.neg (by assumption) ?_ | refine Br.bself ?_ | refine Br.dself ?_ | refine Br.iself ?_ | refine Nm.mk lenC ?_ | refine Nm.mk (wrapI (by (first | omega | (simp [inR_t, inR_f] at *; omega))) (by (first | omega | (simp [inR_t, inR_f] at *; omega)))) ?_ | refine Nm.mk (wrapQ (by (first | omega | (simp [inR_t, inR_f] at *; omega))) (by (first | omega | (simp [inR_t, inR_f] at *; omega))) (by (first | omega | (simp [inR_t, inR_f] at *; omega)))) ?_ | refine Nm.mk (tmodN (by (first | omega | (simp [inR_t, inR_f] at *; omega)))) ?_ | refine Nm.mk (szS _) ?_ | refine Nm.mk (mi_eq _ _) ?_ | refine Nm.mk (ma_eq _ _) ?_ | refine Rq.mk (by first | (simp [dOwnL, dOwn] <;> fail) | (first | omega | (simp [inR_t, inR_f] at *; omega))) ?_ | refine And.intro (orderFast (by kernel_rfl)) ?_ | refine And.intro (by kernel_rfl) ?_ | refine Cl.mk (k1) ?_ | refine Cl.pre (by simp only [shcLL_ints, shcLL_byts, shcLL_strs, Fetc.shcs, Gran.shcs, Mani.shcs, Name.shcs, Read.shcs, Segm.shcs]; rfl) ?_))
  exact Vs.Fin.mk shcY (.refl _)
set_option maxRecDepth 20000 in
set_option maxHeartbeats 16000000 in
theorem l1Bent_b (cs c1 c2 : List AV) (b : List UInt8) (i : Int) (hb : b.length ≤ 1048576) (hi : 0 ≤ i ∧ i < b.length + 1) (k1 : FO 59 [O (.own cs), I 6] [O (.own c1), I 6] (I 1)) (k2 : FO 59 [O (.own c1), I (b.length + 1)] [O (.own c2), I (b.length + 1)] (I i)) : FO 60 [O (.own cs), Ys false b] [O (.own c2), Ys false b] (Ys false (b.take i.toNat)) := by
  refine fok envOk mixed is60 ⟨rfl, rfl, ?_⟩
  (repeat' ((conv => whnf); first | refine Br.tt ?_ | refine Br.ff ?_ | refine Br.pos (by assumption) ?_ | refine Br.neg (by assumption) ?_ | refine Br.bself ?_ | refine Br.dself ?_ | refine Br.iself ?_ | refine Nm.mk lenC ?_ | refine Nm.mk (wrapI (by (first | omega | (simp [inR_t, inR_f] at *; omega))) (by (first | omega | (simp [inR_t, inR_f] at *; omega)))) ?_ | refine Nm.mk (wrapQ (by (first | omega | (simp [inR_t, inR_f] at *; omega))) (by (first | omega | (simp [inR_t, inR_f] at *; omega))) (by (first | omega | (simp [inR_t, inR_f] at *; omega)))) ?_ | refine Nm.mk (tmodN (by (first | omega | (simp [inR_t, inR_f] at *; omega)))) ?_ | refine Nm.mk (szS _) ?_ | refine Nm.mk (mi_eq _ _) ?_ | refine Nm.mk (ma_eq _ _) ?_ | refine Rq.mk (by first | (simp [dOwnL, dOwn] <;> fail) | (first | omega | (simp [inR_t, inR_f] at *; omega))) ?_ | refine And.intro (orderFast (by kernel_rfl)) ?_ | refine And.intro (by kernel_rfl) ?_ | refine Cl.mk (k1) ?_ | refine Cl.mk (k2) ?_ | refine Cl.pre (by simp only [shcLL_ints, shcLL_byts, shcLL_strs, Fetc.shcs, Gran.shcs, Mani.shcs, Name.shcs, Read.shcs, Segm.shcs]; rfl) ?_))
  refine Vs.Fin.mk (WkR.of (.sl1 ?_ .nil)) (.refl _)
  simp [List.map_take]
set_option maxRecDepth 20000 in
set_option maxHeartbeats 16000000 in
theorem l1Bent_c (cs c1 c2 : List AV) (b : List UInt8) (v : Int) (hb : b.length ≤ 1048576) (hv : 0 ≤ v ∧ v ≤ 255) (k1 : FO 59 [O (.own cs), I 6] [O (.own c1), I 6] (I 2)) (k2 : FO 98 [O (.own c1), Is false [0, 1, 128, 255]] [O (.own c2), Is false [0, 1, 128, 255]] (I v)) : FO 60 [O (.own cs), Ys false b] [O (.own c2), Ys false b] (Ys false (b ++ [UInt8.ofNat v.toNat])) := by
  refine fok envOk mixed is60 ⟨rfl, rfl, ?_⟩
  (repeat' ((conv => whnf); first | refine Br.tt ?_ | refine Br.ff ?_ | refine Br.pos (by assumption) ?_ | refine Br.neg (by assumption) ?_ | refine Br.bself ?_ | refine Br.dself ?_ | refine Br.iself ?_ | refine Nm.mk lenC ?_ | refine Nm.mk (wrapI (by (first | omega | (simp [inR_t, inR_f] at *; omega))) (by (first | omega | (simp [inR_t, inR_f] at *; omega)))) ?_ | refine Nm.mk (wrapQ (by (first | omega | (simp [inR_t, inR_f] at *; omega))) (by (first | omega | (simp [inR_t, inR_f] at *; omega))) (by (first | omega | (simp [inR_t, inR_f] at *; omega)))) ?_ | refine Nm.mk (tmodN (by (first | omega | (simp [inR_t, inR_f] at *; omega)))) ?_ | refine Nm.mk (szS _) ?_ | refine Nm.mk (mi_eq _ _) ?_ | refine Nm.mk (ma_eq _ _) ?_ | refine Rq.mk (by first | (simp [dOwnL, dOwn] <;> fail) | (first | omega | (simp [inR_t, inR_f] at *; omega))) ?_ | refine And.intro (orderFast (by kernel_rfl)) ?_ | refine And.intro (by kernel_rfl) ?_ | refine Cl.mk (k1) ?_ | refine Cl.eq k2 (by simp only [shcLL, shcL, Vs.shc]; rfl) ?_ | refine Nm.mk (wrap8d hv) ?_ | refine Cl.pre (by simp only [shcLL_ints, shcLL_byts, shcLL_strs, Fetc.shcs, Gran.shcs, Mani.shcs, Name.shcs, Read.shcs, Segm.shcs]; rfl) ?_))
  refine Vs.Fin.mk ⟨rfl, .inr ?_⟩ (.refl _)
  simp only [shcL, Vs.shc, shcLL_append, shcLL_byts]
  exact .sl1 (by simp [shcLL, shcL, Vs.shc]) .nil
set_option maxRecDepth 20000 in
set_option maxHeartbeats 16000000 in
theorem l1Bent_d (cs c1 : List AV) (b : List UInt8) (x : Int) (hb : b.length ≤ 1048576) (hx : 3 ≤ x) (k1 : FO 59 [O (.own cs), I 6] [O (.own c1), I 6] (I x)) : FO 60 [O (.own cs), Ys false b] [O (.own c1), Ys false b] (Ys false b) := by
  refine fok envOk mixed is60 ⟨rfl, rfl, ?_⟩
  have f1 : (x == 0) = false := by simp; omega
  have f2 : (x == 1) = false := by simp; omega
  have f3 : (x == 2) = false := by simp; omega
  (repeat' ((conv => whnf); first | refine Br.tt ?_ | refine Br.ff ?_ | refine Br.pos (by assumption) ?_ | refine Br.neg (by assumption) ?_ | refine Br.bself ?_ | refine Br.dself ?_ | refine Br.iself ?_ | refine Nm.mk lenC ?_ | refine Nm.mk (wrapI (by (first | omega | (simp [inR_t, inR_f] at *; omega))) (by (first | omega | (simp [inR_t, inR_f] at *; omega)))) ?_ | refine Nm.mk (wrapQ (by (first | omega | (simp [inR_t, inR_f] at *; omega))) (by (first | omega | (simp [inR_t, inR_f] at *; omega))) (by (first | omega | (simp [inR_t, inR_f] at *; omega)))) ?_ | refine Nm.mk (tmodN (by (first | omega | (simp [inR_t, inR_f] at *; omega)))) ?_ | refine Nm.mk (szS _) ?_ | refine Nm.mk (mi_eq _ _) ?_ | refine Nm.mk (ma_eq _ _) ?_ | refine Rq.mk (by first | (simp [dOwnL, dOwn] <;> fail) | (first | omega | (simp [inR_t, inR_f] at *; omega))) ?_ | refine And.intro (orderFast (by kernel_rfl)) ?_ | refine And.intro (by kernel_rfl) ?_ | refine Cl.mk (k1) ?_ | refine Cl.pre (by simp only [shcLL_ints, shcLL_byts, shcLL_strs, Fetc.shcs, Gran.shcs, Mani.shcs, Name.shcs, Read.shcs, Segm.shcs]; rfl) ?_))
  exact Vs.Fin.mk shcY (.refl _)
theorem bent_ok {cs : List AV} (hc : IsC cs) (b : List UInt8) (hb : b.length ≤ 1048576) : ∃ cs' b', IsC cs' ∧ b'.length ≤ b.length + 1 ∧ FO 60 [O (.own cs), Ys false b] [O (.own cs'), Ys false b] (Ys false b') := by
  obtain ⟨c1, x, i1, hx, -, k1⟩ := below_ok hc 6
  have hx := hx (by omega)
  by_cases h0 : x = 0
  · subst h0
    by_cases hl : b.length = 0
    · obtain rfl : b = [] := List.eq_nil_of_length_eq_zero hl
      exact ⟨c1, [], i1, by simp, l1Bent_a0 cs c1 k1⟩
    · obtain ⟨c2, i, i2, hi, -, k2⟩ := below_ok i1 b.length
      obtain ⟨c3, v, i3, hv, -, k3⟩ := below_ok i2 256
      exact ⟨c3, _, i3, by simp, l1Bent_a cs c1 c2 c3 b i v hb (hi (by omega)) (by have := hv (by omega); omega) k1 k2 k3⟩
  by_cases h1 : x = 1
  · subst h1
    obtain ⟨c2, i, i2, hi, -, k2⟩ := below_ok i1 (b.length + 1)
    exact ⟨c2, _, i2, by simp; omega, l1Bent_b cs c1 c2 b i hb (hi (by omega)) k1 k2⟩
  by_cases h2 : x = 2
  · subst h2
    obtain ⟨c2, v, i2, hv, k2⟩ := int_ok i1 [0, 1, 128, 255] (by decide) (by decide)
    exact ⟨c2, _, i2, by simp, l1Bent_c cs c1 c2 b v hb (by simp at hv; omega) k1 k2⟩
  · exact ⟨c1, b, i1, by omega, l1Bent_d cs c1 b x hb (by omega) k1⟩
end Go.Proofs.Ytgcnbfplihjelaa
