/- Contracts of functions of the program: no statement of the seat is proved here. Each under the conditions that stand in it. -/
import Derived.Test.YtigkmijoefibiaaGreatM12
import Derived.Test.YtigkmijoefibiaaGreatFg
set_option linter.all false
namespace Go.Proofs.YtigkmijoefibiaaGreat
open Go.Vs Go.Proofs
theorem rows_ok {cs : List AV} (hc : IsC cs) : ∃ (cs' : List AV) (l : List TEnt), IsC cs' ∧ l.length + sumN TEnt.size l ≤ 300 ∧ (l = [] ∨ vTab l = true) ∧ FO 131 [O (.own cs)] [O (.own cs')] (Tl true l) := by
  obtain ⟨c1, x, i1, hx, -, k1⟩ := below_ok hc 6
  have hx := hx (by omega)
  obtain ⟨k, rfl⟩ : ∃ k : Nat, x = k := ⟨x.toNat, by omega⟩
  obtain ⟨C, X, h0, h⟩ := draws (σ := List AV × List TEnt) (χ := ByteArray × Int × List AV) (P := fun s => IsC s.1) (R := fun s x s' => s'.2 = (putTe s.2 (pN x.1) x.2.1).1 ∧ FO 200 [O (.own s.1)] [O (.own x.2.2)] (A (Name.c false (pN x.1))) ∧ FO 90 [O (.own x.2.2), I 6] [O (.own s'.1), I 6] (I x.2.1)) (fun s hs => by
    obtain ⟨c, v, a, -, d⟩ := name15_ok hs
    obtain ⟨c2, y, a2, -, -, d2⟩ := below_ok a 6
    exact ⟨(c2, (putTe s.2 (pN v) y).1), (v, y, c), a2, rfl, d, d2⟩) (c1, []) i1
  have hsz : ∀ j, (C j).2.length + sumN TEnt.size (C j).2 ≤ 55 * j := by
    intro j
    induction j with
    | zero => rw [h0]; simp [sumN]
    | succ j ih =>
      rw [(h j).2.1]
      have h1 := putO_size (C j).2 (pN (X j).1) (X j).2.1
      have h2 := pN_sz (X j).1
      unfold putTe
      split
      · show (putO _ _ _).length + sumN TEnt.size (putO _ _ _) ≤ _
        omega
      · show (C j).2.length + sumN TEnt.size (C j).2 ≤ _
        omega
  have hv : ∀ j, (C j).2 = [] ∨ vTab (C j).2 = true := by
    intro j
    induction j with
    | zero => rw [h0]; exact .inl rfl
    | succ j ih =>
      rw [(h j).2.1]
      unfold putTe
      split
      · rename_i hh; exact .inr hh
      · exact ih
  have := hsz k
  exact ⟨_, (C k).2, (h k).1, by omega, hv k, l20Rows0 cs (fun j => (C j).1) (fun j => (X j).2.2) (fun j => (C j).2) (fun j => (X j).1) (fun j => (X j).2.1) k (by omega) (by simp only [h0]) (fun j => (h j).2.1) hsz (by simp only [h0]; exact k1) (fun j => (h j).2.2.1) (fun j => (h j).2.2.2)⟩
/-- One draw of a link. -/
def StepN (a b : Nat) (s s' : List AV × List Link) : Prop :=
  (b = a + 1 ∧ FO 133 [O (.own s.1), I 5] [O (.own s'.1), I 5] (B false) ∧ s'.2 = s.2 ++ [⟨(a : Int), (b : Int)⟩]) ∨
  (b = a + 1 ∧ ∃ c w, FO 133 [O (.own s.1), I 5] [O (.own c), I 5] (B true) ∧ FO 133 [O (.own c), I 4] [O (.own s'.1), I 4] (B w) ∧ s'.2 = if w = true then s.2 ++ [⟨(a : Int), (b : Int)⟩] else s.2) ∨
  (b ≠ a + 1 ∧ ∃ w, FO 133 [O (.own s.1), I 4] [O (.own s'.1), I 4] (B w) ∧ s'.2 = if w = true then s.2 ++ [⟨(a : Int), (b : Int)⟩] else s.2)
theorem stepN_ok (a b : Nat) {s : List AV × List Link} (hc : IsC s.1) : ∃ s' : List AV × List Link, IsC s'.1 ∧ StepN a b s s' := by
  by_cases hb : b = a + 1
  · obtain ⟨c, v, i, k⟩ := once_ok hc 5
    cases v with
    | false => exact ⟨(c, s.2 ++ [⟨(a : Int), (b : Int)⟩]), i, .inl ⟨hb, k, rfl⟩⟩
    | true =>
      obtain ⟨c2, w, i2, k2⟩ := once_ok i 4
      exact ⟨(c2, if w = true then s.2 ++ [⟨(a : Int), (b : Int)⟩] else s.2), i2, .inr (.inl ⟨hb, c, w, k, k2, rfl⟩)⟩
  · obtain ⟨c2, w, i2, k2⟩ := once_ok hc 4
    exact ⟨(c2, if w = true then s.2 ++ [⟨(a : Int), (b : Int)⟩] else s.2), i2, .inr (.inr ⟨hb, w, k2, rfl⟩)⟩
theorem stepN_len {a b : Nat} {s s' : List AV × List Link} (h : StepN a b s s') : s'.2.length ≤ s.2.length + 1 := by
  rcases h with ⟨-, -, h⟩ | ⟨-, c, w, -, -, h⟩ | ⟨-, w, -, h⟩ <;> rw [h]
  · simp
  · split <;> simp
  · split <;> simp
theorem is172 : FI 172 Tryz.f172 := ⟨⟨Tryz.f172, Tryz.func172, rfl, rfl, rfl, rfl⟩, rfl⟩
set_option maxRecDepth 20000 in
set_option maxHeartbeats 16000000 in
theorem l19Net0 (cs c1 : List AV) (x : Int) (N : Nat) (Z : Nat → List AV × List Link) (D : Nat → Nat → List AV × List Link) (hx : 2 + x = (N : Int)) (hN : 2 ≤ N ∧ N ≤ 6) (h0 : Z 0 = (c1, [])) (hD : ∀ a, D a (a + 1) = Z a ∧ D a N = Z (a + 1)) (hs : ∀ a b, a < b → StepN a b (D a b) (D a (b + 1))) (hlen : ∀ a b, a < b → b ≤ N → (D a b).2.length ≤ 100) (k1 : FO 90 [O (.own cs), I 5] [O (.own c1), I 5] (I x)) : FO 172 [O (.own cs)] [O (.own (Z N).1)] (A (Topo.c true ⟨(N : Int), (Z N).2⟩)) := by
  refine fok envOk mixed is172 ⟨rfl, rfl, ?_⟩
  have e1 : c1 = (Z 0).1 := by rw [h0]
  have e2 : (Z 0).2 = [] := by rw [h0]
  (repeat' ((conv => whnf); first | refine stp ?_ | refine Cl.mk (k1) ?_ | refine Cl.pre (by simp only [shcLL_ints, shcLL_byts, shcLL_strs, Adve.shcs, Data.shcs, Fetc.shcs, Gran.shcs, Keyy.shcs, Link.shcs, Mani.shcs, Name.shcs, Read.shcs, Rout.shcs, Segm.shcs, TEnt.shcs, Topo.shcs]; rfl) ?_))
  rw [hx, e1]
  refine Lp.mk [.sl 0, .ex 0, .bx 2, .sl 2, .bx 3, .sl 3, .sl 4] (fun m σ => ∃ a, a + m = N ∧ σ = [Rf 0 0, Ex 0 (O (.own (Z a).1)), Bx 2 ([cI 0, .sl true .isnil 0 []]), Pt 2, Bx 3 ([cI N, sl true 2 ((Z a).2.map (Link.c true))]), Pt 3, Sa 4 (I a)]) (N) _ (.cons (.refl _) (.cons (.refl _) (.cons (.refl _) (.cons (.refl _) (.cons (.keep (.nils .nil)) (.cons (.refl _) (.cons (.refl _) .nil))))))) ⟨0, by simp, (by first | rfl | (simp only [zlen, zsum, Nat.zero_mul, Int.add_zero, Int.sub_zero, List.nil_append, markG, e2]; rfl))⟩ ?_
  rintro m τ ⟨a, ha, rfl⟩
  refine Br.dec (fun h => ?_) (fun h => ?_)
  · have haN : a < N := by omega
    obtain ⟨d1, d2⟩ := hD a
    (repeat' ((conv => whnf); first | refine stp ?_ ))
    rw [← d1]
    refine Lp.mk [.sl 0, .ex 0, .bx 2, .sl 2, .bx 3, .sl 3, .sl 4, .sl 5] (fun m σ => ∃ b, a < b ∧ b + m = N ∧ σ = [Rf 0 0, Ex 0 (O (.own (D a b).1)), Bx 2 ([cI 0, .sl true .isnil 0 []]), Pt 2, Bx 3 ([cI N, sl true 2 ((D a b).2.map (Link.c true))]), Pt 3, Sa 4 (I a), Sa 5 (I b)]) (N - (a + 1)) _ (WkS.weak _ _) ⟨a + 1, by omega, by omega, (by first | rfl | (simp only [zlen, zsum, Nat.zero_mul, Int.add_zero, Int.sub_zero, List.nil_append, markG]; rfl))⟩ ?_
    rintro m2 τ ⟨b, hab, hb, rfl⟩
    have hst := hs a b hab
    have hl := hlen a b (by omega) (by omega)
    refine Br.dec (fun h2 => ?_) (fun h2 => ?_)
    · have hbN : b < N := by omega
      rcases hst with ⟨hb1, q1, e5⟩ | ⟨hb1, c, w, q1, q2, e5⟩ | ⟨hb1, w, q2, e5⟩
      · have f1 : ((b : Int) == (a : Int) + 1) = true := by simp; omega
        (repeat' ((conv => whnf); first | refine stp ?_ | refine Cl.mk (q1) ?_ | refine Rq.mk (by simp; omega) ?_ | refine Cl.pre (by simp only [shcLL_ints, shcLL_byts, shcLL_strs, Adve.shcs, Data.shcs, Fetc.shcs, Gran.shcs, Keyy.shcs, Link.shcs, Mani.shcs, Name.shcs, Read.shcs, Rout.shcs, Segm.shcs, TEnt.shcs, Topo.shcs]; rfl) ?_))
        refine Nx.intro (m2 - 1) (by omega) _ (WkS.weak _ _) ⟨b + 1, by omega, by omega, ?_⟩
        rw [e5]
        (repeat' (first | exact rfl | refine consE ?_ ?_ | refine entE ?_ | refine vI ?_ | refine vS ?_ | refine vT ?_ | refine vB ?_))
        simp
      · have f1 : ((b : Int) == (a : Int) + 1) = true := by simp; omega
        cases w with
        | true =>
          (repeat' ((conv => whnf); first | refine stp ?_ | refine Cl.mk (q1) ?_ | refine Cl.mk (q2) ?_ | refine Rq.mk (by simp; omega) ?_ | refine Cl.pre (by simp only [shcLL_ints, shcLL_byts, shcLL_strs, Adve.shcs, Data.shcs, Fetc.shcs, Gran.shcs, Keyy.shcs, Link.shcs, Mani.shcs, Name.shcs, Read.shcs, Rout.shcs, Segm.shcs, TEnt.shcs, Topo.shcs]; rfl) ?_))
          refine Nx.intro (m2 - 1) (by omega) _ (WkS.weak _ _) ⟨b + 1, by omega, by omega, ?_⟩
          rw [e5]
          (repeat' (first | exact rfl | refine consE ?_ ?_ | refine entE ?_ | refine vI ?_ | refine vS ?_ | refine vT ?_ | refine vB ?_))
          simp
        | false =>
          (repeat' ((conv => whnf); first | refine stp ?_ | refine Cl.mk (q1) ?_ | refine Cl.mk (q2) ?_ | refine Cl.pre (by simp only [shcLL_ints, shcLL_byts, shcLL_strs, Adve.shcs, Data.shcs, Fetc.shcs, Gran.shcs, Keyy.shcs, Link.shcs, Mani.shcs, Name.shcs, Read.shcs, Rout.shcs, Segm.shcs, TEnt.shcs, Topo.shcs]; rfl) ?_))
          refine Nx.intro (m2 - 1) (by omega) _ (WkS.weak _ _) ⟨b + 1, by omega, by omega, ?_⟩
          rw [e5]
          (repeat' (first | exact rfl | refine consE ?_ ?_ | refine entE ?_ | refine vI ?_ | refine vS ?_ | refine vT ?_ | refine vB ?_))
      · have f1 : ((b : Int) == (a : Int) + 1) = false := by simp; omega
        cases w with
        | true =>
          (repeat' ((conv => whnf); first | refine stp ?_ | refine Cl.mk (q2) ?_ | refine Rq.mk (by simp; omega) ?_ | refine Cl.pre (by simp only [shcLL_ints, shcLL_byts, shcLL_strs, Adve.shcs, Data.shcs, Fetc.shcs, Gran.shcs, Keyy.shcs, Link.shcs, Mani.shcs, Name.shcs, Read.shcs, Rout.shcs, Segm.shcs, TEnt.shcs, Topo.shcs]; rfl) ?_))
          refine Nx.intro (m2 - 1) (by omega) _ (WkS.weak _ _) ⟨b + 1, by omega, by omega, ?_⟩
          rw [e5]
          (repeat' (first | exact rfl | refine consE ?_ ?_ | refine entE ?_ | refine vI ?_ | refine vS ?_ | refine vT ?_ | refine vB ?_))
          simp
        | false =>
          (repeat' ((conv => whnf); first | refine stp ?_ | refine Cl.mk (q2) ?_ | refine Cl.pre (by simp only [shcLL_ints, shcLL_byts, shcLL_strs, Adve.shcs, Data.shcs, Fetc.shcs, Gran.shcs, Keyy.shcs, Link.shcs, Mani.shcs, Name.shcs, Read.shcs, Rout.shcs, Segm.shcs, TEnt.shcs, Topo.shcs]; rfl) ?_))
          refine Nx.intro (m2 - 1) (by omega) _ (WkS.weak _ _) ⟨b + 1, by omega, by omega, ?_⟩
          rw [e5]
          (repeat' (first | exact rfl | refine consE ?_ ?_ | refine entE ?_ | refine vI ?_ | refine vS ?_ | refine vT ?_ | refine vB ?_))
    · obtain rfl : b = N := by omega
      rw [d2]
      (repeat' ((conv => whnf); first | refine stp ?_ ))
      refine Nx.intro (m - 1) (by omega) _ (WkS.weak _ _) ⟨a + 1, by omega, ?_⟩
      (repeat' (first | exact rfl | refine consE ?_ ?_ | refine entE ?_ | refine vI ?_ | refine vS ?_ | refine vT ?_ | refine vB ?_))
  · obtain rfl : a = N := by omega
    (repeat' ((conv => whnf); first | refine stp ?_ ))
    exact Vs.Fin.mk (WkR.refl _) (.refl _)
theorem net_ok {cs : List AV} (hc : IsC cs) : ∃ (cs' : List AV) (n : Topo), IsC cs' ∧ n.links.length ≤ 100 ∧ (2 ≤ n.nodes ∧ n.nodes ≤ 6) ∧ FO 172 [O (.own cs)] [O (.own cs')] (A (Topo.c true n)) := by
  obtain ⟨c1, x, i1, hx, -, k1⟩ := below_ok hc 5
  have hx := hx (by omega)
  obtain ⟨N, hN⟩ : ∃ N : Nat, 2 + x = N := ⟨(2 + x).toNat, by omega⟩
  obtain ⟨Z, D, h0, h⟩ := draws (σ := (List AV × List Link) × Nat) (χ := Nat → List AV × List Link) (P := fun s => IsC s.1.1) (R := fun s D s' => s'.2 = s.2 + 1 ∧ D (s.2 + 1) = s.1 ∧ D N = s'.1 ∧ ∀ b, s.2 < b → StepN s.2 b (D b) (D (b + 1))) (fun s hs => by
    obtain ⟨C, X, g0, g⟩ := draws (σ := (List AV × List Link) × Nat) (χ := Unit) (P := fun t => IsC t.1.1) (R := fun t _ t' => t'.2 = t.2 + 1 ∧ StepN s.2 t.2 t.1 t'.1) (fun t ht => by
      obtain ⟨u, a, b⟩ := stepN_ok s.2 t.2 ht
      exact ⟨(u, t.2 + 1), (), a, rfl, b⟩) (s.1, s.2 + 1) hs
    have hix : ∀ j, (C j).2 = s.2 + 1 + j := by
      intro j
      induction j with
      | zero => rw [g0]
      | succ j ih => rw [(g j).2.1, ih]; omega
    refine ⟨((C (N - (s.2 + 1))).1, s.2 + 1), fun b => (C (b - (s.2 + 1))).1, (g _).1, rfl, ?_, rfl, ?_⟩
    · show (C (s.2 + 1 - (s.2 + 1))).1 = s.1
      rw [Nat.sub_self, g0]
    · intro b hb
      have h1 := (g (b - (s.2 + 1))).2.2
      rw [hix, show s.2 + 1 + (b - (s.2 + 1)) = b by omega, show b - (s.2 + 1) + 1 = b + 1 - (s.2 + 1) by omega] at h1
      exact h1) ((c1, []), 0) i1
  have hix : ∀ j, (Z j).2 = j := by
    intro j
    induction j with
    | zero => rw [h0]
    | succ j ih => rw [(h j).2.1, ih]
  have hD1 : ∀ a, D a (a + 1) = (Z a).1 := fun a => by have := (h a).2.2.1; rwa [hix] at this
  have hD2 : ∀ a, D a N = (Z (a + 1)).1 := fun a => (h a).2.2.2.1
  have hS : ∀ a b, a < b → StepN a b (D a b) (D a (b + 1)) := fun a b hb => by have := (h a).2.2.2.2 b (by rw [hix]; exact hb); rwa [hix] at this
  have hin : ∀ a j, (D a (a + 1 + j)).2.length ≤ (Z a).1.2.length + j := by
    intro a j
    induction j with
    | zero => rw [Nat.add_zero, hD1]; omega
    | succ j ih =>
      have := stepN_len (hS a (a + 1 + j) (by omega))
      rw [show a + 1 + (j + 1) = a + 1 + j + 1 by omega]; omega
  have hZ : ∀ a, a < N → (Z (a + 1)).1.2.length ≤ (Z a).1.2.length + 6 := by
    intro a ha
    have := hin a (N - (a + 1))
    rw [show a + 1 + (N - (a + 1)) = N by omega, hD2] at this
    omega
  have hZL : ∀ a, a ≤ N → (Z a).1.2.length ≤ 6 * a := by
    intro a
    induction a with
    | zero => intro _; rw [h0]; simp
    | succ a ih => intro ha; have := hZ a (by omega); have := ih (by omega); omega
  have hlast := hZL N (Nat.le_refl _)
  have hlen : ∀ a b, a < b → b ≤ N → (D a b).2.length ≤ 100 := by
    intro a b hab hb
    have h1 := hin a (b - (a + 1))
    rw [show a + 1 + (b - (a + 1)) = b by omega] at h1
    have h2 := hZL a (by omega)
    omega
  exact ⟨_, ⟨(N : Int), (Z N).1.2⟩, (h N).1, by show (Z N).1.2.length ≤ 100; omega, by show (2 : Int) ≤ N ∧ (N : Int) ≤ 6; omega,
    l19Net0 cs c1 x N (fun a => (Z a).1) D hN (by omega) (by simp only [h0]) (fun a => ⟨hD1 a, hD2 a⟩) hS hlen k1⟩
end Go.Proofs.YtigkmijoefibiaaGreat
