/- Contracts of functions of the program: no statement of the seat is proved here. Each under the conditions that stand in it. -/
import Derived.Test.YtlibidbpgnpdjaaEd
import Derived.Test.YtlibidbpgnpdjaaM6
import Derived.Test.YtlibidbpgnpdjaaDk
import Derived.Test.YtlibidbpgnpdjaaM7
set_option linter.all false
namespace Go.Proofs.Ytlibidbpgnpdjaa
open Go.Vs Go.Proofs
abbrev LII (l : List Adve) (a b : Int) : Arg := (.tup [(false, 1), (false, 1), (false, 1)], [sl false 4 (l.map (Adve.c false)), cI a, cI b])
theorem sh_Ad20 {f : Nat} {args outs : List Arg} {l : List Adve} (h : FO f args outs (Ads l)) : FO f args outs (Al l) := by
  have := FOk.wk (res' := (.one, shcL [sl true 4 (l.map (Adve.c false))])) h (.refl _) (.refl _) ⟨rfl, .inr (WkL.refl _)⟩
  simpa [shcL, Vs.shc, shcLL_Ad] using this
theorem advs_small {n : Topo} {rows : List TEnt} {ver : Int} (hz : rows.length + sumN TEnt.size rows ≤ 300) : (advs n rows ver).length + sumN Adve.size (advs n rows ver) ≤ 2000 := by
  unfold advs
  split
  · rename_i h
    have h1 : vTopo n = true := by simp_all
    have hs2 : 1 ≤ n.nodes ∧ n.nodes ≤ 6 := by simp [vTopo, inR_t] at h1; omega
    have h2 := advT_size n rows ver n.nodes.toNat
    have h3 : n.nodes.toNat * (10 + sumN TEnt.size rows) ≤ 6 * (10 + sumN TEnt.size rows) := Nat.mul_le_mul_right _ (by omega)
    rw [advT_len]; omega
  · simp [sumN]
theorem is63 : FI 63 Try.f63 := ⟨⟨Try.f63, Try.func63, rfl, rfl, rfl, rfl⟩, rfl⟩
set_option maxRecDepth 20000 in
set_option maxHeartbeats 16000000 in
theorem l21Db0 (cs c1 c2 : List AV) (l : List Adve) (k1 : FO 78 [O (.own cs), I 3] [O (.own c1), I 3] (B true)) (k2 : FO 79 [O (.own c1)] [O (.own c2)] (Ads l)) : FO 63 [O (.own cs)] [O (.own c2)] (Al l) := by
  refine fok envOk mixed is63 ⟨rfl, rfl, ?_⟩
  have k2 := sh_Ad20 k2
  (repeat' ((conv => whnf); first | refine Br.tt ?_ | refine Br.ff ?_ | refine Br.pos (by assumption) ?_ | refine Br.neg (by assumption) ?_ | refine Br.bself ?_ | refine Br.dself ?_ | refine Br.iself ?_ | refine Nm.mk lenC ?_ | refine Nm.mk (wrapI (by (first | omega | (simp [inR_t, inR_f] at *; omega))) (by (first | omega | (simp [inR_t, inR_f] at *; omega)))) ?_ | refine Nm.mk (wrapQ (by (first | omega | (simp [inR_t, inR_f] at *; omega))) (by (first | omega | (simp [inR_t, inR_f] at *; omega))) (by (first | omega | (simp [inR_t, inR_f] at *; omega)))) ?_ | refine Nm.mk (tmodN (by (first | omega | (simp [inR_t, inR_f] at *; omega)))) ?_ | refine Nm.mk (szS _) ?_ | refine Nm.mk (mi_eq _ _) ?_ | refine Nm.mk (ma_eq _ _) ?_ | refine Rq.mk (by first | (simp [dOwnL, dOwn] <;> fail) | (first | omega | (simp [inR_t, inR_f] at *; omega))) ?_ | refine And.intro (orderFast (by kernel_rfl)) ?_ | refine And.intro (by kernel_rfl) ?_ | refine Cl.mk (k1) ?_ | refine Cl.mk (k2) ?_ | refine Cl.pre (by simp only [shcLL_ints, shcLL_byts, shcLL_strs, Adve.shcs, Data.shcs, Fetc.shcs, Gran.shcs, Keyy.shcs, Link.shcs, Mani.shcs, Name.shcs, Read.shcs, Rout.shcs, Segm.shcs, TEnt.shcs, Topo.shcs]; rfl) ?_))
  exact Vs.Fin.mk (WkR.refl _) (.refl _)
set_option maxRecDepth 20000 in
set_option maxHeartbeats 16000000 in
theorem l21Db1 (cs c1 c2 c3 : List AV) (n : Topo) (rows : List TEnt) (hn : n.links.length ≤ 100) (hr : rows.length + sumN TEnt.size rows ≤ 300) (k1 : FO 78 [O (.own cs), I 3] [O (.own c1), I 3] (B false)) (k2 : FO 80 [O (.own c1)] [O (.own c2)] (A (Topo.c true n))) (k3 : FO 82 [O (.own c2)] [O (.own c3)] (Tl true rows)) : FO 63 [O (.own cs)] [O (.own c3)] (Al (advs n rows 1)) := by
  refine fok envOk mixed is63 ⟨rfl, rfl, ?_⟩
  have k4 := s_AdvertisementsOf n rows 1 (by omega) (by omega)
  (repeat' ((conv => whnf); first | refine Br.tt ?_ | refine Br.ff ?_ | refine Br.pos (by assumption) ?_ | refine Br.neg (by assumption) ?_ | refine Br.bself ?_ | refine Br.dself ?_ | refine Br.iself ?_ | refine Nm.mk lenC ?_ | refine Nm.mk (wrapI (by (first | omega | (simp [inR_t, inR_f] at *; omega))) (by (first | omega | (simp [inR_t, inR_f] at *; omega)))) ?_ | refine Nm.mk (wrapQ (by (first | omega | (simp [inR_t, inR_f] at *; omega))) (by (first | omega | (simp [inR_t, inR_f] at *; omega))) (by (first | omega | (simp [inR_t, inR_f] at *; omega)))) ?_ | refine Nm.mk (tmodN (by (first | omega | (simp [inR_t, inR_f] at *; omega)))) ?_ | refine Nm.mk (szS _) ?_ | refine Nm.mk (mi_eq _ _) ?_ | refine Nm.mk (ma_eq _ _) ?_ | refine Rq.mk (by first | (simp [dOwnL, dOwn] <;> fail) | (first | omega | (simp [inR_t, inR_f] at *; omega))) ?_ | refine And.intro (orderFast (by kernel_rfl)) ?_ | refine And.intro (by kernel_rfl) ?_ | refine Cl.mk (k1) ?_ | refine Cl.mk (k2) ?_ | refine Cl.mk (k3) ?_ | refine Cl.eq k4 (congrArg (fun z => [A (Topo.c false n), O (.sl false .unk 2 z), I 1]) (shcLL_T rows)) ?_ | refine Cl.pre (by simp only [shcLL_ints, shcLL_byts, shcLL_strs, Adve.shcs, Data.shcs, Fetc.shcs, Gran.shcs, Keyy.shcs, Link.shcs, Mani.shcs, Name.shcs, Read.shcs, Rout.shcs, Segm.shcs, TEnt.shcs, Topo.shcs]; rfl) ?_))
  exact Vs.Fin.mk ⟨rfl, .inr (.sl1 (Adve.shcs _) .nil)⟩ (.refl _)
theorem db21_ok {cs : List AV} (hc : IsC cs) : ∃ (cs' : List AV) (l : List Adve), IsC cs' ∧ l.length + sumN Adve.size l ≤ 2000 ∧ FO 63 [O (.own cs)] [O (.own cs')] (Al l) := by
  obtain ⟨c1, b, i1, k1⟩ := once_ok hc 3
  cases b with
  | true =>
    obtain ⟨c2, l, i2, -, hz, k2⟩ := db20_ok i1
    exact ⟨c2, l, i2, hz, l21Db0 cs c1 c2 l k1 k2⟩
  | false =>
    obtain ⟨c2, n, i2, hn, -, k2⟩ := net_ok i1
    obtain ⟨c3, r, i3, hr, -, k3⟩ := rows_ok i2
    exact ⟨c3, _, i3, advs_small hr, l21Db1 cs c1 c2 c3 n r hn hr k1 k2 k3⟩
theorem is42 : FI 42 Try.f42 := ⟨⟨Try.f42, Try.func42, rfl, rfl, rfl, rfl⟩, rfl⟩
set_option maxRecDepth 20000 in
set_option maxHeartbeats 16000000 in
theorem l21Two0 (code : List UInt8) (c0 c1 c2 c3 : List AV) (l : List Adve) (a b : Int) (hb : 0 ≤ b ∧ b < 8) (k0 : FO 62 [Ys false code] [Ys false code] (O (.own c0))) (k1 : FO 63 [O (.own c0)] [O (.own c1)] (Al l)) (k2 : FO 64 [O (.own c1), I 7] [O (.own c2), I 7] (I a)) (k3 : FO 64 [O (.own c2), I 8] [O (.own c3), I 8] (I b)) : FO 42 [Ys false code] [Ys false code] (LII l a (b - 1)) := by
  refine fok envOk mixed is42 ⟨rfl, rfl, ?_⟩
  (repeat' ((conv => whnf); first | refine Br.tt ?_ | refine Br.ff ?_ | refine Br.pos (by assumption) ?_ | refine Br.neg (by assumption) ?_ | refine Br.bself ?_ | refine Br.dself ?_ | refine Br.iself ?_ | refine Nm.mk lenC ?_ | refine Nm.mk (wrapI (by (first | omega | (simp [inR_t, inR_f] at *; omega))) (by (first | omega | (simp [inR_t, inR_f] at *; omega)))) ?_ | refine Nm.mk (wrapQ (by (first | omega | (simp [inR_t, inR_f] at *; omega))) (by (first | omega | (simp [inR_t, inR_f] at *; omega))) (by (first | omega | (simp [inR_t, inR_f] at *; omega)))) ?_ | refine Nm.mk (tmodN (by (first | omega | (simp [inR_t, inR_f] at *; omega)))) ?_ | refine Nm.mk (szS _) ?_ | refine Nm.mk (mi_eq _ _) ?_ | refine Nm.mk (ma_eq _ _) ?_ | refine Rq.mk (by first | (simp [dOwnL, dOwn] <;> fail) | (first | omega | (simp [inR_t, inR_f] at *; omega))) ?_ | refine And.intro (orderFast (by kernel_rfl)) ?_ | refine And.intro (by kernel_rfl) ?_ | refine Cl.mk (k0) ?_ | refine Cl.mk (k1) ?_ | refine Cl.mk (k2) ?_ | refine Cl.mk (k3) ?_ | refine Cl.pre (by simp only [shcLL_ints, shcLL_byts, shcLL_strs, Adve.shcs, Data.shcs, Fetc.shcs, Gran.shcs, Keyy.shcs, Link.shcs, Mani.shcs, Name.shcs, Read.shcs, Rout.shcs, Segm.shcs, TEnt.shcs, Topo.shcs]; rfl) ?_))
  exact Vs.Fin.mk (WkR.refl _) (.refl _)
theorem is14 : FI 14 Try.f14 := ⟨⟨Try.f14, Try.func14, rfl, rfl, rfl, rfl⟩, rfl⟩
set_option maxRecDepth 20000 in
set_option maxHeartbeats 16000000 in
theorem DDist0 (code : List UInt8) (l : List Adve) (a b : Int) (k : FO 42 [Ys false code] [Ys false code] (LII l a b)) : FO 14 [Ys false code] [Ys false code] (LII l a b) := by
  refine fok envOk mixed is14 ⟨rfl, rfl, ?_⟩
  (repeat' ((conv => whnf); first | refine Br.tt ?_ | refine Br.ff ?_ | refine Br.pos (by assumption) ?_ | refine Br.neg (by assumption) ?_ | refine Br.bself ?_ | refine Br.dself ?_ | refine Br.iself ?_ | refine Nm.mk lenC ?_ | refine Nm.mk (wrapI (by (first | omega | (simp [inR_t, inR_f] at *; omega))) (by (first | omega | (simp [inR_t, inR_f] at *; omega)))) ?_ | refine Nm.mk (wrapQ (by (first | omega | (simp [inR_t, inR_f] at *; omega))) (by (first | omega | (simp [inR_t, inR_f] at *; omega))) (by (first | omega | (simp [inR_t, inR_f] at *; omega)))) ?_ | refine Nm.mk (tmodN (by (first | omega | (simp [inR_t, inR_f] at *; omega)))) ?_ | refine Nm.mk (szS _) ?_ | refine Nm.mk (mi_eq _ _) ?_ | refine Nm.mk (ma_eq _ _) ?_ | refine Rq.mk (by first | (simp [dOwnL, dOwn] <;> fail) | (first | omega | (simp [inR_t, inR_f] at *; omega))) ?_ | refine And.intro (orderFast (by kernel_rfl)) ?_ | refine And.intro (by kernel_rfl) ?_ | refine Cl.mk (k) ?_ | refine Cl.pre (by simp only [shcLL_ints, shcLL_byts, shcLL_strs, Adve.shcs, Data.shcs, Fetc.shcs, Gran.shcs, Keyy.shcs, Link.shcs, Mani.shcs, Name.shcs, Read.shcs, Rout.shcs, Segm.shcs, TEnt.shcs, Topo.shcs]; rfl) ?_))
  exact Vs.Fin.mk (WkR.refl _) (.refl _)
theorem DDist_ok (code : List UInt8) (hl : code.length ≤ 1048576) : ∃ (l : List Adve) (a b : Int), l.length + sumN Adve.size l ≤ 2000 ∧ (0 ≤ a ∧ a < 7) ∧ (-1 ≤ b ∧ b < 7) ∧ FO 14 [Ys false code] [Ys false code] (LII l a b) := by
  obtain ⟨c0, i0, k0⟩ := new_ok code hl
  obtain ⟨c1, l, i1, hz, k1⟩ := db21_ok i0
  obtain ⟨c2, a, i2, ha, -, k2⟩ := below_ok i1 7
  have ha := ha (by omega)
  obtain ⟨c3, b, i3, hb, -, k3⟩ := below_ok i2 8
  have hb := hb (by omega)
  exact ⟨l, a, b - 1, hz, ha, by omega, DDist0 code l a (b - 1) (l21Two0 code c0 c1 c2 c3 l a b hb k0 k1 k2 k3)⟩
theorem is4 : FI 4 Try.f4 := ⟨⟨Try.f4, Try.func4, rfl, rfl, rfl, rfl⟩, rfl⟩
set_option maxRecDepth 20000 in
set_option maxHeartbeats 16000000 in
theorem ex0Dists (code : List UInt8) (hl : code.length ≤ 1048576) (l : List Adve) (a b : Int) (hz : l.length + sumN Adve.size l ≤ 2000) (ha : 0 ≤ a ∧ a < 7) (hb : -1 ≤ b ∧ b < 7) (k1 : FO 14 [Ys false code] [Ys false code] (LII l a b)) : FO 4 [Ys false code] [Ys false code] (B true) := by
  refine fok envOk mixed is4 ⟨rfl, rfl, ?_⟩
  have hd := dAt_b l a b
  have hcl := cloT_len l a b 6
  have hmem : ∀ x ∈ cloT l a b 6, bidA l a x = true ∧ dAt l x b = dAt l a b - 1 := fun x hx => clo_mem hx
  have hpos : 0 < dAt l a b → cloT l a b 6 ≠ [] := clo_pos
  have hneg : ¬ 0 < dAt l a b → cloT l a b 6 = [] := clo_neg
  have hone : bidA l a b = true → a ≠ b → (0 ≤ a ∧ a ≤ 5) → (0 ≤ b ∧ b ≤ 5) → dAt l a b = 1 := bid_one
  have hsym : (0 ≤ a ∧ a ≤ 5) → (0 ≤ b ∧ b ≤ 5) → dAt l b a = dAt l a b := fun h1 h2 => (dAt_sym h1 h2).symm
  have hrc : (0 ≤ b ∧ b ≤ 5) → hasJ (reachL l a) b = decide (dAt l a b ≥ 0) := fun h => by
    rw [← hasI_reach l a b h]
    unfold hasJ hasI
    congr 1
  have c1 := i_Distance l a b (by omega)
  have c2 := s_Distance l a b (by omega)
  have c3 := i_Closer l a b (by omega)
  have c4 := s_Closer l a b (by omega)
  have c5 := i_Bid l a b (by omega)
  have c6 := s_Bid l a b (by omega)
  have c7 := i_Distances l a (by omega)
  have c8 := s_Distances l a (by omega)
  have c9 := i_Reachable l a (by omega)
  have c10 := s_Reachable l a (by omega)
  have c11 := i_Ecc l a (by omega)
  have c12 := s_Ecc l a (by omega)
  have c13 : (0 ≤ a ∧ a ≤ 5) → (0 ≤ b ∧ b ≤ 5) → FO 15 [Al l, I b, I a] [Al l, I b, I a] (I (dAt l a b)) := fun h1 h2 => by
    rw [← hsym h1 h2]; exact i_Distance l b a (by omega)
  have hrl : (reachL l a).length ≤ 6 := nnT_len _ 6
  have c14 : (0 ≤ b ∧ b ≤ 5) → FO 28 [Is false (reachL l a), I b] [Is false (reachL l a), I b] (B (decide (dAt l a b ≥ 0))) := fun h => by
    rw [← hrc h]; exact l_in (reachL l a) b (by omega)
  have hx : ∀ x ∈ cloT l a b 6, FO 15 [Al l, I x, I b] [Al l, I x, I b] (I (dAt l a b - 1)) ∧ FO 20 [Al l, I a, I x] [Al l, I a, I x] (B true) := fun x hx => by
    have h1 := i_Distance l x b (by omega)
    have h2 := i_Bid l a x (by omega)
    rw [(hmem x hx).2] at h1
    rw [(hmem x hx).1] at h2
    exact ⟨h1, h2⟩
  have hdl := distL_len l a
  clear hmem hsym hrc
  generalize distL l a = D at c7 c8 hdl
  generalize reachL l a = R at c9 c10 c14 hrl
  generalize cloT l a b 6 = CL at c3 c4 hcl hpos hneg hx
  generalize dAt l a b = n at c1 c2 c13 c14 hx hpos hneg hone hd
  generalize bidA l a b = bd at c5 c6 hone
  generalize eccL l a = ec at c11 c12
  (repeat' ((conv => whnf); first | refine Br.tt ?_ | refine Br.ff ?_ | refine Br.pos (by assumption) ?_ | refine Br.neg (by assumption) ?_ | refine Br.bself ?_ | refine Br.dself ?_ | refine Br.iself ?_ | refine Nm.mk lenC ?_ | refine Nm.mk (wrapI (by (first | omega | (simp [inR_t, inR_f] at *; omega))) (by (first | omega | (simp [inR_t, inR_f] at *; omega)))) ?_ | refine Nm.mk (wrapQ (by (first | omega | (simp [inR_t, inR_f] at *; omega))) (by (first | omega | (simp [inR_t, inR_f] at *; omega))) (by (first | omega | (simp [inR_t, inR_f] at *; omega)))) ?_ | refine Nm.mk (tmodN (by (first | omega | (simp [inR_t, inR_f] at *; omega)))) ?_ | refine Nm.mk (szS _) ?_ | refine Nm.mk (mi_eq _ _) ?_ | refine Nm.mk (ma_eq _ _) ?_ | refine Rq.mk (by first | (simp [dOwnL, dOwn] <;> fail) | (first | omega | (simp [inR_t, inR_f] at *; omega))) ?_ | refine And.intro (orderFast (by kernel_rfl)) ?_ | refine And.intro (by kernel_rfl) ?_ | refine Cl.mk (big_no code hl) ?_ | refine Cl.mk (k1) ?_ | refine Cl.mk (c1) ?_ | refine Cl.mk (c2) ?_ | refine Cl.mk (c3) ?_ | refine Cl.mk (c4) ?_ | refine Cl.mk (same_Ints CL (by omega)) ?_ | refine Cl.mk (c5) ?_ | refine Cl.mk (c6) ?_ | refine Cl.mk (c7) ?_ | refine Cl.mk (c8) ?_ | refine Cl.mk (same_Ints D (by omega)) ?_ | refine Cl.mk (c9) ?_ | refine Cl.mk (c10) ?_ | refine Cl.mk (same_Ints R (by omega)) ?_ | refine Cl.mk (c11) ?_ | refine Cl.mk (c12) ?_ | refine Cl.pre (by simp only [shcLL_ints, shcLL_byts, shcLL_strs, Adve.shcs, Data.shcs, Fetc.shcs, Gran.shcs, Keyy.shcs, Link.shcs, Mani.shcs, Name.shcs, Read.shcs, Rout.shcs, Segm.shcs, TEnt.shcs, Topo.shcs]; rfl) ?_))
  refine Lp.mk [.sl 3, .sl 4, .sl 5, .sl 6, .sl 7, .sl 8] (fun m σ => ∃ d r, CL = d ++ r ∧ m = r.length ∧ σ = [Sa 3 (Al l), Sa 4 (I a), Sa 5 (I b), Sa 6 (I n), Sa 7 (Is true CL), Sa 8 (I d.length)]) (CL.length) _ (WkS.weak _ _) ⟨[], CL, rfl, rfl, (by first | rfl | (simp only [zlen, zsum, Nat.zero_mul, Int.add_zero, Int.sub_zero, List.nil_append, markG]; rfl))⟩ ?_
  rintro m τ ⟨d, r, hC, rfl, rfl⟩
  have hy : CL.length = d.length + r.length := by rw [hC]; simp
  refine Nm.mk lenC ?_
  cases r with
  | cons x r =>
    obtain ⟨q1, q2⟩ := hx x (by rw [hC]; simp)
    simp at hy
    refine Br.pos (by simp; omega) ?_
    (repeat' ((conv => whnf); first | refine Br.tt ?_ | refine Br.ff ?_ | refine Br.pos (by assumption) ?_ | refine Br.neg (by assumption) ?_ | refine Br.bself ?_ | refine Br.dself ?_ | refine Br.iself ?_ | refine Nm.mk lenC ?_ | refine Nm.mk (wrapI (by (first | omega | (simp [inR_t, inR_f] at *; omega))) (by (first | omega | (simp [inR_t, inR_f] at *; omega)))) ?_ | refine Nm.mk (wrapQ (by (first | omega | (simp [inR_t, inR_f] at *; omega))) (by (first | omega | (simp [inR_t, inR_f] at *; omega))) (by (first | omega | (simp [inR_t, inR_f] at *; omega)))) ?_ | refine Nm.mk (tmodN (by (first | omega | (simp [inR_t, inR_f] at *; omega)))) ?_ | refine Nm.mk (szS _) ?_ | refine Nm.mk (mi_eq _ _) ?_ | refine Nm.mk (ma_eq _ _) ?_ | refine Rq.mk (by first | (simp [dOwnL, dOwn] <;> fail) | (first | omega | (simp [inR_t, inR_f] at *; omega))) ?_ | refine And.intro (orderFast (by kernel_rfl)) ?_ | refine And.intro (by kernel_rfl) ?_ | refine El.mk (getH hC rfl) ?_ | refine Cl.mk (q1) ?_ | refine Cl.mk (q2) ?_ | refine Cl.pre (by simp only [shcLL_ints, shcLL_byts, shcLL_strs, Adve.shcs, Data.shcs, Fetc.shcs, Gran.shcs, Keyy.shcs, Link.shcs, Mani.shcs, Name.shcs, Read.shcs, Rout.shcs, Segm.shcs, TEnt.shcs, Topo.shcs]; rfl) ?_))
    refine Nx.intro r.length (by simp) _ (WkS.weak _ _) ⟨d ++ [x], r, by simp [hC], rfl, ?_⟩
    (repeat' (first | exact rfl | refine consE ?_ ?_ | refine entE ?_ | refine vI ?_ | refine vS ?_ | refine vT ?_ | refine vB ?_))
    simp
  | nil =>
    refine Br.neg (by simp at *; omega) ?_
    have hlen0 : 0 < n → ((CL.length : Int) == 0) = false := fun h => by
      have := hpos h
      cases CL with
      | nil => exact absurd rfl this
      | cons y l => simp; omega
    have hlen1 : ¬ 0 < n → decide ((CL.length : Int) > 0) = false := fun h => by rw [hneg h]; rfl
    have fnn : (n == n) = true := by simp
    by_cases hr : (0 ≤ a ∧ a ≤ 5) ∧ (0 ≤ b ∧ b ≤ 5)
    · have c13 := c13 hr.1 hr.2
      have c14 := c14 hr.2
      have hone := fun h1 h2 => hone h1 h2 hr.1 hr.2
      have g1 : decide (a < 0) = false := by simp; omega
      have g2 : decide (a ≥ 6) = false := by simp; omega
      have g3 : decide (b < 0) = false := by simp; omega
      have g4 : decide (b ≥ 6) = false := by simp; omega
      have g5 : decide (b ≥ 0) = true := by simp; omega
      have g6 : decide (b < 6) = true := by simp; omega
      have g7 : decide (a < 6) = true := by simp; omega
      by_cases hn : 0 < n
      · have f1 : decide (n > 0) = true := by simp; omega
        have f2 := hlen0 hn
        have f3 : decide (n ≤ 0) = false := by simp; omega
        cases bd with
        | false =>
          (repeat' ((conv => whnf); first | refine Br.tt ?_ | refine Br.ff ?_ | refine Br.pos (by assumption) ?_ | refine Br.neg (by assumption) ?_ | refine Br.bself ?_ | refine Br.dself ?_ | refine Br.iself ?_ | refine Nm.mk lenC ?_ | refine Nm.mk (wrapI (by (first | omega | (simp [inR_t, inR_f] at *; omega))) (by (first | omega | (simp [inR_t, inR_f] at *; omega)))) ?_ | refine Nm.mk (wrapQ (by (first | omega | (simp [inR_t, inR_f] at *; omega))) (by (first | omega | (simp [inR_t, inR_f] at *; omega))) (by (first | omega | (simp [inR_t, inR_f] at *; omega)))) ?_ | refine Nm.mk (tmodN (by (first | omega | (simp [inR_t, inR_f] at *; omega)))) ?_ | refine Nm.mk (szS _) ?_ | refine Nm.mk (mi_eq _ _) ?_ | refine Nm.mk (ma_eq _ _) ?_ | refine Rq.mk (by first | (simp [dOwnL, dOwn] <;> fail) | (first | omega | (simp [inR_t, inR_f] at *; omega))) ?_ | refine And.intro (orderFast (by kernel_rfl)) ?_ | refine And.intro (by kernel_rfl) ?_ | refine Cl.mk (c5) ?_ | refine Cl.mk (c13) ?_ | refine Cl.mk (c9) ?_ | refine Cl.mk (c14) ?_ | refine Cl.pre (by simp only [shcLL_ints, shcLL_byts, shcLL_strs, Adve.shcs, Data.shcs, Fetc.shcs, Gran.shcs, Keyy.shcs, Link.shcs, Mani.shcs, Name.shcs, Read.shcs, Rout.shcs, Segm.shcs, TEnt.shcs, Topo.shcs]; rfl) ?_))
          all_goals (refine Vs.Fin.mk (WkR.eq ?_) (.refl _); simp)
        | true =>
          by_cases hab : a = b
          · have f4 : (a != b) = false := by simp [hab]
            (repeat' ((conv => whnf); first | refine Br.tt ?_ | refine Br.ff ?_ | refine Br.pos (by assumption) ?_ | refine Br.neg (by assumption) ?_ | refine Br.bself ?_ | refine Br.dself ?_ | refine Br.iself ?_ | refine Nm.mk lenC ?_ | refine Nm.mk (wrapI (by (first | omega | (simp [inR_t, inR_f] at *; omega))) (by (first | omega | (simp [inR_t, inR_f] at *; omega)))) ?_ | refine Nm.mk (wrapQ (by (first | omega | (simp [inR_t, inR_f] at *; omega))) (by (first | omega | (simp [inR_t, inR_f] at *; omega))) (by (first | omega | (simp [inR_t, inR_f] at *; omega)))) ?_ | refine Nm.mk (tmodN (by (first | omega | (simp [inR_t, inR_f] at *; omega)))) ?_ | refine Nm.mk (szS _) ?_ | refine Nm.mk (mi_eq _ _) ?_ | refine Nm.mk (ma_eq _ _) ?_ | refine Rq.mk (by first | (simp [dOwnL, dOwn] <;> fail) | (first | omega | (simp [inR_t, inR_f] at *; omega))) ?_ | refine And.intro (orderFast (by kernel_rfl)) ?_ | refine And.intro (by kernel_rfl) ?_ | refine Cl.mk (c5) ?_ | refine Cl.mk (c13) ?_ | refine Cl.mk (c9) ?_ | refine Cl.mk (c14) ?_ | refine Cl.pre (by simp only [shcLL_ints, shcLL_byts, shcLL_strs, Adve.shcs, Data.shcs, Fetc.shcs, Gran.shcs, Keyy.shcs, Link.shcs, Mani.shcs, Name.shcs, Read.shcs, Rout.shcs, Segm.shcs, TEnt.shcs, Topo.shcs]; rfl) ?_))
            all_goals (refine Vs.Fin.mk (WkR.eq ?_) (.refl _); simp)
          · have f4 : (a != b) = true := by simp [hab]
            obtain rfl := hone rfl hab
            (repeat' ((conv => whnf); first | refine Br.tt ?_ | refine Br.ff ?_ | refine Br.pos (by assumption) ?_ | refine Br.neg (by assumption) ?_ | refine Br.bself ?_ | refine Br.dself ?_ | refine Br.iself ?_ | refine Nm.mk lenC ?_ | refine Nm.mk (wrapI (by (first | omega | (simp [inR_t, inR_f] at *; omega))) (by (first | omega | (simp [inR_t, inR_f] at *; omega)))) ?_ | refine Nm.mk (wrapQ (by (first | omega | (simp [inR_t, inR_f] at *; omega))) (by (first | omega | (simp [inR_t, inR_f] at *; omega))) (by (first | omega | (simp [inR_t, inR_f] at *; omega)))) ?_ | refine Nm.mk (tmodN (by (first | omega | (simp [inR_t, inR_f] at *; omega)))) ?_ | refine Nm.mk (szS _) ?_ | refine Nm.mk (mi_eq _ _) ?_ | refine Nm.mk (ma_eq _ _) ?_ | refine Rq.mk (by first | (simp [dOwnL, dOwn] <;> fail) | (first | omega | (simp [inR_t, inR_f] at *; omega))) ?_ | refine And.intro (orderFast (by kernel_rfl)) ?_ | refine And.intro (by kernel_rfl) ?_ | refine Cl.mk (c5) ?_ | refine Cl.mk (c13) ?_ | refine Cl.mk (c9) ?_ | refine Cl.mk (c14) ?_ | refine Cl.pre (by simp only [shcLL_ints, shcLL_byts, shcLL_strs, Adve.shcs, Data.shcs, Fetc.shcs, Gran.shcs, Keyy.shcs, Link.shcs, Mani.shcs, Name.shcs, Read.shcs, Rout.shcs, Segm.shcs, TEnt.shcs, Topo.shcs]; rfl) ?_))
            all_goals (refine Vs.Fin.mk (WkR.eq ?_) (.refl _); simp)
      · have f1 : decide (n > 0) = false := by simp; omega
        have f3 : decide (n ≤ 0) = true := by simp; omega
        have f2 := hlen1 hn
        cases bd with
        | false =>
          (repeat' ((conv => whnf); first | refine Br.tt ?_ | refine Br.ff ?_ | refine Br.pos (by assumption) ?_ | refine Br.neg (by assumption) ?_ | refine Br.bself ?_ | refine Br.dself ?_ | refine Br.iself ?_ | refine Nm.mk lenC ?_ | refine Nm.mk (wrapI (by (first | omega | (simp [inR_t, inR_f] at *; omega))) (by (first | omega | (simp [inR_t, inR_f] at *; omega)))) ?_ | refine Nm.mk (wrapQ (by (first | omega | (simp [inR_t, inR_f] at *; omega))) (by (first | omega | (simp [inR_t, inR_f] at *; omega))) (by (first | omega | (simp [inR_t, inR_f] at *; omega)))) ?_ | refine Nm.mk (tmodN (by (first | omega | (simp [inR_t, inR_f] at *; omega)))) ?_ | refine Nm.mk (szS _) ?_ | refine Nm.mk (mi_eq _ _) ?_ | refine Nm.mk (ma_eq _ _) ?_ | refine Rq.mk (by first | (simp [dOwnL, dOwn] <;> fail) | (first | omega | (simp [inR_t, inR_f] at *; omega))) ?_ | refine And.intro (orderFast (by kernel_rfl)) ?_ | refine And.intro (by kernel_rfl) ?_ | refine Cl.mk (c5) ?_ | refine Cl.mk (c13) ?_ | refine Cl.mk (c9) ?_ | refine Cl.mk (c14) ?_ | refine Cl.pre (by simp only [shcLL_ints, shcLL_byts, shcLL_strs, Adve.shcs, Data.shcs, Fetc.shcs, Gran.shcs, Keyy.shcs, Link.shcs, Mani.shcs, Name.shcs, Read.shcs, Rout.shcs, Segm.shcs, TEnt.shcs, Topo.shcs]; rfl) ?_))
          all_goals (refine Vs.Fin.mk (WkR.eq ?_) (.refl _); simp)
        | true =>
          by_cases hab : a = b
          · have f4 : (a != b) = false := by simp [hab]
            (repeat' ((conv => whnf); first | refine Br.tt ?_ | refine Br.ff ?_ | refine Br.pos (by assumption) ?_ | refine Br.neg (by assumption) ?_ | refine Br.bself ?_ | refine Br.dself ?_ | refine Br.iself ?_ | refine Nm.mk lenC ?_ | refine Nm.mk (wrapI (by (first | omega | (simp [inR_t, inR_f] at *; omega))) (by (first | omega | (simp [inR_t, inR_f] at *; omega)))) ?_ | refine Nm.mk (wrapQ (by (first | omega | (simp [inR_t, inR_f] at *; omega))) (by (first | omega | (simp [inR_t, inR_f] at *; omega))) (by (first | omega | (simp [inR_t, inR_f] at *; omega)))) ?_ | refine Nm.mk (tmodN (by (first | omega | (simp [inR_t, inR_f] at *; omega)))) ?_ | refine Nm.mk (szS _) ?_ | refine Nm.mk (mi_eq _ _) ?_ | refine Nm.mk (ma_eq _ _) ?_ | refine Rq.mk (by first | (simp [dOwnL, dOwn] <;> fail) | (first | omega | (simp [inR_t, inR_f] at *; omega))) ?_ | refine And.intro (orderFast (by kernel_rfl)) ?_ | refine And.intro (by kernel_rfl) ?_ | refine Cl.mk (c5) ?_ | refine Cl.mk (c13) ?_ | refine Cl.mk (c9) ?_ | refine Cl.mk (c14) ?_ | refine Cl.pre (by simp only [shcLL_ints, shcLL_byts, shcLL_strs, Adve.shcs, Data.shcs, Fetc.shcs, Gran.shcs, Keyy.shcs, Link.shcs, Mani.shcs, Name.shcs, Read.shcs, Rout.shcs, Segm.shcs, TEnt.shcs, Topo.shcs]; rfl) ?_))
            all_goals (refine Vs.Fin.mk (WkR.eq ?_) (.refl _); simp)
          · have := hone rfl hab
            omega
    · have hab : ∀ X : Prop, (decide (a < 0) = false → decide (a ≥ 6) = false → decide (b < 0) = false → decide (b ≥ 6) = false → X) := fun X h1 h2 h3 h4 => by
        exfalso; simp at h1 h2 h3 h4; omega
      have hone2 : bd = true → (a != b) = true → decide (b ≥ 0) = true → decide (b < 6) = true → decide (a < 6) = true → n = 1 := fun h1 h2 h3 h4 h5 => by
        exfalso; simp at h2 h3 h4 h5; omega
      by_cases hn : 0 < n
      · have f1 : decide (n > 0) = true := by simp; omega
        have f2 := hlen0 hn
        have f3 : decide (n ≤ 0) = false := by simp; omega
        (repeat' ((conv => whnf); first | refine Br.tt ?_ | refine Br.ff ?_ | refine Br.pos (by assumption) ?_ | refine Br.neg (by assumption) ?_ | refine Br.bself ?_ | refine Br.dself ?_ | refine Br.iself ?_ | refine Br.mk (fun _ => ?_) (fun _ => ?_) | refine Nm.mk lenC ?_ | refine Nm.mk (wrapI (by (first | omega | (simp [inR_t, inR_f] at *; omega))) (by (first | omega | (simp [inR_t, inR_f] at *; omega)))) ?_ | refine Nm.mk (wrapQ (by (first | omega | (simp [inR_t, inR_f] at *; omega))) (by (first | omega | (simp [inR_t, inR_f] at *; omega))) (by (first | omega | (simp [inR_t, inR_f] at *; omega)))) ?_ | refine Nm.mk (tmodN (by (first | omega | (simp [inR_t, inR_f] at *; omega)))) ?_ | refine Nm.mk (szS _) ?_ | refine Nm.mk (mi_eq _ _) ?_ | refine Nm.mk (ma_eq _ _) ?_ | refine Rq.mk (by first | (simp [dOwnL, dOwn] <;> fail) | (first | omega | (simp [inR_t, inR_f] at *; omega))) ?_ | refine And.intro (orderFast (by kernel_rfl)) ?_ | refine And.intro (by kernel_rfl) ?_ | refine Cl.mk (c5) ?_ | refine Cl.mk (i_Distance l b a (by omega)) ?_ | refine Cl.mk (c9) ?_ | refine Cl.mk (l_in R b (by omega)) ?_ | refine Cl.pre (by simp only [shcLL_ints, shcLL_byts, shcLL_strs, Adve.shcs, Data.shcs, Fetc.shcs, Gran.shcs, Keyy.shcs, Link.shcs, Mani.shcs, Name.shcs, Read.shcs, Rout.shcs, Segm.shcs, TEnt.shcs, Topo.shcs]; rfl) ?_))
        all_goals first
          | (exfalso; simp at *; omega)
          | (refine Vs.Fin.mk (WkR.eq ?_) (.refl _); first | rfl | simp)
      · have f1 : decide (n > 0) = false := by simp; omega
        have f3 : decide (n ≤ 0) = true := by simp; omega
        have f2 := hlen1 hn
        (repeat' ((conv => whnf); first | refine Br.tt ?_ | refine Br.ff ?_ | refine Br.pos (by assumption) ?_ | refine Br.neg (by assumption) ?_ | refine Br.bself ?_ | refine Br.dself ?_ | refine Br.iself ?_ | refine Br.mk (fun _ => ?_) (fun _ => ?_) | refine Nm.mk lenC ?_ | refine Nm.mk (wrapI (by (first | omega | (simp [inR_t, inR_f] at *; omega))) (by (first | omega | (simp [inR_t, inR_f] at *; omega)))) ?_ | refine Nm.mk (wrapQ (by (first | omega | (simp [inR_t, inR_f] at *; omega))) (by (first | omega | (simp [inR_t, inR_f] at *; omega))) (by (first | omega | (simp [inR_t, inR_f] at *; omega)))) ?_ | refine Nm.mk (tmodN (by (first | omega | (simp [inR_t, inR_f] at *; omega)))) ?_ | refine Nm.mk (szS _) ?_ | refine Nm.mk (mi_eq _ _) ?_ | refine Nm.mk (ma_eq _ _) ?_ | refine Rq.mk (by first | (simp [dOwnL, dOwn] <;> fail) | (first | omega | (simp [inR_t, inR_f] at *; omega))) ?_ | refine And.intro (orderFast (by kernel_rfl)) ?_ | refine And.intro (by kernel_rfl) ?_ | refine Cl.mk (c5) ?_ | refine Cl.mk (i_Distance l b a (by omega)) ?_ | refine Cl.mk (c9) ?_ | refine Cl.mk (l_in R b (by omega)) ?_ | refine Cl.pre (by simp only [shcLL_ints, shcLL_byts, shcLL_strs, Adve.shcs, Data.shcs, Fetc.shcs, Gran.shcs, Keyy.shcs, Link.shcs, Mani.shcs, Name.shcs, Read.shcs, Rout.shcs, Segm.shcs, TEnt.shcs, Topo.shcs]; rfl) ?_))
        all_goals first
          | (exfalso; simp at *; omega)
          | (refine Vs.Fin.mk (WkR.eq ?_) (.refl _); first | rfl | simp)
set_option maxRecDepth 20000 in
set_option maxHeartbeats 16000000 in
theorem ex1Dists (l : List UInt8) (hl : ¬ l.length ≤ 1048576) : FO 4 [Ys false l] [Ys false l] (B true) := by
  refine fok envOk mixed is4 ⟨rfl, rfl, ?_⟩
  (repeat' ((conv => whnf); first | refine Br.tt ?_ | refine Br.ff ?_ | refine Br.pos (by assumption) ?_ | refine Br.neg (by assumption) ?_ | refine Br.bself ?_ | refine Br.dself ?_ | refine Br.iself ?_ | refine Nm.mk lenC ?_ | refine Nm.mk (wrapI (by (first | omega | (simp [inR_t, inR_f] at *; omega))) (by (first | omega | (simp [inR_t, inR_f] at *; omega)))) ?_ | refine Nm.mk (wrapQ (by (first | omega | (simp [inR_t, inR_f] at *; omega))) (by (first | omega | (simp [inR_t, inR_f] at *; omega))) (by (first | omega | (simp [inR_t, inR_f] at *; omega)))) ?_ | refine Nm.mk (tmodN (by (first | omega | (simp [inR_t, inR_f] at *; omega)))) ?_ | refine Nm.mk (szS _) ?_ | refine Nm.mk (mi_eq _ _) ?_ | refine Nm.mk (ma_eq _ _) ?_ | refine Rq.mk (by first | (simp [dOwnL, dOwn] <;> fail) | (first | omega | (simp [inR_t, inR_f] at *; omega))) ?_ | refine And.intro (orderFast (by kernel_rfl)) ?_ | refine And.intro (by kernel_rfl) ?_ | refine Cl.mk (big_yes l hl) ?_ | refine Cl.pre (by simp only [shcLL_ints, shcLL_byts, shcLL_strs, Adve.shcs, Data.shcs, Fetc.shcs, Gran.shcs, Keyy.shcs, Link.shcs, Mani.shcs, Name.shcs, Read.shcs, Rout.shcs, Segm.shcs, TEnt.shcs, Topo.shcs]; rfl) ?_))
  exact Vs.Fin.mk (WkR.refl _) (.refl _)
theorem exDists (l : List UInt8) : FO 4 [Ys false l] [Ys false l] (B true) := by
  by_cases hl : l.length ≤ 1048576
  · obtain ⟨L, a, b, hz, ha, hb, k⟩ := DDist_ok l hl
    exact ex0Dists l hl L a b hz ha hb k
  · exact ex1Dists l hl
end Go.Proofs.Ytlibidbpgnpdjaa
