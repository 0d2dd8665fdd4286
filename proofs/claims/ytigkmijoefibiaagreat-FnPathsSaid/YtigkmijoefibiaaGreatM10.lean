/- Contracts of functions of the program: no statement of the seat is proved here. Each under the conditions that stand in it. -/
import Derived.Test.YtigkmijoefibiaaGreatEd
import Derived.Test.YtigkmijoefibiaaGreatM5
import Derived.Test.YtigkmijoefibiaaGreatDk
set_option linter.all false
namespace Go.Proofs.YtigkmijoefibiaaGreat
open Go.Vs Go.Proofs
/-! Draws of topologies and of databases -/
theorem links_v (l : List Link) : ∀ v ∈ (l.map (Link.c true)).flatten, ∃ z, v = AV.v z := by
  induction l with
  | nil => simp
  | cons x l ih =>
    intro v hv
    rw [List.map_cons, List.flatten_cons, List.mem_append] at hv
    rcases hv with hv | hv
    · simp [Link.c] at hv
      rcases hv with rfl | rfl <;> exact ⟨_, rfl⟩
    · exact ih v hv
theorem is130 : FI 130 Tryz.f130 := ⟨⟨Tryz.f130, Tryz.func130, rfl, rfl, rfl, rfl⟩, rfl⟩
set_option maxRecDepth 20000 in
set_option maxHeartbeats 16000000 in
theorem l19Any_a (cs c1 c2 c3 : List AV) (n : Topo) (y : Int) (k1 : FO 172 [O (.own cs)] [O (.own c1)] (A (Topo.c true n))) (k2 : FO 90 [O (.own c1), I 10] [O (.own c2), I 10] (I 0)) (k3 : FO 132 [O (.own c2), Is false [0, 1, 7, 2]] [O (.own c3), Is false [0, 1, 7, 2]] (I y)) : FO 130 [O (.own cs)] [O (.own c3)] (A (Topo.c true ⟨y, n.links⟩)) := by
  refine fok envOk mixed is130 ⟨rfl, rfl, ?_⟩
  (repeat' ((conv => whnf); first | refine stp ?_ | refine Cl.mk (k1) ?_ | refine Cl.mk (k2) ?_ | refine Cl.eq k3 (by simp only [shcLL, shcL, Vs.shc]; rfl) ?_ | refine Cl.pre (by simp only [shcLL_ints, shcLL_byts, shcLL_strs, Adve.shcs, Data.shcs, Fetc.shcs, Gran.shcs, Keyy.shcs, Link.shcs, Mani.shcs, Name.shcs, Read.shcs, Rout.shcs, Segm.shcs, TEnt.shcs, Topo.shcs]; rfl) ?_))
  exact Vs.Fin.mk (WkR.refl _) (.refl _)
set_option maxRecDepth 20000 in
set_option maxHeartbeats 16000000 in
theorem l19Any_b (cs c1 c2 c3 c4 : List AV) (n : Topo) (y z : Int) (hn : n.links.length ≤ 100) (hz : 0 ≤ z ∧ z < 8) (k1 : FO 172 [O (.own cs)] [O (.own c1)] (A (Topo.c true n))) (k2 : FO 90 [O (.own c1), I 10] [O (.own c2), I 10] (I 1)) (k3 : FO 90 [O (.own c2), I 4] [O (.own c3), I 4] (I y)) (k4 : FO 90 [O (.own c3), I 8] [O (.own c4), I 8] (I z)) : FO 130 [O (.own cs)] [O (.own c4)] (A (Topo.c true ⟨n.nodes, n.links ++ [⟨y, z - 1⟩]⟩)) := by
  refine fok envOk mixed is130 ⟨rfl, rfl, ?_⟩
  (repeat' ((conv => whnf); first | refine stp ?_ | refine Cl.mk (k1) ?_ | refine Cl.mk (k2) ?_ | refine Cl.mk (k3) ?_ | refine Cl.mk (k4) ?_ | refine Rq.mk (by simp; omega) ?_ | refine Cl.pre (by simp only [shcLL_ints, shcLL_byts, shcLL_strs, Adve.shcs, Data.shcs, Fetc.shcs, Gran.shcs, Keyy.shcs, Link.shcs, Mani.shcs, Name.shcs, Read.shcs, Rout.shcs, Segm.shcs, TEnt.shcs, Topo.shcs]; rfl) ?_))
  refine Vs.Fin.mk (WkR.of (.keep (.sl1 ?_ .nil))) (.refl _)
  simp
set_option maxRecDepth 20000 in
set_option maxHeartbeats 16000000 in
theorem l19Any_c (cs c1 c2 : List AV) (n : Topo) (hn : n.links.length ≤ 100) (k1 : FO 172 [O (.own cs)] [O (.own c1)] (A (Topo.c true n))) (k2 : FO 90 [O (.own c1), I 10] [O (.own c2), I 10] (I 2)) : FO 130 [O (.own cs)] [O (.own c2)] (A (Topo.c true ⟨n.nodes, n.links ++ n.links⟩)) := by
  refine fok envOk mixed is130 ⟨rfl, rfl, ?_⟩
  (repeat' ((conv => whnf); first | refine stp ?_ | refine Cl.mk (k1) ?_ | refine Cl.mk (k2) ?_ | refine Rq.mk (links_v n.links) ?_ | refine Rq.mk (by simp; omega) ?_ | refine Cl.pre (by simp only [shcLL_ints, shcLL_byts, shcLL_strs, Adve.shcs, Data.shcs, Fetc.shcs, Gran.shcs, Keyy.shcs, Link.shcs, Mani.shcs, Name.shcs, Read.shcs, Rout.shcs, Segm.shcs, TEnt.shcs, Topo.shcs]; rfl) ?_))
  refine Vs.Fin.mk (WkR.of (.keep (.sl1 ?_ .nil))) (.refl _)
  simp
set_option maxRecDepth 20000 in
set_option maxHeartbeats 16000000 in
theorem l19Any_d (cs c1 c2 : List AV) (n : Topo) (x : Int) (hx : 3 ≤ x) (k1 : FO 172 [O (.own cs)] [O (.own c1)] (A (Topo.c true n))) (k2 : FO 90 [O (.own c1), I 10] [O (.own c2), I 10] (I x)) : FO 130 [O (.own cs)] [O (.own c2)] (A (Topo.c true n)) := by
  refine fok envOk mixed is130 ⟨rfl, rfl, ?_⟩
  have f0 : (x == 0) = false := by simp; omega
  have f1 : (x == 1) = false := by simp; omega
  have f2 : (x == 2) = false := by simp; omega
  (repeat' ((conv => whnf); first | refine stp ?_ | refine Cl.mk (k1) ?_ | refine Cl.mk (k2) ?_ | refine Cl.pre (by simp only [shcLL_ints, shcLL_byts, shcLL_strs, Adve.shcs, Data.shcs, Fetc.shcs, Gran.shcs, Keyy.shcs, Link.shcs, Mani.shcs, Name.shcs, Read.shcs, Rout.shcs, Segm.shcs, TEnt.shcs, Topo.shcs]; rfl) ?_))
  exact Vs.Fin.mk (WkR.refl _) (.refl _)
theorem any19_ok {cs : List AV} (hc : IsC cs) : ∃ (cs' : List AV) (n : Topo), IsC cs' ∧ n.links.length ≤ 200 ∧ (0 ≤ n.nodes ∧ n.nodes ≤ 7) ∧ FO 130 [O (.own cs)] [O (.own cs')] (A (Topo.c true n)) := by
  obtain ⟨c1, n, i1, hn, hd, k1⟩ := net_ok hc
  obtain ⟨c2, x, i2, hx, -, k2⟩ := below_ok i1 10
  have hx := hx (by omega)
  by_cases x0 : x = 0
  · subst x0
    obtain ⟨c3, y, i3, hy, k3⟩ := int_ok i2 [0, 1, 7, 2] (by decide) (by decide)
    exact ⟨c3, ⟨y, n.links⟩, i3, (show n.links.length ≤ 200 by omega), (show 0 ≤ y ∧ y ≤ 7 by simp at hy; omega), l19Any_a cs c1 c2 c3 n y k1 k2 k3⟩
  by_cases x1 : x = 1
  · subst x1
    obtain ⟨c3, y, i3, hy, -, k3⟩ := below_ok i2 4
    obtain ⟨c4, z, i4, hz, -, k4⟩ := below_ok i3 8
    exact ⟨c4, ⟨n.nodes, n.links ++ [⟨y, z - 1⟩]⟩, i4, (show (n.links ++ [_]).length ≤ 200 by simp; omega), (show 0 ≤ n.nodes ∧ n.nodes ≤ 7 by omega), l19Any_b cs c1 c2 c3 c4 n y z hn (hz (by omega)) k1 k2 k3 k4⟩
  by_cases x2 : x = 2
  · subst x2
    exact ⟨c2, ⟨n.nodes, n.links ++ n.links⟩, i2, (show (n.links ++ n.links).length ≤ 200 by simp; omega), (show 0 ≤ n.nodes ∧ n.nodes ≤ 7 by omega), l19Any_c cs c1 c2 n hn k1 k2⟩
  · exact ⟨c2, n, i2, by omega, by omega, l19Any_d cs c1 c2 n x (by omega) k1 k2⟩
theorem sh_Ad20b {f : Nat} {args outs : List Arg} {l : List Adve} (h : FO f args outs (Ads l)) : FO f args outs (Al l) := by
  have := FOk.wk (res' := (.one, shcL [sl true 4 (l.map (Adve.c false))])) h (.refl _) (.refl _) ⟨rfl, .inr (WkL.refl _)⟩
  simpa [shcL, Vs.shc, shcLL_Ad] using this
/-! Nets, and what their nodes tell, drawn -/
abbrev NLs (n : Topo) (l : List Adve) : Arg := (.tup [(true, 2), (false, 1)], [cI n.nodes, sl false 2 (n.links.map (Link.c false)), sl false 4 (l.map (Adve.c false))])
theorem sh_resF {f : Nat} {args outs : List Arg} {s : Shape} {vs : List AV} (h : FO f args outs (s, vs)) : FO f args outs (s, shcL vs) := FOk.wk h (.refl _) (.refl _) ⟨rfl, .inr (WkL.refl _)⟩
theorem sh_To {f : Nat} {args outs : List Arg} {n : Topo} (h : FO f args outs (A (Topo.c true n))) : FO f args outs (A (Topo.c false n)) := by
  have := sh_resF h
  rwa [Topo.shc] at this
theorem sh_RowsF {f : Nat} {args outs : List Arg} {l : List TEnt} (h : FO f args outs (Tl true l)) : FO f args outs (Tl false l) := by
  have := sh_resF h
  simp only [shcL, Vs.shc, shcLL_T] at this
  exact this
theorem is89 : FI 89 Tryz.f89 := ⟨⟨Tryz.f89, Tryz.func89, rfl, rfl, rfl, rfl⟩, rfl⟩
set_option maxRecDepth 20000 in
set_option maxHeartbeats 16000000 in
theorem l22Draw0 (cs c1 c2 : List AV) (n : Topo) (r : List TEnt) (hn : n.links.length ≤ 100) (hr : r.length + sumN TEnt.size r ≤ 300) (k1 : FO 172 [O (.own cs)] [O (.own c1)] (A (Topo.c false n))) (k2 : FO 131 [O (.own c1)] [O (.own c2)] (Tl false r)) : FO 89 [O (.own cs)] [O (.own c2)] ((.tup [(true, 2), (false, 1)], [cI n.nodes, sl false 2 (n.links.map (Link.c false)), sl true 4 ((advs n r 1).map (Adve.c true))])) := by
  refine fok envOk mixed is89 ⟨rfl, rfl, ?_⟩
  have kA := s_AdvertisementsOf n r 1 (by omega) (by omega)
  (repeat' ((conv => whnf); first | refine stp ?_ | refine Cl.mk (k1) ?_ | refine Cl.mk (k2) ?_ | refine Cl.mk (kA) ?_ | refine Cl.pre (by simp only [shcLL_ints, shcLL_byts, shcLL_strs, Adve.shcs, Data.shcs, Fetc.shcs, Gran.shcs, Keyy.shcs, Link.shcs, Mani.shcs, Name.shcs, Read.shcs, Rout.shcs, Segm.shcs, TEnt.shcs, Topo.shcs]; rfl) ?_))
  exact Vs.Fin.mk (WkR.refl _) (.refl _)
theorem draw22_ok {cs : List AV} (hc : IsC cs) : ∃ (cs' : List AV) (n : Topo) (r : List TEnt), IsC cs' ∧ n.links.length ≤ 100 ∧ (2 ≤ n.nodes ∧ n.nodes ≤ 6) ∧ r.length + sumN TEnt.size r ≤ 300 ∧ FO 89 [O (.own cs)] [O (.own cs')] (NLs n (advs n r 1)) := by
  obtain ⟨c1, n, i1, hn, hd, k1⟩ := net_ok hc
  obtain ⟨c2, r, i2, hr, -, k2⟩ := rows_ok i1
  have h := sh_resF (l22Draw0 cs c1 c2 n r hn hr (sh_To k1) (sh_RowsF k2))
  simp only [shcL, Vs.shc, Adve.shcs] at h
  exact ⟨c2, n, r, i2, hn, hd, hr, h⟩
theorem is92 : FI 92 Tryz.f92 := ⟨⟨Tryz.f92, Tryz.func92, rfl, rfl, rfl, rfl⟩, rfl⟩
set_option maxRecDepth 20000 in
set_option maxHeartbeats 16000000 in
theorem l22Any_ff (cs c1 c2 c3 : List AV) (n : Topo) (l : List Adve) (k1 : FO 89 [O (.own cs)] [O (.own c1)] (NLs n l)) (k2 : FO 133 [O (.own c1), I 5] [O (.own c2), I 5] (B false)) (k3 : FO 133 [O (.own c2), I 12] [O (.own c3), I 12] (B false)) : FO 92 [O (.own cs)] [O (.own c3)] (NLs n l) := by
  refine fok envOk mixed is92 ⟨rfl, rfl, ?_⟩
  (repeat' ((conv => whnf); first | refine stp ?_ | refine Cl.mk (k1) ?_ | refine Cl.mk (k2) ?_ | refine Cl.mk (k3) ?_ | refine Cl.pre (by simp only [shcLL_ints, shcLL_byts, shcLL_strs, Adve.shcs, Data.shcs, Fetc.shcs, Gran.shcs, Keyy.shcs, Link.shcs, Mani.shcs, Name.shcs, Read.shcs, Rout.shcs, Segm.shcs, TEnt.shcs, Topo.shcs]; rfl) ?_))
  exact Vs.Fin.mk (WkR.refl _) (.refl _)
set_option maxRecDepth 20000 in
set_option maxHeartbeats 16000000 in
theorem l22Any_tf (cs c1 c2 c3 c4 : List AV) (n : Topo) (l l2 : List Adve) (k1 : FO 89 [O (.own cs)] [O (.own c1)] (NLs n l)) (k2 : FO 133 [O (.own c1), I 5] [O (.own c2), I 5] (B true)) (k4 : FO 112 [O (.own c2)] [O (.own c3)] (Al l2)) (k3 : FO 133 [O (.own c3), I 12] [O (.own c4), I 12] (B false)) : FO 92 [O (.own cs)] [O (.own c4)] (NLs n l2) := by
  refine fok envOk mixed is92 ⟨rfl, rfl, ?_⟩
  (repeat' ((conv => whnf); first | refine stp ?_ | refine Cl.mk (k1) ?_ | refine Cl.mk (k2) ?_ | refine Cl.mk (k3) ?_ | refine Cl.mk (k4) ?_ | refine Cl.pre (by simp only [shcLL_ints, shcLL_byts, shcLL_strs, Adve.shcs, Data.shcs, Fetc.shcs, Gran.shcs, Keyy.shcs, Link.shcs, Mani.shcs, Name.shcs, Read.shcs, Rout.shcs, Segm.shcs, TEnt.shcs, Topo.shcs]; rfl) ?_))
  exact Vs.Fin.mk (WkR.refl _) (.refl _)
set_option maxRecDepth 20000 in
set_option maxHeartbeats 16000000 in
theorem l22Any_ft (cs c1 c2 c3 c4 : List AV) (n n2 : Topo) (l : List Adve) (k1 : FO 89 [O (.own cs)] [O (.own c1)] (NLs n l)) (k2 : FO 133 [O (.own c1), I 5] [O (.own c2), I 5] (B false)) (k3 : FO 133 [O (.own c2), I 12] [O (.own c3), I 12] (B true)) (k4 : FO 130 [O (.own c3)] [O (.own c4)] (A (Topo.c false n2))) : FO 92 [O (.own cs)] [O (.own c4)] (NLs n2 l) := by
  refine fok envOk mixed is92 ⟨rfl, rfl, ?_⟩
  (repeat' ((conv => whnf); first | refine stp ?_ | refine Cl.mk (k1) ?_ | refine Cl.mk (k2) ?_ | refine Cl.mk (k3) ?_ | refine Cl.mk (k4) ?_ | refine Cl.pre (by simp only [shcLL_ints, shcLL_byts, shcLL_strs, Adve.shcs, Data.shcs, Fetc.shcs, Gran.shcs, Keyy.shcs, Link.shcs, Mani.shcs, Name.shcs, Read.shcs, Rout.shcs, Segm.shcs, TEnt.shcs, Topo.shcs]; rfl) ?_))
  exact Vs.Fin.mk (WkR.refl _) (.refl _)
set_option maxRecDepth 20000 in
set_option maxHeartbeats 16000000 in
theorem l22Any_tt (cs c1 c2 c3 c4 c5 : List AV) (n n2 : Topo) (l l2 : List Adve) (k1 : FO 89 [O (.own cs)] [O (.own c1)] (NLs n l)) (k2 : FO 133 [O (.own c1), I 5] [O (.own c2), I 5] (B true)) (k4 : FO 112 [O (.own c2)] [O (.own c3)] (Al l2)) (k3 : FO 133 [O (.own c3), I 12] [O (.own c4), I 12] (B true)) (k5 : FO 130 [O (.own c4)] [O (.own c5)] (A (Topo.c false n2))) : FO 92 [O (.own cs)] [O (.own c5)] (NLs n2 l2) := by
  refine fok envOk mixed is92 ⟨rfl, rfl, ?_⟩
  (repeat' ((conv => whnf); first | refine stp ?_ | refine Cl.mk (k1) ?_ | refine Cl.mk (k2) ?_ | refine Cl.mk (k3) ?_ | refine Cl.mk (k4) ?_ | refine Cl.mk (k5) ?_ | refine Cl.pre (by simp only [shcLL_ints, shcLL_byts, shcLL_strs, Adve.shcs, Data.shcs, Fetc.shcs, Gran.shcs, Keyy.shcs, Link.shcs, Mani.shcs, Name.shcs, Read.shcs, Rout.shcs, Segm.shcs, TEnt.shcs, Topo.shcs]; rfl) ?_))
  exact Vs.Fin.mk (WkR.refl _) (.refl _)
theorem advs_smallF {n : Topo} {rows : List TEnt} {ver : Int} (hz : rows.length + sumN TEnt.size rows ≤ 300) : (advs n rows ver).length + sumN Adve.size (advs n rows ver) ≤ 2000 := by
  unfold advs
  split
  · rename_i h
    have h1 : vTopo n = true := by simp_all
    have hs2 : 1 ≤ n.nodes ∧ n.nodes ≤ 6 := by simp [vTopo, inR_t] at h1; omega
    have h2 := advT_size n rows ver n.nodes.toNat
    have h3 : n.nodes.toNat * (10 + sumN TEnt.size rows) ≤ 6 * (10 + sumN TEnt.size rows) := Nat.mul_le_mul_right _ (by omega)
    rw [advT_len]; omega
  · simp [sumN]
theorem any22_ok {cs : List AV} (hc : IsC cs) : ∃ (cs' : List AV) (n : Topo) (l : List Adve), IsC cs' ∧ n.links.length ≤ 200 ∧ (0 ≤ n.nodes ∧ n.nodes ≤ 7) ∧ l.length + sumN Adve.size l ≤ 2000 ∧ FO 92 [O (.own cs)] [O (.own cs')] (NLs n l) := by
  obtain ⟨c1, n, r, i1, hn, hd, hr, k1⟩ := draw22_ok hc
  have hl := advs_smallF (n := n) (ver := 1) hr
  obtain ⟨c2, v, i2, k2⟩ := once_ok i1 5
  cases v with
  | false =>
    obtain ⟨c3, w, i3, k3⟩ := once_ok i2 12
    cases w with
    | false => exact ⟨c3, n, _, i3, by omega, by omega, hl, l22Any_ff cs c1 c2 c3 n _ k1 k2 k3⟩
    | true =>
      obtain ⟨c4, n2, i4, hn2, hd2, k4⟩ := any19_ok i3
      exact ⟨c4, n2, _, i4, hn2, hd2, hl, l22Any_ft cs c1 c2 c3 c4 n n2 _ k1 k2 k3 (sh_To k4)⟩
  | true =>
    obtain ⟨c3, l2, i3, -, hl2, k4⟩ := db20_ok i2
    obtain ⟨c4, w, i4, k3⟩ := once_ok i3 12
    cases w with
    | false => exact ⟨c4, n, l2, i4, by omega, by omega, hl2, l22Any_tf cs c1 c2 c3 c4 n _ l2 k1 k2 (sh_Ad20b k4) k3⟩
    | true =>
      obtain ⟨c5, n2, i5, hn2, hd2, k5⟩ := any19_ok i4
      exact ⟨c5, n2, l2, i5, hn2, hd2, hl2, l22Any_tt cs c1 c2 c3 c4 c5 n n2 _ l2 k1 k2 (sh_Ad20b k4) k3 (sh_To k5)⟩
def names22 : List ByteArray := [⟨#[47, 97, 47, 49]⟩, ⟨#[47, 97, 47, 110, 101, 119, 115, 47, 49]⟩, ⟨#[47, 98, 47, 50]⟩, ⟨#[47, 122, 122, 47, 49]⟩, ⟨#[47, 110, 101, 119, 115]⟩]
theorem names22_size : ∀ s ∈ names22, s.size ≤ 9 := by decide
theorem is91 : FI 91 Tryz.f91 := ⟨⟨Tryz.f91, Tryz.func91, rfl, rfl, rfl, rfl⟩, rfl⟩
set_option maxRecDepth 20000 in
set_option maxHeartbeats 16000000 in
theorem l22Name0 (cs c1 : List AV) (s : ByteArray) (hs : s.size ≤ 9) (k1 : FO 175 [O (.own cs), Ss false names22] [O (.own c1), Ss false names22] (S s)) : FO 91 [O (.own cs)] [O (.own c1)] (A (Name.c false (pN s))) := by
  refine fok envOk mixed is91 ⟨rfl, rfl, ?_⟩
  have hO := s_l4Of s (by omega)
  (repeat' ((conv => whnf); first | refine stp ?_ | refine Cl.eq k1 (by simp only [shcLL, shcL, Vs.shc]; rfl) ?_ | refine Cl.mk (hO) ?_ | refine Cl.pre (by simp only [shcLL_ints, shcLL_byts, shcLL_strs, Adve.shcs, Data.shcs, Fetc.shcs, Gran.shcs, Keyy.shcs, Link.shcs, Mani.shcs, Name.shcs, Read.shcs, Rout.shcs, Segm.shcs, TEnt.shcs, Topo.shcs]; rfl) ?_))
  exact Vs.Fin.mk (WkR.refl _) (.refl _)
theorem name22_ok {cs : List AV} (hc : IsC cs) : ∃ (cs' : List AV) (x : Name), IsC cs' ∧ strsSize x.parts ≤ 100 ∧ FO 91 [O (.own cs)] [O (.own cs')] (A (Name.c false x)) := by
  obtain ⟨c1, s, i1, hs, k1⟩ := str_ok hc names22 (by decide) (by decide)
  exact ⟨c1, pN s, i1, by have := pN_sz s; omega, l22Name0 cs c1 s (names22_size s hs) k1⟩
abbrev NLa (n : Topo) (l : List Adve) (a : Int) : Arg := (.tup [(true, 2), (false, 1), (false, 1)], [cI n.nodes, sl false 2 (n.links.map (Link.c false)), sl false 4 (l.map (Adve.c false)), cI a])
abbrev NLax (n : Topo) (l : List Adve) (a : Int) (x : Name) : Arg := (.tup [(true, 2), (false, 1), (false, 1), (true, 1)], [cI n.nodes, sl false 2 (n.links.map (Link.c false)), sl false 4 (l.map (Adve.c false)), cI a, cSs false x.parts])
abbrev NL3 (n : Topo) (l : List Adve) (a b c : Int) : Arg := (.tup [(true, 2), (false, 1), (false, 1), (false, 1), (false, 1)], [cI n.nodes, sl false 2 (n.links.map (Link.c false)), sl false 4 (l.map (Adve.c false)), cI a, cI b, cI c])
abbrev LX (l : List Adve) (x : Name) : Arg := (.tup [(false, 1), (true, 1)], [sl false 4 (l.map (Adve.c false)), cSs false x.parts])
abbrev LaX (l : List Adve) (a : Int) (x : Name) : Arg := (.tup [(false, 1), (false, 1), (true, 1)], [sl false 4 (l.map (Adve.c false)), cI a, cSs false x.parts])
theorem is25 : FI 25 Tryz.f25 := ⟨⟨Tryz.f25, Tryz.func25, rfl, rfl, rfl, rfl⟩, rfl⟩
set_option maxRecDepth 20000 in
set_option maxHeartbeats 16000000 in
theorem DCrs0 (code : List UInt8) (c0 c1 c2 : List AV) (n : Topo) (l : List Adve) (a : Int) (k0 : FO 88 [Ys false code] [Ys false code] (O (.own c0))) (k1 : FO 92 [O (.own c0)] [O (.own c1)] (NLs n l)) (k2 : FO 90 [O (.own c1), I 7] [O (.own c2), I 7] (I a)) : FO 25 [Ys false code] [Ys false code] (NLa n l a) := by
  refine fok envOk mixed is25 ⟨rfl, rfl, ?_⟩
  (repeat' ((conv => whnf); first | refine stp ?_ | refine Cl.mk (k0) ?_ | refine Cl.mk (k1) ?_ | refine Cl.mk (k2) ?_ | refine Cl.pre (by simp only [shcLL_ints, shcLL_byts, shcLL_strs, Adve.shcs, Data.shcs, Fetc.shcs, Gran.shcs, Keyy.shcs, Link.shcs, Mani.shcs, Name.shcs, Read.shcs, Rout.shcs, Segm.shcs, TEnt.shcs, Topo.shcs]; rfl) ?_))
  exact Vs.Fin.mk (WkR.refl _) (.refl _)
theorem is30 : FI 30 Tryz.f30 := ⟨⟨Tryz.f30, Tryz.func30, rfl, rfl, rfl, rfl⟩, rfl⟩
set_option maxRecDepth 20000 in
set_option maxHeartbeats 16000000 in
theorem DPro0 (code : List UInt8) (c0 c1 c2 : List AV) (n : Topo) (l : List Adve) (x : Name) (k0 : FO 88 [Ys false code] [Ys false code] (O (.own c0))) (k1 : FO 92 [O (.own c0)] [O (.own c1)] (NLs n l)) (k2 : FO 91 [O (.own c1)] [O (.own c2)] (A (Name.c false x))) : FO 30 [Ys false code] [Ys false code] (LX l x) := by
  refine fok envOk mixed is30 ⟨rfl, rfl, ?_⟩
  (repeat' ((conv => whnf); first | refine stp ?_ | refine Cl.mk (k0) ?_ | refine Cl.mk (k1) ?_ | refine Cl.mk (k2) ?_ | refine Cl.pre (by simp only [shcLL_ints, shcLL_byts, shcLL_strs, Adve.shcs, Data.shcs, Fetc.shcs, Gran.shcs, Keyy.shcs, Link.shcs, Mani.shcs, Name.shcs, Read.shcs, Rout.shcs, Segm.shcs, TEnt.shcs, Topo.shcs]; rfl) ?_))
  exact Vs.Fin.mk (WkR.refl _) (.refl _)
theorem is98 : FI 98 Tryz.f98 := ⟨⟨Tryz.f98, Tryz.func98, rfl, rfl, rfl, rfl⟩, rfl⟩
set_option maxRecDepth 20000 in
set_option maxHeartbeats 16000000 in
theorem Tri0 (code : List UInt8) (c0 c1 c2 c3 : List AV) (n : Topo) (l : List Adve) (a : Int) (x : Name) (k0 : FO 88 [Ys false code] [Ys false code] (O (.own c0))) (k1 : FO 92 [O (.own c0)] [O (.own c1)] (NLs n l)) (k2 : FO 90 [O (.own c1), I 7] [O (.own c2), I 7] (I a)) (k3 : FO 91 [O (.own c2)] [O (.own c3)] (A (Name.c false x))) : FO 98 [Ys false code] [Ys false code] (LaX l a x) := by
  refine fok envOk mixed is98 ⟨rfl, rfl, ?_⟩
  (repeat' ((conv => whnf); first | refine stp ?_ | refine Cl.mk (k0) ?_ | refine Cl.mk (k1) ?_ | refine Cl.mk (k2) ?_ | refine Cl.mk (k3) ?_ | refine Cl.pre (by simp only [shcLL_ints, shcLL_byts, shcLL_strs, Adve.shcs, Data.shcs, Fetc.shcs, Gran.shcs, Keyy.shcs, Link.shcs, Mani.shcs, Name.shcs, Read.shcs, Rout.shcs, Segm.shcs, TEnt.shcs, Topo.shcs]; rfl) ?_))
  exact Vs.Fin.mk (WkR.refl _) (.refl _)
theorem is27 : FI 27 Tryz.f27 := ⟨⟨Tryz.f27, Tryz.func27, rfl, rfl, rfl, rfl⟩, rfl⟩
set_option maxRecDepth 20000 in
set_option maxHeartbeats 16000000 in
theorem DNea0 (code : List UInt8) (l : List Adve) (a : Int) (x : Name) (k : FO 98 [Ys false code] [Ys false code] (LaX l a x)) : FO 27 [Ys false code] [Ys false code] (LaX l a x) := by
  refine fok envOk mixed is27 ⟨rfl, rfl, ?_⟩
  (repeat' ((conv => whnf); first | refine stp ?_ | refine Cl.mk (k) ?_ | refine Cl.pre (by simp only [shcLL_ints, shcLL_byts, shcLL_strs, Adve.shcs, Data.shcs, Fetc.shcs, Gran.shcs, Keyy.shcs, Link.shcs, Mani.shcs, Name.shcs, Read.shcs, Rout.shcs, Segm.shcs, TEnt.shcs, Topo.shcs]; rfl) ?_))
  exact Vs.Fin.mk (WkR.refl _) (.refl _)
theorem is28 : FI 28 Tryz.f28 := ⟨⟨Tryz.f28, Tryz.func28, rfl, rfl, rfl, rfl⟩, rfl⟩
set_option maxRecDepth 20000 in
set_option maxHeartbeats 16000000 in
theorem DPat0 (code : List UInt8) (c0 c1 c2 c3 : List AV) (n : Topo) (l : List Adve) (a : Int) (x : Name) (k0 : FO 88 [Ys false code] [Ys false code] (O (.own c0))) (k1 : FO 92 [O (.own c0)] [O (.own c1)] (NLs n l)) (k2 : FO 90 [O (.own c1), I 7] [O (.own c2), I 7] (I a)) (k3 : FO 91 [O (.own c2)] [O (.own c3)] (A (Name.c false x))) : FO 28 [Ys false code] [Ys false code] (NLax n l a x) := by
  refine fok envOk mixed is28 ⟨rfl, rfl, ?_⟩
  (repeat' ((conv => whnf); first | refine stp ?_ | refine Cl.mk (k0) ?_ | refine Cl.mk (k1) ?_ | refine Cl.mk (k2) ?_ | refine Cl.mk (k3) ?_ | refine Cl.pre (by simp only [shcLL_ints, shcLL_byts, shcLL_strs, Adve.shcs, Data.shcs, Fetc.shcs, Gran.shcs, Keyy.shcs, Link.shcs, Mani.shcs, Name.shcs, Read.shcs, Rout.shcs, Segm.shcs, TEnt.shcs, Topo.shcs]; rfl) ?_))
  exact Vs.Fin.mk (WkR.refl _) (.refl _)
theorem is29 : FI 29 Tryz.f29 := ⟨⟨Tryz.f29, Tryz.func29, rfl, rfl, rfl, rfl⟩, rfl⟩
set_option maxRecDepth 20000 in
set_option maxHeartbeats 16000000 in
theorem DLea0 (code : List UInt8) (c0 c1 c2 c3 c4 : List AV) (n : Topo) (l : List Adve) (a b c : Int) (hc : 0 ≤ c ∧ c < 7) (k0 : FO 88 [Ys false code] [Ys false code] (O (.own c0))) (k1 : FO 92 [O (.own c0)] [O (.own c1)] (NLs n l)) (k2 : FO 90 [O (.own c1), I 6] [O (.own c2), I 6] (I a)) (k3 : FO 90 [O (.own c2), I 4] [O (.own c3), I 4] (I b)) (k4 : FO 90 [O (.own c3), I 7] [O (.own c4), I 7] (I c)) : FO 29 [Ys false code] [Ys false code] (NL3 n l a b (c - 1)) := by
  refine fok envOk mixed is29 ⟨rfl, rfl, ?_⟩
  (repeat' ((conv => whnf); first | refine stp ?_ | refine Cl.mk (k0) ?_ | refine Cl.mk (k1) ?_ | refine Cl.mk (k2) ?_ | refine Cl.mk (k3) ?_ | refine Cl.mk (k4) ?_ | refine Cl.pre (by simp only [shcLL_ints, shcLL_byts, shcLL_strs, Adve.shcs, Data.shcs, Fetc.shcs, Gran.shcs, Keyy.shcs, Link.shcs, Mani.shcs, Name.shcs, Read.shcs, Rout.shcs, Segm.shcs, TEnt.shcs, Topo.shcs]; rfl) ?_))
  exact Vs.Fin.mk (WkR.refl _) (.refl _)
theorem is24 : FI 24 Tryz.f24 := ⟨⟨Tryz.f24, Tryz.func24, rfl, rfl, rfl, rfl⟩, rfl⟩
set_option maxRecDepth 20000 in
set_option maxHeartbeats 16000000 in
theorem DPub0 (code : List UInt8) (c0 c1 c2 c3 : List AV) (n : Topo) (l : List Adve) (a : Int) (x : Name) (k0 : FO 88 [Ys false code] [Ys false code] (O (.own c0))) (k1 : FO 89 [O (.own c0)] [O (.own c1)] (NLs n l)) (k2 : FO 90 [O (.own c1), I n.nodes] [O (.own c2), I n.nodes] (I a)) (k3 : FO 91 [O (.own c2)] [O (.own c3)] (A (Name.c false x))) : FO 24 [Ys false code] [Ys false code] (NLax n l a x) := by
  refine fok envOk mixed is24 ⟨rfl, rfl, ?_⟩
  (repeat' ((conv => whnf); first | refine stp ?_ | refine Cl.mk (k0) ?_ | refine Cl.mk (k1) ?_ | refine Cl.mk (k2) ?_ | refine Cl.mk (k3) ?_ | refine Cl.pre (by simp only [shcLL_ints, shcLL_byts, shcLL_strs, Adve.shcs, Data.shcs, Fetc.shcs, Gran.shcs, Keyy.shcs, Link.shcs, Mani.shcs, Name.shcs, Read.shcs, Rout.shcs, Segm.shcs, TEnt.shcs, Topo.shcs]; rfl) ?_))
  exact Vs.Fin.mk (WkR.refl _) (.refl _)
end Go.Proofs.YtigkmijoefibiaaGreat
