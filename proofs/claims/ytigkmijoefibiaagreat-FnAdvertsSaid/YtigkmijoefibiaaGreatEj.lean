/- Contracts of functions of the program: no statement of the seat is proved here. Each under the conditions that stand in it. -/
import Derived.Test.YtigkmijoefibiaaGreatEd
import Derived.Test.YtigkmijoefibiaaGreatM5
import Derived.Test.YtigkmijoefibiaaGreatEh
set_option linter.all false
namespace Go.Proofs.YtigkmijoefibiaaGreat
open Go.Vs Go.Proofs
/-! Draws of topologies and of databases -/
theorem links_v (l : List Link) : ∀ v ∈ (l.map (Link.c true)).flatten, ∃ z, v = AV.v z := by
  induction l with
  | nil => simp
  | cons x l ih =>
    intro v hv
    rw [List.map_cons, List.flatten_cons, List.mem_append] at hv
    rcases hv with hv | hv
    · simp [Link.c] at hv
      rcases hv with rfl | rfl <;> exact ⟨_, rfl⟩
    · exact ih v hv
theorem is130 : FI 130 Tryz.f130 := ⟨⟨Tryz.f130, Tryz.func130, rfl, rfl, rfl, rfl⟩, rfl⟩
set_option maxRecDepth 20000 in
set_option maxHeartbeats 16000000 in
theorem l19Any_a (cs c1 c2 c3 : List AV) (n : Topo) (y : Int) (k1 : FO 172 [O (.own cs)] [O (.own c1)] (A (Topo.c true n))) (k2 : FO 90 [O (.own c1), I 10] [O (.own c2), I 10] (I 0)) (k3 : FO 132 [O (.own c2), Is false [0, 1, 7, 2]] [O (.own c3), Is false [0, 1, 7, 2]] (I y)) : FO 130 [O (.own cs)] [O (.own c3)] (A (Topo.c true ⟨y, n.links⟩)) := by
  refine fok envOk mixed is130 ⟨rfl, rfl, ?_⟩
  (repeat' ((conv => whnf); first | refine stp ?_ | refine Cl.mk (k1) ?_ | refine Cl.mk (k2) ?_ | refine Cl.eq k3 (by simp only [shcLL, shcL, Vs.shc]; rfl) ?_ | refine Cl.pre (by simp only [shcLL_ints, shcLL_byts, shcLL_strs, Adve.shcs, Data.shcs, Fetc.shcs, Gran.shcs, Keyy.shcs, Link.shcs, Mani.shcs, Name.shcs, Read.shcs, Rout.shcs, Segm.shcs, TEnt.shcs, Topo.shcs]; rfl) ?_))
  exact Vs.Fin.mk (WkR.refl _) (.refl _)
set_option maxRecDepth 20000 in
set_option maxHeartbeats 16000000 in
theorem l19Any_b (cs c1 c2 c3 c4 : List AV) (n : Topo) (y z : Int) (hn : n.links.length ≤ 100) (hz : 0 ≤ z ∧ z < 8) (k1 : FO 172 [O (.own cs)] [O (.own c1)] (A (Topo.c true n))) (k2 : FO 90 [O (.own c1), I 10] [O (.own c2), I 10] (I 1)) (k3 : FO 90 [O (.own c2), I 4] [O (.own c3), I 4] (I y)) (k4 : FO 90 [O (.own c3), I 8] [O (.own c4), I 8] (I z)) : FO 130 [O (.own cs)] [O (.own c4)] (A (Topo.c true ⟨n.nodes, n.links ++ [⟨y, z - 1⟩]⟩)) := by
  refine fok envOk mixed is130 ⟨rfl, rfl, ?_⟩
  (repeat' ((conv => whnf); first | refine stp ?_ | refine Cl.mk (k1) ?_ | refine Cl.mk (k2) ?_ | refine Cl.mk (k3) ?_ | refine Cl.mk (k4) ?_ | refine Rq.mk (by simp; omega) ?_ | refine Cl.pre (by simp only [shcLL_ints, shcLL_byts, shcLL_strs, Adve.shcs, Data.shcs, Fetc.shcs, Gran.shcs, Keyy.shcs, Link.shcs, Mani.shcs, Name.shcs, Read.shcs, Rout.shcs, Segm.shcs, TEnt.shcs, Topo.shcs]; rfl) ?_))
  refine Vs.Fin.mk (WkR.of (.keep (.sl1 ?_ .nil))) (.refl _)
  simp
set_option maxRecDepth 20000 in
set_option maxHeartbeats 16000000 in
theorem l19Any_c (cs c1 c2 : List AV) (n : Topo) (hn : n.links.length ≤ 100) (k1 : FO 172 [O (.own cs)] [O (.own c1)] (A (Topo.c true n))) (k2 : FO 90 [O (.own c1), I 10] [O (.own c2), I 10] (I 2)) : FO 130 [O (.own cs)] [O (.own c2)] (A (Topo.c true ⟨n.nodes, n.links ++ n.links⟩)) := by
  refine fok envOk mixed is130 ⟨rfl, rfl, ?_⟩
  (repeat' ((conv => whnf); first | refine stp ?_ | refine Cl.mk (k1) ?_ | refine Cl.mk (k2) ?_ | refine Rq.mk (links_v n.links) ?_ | refine Rq.mk (by simp; omega) ?_ | refine Cl.pre (by simp only [shcLL_ints, shcLL_byts, shcLL_strs, Adve.shcs, Data.shcs, Fetc.shcs, Gran.shcs, Keyy.shcs, Link.shcs, Mani.shcs, Name.shcs, Read.shcs, Rout.shcs, Segm.shcs, TEnt.shcs, Topo.shcs]; rfl) ?_))
  refine Vs.Fin.mk (WkR.of (.keep (.sl1 ?_ .nil))) (.refl _)
  simp
set_option maxRecDepth 20000 in
set_option maxHeartbeats 16000000 in
theorem l19Any_d (cs c1 c2 : List AV) (n : Topo) (x : Int) (hx : 3 ≤ x) (k1 : FO 172 [O (.own cs)] [O (.own c1)] (A (Topo.c true n))) (k2 : FO 90 [O (.own c1), I 10] [O (.own c2), I 10] (I x)) : FO 130 [O (.own cs)] [O (.own c2)] (A (Topo.c true n)) := by
  refine fok envOk mixed is130 ⟨rfl, rfl, ?_⟩
  have f0 : (x == 0) = false := by simp; omega
  have f1 : (x == 1) = false := by simp; omega
  have f2 : (x == 2) = false := by simp; omega
  (repeat' ((conv => whnf); first | refine stp ?_ | refine Cl.mk (k1) ?_ | refine Cl.mk (k2) ?_ | refine Cl.pre (by simp only [shcLL_ints, shcLL_byts, shcLL_strs, Adve.shcs, Data.shcs, Fetc.shcs, Gran.shcs, Keyy.shcs, Link.shcs, Mani.shcs, Name.shcs, Read.shcs, Rout.shcs, Segm.shcs, TEnt.shcs, Topo.shcs]; rfl) ?_))
  exact Vs.Fin.mk (WkR.refl _) (.refl _)
theorem any19_ok {cs : List AV} (hc : IsC cs) : ∃ (cs' : List AV) (n : Topo), IsC cs' ∧ n.links.length ≤ 200 ∧ (0 ≤ n.nodes ∧ n.nodes ≤ 7) ∧ FO 130 [O (.own cs)] [O (.own cs')] (A (Topo.c true n)) := by
  obtain ⟨c1, n, i1, hn, hd, k1⟩ := net_ok hc
  obtain ⟨c2, x, i2, hx, -, k2⟩ := below_ok i1 10
  have hx := hx (by omega)
  by_cases x0 : x = 0
  · subst x0
    obtain ⟨c3, y, i3, hy, k3⟩ := int_ok i2 [0, 1, 7, 2] (by decide) (by decide)
    exact ⟨c3, ⟨y, n.links⟩, i3, (show n.links.length ≤ 200 by omega), (show 0 ≤ y ∧ y ≤ 7 by simp at hy; omega), l19Any_a cs c1 c2 c3 n y k1 k2 k3⟩
  by_cases x1 : x = 1
  · subst x1
    obtain ⟨c3, y, i3, hy, -, k3⟩ := below_ok i2 4
    obtain ⟨c4, z, i4, hz, -, k4⟩ := below_ok i3 8
    exact ⟨c4, ⟨n.nodes, n.links ++ [⟨y, z - 1⟩]⟩, i4, (show (n.links ++ [_]).length ≤ 200 by simp; omega), (show 0 ≤ n.nodes ∧ n.nodes ≤ 7 by omega), l19Any_b cs c1 c2 c3 c4 n y z hn (hz (by omega)) k1 k2 k3 k4⟩
  by_cases x2 : x = 2
  · subst x2
    exact ⟨c2, ⟨n.nodes, n.links ++ n.links⟩, i2, (show (n.links ++ n.links).length ≤ 200 by simp; omega), (show 0 ≤ n.nodes ∧ n.nodes ≤ 7 by omega), l19Any_c cs c1 c2 n hn k1 k2⟩
  · exact ⟨c2, n, i2, by omega, by omega, l19Any_d cs c1 c2 n x (by omega) k1 k2⟩
theorem sh_Ad20b {f : Nat} {args outs : List Arg} {l : List Adve} (h : FO f args outs (Ads l)) : FO f args outs (Al l) := by
  have := FOk.wk (res' := (.one, shcL [sl true 4 (l.map (Adve.c false))])) h (.refl _) (.refl _) ⟨rfl, .inr (WkL.refl _)⟩
  simpa [shcL, Vs.shc, shcLL_Ad] using this
abbrev LAv (o : Bool) (l : List Adve) (a : Adve) : Arg := (.tup [(false, 1), (true, 4)], sl o 4 (l.map (Adve.c false)) :: Adve.c false a)
abbrev LI2 (o : Bool) (l : List Adve) (k : Int) : Arg := (.tup [(false, 1), (false, 1)], [sl o 4 (l.map (Adve.c false)), cI k])
abbrev LL2 (l m : List Adve) : Arg := (.tup [(false, 1), (false, 1)], [sl false 4 (l.map (Adve.c false)), sl false 4 (m.map (Adve.c false))])
abbrev NRV (o : Bool) (n : Topo) (r : List TEnt) (v : Int) : Arg := (.tup [(true, 2), (false, 1), (false, 1)], Topo.c o n ++ [sl o 2 (r.map (TEnt.c false)), cI v])
theorem is45 : FI 45 Tryz.f45 := ⟨⟨Tryz.f45, Tryz.func45, rfl, rfl, rfl, rfl⟩, rfl⟩
set_option maxRecDepth 20000 in
set_option maxHeartbeats 16000000 in
theorem DMrg0 (code : List UInt8) (c0 c1 c2 : List AV) (l : List Adve) (a : Adve) (k0 : FO 88 [Ys false code] [Ys false code] (O (.own c0))) (k1 : FO 112 [O (.own c0)] [O (.own c1)] (Ads l)) (k2 : FO 113 [O (.own c1)] [O (.own c2)] (A (Adve.c false a))) : FO 45 [Ys false code] [Ys false code] (LAv true l a) := by
  refine fok envOk mixed is45 ⟨rfl, rfl, ?_⟩
  (repeat' ((conv => whnf); first | refine stp ?_ | refine Cl.mk (k0) ?_ | refine Cl.mk (k1) ?_ | refine Cl.mk (k2) ?_ | refine Cl.pre (by simp only [shcLL_ints, shcLL_byts, shcLL_strs, Adve.shcs, Data.shcs, Fetc.shcs, Gran.shcs, Keyy.shcs, Link.shcs, Mani.shcs, Name.shcs, Read.shcs, Rout.shcs, Segm.shcs, TEnt.shcs, Topo.shcs]; rfl) ?_))
  exact Vs.Fin.mk (WkR.refl _) (.refl _)
theorem is55 : FI 55 Tryz.f55 := ⟨⟨Tryz.f55, Tryz.func55, rfl, rfl, rfl, rfl⟩, rfl⟩
set_option maxRecDepth 20000 in
set_option maxHeartbeats 16000000 in
theorem DFnd0 (code : List UInt8) (c0 c1 c2 : List AV) (l : List Adve) (z : Int) (hz : 0 ≤ z ∧ z < 8) (k0 : FO 88 [Ys false code] [Ys false code] (O (.own c0))) (k1 : FO 112 [O (.own c0)] [O (.own c1)] (Ads l)) (k2 : FO 90 [O (.own c1), I 8] [O (.own c2), I 8] (I z)) : FO 55 [Ys false code] [Ys false code] (LI2 true l (z - 1)) := by
  refine fok envOk mixed is55 ⟨rfl, rfl, ?_⟩
  (repeat' ((conv => whnf); first | refine stp ?_ | refine Cl.mk (k0) ?_ | refine Cl.mk (k1) ?_ | refine Cl.mk (k2) ?_ | refine Cl.pre (by simp only [shcLL_ints, shcLL_byts, shcLL_strs, Adve.shcs, Data.shcs, Fetc.shcs, Gran.shcs, Keyy.shcs, Link.shcs, Mani.shcs, Name.shcs, Read.shcs, Rout.shcs, Segm.shcs, TEnt.shcs, Topo.shcs]; rfl) ?_))
  exact Vs.Fin.mk (WkR.refl _) (.refl _)
theorem is48 : FI 48 Tryz.f48 := ⟨⟨Tryz.f48, Tryz.func48, rfl, rfl, rfl, rfl⟩, rfl⟩
set_option maxRecDepth 20000 in
set_option maxHeartbeats 16000000 in
theorem DEnc0 (code : List UInt8) (c0 c1 : List AV) (a : Adve) (k0 : FO 88 [Ys false code] [Ys false code] (O (.own c0))) (k1 : FO 113 [O (.own c0)] [O (.own c1)] (A (Adve.c false a))) : FO 48 [Ys false code] [Ys false code] (A (Adve.c false a)) := by
  refine fok envOk mixed is48 ⟨rfl, rfl, ?_⟩
  (repeat' ((conv => whnf); first | refine stp ?_ | refine Cl.mk (k0) ?_ | refine Cl.mk (k1) ?_ | refine Cl.pre (by simp only [shcLL_ints, shcLL_byts, shcLL_strs, Adve.shcs, Data.shcs, Fetc.shcs, Gran.shcs, Keyy.shcs, Link.shcs, Mani.shcs, Name.shcs, Read.shcs, Rout.shcs, Segm.shcs, TEnt.shcs, Topo.shcs]; rfl) ?_))
  exact Vs.Fin.mk (WkR.refl _) (.refl _)
theorem is54 : FI 54 Tryz.f54 := ⟨⟨Tryz.f54, Tryz.func54, rfl, rfl, rfl, rfl⟩, rfl⟩
set_option maxRecDepth 20000 in
set_option maxHeartbeats 16000000 in
theorem DEqu0 (code : List UInt8) (c0 c1 c2 : List AV) (l : List Adve) (hz : l.length + sumN Adve.size l ≤ 2000) (k0 : FO 88 [Ys false code] [Ys false code] (O (.own c0))) (k1 : FO 112 [O (.own c0)] [O (.own c1)] (Ads l)) (k2 : FO 133 [O (.own c1), I 2] [O (.own c2), I 2] (B true)) : FO 54 [Ys false code] [Ys false code] ((.tup [(false, 1), (false, 1)], [sl false 4 (l.map (Adve.c false)), sl true 4 (l.map (Adve.c false))])) := by
  refine fok envOk mixed is54 ⟨rfl, rfl, ?_⟩
  have k1 := sh_Ad20b k1
  (repeat' ((conv => whnf); first | refine stp ?_ | refine Cl.mk (k0) ?_ | refine Cl.mk (k1) ?_ | refine Cl.mk (k2) ?_ | refine Cl.mk (s_l20AllS l (by omega)) ?_ | refine Cl.pre (by simp only [shcLL_ints, shcLL_byts, shcLL_strs, Adve.shcs, Data.shcs, Fetc.shcs, Gran.shcs, Keyy.shcs, Link.shcs, Mani.shcs, Name.shcs, Read.shcs, Rout.shcs, Segm.shcs, TEnt.shcs, Topo.shcs]; rfl) ?_))
  exact Vs.Fin.mk (WkR.refl _) (.refl _)
set_option maxRecDepth 20000 in
set_option maxHeartbeats 16000000 in
theorem DEqu1 (code : List UInt8) (c0 c1 c2 c3 : List AV) (l m : List Adve) (hz : l.length + sumN Adve.size l ≤ 2000) (k0 : FO 88 [Ys false code] [Ys false code] (O (.own c0))) (k1 : FO 112 [O (.own c0)] [O (.own c1)] (Ads l)) (k2 : FO 133 [O (.own c1), I 2] [O (.own c2), I 2] (B false)) (k3 : FO 112 [O (.own c2)] [O (.own c3)] (Ads m)) : FO 54 [Ys false code] [Ys false code] ((.tup [(false, 1), (false, 1)], [sl true 4 (l.map (Adve.c false)), sl true 4 (m.map (Adve.c false))])) := by
  refine fok envOk mixed is54 ⟨rfl, rfl, ?_⟩
  (repeat' ((conv => whnf); first | refine stp ?_ | refine Cl.mk (k0) ?_ | refine Cl.mk (k1) ?_ | refine Cl.mk (k2) ?_ | refine Cl.mk (k3) ?_ | refine Cl.pre (by simp only [shcLL_ints, shcLL_byts, shcLL_strs, Adve.shcs, Data.shcs, Fetc.shcs, Gran.shcs, Keyy.shcs, Link.shcs, Mani.shcs, Name.shcs, Read.shcs, Rout.shcs, Segm.shcs, TEnt.shcs, Topo.shcs]; rfl) ?_))
  exact Vs.Fin.mk (WkR.refl _) (.refl _)
theorem sh_LL {f : Nat} {args outs : List Arg} {l m : List Adve} {a b : Bool} (h : FO f args outs (.tup [(false, 1), (false, 1)], [sl a 4 (l.map (Adve.c false)), sl b 4 (m.map (Adve.c false))])) : FO f args outs (LL2 l m) := by
  have := sh_resN h
  cases a <;> cases b <;> simpa only [shcL, Vs.shc, shcLL_Ad] using this
theorem is50 : FI 50 Tryz.f50 := ⟨⟨Tryz.f50, Tryz.func50, rfl, rfl, rfl, rfl⟩, rfl⟩
set_option maxRecDepth 20000 in
set_option maxHeartbeats 16000000 in
theorem DDec0 (code b : List UInt8) (c0 c1 c2 : List AV) (a : Adve) (hz : Adve.size a ≤ 200) (k0 : FO 88 [Ys false code] [Ys false code] (O (.own c0))) (k1 : FO 124 [O (.own c0)] [O (.own c1)] (AD a)) (k2 : FO 123 [O (.own c1), Ys false (encAd a)] [O (.own c2), Ys false (encAd a)] (Ys false b)) : FO 50 [Ys false code] [Ys false code] (Ys false b) := by
  refine fok envOk mixed is50 ⟨rfl, rfl, ?_⟩
  have k1 := AD_sh k1
  (repeat' ((conv => whnf); first | refine stp ?_ | refine Cl.mk (k0) ?_ | refine Cl.mk (k1) ?_ | refine Cl.mk (s_EncAd a (by omega)) ?_ | refine Cl.mk (k2) ?_ | refine Cl.pre (by simp only [shcLL_ints, shcLL_byts, shcLL_strs, Adve.shcs, Data.shcs, Fetc.shcs, Gran.shcs, Keyy.shcs, Link.shcs, Mani.shcs, Name.shcs, Read.shcs, Rout.shcs, Segm.shcs, TEnt.shcs, Topo.shcs]; rfl) ?_))
  exact Vs.Fin.mk (WkR.refl _) (.refl _)
theorem is53 : FI 53 Tryz.f53 := ⟨⟨Tryz.f53, Tryz.func53, rfl, rfl, rfl, rfl⟩, rfl⟩
set_option maxRecDepth 20000 in
set_option maxHeartbeats 16000000 in
theorem DAdo0 (code : List UInt8) (c0 c1 c2 c3 : List AV) (n : Topo) (r : List TEnt) (v : Int) (k0 : FO 88 [Ys false code] [Ys false code] (O (.own c0))) (k1 : FO 130 [O (.own c0)] [O (.own c1)] (A (Topo.c true n))) (k2 : FO 131 [O (.own c1)] [O (.own c2)] (Tl true r)) (k3 : FO 132 [O (.own c2), Is false [1, 2, 0, 1001]] [O (.own c3), Is false [1, 2, 0, 1001]] (I v)) : FO 53 [Ys false code] [Ys false code] (NRV true n r v) := by
  refine fok envOk mixed is53 ⟨rfl, rfl, ?_⟩
  (repeat' ((conv => whnf); first | refine stp ?_ | refine Cl.mk (k0) ?_ | refine Cl.mk (k1) ?_ | refine Cl.mk (k2) ?_ | refine Cl.eq k3 (by simp only [shcLL, shcL, Vs.shc]; rfl) ?_ | refine Cl.pre (by simp only [shcLL_ints, shcLL_byts, shcLL_strs, Adve.shcs, Data.shcs, Fetc.shcs, Gran.shcs, Keyy.shcs, Link.shcs, Mani.shcs, Name.shcs, Read.shcs, Rout.shcs, Segm.shcs, TEnt.shcs, Topo.shcs]; rfl) ?_))
  exact Vs.Fin.mk (WkR.refl _) (.refl _)
theorem sh_LAv {f : Nat} {args outs : List Arg} {l : List Adve} {a : Adve} (h : FO f args outs (LAv true l a)) : FO f args outs (LAv false l a) := by
  have := sh_resN h
  simpa only [shcL, Vs.shc, shcLL_Ad] using this
theorem sh_LI2 {f : Nat} {args outs : List Arg} {l : List Adve} {k : Int} (h : FO f args outs (LI2 true l k)) : FO f args outs (LI2 false l k) := by
  have := sh_resN h
  simpa only [shcL, Vs.shc, shcLL_Ad] using this
theorem sh_NRV {f : Nat} {args outs : List Arg} {n : Topo} {r : List TEnt} {v : Int} (h : FO f args outs (NRV true n r v)) : FO f args outs (NRV false n r v) := by
  have := sh_resN h
  simp only [shcL, Vs.shc, shcLL_T, Topo.c, List.cons_append, List.nil_append, Link.shcs] at this
  exact this
end Go.Proofs.YtigkmijoefibiaaGreat
