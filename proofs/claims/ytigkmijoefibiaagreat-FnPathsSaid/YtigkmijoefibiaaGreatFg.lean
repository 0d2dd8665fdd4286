/- Contracts of functions of the program: no statement of the seat is proved here. Each under the conditions that stand in it. -/
import Derived.Test.YtigkmijoefibiaaGreatFd
set_option linter.all false
namespace Go.Proofs.YtigkmijoefibiaaGreat
open Go.Vs Go.Proofs
structure Link where
  a : Int
  b : Int
  deriving DecidableEq
abbrev Link.c (o : Bool) (p : Link) : List AV := [cI p.a, cI p.b]
@[simp] theorem Link.shc (p : Link) : shcL (Link.c true p) = Link.c false p := by simp [Link.c, shcL, Vs.shc, shcLL_ints, shcLL_byts, shcLL_strs]
@[simp] theorem Link.shcs (l : List Link) : shcLL (l.map (Link.c true)) = l.map (Link.c false) := shcLL_map Link.shc l
@[simp] theorem Link.down (p : Link) : dOwnL (Link.c true p) := by simp [Link.c, dOwnL, dOwn]
@[simp] theorem Link.downs (l : List Link) : dOwnLL (l.map (Link.c true)) := dOwnLL_of Link.down l
theorem Link.eq_iff {p q : Link} : p = q ↔ p.a = q.a ∧ p.b = q.b := by cases p; cases q; simp
def Link.rng (p : Link) : Prop := (-9223372036854775808 ≤ p.a ∧ p.a ≤ 9223372036854775807) ∧ (-9223372036854775808 ≤ p.b ∧ p.b ≤ 9223372036854775807)
def Link.mkd (p : Link) (k : Int) : Link := ⟨k, k + 1⟩
def Link.cnt (p : Link) : Nat := 1 + 1
theorem Link.cnts_le (l : List Link) : sumN Link.cnt l ≤ 3 * l.length := by
  induction l with
  | nil => simp [sumN]
  | cons x l ih => simp only [sumN, List.length_cons, Link.cnt]; omega
theorem is157 : FI 157 Tryz.f157 := ⟨⟨Tryz.f157, Tryz.func157, rfl, rfl, rfl, rfl⟩, rfl⟩
set_option maxRecDepth 20000 in
set_option maxHeartbeats 16000000 in
theorem toLink (p : Link) : FO 157 [A (Link.c false p)] [A (Link.c false p)] (A (Link.c true p)) := by
  refine fok envOk mixed is157 ⟨rfl, rfl, ?_⟩
  (repeat' ((conv => whnf); first | refine stp ?_ | refine Br.mk (fun _ => ?_) (fun _ => ?_) ))
  all_goals (try (refine Vs.Fin.mk (WkR.eq ?_) (.refl _); first | rfl | (simp_all []; done) | (simp_all []; omega) | grind | grind []))
theorem is169 : FI 169 Tryz.f169 := ⟨⟨Tryz.f169, Tryz.func169, rfl, rfl, rfl, rfl⟩, rfl⟩
set_option maxRecDepth 20000 in
set_option maxHeartbeats 16000000 in
theorem eqLink (p q : Link) : FO 169 [A (Link.c false p), A (Link.c false q)] [A (Link.c false p), A (Link.c false q)] (B (decide (p = q))) := by
  refine fok envOk mixed is169 ⟨rfl, rfl, ?_⟩
  (repeat' ((conv => whnf); first | refine stp ?_ | refine Br.mk (fun _ => ?_) (fun _ => ?_) ))
  all_goals (try (refine Vs.Fin.mk (WkR.eq ?_) (.refl _); first | rfl | (simp_all [Link.eq_iff]; done) | (simp_all [Link.eq_iff]; omega) | grind | grind [Link.eq_iff]))
theorem is68 : FI 68 Tryz.f68 := ⟨⟨Tryz.f68, Tryz.func68, rfl, rfl, rfl, rfl⟩, rfl⟩
set_option maxRecDepth 20000 in
set_option maxHeartbeats 16000000 in
theorem szLinkS (l : List Link) (x : Int) (hx : 0 ≤ x ∧ x ≤ 1048576) (hl : l.length ≤ 9223372036854775807) : FO 68 [O (sl false 2 (l.map (Link.c false))), I x] [O (sl false 2 (l.map (Link.c false))), I x] (I (szA l.length x)) := by
  refine fok envOk mixed is68 ⟨rfl, rfl, ?_⟩
  (repeat' ((conv => whnf); first | refine stp ?_ | refine Br.mk (fun _ => ?_) (fun _ => ?_) ))
  all_goals (try (refine Vs.Fin.mk (WkR.eq ?_) (.refl _); first | rfl | (simp_all [szA]; done) | (simp_all [szA]; omega) | grind | grind [szA]))
theorem is75 : FI 75 Tryz.f75 := ⟨⟨Tryz.f75, Tryz.func75, rfl, rfl, rfl, rfl⟩, rfl⟩
set_option maxRecDepth 20000 in
set_option maxHeartbeats 16000000 in
theorem toLinkS (l : List Link) (hl : l.length ≤ 1048576) : FO 75 [O (sl false 2 (l.map (Link.c false)))] [O (sl false 2 (l.map (Link.c false)))] (O (sl true 2 (l.map (Link.c true)))) := by
  refine fok envOk mixed is75 ⟨rfl, rfl, ?_⟩
  refine Nm.mk lenC ?_
  refine Rq.mk ⟨rfl, by omega, by omega, by simp; omega⟩ ?_
  refine Lp.mk [.sl 0, .sl 3, .sl 4] (fun m σ => ∃ d r, l = d ++ r ∧ m = r.length ∧ σ = [Sa 0 (O (sl false 2 (l.map (Link.c false)))), Sa 3 (O (.sl true .non 2 (d.map (Link.c true) ++ List.replicate m [cI 0, cI 0]))), Sa 4 (I d.length)]) (l.length) _ (WkS.weak _ _) ⟨[], l, rfl, rfl, (by first | rfl | (simp only [zlen, zsum, Nat.zero_mul, Int.add_zero, Int.sub_zero, List.nil_append, markG]; rfl))⟩ ?_
  rintro m τ ⟨d, r, rfl, rfl, rfl⟩
  refine Nm.mk lenC ?_
  cases r with
  | nil =>
    refine Br.neg (by simp) ?_
    refine ⟨rfl, WkR.of (.sl1 ?_ .nil), .refl _⟩
    simp
  | cons x r =>
    have hl2 := hl
    simp at hl2
    refine Br.pos (by simp; omega) ?_
    refine Rq.mk ⟨by omega, by simp; omega⟩ ?_
    refine El.mk (getA rfl) ?_
    refine Cl.mk (toLink x) ?_
    refine Rq.mk ⟨by omega, by simp; omega⟩ ?_
    refine El.mk (m := [cI 0, cI 0]) (by simp) ?_
    refine Nm.mk (wrapI (by omega) (by omega)) ?_
    refine Nx.intro r.length (by simp) _ (WkS.weak _ _) ⟨d ++ [x], r, by simp, rfl, ?_⟩
    rw [len1, ← setA]; rfl
theorem is82 : FI 82 Tryz.f82 := ⟨⟨Tryz.f82, Tryz.func82, rfl, rfl, rfl, rfl⟩, rfl⟩
set_option maxRecDepth 20000 in
set_option maxHeartbeats 16000000 in
theorem eqLinkS (l b : List Link) (ha : l.length ≤ 1099511627776) : FO 82 [O (sl false 2 (l.map (Link.c false))), O (sl false 2 (b.map (Link.c false)))] [O (sl false 2 (l.map (Link.c false))), O (sl false 2 (b.map (Link.c false)))] (B (decide (l = b))) := by
  refine fok envOk mixed is82 ⟨rfl, rfl, ?_⟩
  refine Nm.mk lenC ?_
  refine Nm.mk lenC ?_
  (conv => whnf)
  refine Br.mk (fun h => ?_) (fun h => ?_)
  · have hne : l ≠ b := by rintro rfl; simp at h
    (repeat' ((conv => whnf); first | refine stp ?_ | refine Br.mk (fun _ => ?_) (fun _ => ?_) ))
    all_goals (try (refine Vs.Fin.mk (WkR.eq ?_) (.refl _); first | rfl | (simp_all [hne]; done) | (simp_all [hne]; omega) | grind | grind [hne]))
  have hl : l.length = b.length := by simp at h; omega
  refine Lp.mk [.sl 0, .sl 1, .sl 5] (fun m σ => ∃ d r e s, l = d ++ r ∧ b = e ++ s ∧ m = r.length ∧ d = e ∧ σ = [Sa 0 (O (sl false 2 (l.map (Link.c false)))), Sa 1 (O (sl false 2 (b.map (Link.c false)))), Sa 5 (I d.length)]) l.length _ (WkS.weak _ _) ⟨[], l, [], b, rfl, rfl, rfl, rfl, rfl⟩ ?_
  rintro m τ ⟨d, r, e, s, rfl, rfl, rfl, rfl, rfl⟩
  refine Nm.mk lenC ?_
  cases r with
  | nil =>
    obtain rfl : s = [] := by cases s <;> simp_all
    refine Br.neg (by simp) ?_
    (repeat' ((conv => whnf); first | refine stp ?_ | refine Br.mk (fun _ => ?_) (fun _ => ?_) ))
    all_goals (try (refine Vs.Fin.mk (WkR.eq ?_) (.refl _); first | rfl | (simp_all []; done) | (simp_all []; omega) | grind | grind []))
  | cons x r =>
    obtain ⟨y, s, rfl⟩ : ∃ y s', s = y :: s' := by cases s <;> simp_all
    have ha2 := ha
    simp at ha2
    refine Br.pos (by simp; omega) ?_
    refine Rq.mk ⟨by omega, by simp; omega⟩ ?_
    refine El.mk (getA rfl) ?_
    refine Rq.mk ⟨by omega, by simp; omega⟩ ?_
    refine El.mk (getA rfl) ?_
    refine Cl.mk (eqLink x y) ?_
    (conv => whnf)
    refine And.intro (by kernel_rfl) ?_
    (conv => whnf)
    refine Br.mk (fun h => ?_) (fun h => ?_)
    · have hne : x ≠ y := by simpa using h
      (repeat' ((conv => whnf); first | refine stp ?_ | refine Br.mk (fun _ => ?_) (fun _ => ?_) ))
      all_goals (try (refine Vs.Fin.mk (WkR.eq ?_) (.refl _); first | rfl | (simp_all [hne]; done) | (simp_all [hne]; omega) | grind | grind [hne]))
    · obtain rfl : x = y := by simpa using h
      refine Nm.mk (wrapI (by omega) (by omega)) ?_
      refine Nx.intro r.length (by simp) _ (WkS.weak _ _) ⟨d ++ [x], r, d ++ [x], s, by simp, by simp, rfl, rfl, ?_⟩
      rw [len1]; rfl
theorem is85 : FI 85 Tryz.f85 := ⟨⟨Tryz.f85, Tryz.func85, rfl, rfl, rfl, rfl⟩, rfl⟩
set_option maxRecDepth 20000 in
set_option maxHeartbeats 16000000 in
theorem markLinkS (l : List Link) (k : Int) (hk : 0 ≤ k) (hb : k + (sumN Link.cnt l : Nat) ≤ 4611686018427387904) (hl : l.length ≤ 4611686018427387904) : FO 85 [O (sl true 2 (l.map (Link.c true))), I k] [O (sl true 2 ((markG Link.mkd Link.cnt l k).map (Link.c true))), I k] (I (k + (sumN Link.cnt l : Nat))) := by
  refine fok envOk mixed is85 ⟨rfl, rfl, ?_⟩
  refine Lp.mk [.sl 0, .ex 0, .sl 1, .sl 5] (fun m σ => ∃ d r, l = d ++ r ∧ m = r.length ∧ σ = [Rf 0 0, Ex 0 (O (sl true 2 ((markG Link.mkd Link.cnt d k ++ r).map (Link.c true)))), Sa 1 (I (k + (sumN Link.cnt d : Nat))), Sa 5 (I d.length)]) (l.length) _ (WkS.weak _ _) ⟨[], l, rfl, rfl, (by first | rfl | (simp only [zlen, zsum, Nat.zero_mul, Int.add_zero, Int.sub_zero, List.nil_append, markG]; rfl))⟩ ?_
  rintro m τ ⟨d, r, rfl, rfl, rfl⟩
  refine Nm.mk lenC ?_
  cases r with
  | nil =>
    refine Br.neg (by simp [markG_length]) ?_
    (repeat' ((conv => whnf); first | refine stp ?_ | refine Br.mk (fun _ => ?_) (fun _ => ?_) ))
    simp only [List.append_nil]
    exact ⟨WkR.refl _, .refl _⟩
  | cons x r =>
    simp at hl
    rw [sumN_append] at hb
    have hc : Link.cnt x = 1 + 1 := rfl
    simp only [sumN] at hb
    refine Br.pos (by simp [markG_length]; omega) ?_
    refine Rq.mk ⟨by omega, by simp [markG_length]; omega⟩ ?_
    first | refine El.mk (getA (by simp [markG_length])) ?_ | refine El.mk (List.getElem?_set_self (by simp [markG_length])) ?_
    refine Nm.mk (wrapI (by omega) (by omega)) ?_
    refine Rq.mk ⟨by omega, by simp [markG_length]; omega⟩ ?_
    first | refine El.mk (getA (by simp [markG_length])) ?_ | refine El.mk (List.getElem?_set_self (by simp [markG_length])) ?_
    refine Nm.mk (wrapI (by omega) (by omega)) ?_
    refine Nm.mk (wrapI (by omega) (by omega)) ?_
    refine Nx.intro r.length (by simp) _ (WkS.weak _ _) ⟨d ++ [x], r, by simp, rfl, ?_⟩
    (repeat' (first | exact rfl | refine consE ?_ ?_ | refine entE ?_ | refine vI ?_ | refine vS ?_ | refine vT ?_ | refine vB ?_))
    · simp only [List.set_set]
      rw [setB (by simp [markG_length])]
      simp [markG_snoc, Link.mkd, spliceAV]
    · rw [sumN_snoc]; omega
    · simp
structure Topo where
  nodes : Int
  links : List Link
  deriving DecidableEq
abbrev Topo.c (o : Bool) (p : Topo) : List AV := [cI p.nodes, sl o 2 (p.links.map (Link.c o))]
@[simp] theorem Topo.shc (p : Topo) : shcL (Topo.c true p) = Topo.c false p := by simp [Topo.c, shcL, Vs.shc, shcLL_ints, shcLL_byts, shcLL_strs, Link.shcs]
@[simp] theorem Topo.shcs (l : List Topo) : shcLL (l.map (Topo.c true)) = l.map (Topo.c false) := shcLL_map Topo.shc l
@[simp] theorem Topo.down (p : Topo) : dOwnL (Topo.c true p) := by simp [Topo.c, dOwnL, dOwn]
@[simp] theorem Topo.downs (l : List Topo) : dOwnLL (l.map (Topo.c true)) := dOwnLL_of Topo.down l
theorem Topo.eq_iff {p q : Topo} : p = q ↔ p.nodes = q.nodes ∧ p.links = q.links := by cases p; cases q; simp
def Topo.size (p : Topo) : Nat := p.links.length
def Topo.fits (p : Topo) : Prop := p.links.length ≤ 9223372036854775807
def Topo.rng (p : Topo) : Prop := (-9223372036854775808 ≤ p.nodes ∧ p.nodes ≤ 9223372036854775807) ∧ (∀ y ∈ p.links, Link.rng y)
def Topo.mkd (p : Topo) (k : Int) : Topo := ⟨k, markG Link.mkd Link.cnt p.links (k + 1)⟩
def Topo.cnt (p : Topo) : Nat := 1 + sumN Link.cnt p.links
def Topo.mkv (p : Topo) (k : Int) : Topo := ⟨p.nodes, markG Link.mkd Link.cnt p.links (k)⟩
def Topo.cntv (p : Topo) : Nat := sumN Link.cnt p.links
theorem Topo.cnt_le (p : Topo) : Topo.cnt p ≤ 5 * (Topo.size p + 1) := by
  have := Link.cnts_le p.links; simp only [Topo.cnt, Topo.size, strsSize]; omega
theorem Topo.cntv_le (p : Topo) : Topo.cntv p ≤ 5 * (Topo.size p + 1) := by
  have := Link.cnts_le p.links; simp only [Topo.cntv, Topo.size, strsSize]; omega
theorem Topo.cnts_le (l : List Topo) : sumN Topo.cnt l ≤ 5 * (l.length + sumN Topo.size l) := by
  induction l with
  | nil => simp [sumN]
  | cons x l ih => have := Topo.cnt_le x; simp only [sumN, List.length_cons]; omega
theorem is6 : FI 6 Tryz.f6 := ⟨⟨Tryz.f6, Tryz.func6, rfl, rfl, rfl, rfl⟩, rfl⟩
set_option maxRecDepth 20000 in
set_option maxHeartbeats 16000000 in
theorem szTopology (p : Topo) (x : Int) (hx : 0 ≤ x ∧ x ≤ 1048576) (hl : Topo.fits p) : FO 6 [A (Topo.c false p), I x] [A (Topo.c false p), I x] (I (szA (Topo.size p) x)) := by
  refine fok envOk mixed is6 ⟨rfl, rfl, ?_⟩
  refine Cl.mk (szLinkS p.links (x) hx hl) ?_
  (conv => whnf)
  refine Br.dec (fun h => ?_) (fun h => ?_)
  · (repeat' ((conv => whnf); first | refine stp ?_ | refine Br.mk (fun _ => ?_) (fun _ => ?_) ))
    refine Vs.Fin.mk (WkR.eq ?_) (.refl _)
    have h0 := szA_neg h (by omega)
    rw [szA_lt (n := Topo.size p) (x := x) (by simp only [Topo.size]; omega)]
  have e0 := szA_nn h (by omega)
  have s0 := szA_le e0
  (repeat' ((conv => whnf); first | refine stp ?_ | refine Br.mk (fun _ => ?_) (fun _ => ?_) ))
  refine Vs.Fin.mk (WkR.eq ?_) (.refl _)
  refine congrArg (fun z => [cI z]) ?_
  rw [szA_le (n := Topo.size p) (x := x) (by simp only [Topo.size]; omega)]
  simp only [Topo.size]; omega
theorem is10 : FI 10 Tryz.f10 := ⟨⟨Tryz.f10, Tryz.func10, rfl, rfl, rfl, rfl⟩, rfl⟩
set_option maxRecDepth 20000 in
set_option maxHeartbeats 16000000 in
theorem toTopology (p : Topo) (hl : Topo.size p ≤ 1048576) : FO 10 [A (Topo.c false p)] [A (Topo.c false p)] (A (Topo.c true p)) := by
  refine fok envOk mixed is10 ⟨rfl, rfl, ?_⟩
  (repeat' ((conv => whnf); first | refine stp ?_ | refine Br.mk (fun _ => ?_) (fun _ => ?_) | refine Cl.mk (toLinkS p.links (by simp only [Topo.size] at hl; omega)) ?_ | refine Cl.pre (by simp only [shcLL_ints, shcLL_byts, shcLL_strs, Link.shcs, Mani.shcs, Name.shcs, Segm.shcs, Topo.shcs]; rfl) ?_))
  all_goals (try (refine Vs.Fin.mk (WkR.eq ?_) (.refl _); first | rfl | (simp_all []; done) | (simp_all []; omega) | grind | grind []))
theorem is15 : FI 15 Tryz.f15 := ⟨⟨Tryz.f15, Tryz.func15, rfl, rfl, rfl, rfl⟩, rfl⟩
set_option maxRecDepth 20000 in
set_option maxHeartbeats 16000000 in
theorem eqTopology (p q : Topo) (hp : Topo.size p ≤ 1099511627776) : FO 15 [A (Topo.c false p), A (Topo.c false q)] [A (Topo.c false p), A (Topo.c false q)] (B (decide (p = q))) := by
  refine fok envOk mixed is15 ⟨rfl, rfl, ?_⟩
  (repeat' ((conv => whnf); first | refine stp ?_ | refine Br.mk (fun _ => ?_) (fun _ => ?_) | refine Cl.mk (eqLinkS p.links q.links (by simp only [Topo.size] at hp; omega)) ?_ | refine Cl.pre (by simp only [shcLL_ints, shcLL_byts, shcLL_strs, Link.shcs, Mani.shcs, Name.shcs, Segm.shcs, Topo.shcs]; rfl) ?_))
  all_goals (try (refine Vs.Fin.mk (WkR.eq ?_) (.refl _); first | rfl | (simp_all [Topo.eq_iff]; done) | (simp_all [Topo.eq_iff]; omega) | grind | grind [Topo.eq_iff]))
theorem is18 : FI 18 Tryz.f18 := ⟨⟨Tryz.f18, Tryz.func18, rfl, rfl, rfl, rfl⟩, rfl⟩
set_option maxRecDepth 20000 in
set_option maxHeartbeats 16000000 in
theorem markTopology (p : Topo) (k : Int) (hk : 0 ≤ k) (hb : k + (Topo.cntv p : Nat) ≤ 4611686018427387904) (hz : Topo.size p ≤ 4611686018427387904) : FO 18 [A (Topo.c true p), I k] [A (Topo.c true (Topo.mkv p k)), I k] (I (k + (Topo.cntv p : Nat))) := by
  refine fok envOk mixed is18 ⟨rfl, rfl, ?_⟩
  (repeat' ((conv => whnf); first | refine stp ?_ | refine Br.mk (fun _ => ?_) (fun _ => ?_) | refine Cl.mk (markLinkS p.links (k) (by omega) (by simp only [Topo.cntv] at *; omega) (by simp only [Topo.size] at hz; omega)) ?_ | refine Cl.pre (by simp only [shcLL_ints, shcLL_byts, shcLL_strs, Link.shcs, Mani.shcs, Name.shcs, Segm.shcs, Topo.shcs]; rfl) ?_))
  refine Vs.Fin.mk (WkR.eq ?_) ?_
  · refine congrArg (fun z => [cI z]) ?_; first | rfl | (simp only [Topo.cntv, Topo.mkv]; omega)
  · first | exact .refl _ | (simp only [Topo.cntv, Topo.mkv]; exact .refl _)
end Go.Proofs.YtigkmijoefibiaaGreat
