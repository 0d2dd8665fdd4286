/- Contracts of functions of the program: no statement of the seat is proved here. Each under the conditions that stand in it. -/
import Derived.Test.YtigkmijoefibiaaGreatFd
set_option linter.all false
namespace Go.Proofs.YtigkmijoefibiaaGreat
open Go.Vs Go.Proofs
structure Adve where
  origin : Int
  version : Int
  nbs : List Int
  prefs : List Name
  deriving DecidableEq
abbrev Adve.c (o : Bool) (p : Adve) : List AV := [cI p.origin, cI p.version, cIs o p.nbs, sl o 1 (p.prefs.map (Name.c o))]
@[simp] theorem Adve.shc (p : Adve) : shcL (Adve.c true p) = Adve.c false p := by simp [Adve.c, shcL, Vs.shc, shcLL_ints, shcLL_byts, shcLL_strs, Name.shcs]
@[simp] theorem Adve.shcs (l : List Adve) : shcLL (l.map (Adve.c true)) = l.map (Adve.c false) := shcLL_map Adve.shc l
@[simp] theorem Adve.down (p : Adve) : dOwnL (Adve.c true p) := by simp [Adve.c, dOwnL, dOwn]
@[simp] theorem Adve.downs (l : List Adve) : dOwnLL (l.map (Adve.c true)) := dOwnLL_of Adve.down l
theorem Adve.eq_iff {p q : Adve} : p = q ↔ p.origin = q.origin ∧ p.version = q.version ∧ p.nbs = q.nbs ∧ p.prefs = q.prefs := by cases p; cases q; simp
def Adve.size (p : Adve) : Nat := p.nbs.length + (p.prefs.length + sumN Name.size p.prefs)
def Adve.fits (p : Adve) : Prop := p.nbs.length ≤ 9223372036854775807 ∧ (p.prefs.length ≤ 9223372036854775807 ∧ ∀ y ∈ p.prefs, Name.fits y)
def Adve.rng (p : Adve) : Prop := (-9223372036854775808 ≤ p.origin ∧ p.origin ≤ 9223372036854775807) ∧ (-9223372036854775808 ≤ p.version ∧ p.version ≤ 9223372036854775807)
def Adve.mkd (p : Adve) (k : Int) : Adve := ⟨k, k + 1, markG mkI one1 p.nbs (k + 1 + 1), markG Name.mkd Name.cnt p.prefs (k + 1 + 1 + (p.nbs.length : Nat))⟩
def Adve.cnt (p : Adve) : Nat := 1 + 1 + p.nbs.length + sumN Name.cnt p.prefs
def Adve.mkv (p : Adve) (k : Int) : Adve := ⟨p.origin, p.version, markG mkI one1 p.nbs (k), markG Name.mkd Name.cnt p.prefs (k + (p.nbs.length : Nat))⟩
def Adve.cntv (p : Adve) : Nat := p.nbs.length + sumN Name.cnt p.prefs
theorem Adve.cnt_le (p : Adve) : Adve.cnt p ≤ 6 * (Adve.size p + 1) := by
  have := Name.cnts_le p.prefs; simp only [Adve.cnt, Adve.size, strsSize]; omega
theorem Adve.cntv_le (p : Adve) : Adve.cntv p ≤ 6 * (Adve.size p + 1) := by
  have := Name.cnts_le p.prefs; simp only [Adve.cntv, Adve.size, strsSize]; omega
theorem Adve.cnts_le (l : List Adve) : sumN Adve.cnt l ≤ 6 * (l.length + sumN Adve.size l) := by
  induction l with
  | nil => simp [sumN]
  | cons x l ih => have := Adve.cnt_le x; simp only [sumN, List.length_cons]; omega
theorem is69 : FI 69 Tryz.f69 := ⟨⟨Tryz.f69, Tryz.func69, rfl, rfl, rfl, rfl⟩, rfl⟩
set_option maxRecDepth 20000 in
set_option maxHeartbeats 16000000 in
theorem szAdvertisement (p : Adve) (x : Int) (hx : 0 ≤ x ∧ x ≤ 1048576) (hl : Adve.fits p) : FO 69 [A (Adve.c false p), I x] [A (Adve.c false p), I x] (I (szA (Adve.size p) x)) := by
  refine fok envOk mixed is69 ⟨rfl, rfl, ?_⟩
  refine Cl.mk (szIntS p.nbs (x) hx hl.1) ?_
  (conv => whnf)
  refine Br.dec (fun h => ?_) (fun h => ?_)
  · (repeat' ((conv => whnf); first | refine stp ?_ | refine Br.mk (fun _ => ?_) (fun _ => ?_) ))
    refine Vs.Fin.mk (WkR.eq ?_) (.refl _)
    have h0 := szA_neg h (by omega)
    rw [szA_lt (n := Adve.size p) (x := x) (by simp only [Adve.size]; omega)]
  have e0 := szA_nn h (by omega)
  have s0 := szA_le e0
  refine Cl.mk (szNameS p.prefs (szA (p.nbs.length) (x)) (by omega) hl.2) ?_
  (conv => whnf)
  refine Br.dec (fun h => ?_) (fun h => ?_)
  · (repeat' ((conv => whnf); first | refine stp ?_ | refine Br.mk (fun _ => ?_) (fun _ => ?_) ))
    refine Vs.Fin.mk (WkR.eq ?_) (.refl _)
    have h0 := szA_neg h (by omega)
    rw [szA_lt (n := Adve.size p) (x := x) (by simp only [Adve.size]; omega)]
  have e1 := szA_nn h (by omega)
  have s1 := szA_le e1
  (repeat' ((conv => whnf); first | refine stp ?_ | refine Br.mk (fun _ => ?_) (fun _ => ?_) ))
  refine Vs.Fin.mk (WkR.eq ?_) (.refl _)
  refine congrArg (fun z => [cI z]) ?_
  rw [szA_le (n := Adve.size p) (x := x) (by simp only [Adve.size]; omega)]
  simp only [Adve.size]; omega
theorem is76 : FI 76 Tryz.f76 := ⟨⟨Tryz.f76, Tryz.func76, rfl, rfl, rfl, rfl⟩, rfl⟩
set_option maxRecDepth 20000 in
set_option maxHeartbeats 16000000 in
theorem toAdvertisement (p : Adve) (hl : Adve.size p ≤ 1048576) : FO 76 [A (Adve.c false p)] [A (Adve.c false p)] (A (Adve.c true p)) := by
  refine fok envOk mixed is76 ⟨rfl, rfl, ?_⟩
  (repeat' ((conv => whnf); first | refine stp ?_ | refine Br.mk (fun _ => ?_) (fun _ => ?_) | refine Cl.mk (toIntS p.nbs (by simp only [Adve.size, strsSize] at hl; omega)) ?_ | refine Cl.mk (toNameS p.prefs (by simp only [Adve.size] at hl; omega)) ?_ | refine Cl.pre (by simp only [shcLL_ints, shcLL_byts, shcLL_strs, Adve.shcs, Mani.shcs, Name.shcs, Segm.shcs]; rfl) ?_))
  all_goals (try (refine Vs.Fin.mk (WkR.eq ?_) (.refl _); first | rfl | (simp_all []; done) | (simp_all []; omega) | grind | grind []))
theorem is83 : FI 83 Tryz.f83 := ⟨⟨Tryz.f83, Tryz.func83, rfl, rfl, rfl, rfl⟩, rfl⟩
set_option maxRecDepth 20000 in
set_option maxHeartbeats 16000000 in
theorem eqAdvertisement (p q : Adve) (hp : Adve.size p ≤ 1099511627776) : FO 83 [A (Adve.c false p), A (Adve.c false q)] [A (Adve.c false p), A (Adve.c false q)] (B (decide (p = q))) := by
  refine fok envOk mixed is83 ⟨rfl, rfl, ?_⟩
  (repeat' ((conv => whnf); first | refine stp ?_ | refine Br.mk (fun _ => ?_) (fun _ => ?_) | refine Cl.mk (eqIntS p.nbs q.nbs (by simp only [Adve.size, strsSize] at hp; omega)) ?_ | refine Cl.mk (eqNameS p.prefs q.prefs (by simp only [Adve.size] at hp; omega)) ?_ | refine Cl.pre (by simp only [shcLL_ints, shcLL_byts, shcLL_strs, Adve.shcs, Mani.shcs, Name.shcs, Segm.shcs]; rfl) ?_))
  all_goals (try (refine Vs.Fin.mk (WkR.eq ?_) (.refl _); first | rfl | (simp_all [Adve.eq_iff]; done) | (simp_all [Adve.eq_iff]; omega) | grind | grind [Adve.eq_iff]))
theorem is7 : FI 7 Tryz.f7 := ⟨⟨Tryz.f7, Tryz.func7, rfl, rfl, rfl, rfl⟩, rfl⟩
set_option maxRecDepth 20000 in
set_option maxHeartbeats 16000000 in
theorem szAdvertisementS (l : List Adve) (x : Int) (hx : 0 ≤ x ∧ x ≤ 1048576) (hl : l.length ≤ 9223372036854775807 ∧ ∀ y ∈ l, Adve.fits y) : FO 7 [O (sl false 4 (l.map (Adve.c false))), I x] [O (sl false 4 (l.map (Adve.c false))), I x] (I (szA (l.length + sumN Adve.size l) x)) := by
  refine fok envOk mixed is7 ⟨rfl, rfl, ?_⟩
  refine Nm.mk lenC ?_
  have hl1 := hl.1
  refine Nm.mk (wrapI (by omega) (by omega)) ?_
  refine Br.dec (fun h => ?_) (fun h => ?_)
  · (repeat' ((conv => whnf); first | refine stp ?_ | refine Br.mk (fun _ => ?_) (fun _ => ?_) ))
    refine Vs.Fin.mk (WkR.eq ?_) (.refl _)
    rw [szA_lt (n := l.length + sumN Adve.size l) (x := x) (by omega)]
  refine Lp.mk [.sl 0, .sl 1, .sl 5] (fun m σ => ∃ d r, l = d ++ r ∧ m = r.length ∧ 0 ≤ x - l.length - sumN Adve.size d ∧ σ = [Sa 0 (O (sl false 4 (l.map (Adve.c false)))), Sa 1 (I (x - l.length - sumN Adve.size d)), Sa 5 (I d.length)]) (l.length) _ (WkS.weak _ _) ⟨[], l, rfl, rfl, by simp [sumN]; omega, (by first | rfl | (simp only [zlen, zsum, Nat.zero_mul, Int.add_zero, Int.sub_zero, List.nil_append, markG]; rfl))⟩ ?_
  rintro m τ ⟨d, r, rfl, rfl, h0, rfl⟩
  refine Nm.mk lenC ?_
  cases r with
  | nil =>
    refine Br.neg (by simp) ?_
    (repeat' ((conv => whnf); first | refine stp ?_ | refine Br.mk (fun _ => ?_) (fun _ => ?_) ))
    refine Vs.Fin.mk (WkR.eq ?_) (.refl _)
    simp only [List.append_nil] at *
    refine congrArg (fun z => [cI z]) ?_
    rw [szA_le (n := d.length + sumN Adve.size d) (x := x) (by omega)]
    omega
  | cons y r =>
    simp at hl1
    refine Br.pos (by simp; omega) ?_
    refine Rq.mk ⟨by omega, by simp; omega⟩ ?_
    refine El.mk (getA rfl) ?_
    refine Cl.mk (szAdvertisement y _ (by omega) (hl.2 y (by simp))) ?_
    (conv => whnf)
    refine Br.dec (fun h => ?_) (fun h => ?_)
    · (repeat' ((conv => whnf); first | refine stp ?_ | refine Br.mk (fun _ => ?_) (fun _ => ?_) ))
      have h3 := szA_neg h (by omega)
      refine Vs.Fin.mk (WkR.eq ?_) (.refl _)
      rw [szA_lt (n := (d ++ y :: r).length + sumN Adve.size (d ++ y :: r)) (x := x) (by rw [sumN_append]; simp only [sumN]; omega)]
    · have h3 := szA_nn h (by omega)
      have h4 := szA_le h3
      refine Nm.mk (wrapI (by omega) (by omega)) ?_
      refine Nx.intro r.length (by simp) _ (WkS.weak _ _) ⟨d ++ [y], r, by simp, rfl, by simp only [sumN_snoc, List.append_assoc, List.cons_append, List.nil_append]; omega, ?_⟩
      (repeat' (first | exact rfl | refine consE ?_ ?_ | refine entE ?_ | refine vI ?_ | refine vS ?_ | refine vT ?_ | refine vB ?_))
      · simp only [sumN_snoc, List.append_assoc, List.cons_append, List.nil_append]; omega
      · simp
theorem is11 : FI 11 Tryz.f11 := ⟨⟨Tryz.f11, Tryz.func11, rfl, rfl, rfl, rfl⟩, rfl⟩
set_option maxRecDepth 20000 in
set_option maxHeartbeats 16000000 in
theorem toAdvertisementS (l : List Adve) (hl : l.length + sumN Adve.size l ≤ 1048576) : FO 11 [O (sl false 4 (l.map (Adve.c false)))] [O (sl false 4 (l.map (Adve.c false)))] (O (sl true 4 (l.map (Adve.c true)))) := by
  refine fok envOk mixed is11 ⟨rfl, rfl, ?_⟩
  refine Nm.mk lenC ?_
  refine Rq.mk ⟨rfl, by omega, by omega, by simp; omega⟩ ?_
  refine Lp.mk [.sl 0, .sl 3, .sl 4] (fun m σ => ∃ d r, l = d ++ r ∧ m = r.length ∧ σ = [Sa 0 (O (sl false 4 (l.map (Adve.c false)))), Sa 3 (O (.sl true .non 4 (d.map (Adve.c true) ++ List.replicate m [cI 0, cI 0, .sl true .isnil 0 [], .sl true .isnil 0 []]))), Sa 4 (I d.length)]) (l.length) _ (WkS.weak _ _) ⟨[], l, rfl, rfl, (by first | rfl | (simp only [zlen, zsum, Nat.zero_mul, Int.add_zero, Int.sub_zero, List.nil_append, markG]; rfl))⟩ ?_
  rintro m τ ⟨d, r, rfl, rfl, rfl⟩
  refine Nm.mk lenC ?_
  cases r with
  | nil =>
    refine Br.neg (by simp) ?_
    refine ⟨rfl, WkR.of (.sl1 ?_ .nil), .refl _⟩
    simp
  | cons x r =>
    have hl2 := hl
    simp at hl2
    refine Br.pos (by simp; omega) ?_
    refine Rq.mk ⟨by omega, by simp; omega⟩ ?_
    refine El.mk (getA rfl) ?_
    refine Cl.mk (toAdvertisement x (by have := sumN_mem Adve.size (l := d ++ x :: r) (x := x) (by simp); omega)) ?_
    refine Rq.mk ⟨by omega, by simp; omega⟩ ?_
    refine El.mk (m := [cI 0, cI 0, .sl true .isnil 0 [], .sl true .isnil 0 []]) (by simp) ?_
    refine Nm.mk (wrapI (by omega) (by omega)) ?_
    refine Nx.intro r.length (by simp) _ (WkS.weak _ _) ⟨d ++ [x], r, by simp, rfl, ?_⟩
    rw [len1, ← setA]; rfl
theorem is16 : FI 16 Tryz.f16 := ⟨⟨Tryz.f16, Tryz.func16, rfl, rfl, rfl, rfl⟩, rfl⟩
set_option maxRecDepth 20000 in
set_option maxHeartbeats 16000000 in
theorem eqAdvertisementS (l b : List Adve) (ha : l.length + sumN Adve.size l ≤ 1099511627776) : FO 16 [O (sl false 4 (l.map (Adve.c false))), O (sl false 4 (b.map (Adve.c false)))] [O (sl false 4 (l.map (Adve.c false))), O (sl false 4 (b.map (Adve.c false)))] (B (decide (l = b))) := by
  refine fok envOk mixed is16 ⟨rfl, rfl, ?_⟩
  refine Nm.mk lenC ?_
  refine Nm.mk lenC ?_
  (conv => whnf)
  refine Br.mk (fun h => ?_) (fun h => ?_)
  · have hne : l ≠ b := by rintro rfl; simp at h
    (repeat' ((conv => whnf); first | refine stp ?_ | refine Br.mk (fun _ => ?_) (fun _ => ?_) ))
    all_goals (try (refine Vs.Fin.mk (WkR.eq ?_) (.refl _); first | rfl | (simp_all [hne]; done) | (simp_all [hne]; omega) | grind | grind [hne]))
  have hl : l.length = b.length := by simp at h; omega
  refine Lp.mk [.sl 0, .sl 1, .sl 5] (fun m σ => ∃ d r e s, l = d ++ r ∧ b = e ++ s ∧ m = r.length ∧ d = e ∧ σ = [Sa 0 (O (sl false 4 (l.map (Adve.c false)))), Sa 1 (O (sl false 4 (b.map (Adve.c false)))), Sa 5 (I d.length)]) l.length _ (WkS.weak _ _) ⟨[], l, [], b, rfl, rfl, rfl, rfl, rfl⟩ ?_
  rintro m τ ⟨d, r, e, s, rfl, rfl, rfl, rfl, rfl⟩
  refine Nm.mk lenC ?_
  cases r with
  | nil =>
    obtain rfl : s = [] := by cases s <;> simp_all
    refine Br.neg (by simp) ?_
    (repeat' ((conv => whnf); first | refine stp ?_ | refine Br.mk (fun _ => ?_) (fun _ => ?_) ))
    all_goals (try (refine Vs.Fin.mk (WkR.eq ?_) (.refl _); first | rfl | (simp_all []; done) | (simp_all []; omega) | grind | grind []))
  | cons x r =>
    obtain ⟨y, s, rfl⟩ : ∃ y s', s = y :: s' := by cases s <;> simp_all
    have ha2 := ha
    simp at ha2
    refine Br.pos (by simp; omega) ?_
    refine Rq.mk ⟨by omega, by simp; omega⟩ ?_
    refine El.mk (getA rfl) ?_
    refine Rq.mk ⟨by omega, by simp; omega⟩ ?_
    refine El.mk (getA rfl) ?_
    refine Cl.mk (eqAdvertisement x y (by have := sumN_mem Adve.size (l := d ++ x :: r) (x := x) (by simp); omega)) ?_
    (conv => whnf)
    refine And.intro (by kernel_rfl) ?_
    (conv => whnf)
    refine Br.mk (fun h => ?_) (fun h => ?_)
    · have hne : x ≠ y := by simpa using h
      (repeat' ((conv => whnf); first | refine stp ?_ | refine Br.mk (fun _ => ?_) (fun _ => ?_) ))
      all_goals (try (refine Vs.Fin.mk (WkR.eq ?_) (.refl _); first | rfl | (simp_all [hne]; done) | (simp_all [hne]; omega) | grind | grind [hne]))
    · obtain rfl : x = y := by simpa using h
      refine Nm.mk (wrapI (by omega) (by omega)) ?_
      refine Nx.intro r.length (by simp) _ (WkS.weak _ _) ⟨d ++ [x], r, d ++ [x], s, by simp, by simp, rfl, rfl, ?_⟩
      rw [len1]; rfl
theorem is19 : FI 19 Tryz.f19 := ⟨⟨Tryz.f19, Tryz.func19, rfl, rfl, rfl, rfl⟩, rfl⟩
set_option maxRecDepth 20000 in
set_option maxHeartbeats 16000000 in
theorem markAdvertisementS (l : List Adve) (k : Int) (hk : 0 ≤ k) (hb : k + (sumN Adve.cnt l : Nat) ≤ 4611686018427387904) (hl : l.length + sumN Adve.size l ≤ 4611686018427387904) : FO 19 [O (sl true 4 (l.map (Adve.c true))), I k] [O (sl true 4 ((markG Adve.mkd Adve.cnt l k).map (Adve.c true))), I k] (I (k + (sumN Adve.cnt l : Nat))) := by
  refine fok envOk mixed is19 ⟨rfl, rfl, ?_⟩
  refine Lp.mk [.sl 0, .ex 0, .sl 1, .sl 5] (fun m σ => ∃ d r, l = d ++ r ∧ m = r.length ∧ σ = [Rf 0 0, Ex 0 (O (sl true 4 ((markG Adve.mkd Adve.cnt d k ++ r).map (Adve.c true)))), Sa 1 (I (k + (sumN Adve.cnt d : Nat))), Sa 5 (I d.length)]) (l.length) _ (WkS.weak _ _) ⟨[], l, rfl, rfl, (by first | rfl | (simp only [zlen, zsum, Nat.zero_mul, Int.add_zero, Int.sub_zero, List.nil_append, markG]; rfl))⟩ ?_
  rintro m τ ⟨d, r, rfl, rfl, rfl⟩
  refine Nm.mk lenC ?_
  cases r with
  | nil =>
    refine Br.neg (by simp [markG_length]) ?_
    (repeat' ((conv => whnf); first | refine stp ?_ | refine Br.mk (fun _ => ?_) (fun _ => ?_) ))
    simp only [List.append_nil]
    exact ⟨WkR.refl _, .refl _⟩
  | cons x r =>
    rw [sumN_append] at hl; simp only [sumN] at hl; simp at hl
    rw [sumN_append] at hb
    have hc : Adve.cnt x = 1 + 1 + x.nbs.length + sumN Name.cnt x.prefs := rfl
    simp only [sumN] at hb
    refine Br.pos (by simp [markG_length]; omega) ?_
    refine Rq.mk ⟨by omega, by simp [markG_length]; omega⟩ ?_
    first | refine El.mk (getA (by simp [markG_length])) ?_ | refine El.mk (List.getElem?_set_self (by simp [markG_length])) ?_
    refine Nm.mk (wrapI (by omega) (by omega)) ?_
    refine Rq.mk ⟨by omega, by simp [markG_length]; omega⟩ ?_
    first | refine El.mk (getA (by simp [markG_length])) ?_ | refine El.mk (List.getElem?_set_self (by simp [markG_length])) ?_
    refine Nm.mk (wrapI (by omega) (by omega)) ?_
    refine Rq.mk ⟨by omega, by simp [markG_length]; omega⟩ ?_
    first | refine El.mk (getA (by simp [markG_length])) ?_ | refine El.mk (List.getElem?_set_self (by simp [markG_length])) ?_
    first | refine El.mk (getA (by simp [markG_length])) ?_ | refine El.mk (List.getElem?_set_self (by simp [markG_length])) ?_
    refine Cl.mk (markIntS x.nbs (k + (sumN Adve.cnt d : Nat) + 1 + 1) (by omega) (by omega)) ?_
    refine Rq.mk ⟨by omega, by simp [markG_length]; omega⟩ ?_
    first | refine El.mk (getA (by simp [markG_length])) ?_ | refine El.mk (List.getElem?_set_self (by simp [markG_length])) ?_
    first | refine El.mk (getA (by simp [markG_length])) ?_ | refine El.mk (List.getElem?_set_self (by simp [markG_length])) ?_
    refine Cl.mk (markNameS x.prefs (k + (sumN Adve.cnt d : Nat) + 1 + 1 + (x.nbs.length : Nat)) (by omega) (by omega) (by simp only [Adve.size] at hl; omega)) ?_
    refine Nm.mk (wrapI (by omega) (by omega)) ?_
    refine Nx.intro r.length (by simp) _ (WkS.weak _ _) ⟨d ++ [x], r, by simp, rfl, ?_⟩
    (repeat' (first | exact rfl | refine consE ?_ ?_ | refine entE ?_ | refine vI ?_ | refine vS ?_ | refine vT ?_ | refine vB ?_))
    · simp only [List.set_set]
      rw [setB (by simp [markG_length])]
      simp [markG_snoc, Adve.mkd, spliceAV]
    · rw [sumN_snoc]; omega
    · simp
end Go.Proofs.YtigkmijoefibiaaGreat
