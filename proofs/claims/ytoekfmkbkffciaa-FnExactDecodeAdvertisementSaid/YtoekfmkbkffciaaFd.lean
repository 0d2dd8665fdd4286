/- Contracts of functions of the program: no statement of the seat is proved here. Each under the conditions that stand in it. -/
import Derived.Test.YtoekfmkbkffciaaFc
set_option linter.all false
namespace Go.Proofs.Ytoekfmkbkffciaa
open Go.Vs Go.Proofs
theorem szA_neg {n : Nat} {x : Int} (h : szA n x < 0) (hx : 0 ≤ x) : x < n := by
  unfold szA at h
  split at h <;> omega
theorem szA_nn {n : Nat} {x : Int} (h : ¬ szA n x < 0) (hx : 0 ≤ x) : (n : Int) ≤ x := by
  unfold szA at h
  split at h <;> omega
structure Name where
  parts : List ByteArray
  deriving DecidableEq
abbrev Name.c (o : Bool) (p : Name) : List AV := [cSs o p.parts]
@[simp] theorem Name.shc (p : Name) : shcL (Name.c true p) = Name.c false p := by simp [Name.c, shcL, Vs.shc, shcLL_ints, shcLL_byts, shcLL_strs]
@[simp] theorem Name.shcs (l : List Name) : shcLL (l.map (Name.c true)) = l.map (Name.c false) := shcLL_map Name.shc l
@[simp] theorem Name.down (p : Name) : dOwnL (Name.c true p) := by simp [Name.c, dOwnL, dOwn]
@[simp] theorem Name.downs (l : List Name) : dOwnLL (l.map (Name.c true)) := dOwnLL_of Name.down l
theorem Name.eq_iff {p q : Name} : p = q ↔ p.parts = q.parts := by cases p; cases q; simp
def Name.size (p : Name) : Nat := strsSize p.parts
def Name.fits (p : Name) : Prop := strsFit p.parts
def Name.mkd (p : Name) (k : Int) : Name := ⟨markG mkS one1 p.parts (k)⟩
def Name.cnt (p : Name) : Nat := p.parts.length
def Name.mkv (p : Name) (k : Int) : Name := ⟨markG mkS one1 p.parts (k)⟩
def Name.cntv (p : Name) : Nat := p.parts.length
theorem Name.cnt_le (p : Name) : Name.cnt p ≤ 5 * (Name.size p + 1) := by
  simp only [Name.cnt, Name.size, strsSize]; omega
theorem Name.cntv_le (p : Name) : Name.cntv p ≤ 5 * (Name.size p + 1) := by
  simp only [Name.cntv, Name.size, strsSize]; omega
theorem Name.cnts_le (l : List Name) : sumN Name.cnt l ≤ 5 * (l.length + sumN Name.size l) := by
  induction l with
  | nil => simp [sumN]
  | cons x l ih => have := Name.cnt_le x; simp only [sumN, List.length_cons]; omega
theorem is34 : FI 34 Try.f34 := ⟨⟨Try.f34, Try.func34, rfl, rfl, rfl, rfl⟩, rfl⟩
set_option maxRecDepth 20000 in
set_option maxHeartbeats 16000000 in
theorem eqName (p q : Name) (hp : Name.size p ≤ 1099511627776) : FO 34 [A (Name.c false p), A (Name.c false q)] [A (Name.c false p), A (Name.c false q)] (B (decide (p = q))) := by
  refine fok envOk mixed is34 ⟨rfl, rfl, ?_⟩
  (repeat' ((conv => whnf); first | refine stp ?_ | refine Br.mk (fun _ => ?_) (fun _ => ?_) | refine Cl.mk (eqStringS p.parts q.parts (by simp only [Name.size, strsSize] at hp; omega)) ?_ | refine Cl.pre (by simp only [shcLL_ints, shcLL_byts, shcLL_strs, Mani.shcs, Name.shcs, Segm.shcs]; rfl) ?_))
  all_goals (try (refine Vs.Fin.mk (WkR.eq ?_) (.refl _); first | rfl | (simp_all [Name.eq_iff]; done) | (simp_all [Name.eq_iff]; omega) | grind | grind [Name.eq_iff]))
theorem is20 : FI 20 Try.f20 := ⟨⟨Try.f20, Try.func20, rfl, rfl, rfl, rfl⟩, rfl⟩
set_option maxRecDepth 20000 in
set_option maxHeartbeats 16000000 in
theorem eqNameS (l b : List Name) (ha : l.length + sumN Name.size l ≤ 1099511627776) : FO 20 [O (sl false 1 (l.map (Name.c false))), O (sl false 1 (b.map (Name.c false)))] [O (sl false 1 (l.map (Name.c false))), O (sl false 1 (b.map (Name.c false)))] (B (decide (l = b))) := by
  refine fok envOk mixed is20 ⟨rfl, rfl, ?_⟩
  refine Nm.mk lenC ?_
  refine Nm.mk lenC ?_
  (conv => whnf)
  refine Br.mk (fun h => ?_) (fun h => ?_)
  · have hne : l ≠ b := by rintro rfl; simp at h
    (repeat' ((conv => whnf); first | refine stp ?_ | refine Br.mk (fun _ => ?_) (fun _ => ?_) ))
    all_goals (try (refine Vs.Fin.mk (WkR.eq ?_) (.refl _); first | rfl | (simp_all [hne]; done) | (simp_all [hne]; omega) | grind | grind [hne]))
  have hl : l.length = b.length := by simp at h; omega
  refine Lp.mk [.sl 0, .sl 1, .sl 5] (fun m σ => ∃ d r e s, l = d ++ r ∧ b = e ++ s ∧ m = r.length ∧ d = e ∧ σ = [Sa 0 (O (sl false 1 (l.map (Name.c false)))), Sa 1 (O (sl false 1 (b.map (Name.c false)))), Sa 5 (I d.length)]) l.length _ (WkS.weak _ _) ⟨[], l, [], b, rfl, rfl, rfl, rfl, rfl⟩ ?_
  rintro m τ ⟨d, r, e, s, rfl, rfl, rfl, rfl, rfl⟩
  refine Nm.mk lenC ?_
  cases r with
  | nil =>
    obtain rfl : s = [] := by cases s <;> simp_all
    refine Br.neg (by simp) ?_
    (repeat' ((conv => whnf); first | refine stp ?_ | refine Br.mk (fun _ => ?_) (fun _ => ?_) ))
    all_goals (try (refine Vs.Fin.mk (WkR.eq ?_) (.refl _); first | rfl | (simp_all []; done) | (simp_all []; omega) | grind | grind []))
  | cons x r =>
    obtain ⟨y, s, rfl⟩ : ∃ y s', s = y :: s' := by cases s <;> simp_all
    have ha2 := ha
    simp at ha2
    refine Br.pos (by simp; omega) ?_
    refine Rq.mk ⟨by omega, by simp; omega⟩ ?_
    refine El.mk (getA rfl) ?_
    refine Rq.mk ⟨by omega, by simp; omega⟩ ?_
    refine El.mk (getA rfl) ?_
    refine Cl.mk (eqName x y (by have := sumN_mem Name.size (l := d ++ x :: r) (x := x) (by simp); omega)) ?_
    (conv => whnf)
    refine And.intro (by kernel_rfl) ?_
    (conv => whnf)
    refine Br.mk (fun h => ?_) (fun h => ?_)
    · have hne : x ≠ y := by simpa using h
      (repeat' ((conv => whnf); first | refine stp ?_ | refine Br.mk (fun _ => ?_) (fun _ => ?_) ))
      all_goals (try (refine Vs.Fin.mk (WkR.eq ?_) (.refl _); first | rfl | (simp_all [hne]; done) | (simp_all [hne]; omega) | grind | grind [hne]))
    · obtain rfl : x = y := by simpa using h
      refine Nm.mk (wrapI (by omega) (by omega)) ?_
      refine Nx.intro r.length (by simp) _ (WkS.weak _ _) ⟨d ++ [x], r, d ++ [x], s, by simp, by simp, rfl, rfl, ?_⟩
      rw [len1]; rfl
theorem is22 : FI 22 Try.f22 := ⟨⟨Try.f22, Try.func22, rfl, rfl, rfl, rfl⟩, rfl⟩
set_option maxRecDepth 20000 in
set_option maxHeartbeats 16000000 in
theorem markNameS (l : List Name) (k : Int) (hk : 0 ≤ k) (hb : k + (sumN Name.cnt l : Nat) ≤ 4611686018427387904) (hl : l.length + sumN Name.size l ≤ 4611686018427387904) : FO 22 [O (sl true 1 (l.map (Name.c true))), I k] [O (sl true 1 ((markG Name.mkd Name.cnt l k).map (Name.c true))), I k] (I (k + (sumN Name.cnt l : Nat))) := by
  refine fok envOk mixed is22 ⟨rfl, rfl, ?_⟩
  refine Lp.mk [.sl 0, .ex 0, .sl 1, .sl 5] (fun m σ => ∃ d r, l = d ++ r ∧ m = r.length ∧ σ = [Rf 0 0, Ex 0 (O (sl true 1 ((markG Name.mkd Name.cnt d k ++ r).map (Name.c true)))), Sa 1 (I (k + (sumN Name.cnt d : Nat))), Sa 5 (I d.length)]) (l.length) _ (WkS.weak _ _) ⟨[], l, rfl, rfl, (by first | rfl | (simp only [zlen, zsum, Nat.zero_mul, Int.add_zero, Int.sub_zero, List.nil_append, markG]; rfl))⟩ ?_
  rintro m τ ⟨d, r, rfl, rfl, rfl⟩
  refine Nm.mk lenC ?_
  cases r with
  | nil =>
    refine Br.neg (by simp [markG_length]) ?_
    (repeat' ((conv => whnf); first | refine stp ?_ | refine Br.mk (fun _ => ?_) (fun _ => ?_) ))
    simp only [List.append_nil]
    exact ⟨WkR.refl _, .refl _⟩
  | cons x r =>
    rw [sumN_append] at hl; simp only [sumN] at hl; simp at hl
    rw [sumN_append] at hb
    have hc : Name.cnt x = x.parts.length := rfl
    simp only [sumN] at hb
    refine Br.pos (by simp [markG_length]; omega) ?_
    refine Rq.mk ⟨by omega, by simp [markG_length]; omega⟩ ?_
    first | refine El.mk (getA (by simp [markG_length])) ?_ | refine El.mk (List.getElem?_set_self (by simp [markG_length])) ?_
    first | refine El.mk (getA (by simp [markG_length])) ?_ | refine El.mk (List.getElem?_set_self (by simp [markG_length])) ?_
    refine Cl.mk (markStringS x.parts (k + (sumN Name.cnt d : Nat)) (by omega) (by omega)) ?_
    refine Nm.mk (wrapI (by omega) (by omega)) ?_
    refine Nx.intro r.length (by simp) _ (WkS.weak _ _) ⟨d ++ [x], r, by simp, rfl, ?_⟩
    (repeat' (first | exact rfl | refine consE ?_ ?_ | refine entE ?_ | refine vI ?_ | refine vS ?_ | refine vT ?_ | refine vB ?_))
    · simp only [List.set_set]
      rw [setB (by simp [markG_length])]
      simp [markG_snoc, Name.mkd, spliceAV]
    · rw [sumN_snoc]; omega
    · simp
theorem is24 : FI 24 Try.f24 := ⟨⟨Try.f24, Try.func24, rfl, rfl, rfl, rfl⟩, rfl⟩
set_option maxRecDepth 20000 in
set_option maxHeartbeats 16000000 in
theorem heldNameS (l : List Name) (k : Int) (hk : 0 ≤ k) (hb : k + (sumN Name.cnt l : Nat) ≤ 4611686018427387904) (hl : l.length + sumN Name.size l ≤ 4611686018427387904) : FO 24 [O (sl false 1 ((markG Name.mkd Name.cnt l k).map (Name.c false))), I k] [O (sl false 1 ((markG Name.mkd Name.cnt l k).map (Name.c false))), I k] (I (k + (sumN Name.cnt l : Nat))) := by
  refine fok envOk mixed is24 ⟨rfl, rfl, ?_⟩
  refine Lp.mk [.sl 0, .sl 1, .sl 5] (fun m σ => ∃ d r, l = d ++ r ∧ m = r.length ∧ σ = [Sa 0 (O (sl false 1 ((markG Name.mkd Name.cnt l k).map (Name.c false)))), Sa 1 (I (k + (sumN Name.cnt d : Nat))), Sa 5 (I d.length)]) (l.length) _ (WkS.weak _ _) ⟨[], l, rfl, rfl, (by first | rfl | (simp only [zlen, zsum, Nat.zero_mul, Int.add_zero, Int.sub_zero, List.nil_append, markG]; rfl))⟩ ?_
  rintro m τ ⟨d, r, rfl, rfl, rfl⟩
  refine Nm.mk lenC ?_
  cases r with
  | nil =>
    refine Br.neg (by simp [markG_length]) ?_
    (repeat' ((conv => whnf); first | refine stp ?_ | refine Br.mk (fun _ => ?_) (fun _ => ?_) ))
    simp only [List.append_nil]
    exact ⟨WkR.refl _, .refl _⟩
  | cons x r =>
    rw [sumN_append] at hl; simp only [sumN] at hl; simp at hl
    rw [sumN_append] at hb
    have hc : Name.cnt x = x.parts.length := rfl
    simp only [sumN] at hb
    refine Br.pos (by simp [markG_length]; omega) ?_
    refine Rq.mk ⟨by omega, by simp [markG_length]; omega⟩ ?_
    refine El.mk (getM (l := d) (mk := Name.mkd) (cnt := Name.cnt) (x := x) rfl) ?_
    refine Cl.mk (heldStringS x.parts (k + (sumN Name.cnt d : Nat)) (by omega) (by omega)) ?_
    (conv => whnf)
    refine Br.neg (by simp; omega) ?_
    refine Nm.mk (wrapI (by omega) (by omega)) ?_
    refine Nx.intro r.length (by simp) _ (WkS.weak _ _) ⟨d ++ [x], r, by simp, rfl, ?_⟩
    (repeat' (first | exact rfl | refine consE ?_ ?_ | refine entE ?_ | refine vI ?_ | refine vS ?_ | refine vT ?_ | refine vB ?_))
    · rw [sumN_snoc]; omega
    · simp
structure Mani where
  seg : Int
  len : Int
  dig : List Int
  deriving DecidableEq
abbrev Mani.c (o : Bool) (p : Mani) : List AV := [cI p.seg, cI p.len, cIs o p.dig]
@[simp] theorem Mani.shc (p : Mani) : shcL (Mani.c true p) = Mani.c false p := by simp [Mani.c, shcL, Vs.shc, shcLL_ints, shcLL_byts, shcLL_strs]
@[simp] theorem Mani.shcs (l : List Mani) : shcLL (l.map (Mani.c true)) = l.map (Mani.c false) := shcLL_map Mani.shc l
@[simp] theorem Mani.down (p : Mani) : dOwnL (Mani.c true p) := by simp [Mani.c, dOwnL, dOwn]
@[simp] theorem Mani.downs (l : List Mani) : dOwnLL (l.map (Mani.c true)) := dOwnLL_of Mani.down l
theorem Mani.eq_iff {p q : Mani} : p = q ↔ p.seg = q.seg ∧ p.len = q.len ∧ p.dig = q.dig := by cases p; cases q; simp
def Mani.size (p : Mani) : Nat := p.dig.length
def Mani.fits (p : Mani) : Prop := p.dig.length ≤ 9223372036854775807
def Mani.rng (p : Mani) : Prop := (-9223372036854775808 ≤ p.seg ∧ p.seg ≤ 9223372036854775807) ∧ (-9223372036854775808 ≤ p.len ∧ p.len ≤ 9223372036854775807)
def Mani.mkd (p : Mani) (k : Int) : Mani := ⟨k, k + 1, markG mkI one1 p.dig (k + 1 + 1)⟩
def Mani.cnt (p : Mani) : Nat := 1 + 1 + p.dig.length
def Mani.mkv (p : Mani) (k : Int) : Mani := ⟨p.seg, p.len, markG mkI one1 p.dig (k)⟩
def Mani.cntv (p : Mani) : Nat := p.dig.length
theorem Mani.cnt_le (p : Mani) : Mani.cnt p ≤ 6 * (Mani.size p + 1) := by
  simp only [Mani.cnt, Mani.size, strsSize]; omega
theorem Mani.cntv_le (p : Mani) : Mani.cntv p ≤ 6 * (Mani.size p + 1) := by
  simp only [Mani.cntv, Mani.size, strsSize]; omega
theorem Mani.cnts_le (l : List Mani) : sumN Mani.cnt l ≤ 6 * (l.length + sumN Mani.size l) := by
  induction l with
  | nil => simp [sumN]
  | cons x l ih => have := Mani.cnt_le x; simp only [sumN, List.length_cons]; omega
structure Segm where
  content : List UInt8
  deriving DecidableEq
abbrev Segm.c (o : Bool) (p : Segm) : List AV := [cYs o p.content]
@[simp] theorem Segm.shc (p : Segm) : shcL (Segm.c true p) = Segm.c false p := by simp [Segm.c, shcL, Vs.shc, shcLL_ints, shcLL_byts, shcLL_strs]
@[simp] theorem Segm.shcs (l : List Segm) : shcLL (l.map (Segm.c true)) = l.map (Segm.c false) := shcLL_map Segm.shc l
@[simp] theorem Segm.down (p : Segm) : dOwnL (Segm.c true p) := by simp [Segm.c, dOwnL, dOwn]
@[simp] theorem Segm.downs (l : List Segm) : dOwnLL (l.map (Segm.c true)) := dOwnLL_of Segm.down l
theorem Segm.eq_iff {p q : Segm} : p = q ↔ p.content = q.content := by cases p; cases q; simp
def Segm.size (p : Segm) : Nat := p.content.length
def Segm.fits (p : Segm) : Prop := p.content.length ≤ 9223372036854775807
def Segm.mkd (p : Segm) (k : Int) : Segm := ⟨markG mkY one1 p.content (k)⟩
def Segm.cnt (p : Segm) : Nat := p.content.length
def Segm.mkv (p : Segm) (k : Int) : Segm := ⟨markG mkY one1 p.content (k)⟩
def Segm.cntv (p : Segm) : Nat := p.content.length
theorem Segm.cnt_le (p : Segm) : Segm.cnt p ≤ 5 * (Segm.size p + 1) := by
  simp only [Segm.cnt, Segm.size, strsSize]; omega
theorem Segm.cntv_le (p : Segm) : Segm.cntv p ≤ 5 * (Segm.size p + 1) := by
  simp only [Segm.cntv, Segm.size, strsSize]; omega
theorem Segm.cnts_le (l : List Segm) : sumN Segm.cnt l ≤ 5 * (l.length + sumN Segm.size l) := by
  induction l with
  | nil => simp [sumN]
  | cons x l ih => have := Segm.cnt_le x; simp only [sumN, List.length_cons]; omega
end Go.Proofs.Ytoekfmkbkffciaa
