/- Contracts of functions of the program: no statement of the seat is proved here. Each under the conditions that stand in it. -/
import Derived.Test.YtckjlakfnpapgaaGreatDoorFd
set_option linter.all false
namespace Go.Proofs.YtckjlakfnpapgaaGreatDoor
open Go.Vs Go.Proofs
structure Data where
  name : Name
  content : List UInt8
  keyName : Name
  fresh : Int
  sig : Int
  deriving DecidableEq
abbrev Data.c (o : Bool) (p : Data) : List AV := [cSs o p.name.parts, cYs o p.content, cSs o p.keyName.parts, cI p.fresh, cI p.sig]
@[simp] theorem Data.shc (p : Data) : shcL (Data.c true p) = Data.c false p := by simp [Data.c, shcL, Vs.shc, shcLL_ints, shcLL_byts, shcLL_strs]
@[simp] theorem Data.shcs (l : List Data) : shcLL (l.map (Data.c true)) = l.map (Data.c false) := shcLL_map Data.shc l
@[simp] theorem Data.down (p : Data) : dOwnL (Data.c true p) := by simp [Data.c, dOwnL, dOwn]
@[simp] theorem Data.downs (l : List Data) : dOwnLL (l.map (Data.c true)) := dOwnLL_of Data.down l
theorem Data.eq_iff {p q : Data} : p = q ↔ p.name = q.name ∧ p.content = q.content ∧ p.keyName = q.keyName ∧ p.fresh = q.fresh ∧ p.sig = q.sig := by cases p; cases q; simp
def Data.size (p : Data) : Nat := Name.size p.name + p.content.length + Name.size p.keyName
def Data.fits (p : Data) : Prop := Name.fits p.name ∧ p.content.length ≤ 9223372036854775807 ∧ Name.fits p.keyName
def Data.rng (p : Data) : Prop := (-9223372036854775808 ≤ p.fresh ∧ p.fresh ≤ 9223372036854775807) ∧ (-9223372036854775808 ≤ p.sig ∧ p.sig ≤ 9223372036854775807)
def Data.mkd (p : Data) (k : Int) : Data := ⟨⟨markG mkS one1 p.name.parts (k)⟩, markG mkY one1 p.content (k + (p.name.parts.length : Nat)), ⟨markG mkS one1 p.keyName.parts (k + (p.name.parts.length : Nat) + (p.content.length : Nat))⟩, k + (p.name.parts.length : Nat) + (p.content.length : Nat) + (p.keyName.parts.length : Nat), k + (p.name.parts.length : Nat) + (p.content.length : Nat) + (p.keyName.parts.length : Nat) + 1⟩
def Data.cnt (p : Data) : Nat := p.name.parts.length + p.content.length + p.keyName.parts.length + 1 + 1
def Data.mkv (p : Data) (k : Int) : Data := ⟨⟨markG mkS one1 p.name.parts (k)⟩, markG mkY one1 p.content (k + (p.name.parts.length : Nat)), ⟨markG mkS one1 p.keyName.parts (k + (p.name.parts.length : Nat) + (p.content.length : Nat))⟩, p.fresh, p.sig⟩
def Data.cntv (p : Data) : Nat := p.name.parts.length + p.content.length + p.keyName.parts.length
theorem Data.cnt_le (p : Data) : Data.cnt p ≤ 6 * (Data.size p + 1) := by
  simp only [Data.cnt, Data.size, strsSize, Name.size]; omega
theorem Data.cntv_le (p : Data) : Data.cntv p ≤ 6 * (Data.size p + 1) := by
  simp only [Data.cntv, Data.size, strsSize, Name.size]; omega
theorem Data.cnts_le (l : List Data) : sumN Data.cnt l ≤ 6 * (l.length + sumN Data.size l) := by
  induction l with
  | nil => simp [sumN]
  | cons x l ih => have := Data.cnt_le x; simp only [sumN, List.length_cons]; omega
theorem is36 : FI 36 Tryz.f36 := ⟨⟨Tryz.f36, Tryz.func36, rfl, rfl, rfl, rfl⟩, rfl⟩
set_option maxRecDepth 20000 in
set_option maxHeartbeats 16000000 in
theorem eqData (p q : Data) (hp : Data.size p ≤ 1099511627776) : FO 36 [A (Data.c false p), A (Data.c false q)] [A (Data.c false p), A (Data.c false q)] (B (decide (p = q))) := by
  refine fok envOk mixed is36 ⟨rfl, rfl, ?_⟩
  (repeat' ((conv => whnf); first | refine Br.tt ?_ | refine Br.ff ?_ | refine Br.pos (by assumption) ?_ | refine Br.neg (by assumption) ?_ | refine Br.bself ?_ | refine Br.dself ?_ | refine Br.iself ?_ | refine Br.mk (fun _ => ?_) (fun _ => ?_) | refine Nm.mk lenC ?_ | refine Nm.mk (wrapI (by (first | omega | (simp [inR_t, inR_f] at *; omega))) (by (first | omega | (simp [inR_t, inR_f] at *; omega)))) ?_ | refine Nm.mk (wrapQ (by (first | omega | (simp [inR_t, inR_f] at *; omega))) (by (first | omega | (simp [inR_t, inR_f] at *; omega))) (by (first | omega | (simp [inR_t, inR_f] at *; omega)))) ?_ | refine Nm.mk (tmodN (by (first | omega | (simp [inR_t, inR_f] at *; omega)))) ?_ | refine Nm.mk (szS _) ?_ | refine Nm.mk (mi_eq _ _) ?_ | refine Nm.mk (ma_eq _ _) ?_ | refine Rq.mk (by first | (simp [dOwnL, dOwn] <;> fail) | (first | omega | (simp [inR_t, inR_f] at *; omega))) ?_ | refine And.intro (orderFast (by kernel_rfl)) ?_ | refine And.intro (by kernel_rfl) ?_ | refine Cl.mk (eqName p.name q.name (by simp only [Data.size] at hp; omega)) ?_ | refine Cl.mk (eqByteS p.content q.content (by simp only [Data.size, strsSize] at hp; omega)) ?_ | refine Cl.mk (eqName p.keyName q.keyName (by simp only [Data.size] at hp; omega)) ?_ | refine Cl.pre (by simp only [shcLL_ints, shcLL_byts, shcLL_strs, Data.shcs, Mani.shcs, Name.shcs, Segm.shcs]; rfl) ?_))
  all_goals (try (refine Vs.Fin.mk (WkR.eq ?_) (.refl _); first | rfl | (simp_all [Data.eq_iff]; done) | (simp_all [Data.eq_iff]; omega) | grind | grind [Data.eq_iff]))
theorem is11 : FI 11 Tryz.f11 := ⟨⟨Tryz.f11, Tryz.func11, rfl, rfl, rfl, rfl⟩, rfl⟩
set_option maxRecDepth 20000 in
set_option maxHeartbeats 16000000 in
theorem eqDataS (l b : List Data) (ha : l.length + sumN Data.size l ≤ 1099511627776) : FO 11 [O (sl false 5 (l.map (Data.c false))), O (sl false 5 (b.map (Data.c false)))] [O (sl false 5 (l.map (Data.c false))), O (sl false 5 (b.map (Data.c false)))] (B (decide (l = b))) := by
  refine fok envOk mixed is11 ⟨rfl, rfl, ?_⟩
  refine Nm.mk lenC ?_
  refine Nm.mk lenC ?_
  (conv => whnf)
  refine Br.mk (fun h => ?_) (fun h => ?_)
  · have hne : l ≠ b := by rintro rfl; simp at h
    (repeat' ((conv => whnf); first | refine Br.tt ?_ | refine Br.ff ?_ | refine Br.pos (by assumption) ?_ | refine Br.neg (by assumption) ?_ | refine Br.bself ?_ | refine Br.dself ?_ | refine Br.iself ?_ | refine Br.mk (fun _ => ?_) (fun _ => ?_) | refine Nm.mk lenC ?_ | refine Nm.mk (wrapI (by (first | omega | (simp [inR_t, inR_f] at *; omega))) (by (first | omega | (simp [inR_t, inR_f] at *; omega)))) ?_ | refine Nm.mk (wrapQ (by (first | omega | (simp [inR_t, inR_f] at *; omega))) (by (first | omega | (simp [inR_t, inR_f] at *; omega))) (by (first | omega | (simp [inR_t, inR_f] at *; omega)))) ?_ | refine Nm.mk (tmodN (by (first | omega | (simp [inR_t, inR_f] at *; omega)))) ?_ | refine Nm.mk (szS _) ?_ | refine Nm.mk (mi_eq _ _) ?_ | refine Nm.mk (ma_eq _ _) ?_ | refine Rq.mk (by first | (simp [dOwnL, dOwn] <;> fail) | (first | omega | (simp [inR_t, inR_f] at *; omega))) ?_ | refine And.intro (orderFast (by kernel_rfl)) ?_ | refine And.intro (by kernel_rfl) ?_ ))
    all_goals (try (refine Vs.Fin.mk (WkR.eq ?_) (.refl _); first | rfl | (simp_all [hne]; done) | (simp_all [hne]; omega) | grind | grind [hne]))
  have hl : l.length = b.length := by simp at h; omega
  refine Lp.mk [.sl 0, .sl 1, .sl 5] (fun m σ => ∃ d r e s, l = d ++ r ∧ b = e ++ s ∧ m = r.length ∧ d = e ∧ σ = [Sa 0 (O (sl false 5 (l.map (Data.c false)))), Sa 1 (O (sl false 5 (b.map (Data.c false)))), Sa 5 (I d.length)]) l.length _ (WkS.weak _ _) ⟨[], l, [], b, rfl, rfl, rfl, rfl, rfl⟩ ?_
  rintro m τ ⟨d, r, e, s, rfl, rfl, rfl, rfl, rfl⟩
  refine Nm.mk lenC ?_
  cases r with
  | nil =>
    obtain rfl : s = [] := by cases s <;> simp_all
    refine Br.neg (by simp) ?_
    (repeat' ((conv => whnf); first | refine Br.tt ?_ | refine Br.ff ?_ | refine Br.pos (by assumption) ?_ | refine Br.neg (by assumption) ?_ | refine Br.bself ?_ | refine Br.dself ?_ | refine Br.iself ?_ | refine Br.mk (fun _ => ?_) (fun _ => ?_) | refine Nm.mk lenC ?_ | refine Nm.mk (wrapI (by (first | omega | (simp [inR_t, inR_f] at *; omega))) (by (first | omega | (simp [inR_t, inR_f] at *; omega)))) ?_ | refine Nm.mk (wrapQ (by (first | omega | (simp [inR_t, inR_f] at *; omega))) (by (first | omega | (simp [inR_t, inR_f] at *; omega))) (by (first | omega | (simp [inR_t, inR_f] at *; omega)))) ?_ | refine Nm.mk (tmodN (by (first | omega | (simp [inR_t, inR_f] at *; omega)))) ?_ | refine Nm.mk (szS _) ?_ | refine Nm.mk (mi_eq _ _) ?_ | refine Nm.mk (ma_eq _ _) ?_ | refine Rq.mk (by first | (simp [dOwnL, dOwn] <;> fail) | (first | omega | (simp [inR_t, inR_f] at *; omega))) ?_ | refine And.intro (orderFast (by kernel_rfl)) ?_ | refine And.intro (by kernel_rfl) ?_ ))
    all_goals (try (refine Vs.Fin.mk (WkR.eq ?_) (.refl _); first | rfl | (simp_all []; done) | (simp_all []; omega) | grind | grind []))
  | cons x r =>
    obtain ⟨y, s, rfl⟩ : ∃ y s', s = y :: s' := by cases s <;> simp_all
    have ha2 := ha
    simp at ha2
    refine Br.pos (by simp; omega) ?_
    refine Rq.mk ⟨by omega, by simp; omega⟩ ?_
    refine El.mk (getA rfl) ?_
    refine Rq.mk ⟨by omega, by simp; omega⟩ ?_
    refine El.mk (getA rfl) ?_
    refine Cl.mk (eqData x y (by have := sumN_mem Data.size (l := d ++ x :: r) (x := x) (by simp); omega)) ?_
    (conv => whnf)
    refine And.intro (by kernel_rfl) ?_
    (conv => whnf)
    refine Br.mk (fun h => ?_) (fun h => ?_)
    · have hne : x ≠ y := by simpa using h
      (repeat' ((conv => whnf); first | refine Br.tt ?_ | refine Br.ff ?_ | refine Br.pos (by assumption) ?_ | refine Br.neg (by assumption) ?_ | refine Br.bself ?_ | refine Br.dself ?_ | refine Br.iself ?_ | refine Br.mk (fun _ => ?_) (fun _ => ?_) | refine Nm.mk lenC ?_ | refine Nm.mk (wrapI (by (first | omega | (simp [inR_t, inR_f] at *; omega))) (by (first | omega | (simp [inR_t, inR_f] at *; omega)))) ?_ | refine Nm.mk (wrapQ (by (first | omega | (simp [inR_t, inR_f] at *; omega))) (by (first | omega | (simp [inR_t, inR_f] at *; omega))) (by (first | omega | (simp [inR_t, inR_f] at *; omega)))) ?_ | refine Nm.mk (tmodN (by (first | omega | (simp [inR_t, inR_f] at *; omega)))) ?_ | refine Nm.mk (szS _) ?_ | refine Nm.mk (mi_eq _ _) ?_ | refine Nm.mk (ma_eq _ _) ?_ | refine Rq.mk (by first | (simp [dOwnL, dOwn] <;> fail) | (first | omega | (simp [inR_t, inR_f] at *; omega))) ?_ | refine And.intro (orderFast (by kernel_rfl)) ?_ | refine And.intro (by kernel_rfl) ?_ ))
      all_goals (try (refine Vs.Fin.mk (WkR.eq ?_) (.refl _); first | rfl | (simp_all [hne]; done) | (simp_all [hne]; omega) | grind | grind [hne]))
    · obtain rfl : x = y := by simpa using h
      refine Nm.mk (wrapI (by omega) (by omega)) ?_
      refine Nx.intro r.length (by simp) _ (WkS.weak _ _) ⟨d ++ [x], r, d ++ [x], s, by simp, by simp, rfl, rfl, ?_⟩
      rw [len1]; rfl
theorem is18 : FI 18 Tryz.f18 := ⟨⟨Tryz.f18, Tryz.func18, rfl, rfl, rfl, rfl⟩, rfl⟩
set_option maxRecDepth 20000 in
set_option maxHeartbeats 16000000 in
theorem markDataS (l : List Data) (k : Int) (hk : 0 ≤ k) (hb : k + (sumN Data.cnt l : Nat) ≤ 4611686018427387904) (hl : l.length + sumN Data.size l ≤ 4611686018427387904) : FO 18 [O (sl true 5 (l.map (Data.c true))), I k] [O (sl true 5 ((markG Data.mkd Data.cnt l k).map (Data.c true))), I k] (I (k + (sumN Data.cnt l : Nat))) := by
  refine fok envOk mixed is18 ⟨rfl, rfl, ?_⟩
  refine Lp.mk [.sl 0, .ex 0, .sl 1, .sl 5] (fun m σ => ∃ d r, l = d ++ r ∧ m = r.length ∧ σ = [Rf 0 0, Ex 0 (O (sl true 5 ((markG Data.mkd Data.cnt d k ++ r).map (Data.c true)))), Sa 1 (I (k + (sumN Data.cnt d : Nat))), Sa 5 (I d.length)]) (l.length) _ (WkS.weak _ _) ⟨[], l, rfl, rfl, (by first | rfl | (simp only [zlen, zsum, Nat.zero_mul, Int.add_zero, Int.sub_zero, List.nil_append, markG]; rfl))⟩ ?_
  rintro m τ ⟨d, r, rfl, rfl, rfl⟩
  refine Nm.mk lenC ?_
  cases r with
  | nil =>
    refine Br.neg (by simp [markG_length]) ?_
    (repeat' ((conv => whnf); first | refine Br.tt ?_ | refine Br.ff ?_ | refine Br.pos (by assumption) ?_ | refine Br.neg (by assumption) ?_ | refine Br.bself ?_ | refine Br.dself ?_ | refine Br.iself ?_ | refine Br.mk (fun _ => ?_) (fun _ => ?_) | refine Nm.mk lenC ?_ | refine Nm.mk (wrapI (by (first | omega | (simp [inR_t, inR_f] at *; omega))) (by (first | omega | (simp [inR_t, inR_f] at *; omega)))) ?_ | refine Nm.mk (wrapQ (by (first | omega | (simp [inR_t, inR_f] at *; omega))) (by (first | omega | (simp [inR_t, inR_f] at *; omega))) (by (first | omega | (simp [inR_t, inR_f] at *; omega)))) ?_ | refine Nm.mk (tmodN (by (first | omega | (simp [inR_t, inR_f] at *; omega)))) ?_ | refine Nm.mk (szS _) ?_ | refine Nm.mk (mi_eq _ _) ?_ | refine Nm.mk (ma_eq _ _) ?_ | refine Rq.mk (by first | (simp [dOwnL, dOwn] <;> fail) | (first | omega | (simp [inR_t, inR_f] at *; omega))) ?_ | refine And.intro (orderFast (by kernel_rfl)) ?_ | refine And.intro (by kernel_rfl) ?_ ))
    simp only [List.append_nil]
    exact ⟨WkR.refl _, .refl _⟩
  | cons x r =>
    rw [sumN_append] at hl; simp only [sumN] at hl; simp at hl
    rw [sumN_append] at hb
    have hc : Data.cnt x = x.name.parts.length + x.content.length + x.keyName.parts.length + 1 + 1 := rfl
    simp only [sumN] at hb
    refine Br.pos (by simp [markG_length]; omega) ?_
    refine Rq.mk ⟨by omega, by simp [markG_length]; omega⟩ ?_
    first | refine El.mk (getA (by simp [markG_length])) ?_ | refine El.mk (List.getElem?_set_self (by simp [markG_length])) ?_
    first | refine El.mk (getA (by simp [markG_length])) ?_ | refine El.mk (List.getElem?_set_self (by simp [markG_length])) ?_
    refine Cl.mk (markStringS x.name.parts (k + (sumN Data.cnt d : Nat)) (by omega) (by omega)) ?_
    refine Rq.mk ⟨by omega, by simp [markG_length]; omega⟩ ?_
    first | refine El.mk (getA (by simp [markG_length])) ?_ | refine El.mk (List.getElem?_set_self (by simp [markG_length])) ?_
    first | refine El.mk (getA (by simp [markG_length])) ?_ | refine El.mk (List.getElem?_set_self (by simp [markG_length])) ?_
    refine Cl.mk (markByteS x.content (k + (sumN Data.cnt d : Nat) + (x.name.parts.length : Nat)) (by omega) (by omega)) ?_
    refine Rq.mk ⟨by omega, by simp [markG_length]; omega⟩ ?_
    first | refine El.mk (getA (by simp [markG_length])) ?_ | refine El.mk (List.getElem?_set_self (by simp [markG_length])) ?_
    first | refine El.mk (getA (by simp [markG_length])) ?_ | refine El.mk (List.getElem?_set_self (by simp [markG_length])) ?_
    refine Cl.mk (markStringS x.keyName.parts (k + (sumN Data.cnt d : Nat) + (x.name.parts.length : Nat) + (x.content.length : Nat)) (by omega) (by omega)) ?_
    refine Rq.mk ⟨by omega, by simp [markG_length]; omega⟩ ?_
    first | refine El.mk (getA (by simp [markG_length])) ?_ | refine El.mk (List.getElem?_set_self (by simp [markG_length])) ?_
    refine Nm.mk (wrapI (by omega) (by omega)) ?_
    refine Rq.mk ⟨by omega, by simp [markG_length]; omega⟩ ?_
    first | refine El.mk (getA (by simp [markG_length])) ?_ | refine El.mk (List.getElem?_set_self (by simp [markG_length])) ?_
    refine Nm.mk (wrapI (by omega) (by omega)) ?_
    refine Nm.mk (wrapI (by omega) (by omega)) ?_
    refine Nx.intro r.length (by simp) _ (WkS.weak _ _) ⟨d ++ [x], r, by simp, rfl, ?_⟩
    (repeat' (first | exact rfl | refine consE ?_ ?_ | refine entE ?_ | refine vI ?_ | refine vS ?_ | refine vT ?_ | refine vB ?_))
    · simp only [List.set_set]
      rw [setB (by simp [markG_length])]
      simp [markG_snoc, Data.mkd, spliceAV]
    · rw [sumN_snoc]; omega
    · simp
theorem is19 : FI 19 Tryz.f19 := ⟨⟨Tryz.f19, Tryz.func19, rfl, rfl, rfl, rfl⟩, rfl⟩
set_option maxRecDepth 20000 in
set_option maxHeartbeats 16000000 in
theorem heldDataS (l : List Data) (k : Int) (hk : 0 ≤ k) (hb : k + (sumN Data.cnt l : Nat) ≤ 4611686018427387904) (hl : l.length + sumN Data.size l ≤ 4611686018427387904) : FO 19 [O (sl false 5 ((markG Data.mkd Data.cnt l k).map (Data.c false))), I k] [O (sl false 5 ((markG Data.mkd Data.cnt l k).map (Data.c false))), I k] (I (k + (sumN Data.cnt l : Nat))) := by
  refine fok envOk mixed is19 ⟨rfl, rfl, ?_⟩
  refine Lp.mk [.sl 0, .sl 1, .sl 5] (fun m σ => ∃ d r, l = d ++ r ∧ m = r.length ∧ σ = [Sa 0 (O (sl false 5 ((markG Data.mkd Data.cnt l k).map (Data.c false)))), Sa 1 (I (k + (sumN Data.cnt d : Nat))), Sa 5 (I d.length)]) (l.length) _ (WkS.weak _ _) ⟨[], l, rfl, rfl, (by first | rfl | (simp only [zlen, zsum, Nat.zero_mul, Int.add_zero, Int.sub_zero, List.nil_append, markG]; rfl))⟩ ?_
  rintro m τ ⟨d, r, rfl, rfl, rfl⟩
  refine Nm.mk lenC ?_
  cases r with
  | nil =>
    refine Br.neg (by simp [markG_length]) ?_
    (repeat' ((conv => whnf); first | refine Br.tt ?_ | refine Br.ff ?_ | refine Br.pos (by assumption) ?_ | refine Br.neg (by assumption) ?_ | refine Br.bself ?_ | refine Br.dself ?_ | refine Br.iself ?_ | refine Br.mk (fun _ => ?_) (fun _ => ?_) | refine Nm.mk lenC ?_ | refine Nm.mk (wrapI (by (first | omega | (simp [inR_t, inR_f] at *; omega))) (by (first | omega | (simp [inR_t, inR_f] at *; omega)))) ?_ | refine Nm.mk (wrapQ (by (first | omega | (simp [inR_t, inR_f] at *; omega))) (by (first | omega | (simp [inR_t, inR_f] at *; omega))) (by (first | omega | (simp [inR_t, inR_f] at *; omega)))) ?_ | refine Nm.mk (tmodN (by (first | omega | (simp [inR_t, inR_f] at *; omega)))) ?_ | refine Nm.mk (szS _) ?_ | refine Nm.mk (mi_eq _ _) ?_ | refine Nm.mk (ma_eq _ _) ?_ | refine Rq.mk (by first | (simp [dOwnL, dOwn] <;> fail) | (first | omega | (simp [inR_t, inR_f] at *; omega))) ?_ | refine And.intro (orderFast (by kernel_rfl)) ?_ | refine And.intro (by kernel_rfl) ?_ ))
    simp only [List.append_nil]
    exact ⟨WkR.refl _, .refl _⟩
  | cons x r =>
    rw [sumN_append] at hl; simp only [sumN] at hl; simp at hl
    rw [sumN_append] at hb
    have hc : Data.cnt x = x.name.parts.length + x.content.length + x.keyName.parts.length + 1 + 1 := rfl
    simp only [sumN] at hb
    refine Br.pos (by simp [markG_length]; omega) ?_
    refine Rq.mk ⟨by omega, by simp [markG_length]; omega⟩ ?_
    refine El.mk (getM (l := d) (mk := Data.mkd) (cnt := Data.cnt) (x := x) rfl) ?_
    refine Cl.mk (heldStringS x.name.parts (k + (sumN Data.cnt d : Nat)) (by omega) (by omega)) ?_
    (conv => whnf)
    refine Br.neg (by simp; omega) ?_
    refine Rq.mk ⟨by omega, by simp [markG_length]; omega⟩ ?_
    refine El.mk (getM (l := d) (mk := Data.mkd) (cnt := Data.cnt) (x := x) rfl) ?_
    refine Cl.mk (heldByteS x.content (k + (sumN Data.cnt d : Nat) + (x.name.parts.length : Nat)) (by omega) (by omega)) ?_
    (conv => whnf)
    refine Br.neg (by simp; omega) ?_
    refine Rq.mk ⟨by omega, by simp [markG_length]; omega⟩ ?_
    refine El.mk (getM (l := d) (mk := Data.mkd) (cnt := Data.cnt) (x := x) rfl) ?_
    refine Cl.mk (heldStringS x.keyName.parts (k + (sumN Data.cnt d : Nat) + (x.name.parts.length : Nat) + (x.content.length : Nat)) (by omega) (by omega)) ?_
    (conv => whnf)
    refine Br.neg (by simp; omega) ?_
    refine Rq.mk ⟨by omega, by simp [markG_length]; omega⟩ ?_
    refine El.mk (getM (l := d) (mk := Data.mkd) (cnt := Data.cnt) (x := x) rfl) ?_
    (conv => whnf)
    refine Br.neg (by simp [Data.mkd]) ?_
    refine Nm.mk (wrapI (by omega) (by omega)) ?_
    refine Rq.mk ⟨by omega, by simp [markG_length]; omega⟩ ?_
    refine El.mk (getM (l := d) (mk := Data.mkd) (cnt := Data.cnt) (x := x) rfl) ?_
    (conv => whnf)
    refine Br.neg (by simp [Data.mkd]) ?_
    refine Nm.mk (wrapI (by omega) (by omega)) ?_
    refine Nm.mk (wrapI (by omega) (by omega)) ?_
    refine Nx.intro r.length (by simp) _ (WkS.weak _ _) ⟨d ++ [x], r, by simp, rfl, ?_⟩
    (repeat' (first | exact rfl | refine consE ?_ ?_ | refine entE ?_ | refine vI ?_ | refine vS ?_ | refine vT ?_ | refine vB ?_))
    · rw [sumN_snoc]; omega
    · simp
end Go.Proofs.YtckjlakfnpapgaaGreatDoor
