/- Contracts of functions of the program: no statement of the seat is proved here. Each under the conditions that stand in it. -/
import Derived.Test.YtgcnbfplihjelaaFd
set_option linter.all false
namespace Go.Proofs.Ytgcnbfplihjelaa
open Go.Vs Go.Proofs
structure Gran where
  name : Name
  secret : Int
  deriving DecidableEq
abbrev Gran.c (o : Bool) (p : Gran) : List AV := [cSs o p.name.parts, cI p.secret]
@[simp] theorem Gran.shc (p : Gran) : shcL (Gran.c true p) = Gran.c false p := by simp [Gran.c, shcL, Vs.shc, shcLL_ints, shcLL_byts, shcLL_strs]
@[simp] theorem Gran.shcs (l : List Gran) : shcLL (l.map (Gran.c true)) = l.map (Gran.c false) := shcLL_map Gran.shc l
@[simp] theorem Gran.down (p : Gran) : dOwnL (Gran.c true p) := by simp [Gran.c, dOwnL, dOwn]
@[simp] theorem Gran.downs (l : List Gran) : dOwnLL (l.map (Gran.c true)) := dOwnLL_of Gran.down l
theorem Gran.eq_iff {p q : Gran} : p = q ↔ p.name = q.name ∧ p.secret = q.secret := by cases p; cases q; simp
def Gran.size (p : Gran) : Nat := Name.size p.name
def Gran.fits (p : Gran) : Prop := Name.fits p.name
def Gran.rng (p : Gran) : Prop := (-9223372036854775808 ≤ p.secret ∧ p.secret ≤ 9223372036854775807)
def Gran.mkd (p : Gran) (k : Int) : Gran := ⟨⟨markG mkS one1 p.name.parts (k)⟩, k + (p.name.parts.length : Nat)⟩
def Gran.cnt (p : Gran) : Nat := p.name.parts.length + 1
def Gran.mkv (p : Gran) (k : Int) : Gran := ⟨⟨markG mkS one1 p.name.parts (k)⟩, p.secret⟩
def Gran.cntv (p : Gran) : Nat := p.name.parts.length
theorem Gran.cnt_le (p : Gran) : Gran.cnt p ≤ 5 * (Gran.size p + 1) := by
  simp only [Gran.cnt, Gran.size, strsSize, Name.size]; omega
theorem Gran.cntv_le (p : Gran) : Gran.cntv p ≤ 5 * (Gran.size p + 1) := by
  simp only [Gran.cntv, Gran.size, strsSize, Name.size]; omega
theorem Gran.cnts_le (l : List Gran) : sumN Gran.cnt l ≤ 5 * (l.length + sumN Gran.size l) := by
  induction l with
  | nil => simp [sumN]
  | cons x l ih => have := Gran.cnt_le x; simp only [sumN, List.length_cons]; omega
structure Read where
  node : Int
  name : Name
  epoch : Int
  deriving DecidableEq
abbrev Read.c (o : Bool) (p : Read) : List AV := [cI p.node, cSs o p.name.parts, cI p.epoch]
@[simp] theorem Read.shc (p : Read) : shcL (Read.c true p) = Read.c false p := by simp [Read.c, shcL, Vs.shc, shcLL_ints, shcLL_byts, shcLL_strs]
@[simp] theorem Read.shcs (l : List Read) : shcLL (l.map (Read.c true)) = l.map (Read.c false) := shcLL_map Read.shc l
@[simp] theorem Read.down (p : Read) : dOwnL (Read.c true p) := by simp [Read.c, dOwnL, dOwn]
@[simp] theorem Read.downs (l : List Read) : dOwnLL (l.map (Read.c true)) := dOwnLL_of Read.down l
theorem Read.eq_iff {p q : Read} : p = q ↔ p.node = q.node ∧ p.name = q.name ∧ p.epoch = q.epoch := by cases p; cases q; simp
def Read.size (p : Read) : Nat := Name.size p.name
def Read.fits (p : Read) : Prop := Name.fits p.name
def Read.rng (p : Read) : Prop := (-9223372036854775808 ≤ p.node ∧ p.node ≤ 9223372036854775807) ∧ (-9223372036854775808 ≤ p.epoch ∧ p.epoch ≤ 9223372036854775807)
def Read.mkd (p : Read) (k : Int) : Read := ⟨k, ⟨markG mkS one1 p.name.parts (k + 1)⟩, k + 1 + (p.name.parts.length : Nat)⟩
def Read.cnt (p : Read) : Nat := 1 + p.name.parts.length + 1
def Read.mkv (p : Read) (k : Int) : Read := ⟨p.node, ⟨markG mkS one1 p.name.parts (k)⟩, p.epoch⟩
def Read.cntv (p : Read) : Nat := p.name.parts.length
theorem Read.cnt_le (p : Read) : Read.cnt p ≤ 6 * (Read.size p + 1) := by
  simp only [Read.cnt, Read.size, strsSize, Name.size]; omega
theorem Read.cntv_le (p : Read) : Read.cntv p ≤ 6 * (Read.size p + 1) := by
  simp only [Read.cntv, Read.size, strsSize, Name.size]; omega
theorem Read.cnts_le (l : List Read) : sumN Read.cnt l ≤ 6 * (l.length + sumN Read.size l) := by
  induction l with
  | nil => simp [sumN]
  | cons x l ih => have := Read.cnt_le x; simp only [sumN, List.length_cons]; omega
theorem is71 : FI 71 Try.f71 := ⟨⟨Try.f71, Try.func71, rfl, rfl, rfl, rfl⟩, rfl⟩
set_option maxRecDepth 20000 in
set_option maxHeartbeats 16000000 in
theorem szReader (p : Read) (x : Int) (hx : 0 ≤ x ∧ x ≤ 1048576) (hl : Read.fits p) : FO 71 [A (Read.c false p), I x] [A (Read.c false p), I x] (I (szA (Read.size p) x)) := by
  refine fok envOk mixed is71 ⟨rfl, rfl, ?_⟩
  refine Cl.mk (szName p.name (x) hx hl) ?_
  (conv => whnf)
  refine Br.dec (fun h => ?_) (fun h => ?_)
  · (repeat' ((conv => whnf); first | refine Br.tt ?_ | refine Br.ff ?_ | refine Br.pos (by assumption) ?_ | refine Br.neg (by assumption) ?_ | refine Br.bself ?_ | refine Br.dself ?_ | refine Br.iself ?_ | refine Br.mk (fun _ => ?_) (fun _ => ?_) | refine Nm.mk lenC ?_ | refine Nm.mk (wrapI (by (first | omega | (simp [inR_t, inR_f] at *; omega))) (by (first | omega | (simp [inR_t, inR_f] at *; omega)))) ?_ | refine Nm.mk (wrapQ (by (first | omega | (simp [inR_t, inR_f] at *; omega))) (by (first | omega | (simp [inR_t, inR_f] at *; omega))) (by (first | omega | (simp [inR_t, inR_f] at *; omega)))) ?_ | refine Nm.mk (tmodN (by (first | omega | (simp [inR_t, inR_f] at *; omega)))) ?_ | refine Nm.mk (szS _) ?_ | refine Nm.mk (mi_eq _ _) ?_ | refine Nm.mk (ma_eq _ _) ?_ | refine Rq.mk (by first | (simp [dOwnL, dOwn] <;> fail) | (first | omega | (simp [inR_t, inR_f] at *; omega))) ?_ | refine And.intro (orderFast (by kernel_rfl)) ?_ | refine And.intro (by kernel_rfl) ?_ ))
    refine Vs.Fin.mk (WkR.eq ?_) (.refl _)
    have h0 := szA_neg h (by omega)
    rw [szA_lt (n := Read.size p) (x := x) (by simp only [Read.size]; omega)]
  have e0 := szA_nn h (by omega)
  have s0 := szA_le e0
  (repeat' ((conv => whnf); first | refine Br.tt ?_ | refine Br.ff ?_ | refine Br.pos (by assumption) ?_ | refine Br.neg (by assumption) ?_ | refine Br.bself ?_ | refine Br.dself ?_ | refine Br.iself ?_ | refine Br.mk (fun _ => ?_) (fun _ => ?_) | refine Nm.mk lenC ?_ | refine Nm.mk (wrapI (by (first | omega | (simp [inR_t, inR_f] at *; omega))) (by (first | omega | (simp [inR_t, inR_f] at *; omega)))) ?_ | refine Nm.mk (wrapQ (by (first | omega | (simp [inR_t, inR_f] at *; omega))) (by (first | omega | (simp [inR_t, inR_f] at *; omega))) (by (first | omega | (simp [inR_t, inR_f] at *; omega)))) ?_ | refine Nm.mk (tmodN (by (first | omega | (simp [inR_t, inR_f] at *; omega)))) ?_ | refine Nm.mk (szS _) ?_ | refine Nm.mk (mi_eq _ _) ?_ | refine Nm.mk (ma_eq _ _) ?_ | refine Rq.mk (by first | (simp [dOwnL, dOwn] <;> fail) | (first | omega | (simp [inR_t, inR_f] at *; omega))) ?_ | refine And.intro (orderFast (by kernel_rfl)) ?_ | refine And.intro (by kernel_rfl) ?_ ))
  refine Vs.Fin.mk (WkR.eq ?_) (.refl _)
  refine congrArg (fun z => [cI z]) ?_
  rw [szA_le (n := Read.size p) (x := x) (by simp only [Read.size]; omega)]
  simp only [Read.size]; omega
theorem is75 : FI 75 Try.f75 := ⟨⟨Try.f75, Try.func75, rfl, rfl, rfl, rfl⟩, rfl⟩
set_option maxRecDepth 20000 in
set_option maxHeartbeats 16000000 in
theorem toReader (p : Read) (hl : Read.size p ≤ 1048576) : FO 75 [A (Read.c false p)] [A (Read.c false p)] (A (Read.c true p)) := by
  refine fok envOk mixed is75 ⟨rfl, rfl, ?_⟩
  (repeat' ((conv => whnf); first | refine Br.tt ?_ | refine Br.ff ?_ | refine Br.pos (by assumption) ?_ | refine Br.neg (by assumption) ?_ | refine Br.bself ?_ | refine Br.dself ?_ | refine Br.iself ?_ | refine Br.mk (fun _ => ?_) (fun _ => ?_) | refine Nm.mk lenC ?_ | refine Nm.mk (wrapI (by (first | omega | (simp [inR_t, inR_f] at *; omega))) (by (first | omega | (simp [inR_t, inR_f] at *; omega)))) ?_ | refine Nm.mk (wrapQ (by (first | omega | (simp [inR_t, inR_f] at *; omega))) (by (first | omega | (simp [inR_t, inR_f] at *; omega))) (by (first | omega | (simp [inR_t, inR_f] at *; omega)))) ?_ | refine Nm.mk (tmodN (by (first | omega | (simp [inR_t, inR_f] at *; omega)))) ?_ | refine Nm.mk (szS _) ?_ | refine Nm.mk (mi_eq _ _) ?_ | refine Nm.mk (ma_eq _ _) ?_ | refine Rq.mk (by first | (simp [dOwnL, dOwn] <;> fail) | (first | omega | (simp [inR_t, inR_f] at *; omega))) ?_ | refine And.intro (orderFast (by kernel_rfl)) ?_ | refine And.intro (by kernel_rfl) ?_ | refine Cl.mk (toName p.name (by simp only [Read.size] at hl; omega)) ?_ | refine Cl.pre (by simp only [shcLL_ints, shcLL_byts, shcLL_strs, Gran.shcs, Mani.shcs, Name.shcs, Read.shcs, Segm.shcs]; rfl) ?_))
  all_goals (try (refine Vs.Fin.mk (WkR.eq ?_) (.refl _); first | rfl | (simp_all []; done) | (simp_all []; omega) | grind | grind []))
theorem is81 : FI 81 Try.f81 := ⟨⟨Try.f81, Try.func81, rfl, rfl, rfl, rfl⟩, rfl⟩
set_option maxRecDepth 20000 in
set_option maxHeartbeats 16000000 in
theorem eqReader (p q : Read) (hp : Read.size p ≤ 1099511627776) : FO 81 [A (Read.c false p), A (Read.c false q)] [A (Read.c false p), A (Read.c false q)] (B (decide (p = q))) := by
  refine fok envOk mixed is81 ⟨rfl, rfl, ?_⟩
  (repeat' ((conv => whnf); first | refine Br.tt ?_ | refine Br.ff ?_ | refine Br.pos (by assumption) ?_ | refine Br.neg (by assumption) ?_ | refine Br.bself ?_ | refine Br.dself ?_ | refine Br.iself ?_ | refine Br.mk (fun _ => ?_) (fun _ => ?_) | refine Nm.mk lenC ?_ | refine Nm.mk (wrapI (by (first | omega | (simp [inR_t, inR_f] at *; omega))) (by (first | omega | (simp [inR_t, inR_f] at *; omega)))) ?_ | refine Nm.mk (wrapQ (by (first | omega | (simp [inR_t, inR_f] at *; omega))) (by (first | omega | (simp [inR_t, inR_f] at *; omega))) (by (first | omega | (simp [inR_t, inR_f] at *; omega)))) ?_ | refine Nm.mk (tmodN (by (first | omega | (simp [inR_t, inR_f] at *; omega)))) ?_ | refine Nm.mk (szS _) ?_ | refine Nm.mk (mi_eq _ _) ?_ | refine Nm.mk (ma_eq _ _) ?_ | refine Rq.mk (by first | (simp [dOwnL, dOwn] <;> fail) | (first | omega | (simp [inR_t, inR_f] at *; omega))) ?_ | refine And.intro (orderFast (by kernel_rfl)) ?_ | refine And.intro (by kernel_rfl) ?_ | refine Cl.mk (eqName p.name q.name (by simp only [Read.size] at hp; omega)) ?_ | refine Cl.pre (by simp only [shcLL_ints, shcLL_byts, shcLL_strs, Gran.shcs, Mani.shcs, Name.shcs, Read.shcs, Segm.shcs]; rfl) ?_))
  all_goals (try (refine Vs.Fin.mk (WkR.eq ?_) (.refl _); first | rfl | (simp_all [Read.eq_iff]; done) | (simp_all [Read.eq_iff]; omega) | grind | grind [Read.eq_iff]))
theorem is33 : FI 33 Try.f33 := ⟨⟨Try.f33, Try.func33, rfl, rfl, rfl, rfl⟩, rfl⟩
set_option maxRecDepth 20000 in
set_option maxHeartbeats 16000000 in
theorem szReaderS (l : List Read) (x : Int) (hx : 0 ≤ x ∧ x ≤ 1048576) (hl : l.length ≤ 9223372036854775807 ∧ ∀ y ∈ l, Read.fits y) : FO 33 [O (sl false 3 (l.map (Read.c false))), I x] [O (sl false 3 (l.map (Read.c false))), I x] (I (szA (l.length + sumN Read.size l) x)) := by
  refine fok envOk mixed is33 ⟨rfl, rfl, ?_⟩
  refine Nm.mk lenC ?_
  have hl1 := hl.1
  refine Nm.mk (wrapI (by omega) (by omega)) ?_
  refine Br.dec (fun h => ?_) (fun h => ?_)
  · (repeat' ((conv => whnf); first | refine Br.tt ?_ | refine Br.ff ?_ | refine Br.pos (by assumption) ?_ | refine Br.neg (by assumption) ?_ | refine Br.bself ?_ | refine Br.dself ?_ | refine Br.iself ?_ | refine Br.mk (fun _ => ?_) (fun _ => ?_) | refine Nm.mk lenC ?_ | refine Nm.mk (wrapI (by (first | omega | (simp [inR_t, inR_f] at *; omega))) (by (first | omega | (simp [inR_t, inR_f] at *; omega)))) ?_ | refine Nm.mk (wrapQ (by (first | omega | (simp [inR_t, inR_f] at *; omega))) (by (first | omega | (simp [inR_t, inR_f] at *; omega))) (by (first | omega | (simp [inR_t, inR_f] at *; omega)))) ?_ | refine Nm.mk (tmodN (by (first | omega | (simp [inR_t, inR_f] at *; omega)))) ?_ | refine Nm.mk (szS _) ?_ | refine Nm.mk (mi_eq _ _) ?_ | refine Nm.mk (ma_eq _ _) ?_ | refine Rq.mk (by first | (simp [dOwnL, dOwn] <;> fail) | (first | omega | (simp [inR_t, inR_f] at *; omega))) ?_ | refine And.intro (orderFast (by kernel_rfl)) ?_ | refine And.intro (by kernel_rfl) ?_ ))
    refine Vs.Fin.mk (WkR.eq ?_) (.refl _)
    rw [szA_lt (n := l.length + sumN Read.size l) (x := x) (by omega)]
  refine Lp.mk [.sl 0, .sl 1, .sl 5] (fun m σ => ∃ d r, l = d ++ r ∧ m = r.length ∧ 0 ≤ x - l.length - sumN Read.size d ∧ σ = [Sa 0 (O (sl false 3 (l.map (Read.c false)))), Sa 1 (I (x - l.length - sumN Read.size d)), Sa 5 (I d.length)]) (l.length) _ (WkS.weak _ _) ⟨[], l, rfl, rfl, by simp [sumN]; omega, (by first | rfl | (simp only [zlen, zsum, Nat.zero_mul, Int.add_zero, Int.sub_zero, List.nil_append, markG]; rfl))⟩ ?_
  rintro m τ ⟨d, r, rfl, rfl, h0, rfl⟩
  refine Nm.mk lenC ?_
  cases r with
  | nil =>
    refine Br.neg (by simp) ?_
    (repeat' ((conv => whnf); first | refine Br.tt ?_ | refine Br.ff ?_ | refine Br.pos (by assumption) ?_ | refine Br.neg (by assumption) ?_ | refine Br.bself ?_ | refine Br.dself ?_ | refine Br.iself ?_ | refine Br.mk (fun _ => ?_) (fun _ => ?_) | refine Nm.mk lenC ?_ | refine Nm.mk (wrapI (by (first | omega | (simp [inR_t, inR_f] at *; omega))) (by (first | omega | (simp [inR_t, inR_f] at *; omega)))) ?_ | refine Nm.mk (wrapQ (by (first | omega | (simp [inR_t, inR_f] at *; omega))) (by (first | omega | (simp [inR_t, inR_f] at *; omega))) (by (first | omega | (simp [inR_t, inR_f] at *; omega)))) ?_ | refine Nm.mk (tmodN (by (first | omega | (simp [inR_t, inR_f] at *; omega)))) ?_ | refine Nm.mk (szS _) ?_ | refine Nm.mk (mi_eq _ _) ?_ | refine Nm.mk (ma_eq _ _) ?_ | refine Rq.mk (by first | (simp [dOwnL, dOwn] <;> fail) | (first | omega | (simp [inR_t, inR_f] at *; omega))) ?_ | refine And.intro (orderFast (by kernel_rfl)) ?_ | refine And.intro (by kernel_rfl) ?_ ))
    refine Vs.Fin.mk (WkR.eq ?_) (.refl _)
    simp only [List.append_nil] at *
    refine congrArg (fun z => [cI z]) ?_
    rw [szA_le (n := d.length + sumN Read.size d) (x := x) (by omega)]
    omega
  | cons y r =>
    simp at hl1
    refine Br.pos (by simp; omega) ?_
    refine Rq.mk ⟨by omega, by simp; omega⟩ ?_
    refine El.mk (getA rfl) ?_
    refine Cl.mk (szReader y _ (by omega) (hl.2 y (by simp))) ?_
    (conv => whnf)
    refine Br.dec (fun h => ?_) (fun h => ?_)
    · (repeat' ((conv => whnf); first | refine Br.tt ?_ | refine Br.ff ?_ | refine Br.pos (by assumption) ?_ | refine Br.neg (by assumption) ?_ | refine Br.bself ?_ | refine Br.dself ?_ | refine Br.iself ?_ | refine Br.mk (fun _ => ?_) (fun _ => ?_) | refine Nm.mk lenC ?_ | refine Nm.mk (wrapI (by (first | omega | (simp [inR_t, inR_f] at *; omega))) (by (first | omega | (simp [inR_t, inR_f] at *; omega)))) ?_ | refine Nm.mk (wrapQ (by (first | omega | (simp [inR_t, inR_f] at *; omega))) (by (first | omega | (simp [inR_t, inR_f] at *; omega))) (by (first | omega | (simp [inR_t, inR_f] at *; omega)))) ?_ | refine Nm.mk (tmodN (by (first | omega | (simp [inR_t, inR_f] at *; omega)))) ?_ | refine Nm.mk (szS _) ?_ | refine Nm.mk (mi_eq _ _) ?_ | refine Nm.mk (ma_eq _ _) ?_ | refine Rq.mk (by first | (simp [dOwnL, dOwn] <;> fail) | (first | omega | (simp [inR_t, inR_f] at *; omega))) ?_ | refine And.intro (orderFast (by kernel_rfl)) ?_ | refine And.intro (by kernel_rfl) ?_ ))
      have h3 := szA_neg h (by omega)
      refine Vs.Fin.mk (WkR.eq ?_) (.refl _)
      rw [szA_lt (n := (d ++ y :: r).length + sumN Read.size (d ++ y :: r)) (x := x) (by rw [sumN_append]; simp only [sumN]; omega)]
    · have h3 := szA_nn h (by omega)
      have h4 := szA_le h3
      refine Nm.mk (wrapI (by omega) (by omega)) ?_
      refine Nx.intro r.length (by simp) _ (WkS.weak _ _) ⟨d ++ [y], r, by simp, rfl, by simp only [sumN_snoc, List.append_assoc, List.cons_append, List.nil_append]; omega, ?_⟩
      (repeat' (first | exact rfl | refine consE ?_ ?_ | refine entE ?_ | refine vI ?_ | refine vS ?_ | refine vT ?_ | refine vB ?_))
      · simp only [sumN_snoc, List.append_assoc, List.cons_append, List.nil_append]; omega
      · simp
theorem is36 : FI 36 Try.f36 := ⟨⟨Try.f36, Try.func36, rfl, rfl, rfl, rfl⟩, rfl⟩
set_option maxRecDepth 20000 in
set_option maxHeartbeats 16000000 in
theorem toReaderS (l : List Read) (hl : l.length + sumN Read.size l ≤ 1048576) : FO 36 [O (sl false 3 (l.map (Read.c false)))] [O (sl false 3 (l.map (Read.c false)))] (O (sl true 3 (l.map (Read.c true)))) := by
  refine fok envOk mixed is36 ⟨rfl, rfl, ?_⟩
  refine Nm.mk lenC ?_
  refine Rq.mk ⟨rfl, by omega, by omega, by simp; omega⟩ ?_
  refine Lp.mk [.sl 0, .sl 3, .sl 4] (fun m σ => ∃ d r, l = d ++ r ∧ m = r.length ∧ σ = [Sa 0 (O (sl false 3 (l.map (Read.c false)))), Sa 3 (O (.sl true .non 3 (d.map (Read.c true) ++ List.replicate m [cI 0, .sl true .isnil 0 [], cI 0]))), Sa 4 (I d.length)]) (l.length) _ (WkS.weak _ _) ⟨[], l, rfl, rfl, (by first | rfl | (simp only [zlen, zsum, Nat.zero_mul, Int.add_zero, Int.sub_zero, List.nil_append, markG]; rfl))⟩ ?_
  rintro m τ ⟨d, r, rfl, rfl, rfl⟩
  refine Nm.mk lenC ?_
  cases r with
  | nil =>
    refine Br.neg (by simp) ?_
    refine ⟨rfl, WkR.of (.sl1 ?_ .nil), .refl _⟩
    simp
  | cons x r =>
    have hl2 := hl
    simp at hl2
    refine Br.pos (by simp; omega) ?_
    refine Rq.mk ⟨by omega, by simp; omega⟩ ?_
    refine El.mk (getA rfl) ?_
    refine Cl.mk (toReader x (by have := sumN_mem Read.size (l := d ++ x :: r) (x := x) (by simp); omega)) ?_
    refine Rq.mk ⟨by omega, by simp; omega⟩ ?_
    refine El.mk (m := [cI 0, .sl true .isnil 0 [], cI 0]) (by simp) ?_
    refine Nm.mk (wrapI (by omega) (by omega)) ?_
    refine Nx.intro r.length (by simp) _ (WkS.weak _ _) ⟨d ++ [x], r, by simp, rfl, ?_⟩
    rw [len1, ← setA]; rfl
theorem is39 : FI 39 Try.f39 := ⟨⟨Try.f39, Try.func39, rfl, rfl, rfl, rfl⟩, rfl⟩
set_option maxRecDepth 20000 in
set_option maxHeartbeats 16000000 in
theorem eqReaderS (l b : List Read) (ha : l.length + sumN Read.size l ≤ 1099511627776) : FO 39 [O (sl false 3 (l.map (Read.c false))), O (sl false 3 (b.map (Read.c false)))] [O (sl false 3 (l.map (Read.c false))), O (sl false 3 (b.map (Read.c false)))] (B (decide (l = b))) := by
  refine fok envOk mixed is39 ⟨rfl, rfl, ?_⟩
  refine Nm.mk lenC ?_
  refine Nm.mk lenC ?_
  (conv => whnf)
  refine Br.mk (fun h => ?_) (fun h => ?_)
  · have hne : l ≠ b := by rintro rfl; simp at h
    (repeat' ((conv => whnf); first | refine Br.tt ?_ | refine Br.ff ?_ | refine Br.pos (by assumption) ?_ | refine Br.neg (by assumption) ?_ | refine Br.bself ?_ | refine Br.dself ?_ | refine Br.iself ?_ | refine Br.mk (fun _ => ?_) (fun _ => ?_) | refine Nm.mk lenC ?_ | refine Nm.mk (wrapI (by (first | omega | (simp [inR_t, inR_f] at *; omega))) (by (first | omega | (simp [inR_t, inR_f] at *; omega)))) ?_ | refine Nm.mk (wrapQ (by (first | omega | (simp [inR_t, inR_f] at *; omega))) (by (first | omega | (simp [inR_t, inR_f] at *; omega))) (by (first | omega | (simp [inR_t, inR_f] at *; omega)))) ?_ | refine Nm.mk (tmodN (by (first | omega | (simp [inR_t, inR_f] at *; omega)))) ?_ | refine Nm.mk (szS _) ?_ | refine Nm.mk (mi_eq _ _) ?_ | refine Nm.mk (ma_eq _ _) ?_ | refine Rq.mk (by first | (simp [dOwnL, dOwn] <;> fail) | (first | omega | (simp [inR_t, inR_f] at *; omega))) ?_ | refine And.intro (orderFast (by kernel_rfl)) ?_ | refine And.intro (by kernel_rfl) ?_ ))
    all_goals (try (refine Vs.Fin.mk (WkR.eq ?_) (.refl _); first | rfl | (simp_all [hne]; done) | (simp_all [hne]; omega) | grind | grind [hne]))
  have hl : l.length = b.length := by simp at h; omega
  refine Lp.mk [.sl 0, .sl 1, .sl 5] (fun m σ => ∃ d r e s, l = d ++ r ∧ b = e ++ s ∧ m = r.length ∧ d = e ∧ σ = [Sa 0 (O (sl false 3 (l.map (Read.c false)))), Sa 1 (O (sl false 3 (b.map (Read.c false)))), Sa 5 (I d.length)]) l.length _ (WkS.weak _ _) ⟨[], l, [], b, rfl, rfl, rfl, rfl, rfl⟩ ?_
  rintro m τ ⟨d, r, e, s, rfl, rfl, rfl, rfl, rfl⟩
  refine Nm.mk lenC ?_
  cases r with
  | nil =>
    obtain rfl : s = [] := by cases s <;> simp_all
    refine Br.neg (by simp) ?_
    (repeat' ((conv => whnf); first | refine Br.tt ?_ | refine Br.ff ?_ | refine Br.pos (by assumption) ?_ | refine Br.neg (by assumption) ?_ | refine Br.bself ?_ | refine Br.dself ?_ | refine Br.iself ?_ | refine Br.mk (fun _ => ?_) (fun _ => ?_) | refine Nm.mk lenC ?_ | refine Nm.mk (wrapI (by (first | omega | (simp [inR_t, inR_f] at *; omega))) (by (first | omega | (simp [inR_t, inR_f] at *; omega)))) ?_ | refine Nm.mk (wrapQ (by (first | omega | (simp [inR_t, inR_f] at *; omega))) (by (first | omega | (simp [inR_t, inR_f] at *; omega))) (by (first | omega | (simp [inR_t, inR_f] at *; omega)))) ?_ | refine Nm.mk (tmodN (by (first | omega | (simp [inR_t, inR_f] at *; omega)))) ?_ | refine Nm.mk (szS _) ?_ | refine Nm.mk (mi_eq _ _) ?_ | refine Nm.mk (ma_eq _ _) ?_ | refine Rq.mk (by first | (simp [dOwnL, dOwn] <;> fail) | (first | omega | (simp [inR_t, inR_f] at *; omega))) ?_ | refine And.intro (orderFast (by kernel_rfl)) ?_ | refine And.intro (by kernel_rfl) ?_ ))
    all_goals (try (refine Vs.Fin.mk (WkR.eq ?_) (.refl _); first | rfl | (simp_all []; done) | (simp_all []; omega) | grind | grind []))
  | cons x r =>
    obtain ⟨y, s, rfl⟩ : ∃ y s', s = y :: s' := by cases s <;> simp_all
    have ha2 := ha
    simp at ha2
    refine Br.pos (by simp; omega) ?_
    refine Rq.mk ⟨by omega, by simp; omega⟩ ?_
    refine El.mk (getA rfl) ?_
    refine Rq.mk ⟨by omega, by simp; omega⟩ ?_
    refine El.mk (getA rfl) ?_
    refine Cl.mk (eqReader x y (by have := sumN_mem Read.size (l := d ++ x :: r) (x := x) (by simp); omega)) ?_
    (conv => whnf)
    refine And.intro (by kernel_rfl) ?_
    (conv => whnf)
    refine Br.mk (fun h => ?_) (fun h => ?_)
    · have hne : x ≠ y := by simpa using h
      (repeat' ((conv => whnf); first | refine Br.tt ?_ | refine Br.ff ?_ | refine Br.pos (by assumption) ?_ | refine Br.neg (by assumption) ?_ | refine Br.bself ?_ | refine Br.dself ?_ | refine Br.iself ?_ | refine Br.mk (fun _ => ?_) (fun _ => ?_) | refine Nm.mk lenC ?_ | refine Nm.mk (wrapI (by (first | omega | (simp [inR_t, inR_f] at *; omega))) (by (first | omega | (simp [inR_t, inR_f] at *; omega)))) ?_ | refine Nm.mk (wrapQ (by (first | omega | (simp [inR_t, inR_f] at *; omega))) (by (first | omega | (simp [inR_t, inR_f] at *; omega))) (by (first | omega | (simp [inR_t, inR_f] at *; omega)))) ?_ | refine Nm.mk (tmodN (by (first | omega | (simp [inR_t, inR_f] at *; omega)))) ?_ | refine Nm.mk (szS _) ?_ | refine Nm.mk (mi_eq _ _) ?_ | refine Nm.mk (ma_eq _ _) ?_ | refine Rq.mk (by first | (simp [dOwnL, dOwn] <;> fail) | (first | omega | (simp [inR_t, inR_f] at *; omega))) ?_ | refine And.intro (orderFast (by kernel_rfl)) ?_ | refine And.intro (by kernel_rfl) ?_ ))
      all_goals (try (refine Vs.Fin.mk (WkR.eq ?_) (.refl _); first | rfl | (simp_all [hne]; done) | (simp_all [hne]; omega) | grind | grind [hne]))
    · obtain rfl : x = y := by simpa using h
      refine Nm.mk (wrapI (by omega) (by omega)) ?_
      refine Nx.intro r.length (by simp) _ (WkS.weak _ _) ⟨d ++ [x], r, d ++ [x], s, by simp, by simp, rfl, rfl, ?_⟩
      rw [len1]; rfl
theorem is41 : FI 41 Try.f41 := ⟨⟨Try.f41, Try.func41, rfl, rfl, rfl, rfl⟩, rfl⟩
set_option maxRecDepth 20000 in
set_option maxHeartbeats 16000000 in
theorem markReaderS (l : List Read) (k : Int) (hk : 0 ≤ k) (hb : k + (sumN Read.cnt l : Nat) ≤ 4611686018427387904) (hl : l.length + sumN Read.size l ≤ 4611686018427387904) : FO 41 [O (sl true 3 (l.map (Read.c true))), I k] [O (sl true 3 ((markG Read.mkd Read.cnt l k).map (Read.c true))), I k] (I (k + (sumN Read.cnt l : Nat))) := by
  refine fok envOk mixed is41 ⟨rfl, rfl, ?_⟩
  refine Lp.mk [.sl 0, .ex 0, .sl 1, .sl 5] (fun m σ => ∃ d r, l = d ++ r ∧ m = r.length ∧ σ = [Rf 0 0, Ex 0 (O (sl true 3 ((markG Read.mkd Read.cnt d k ++ r).map (Read.c true)))), Sa 1 (I (k + (sumN Read.cnt d : Nat))), Sa 5 (I d.length)]) (l.length) _ (WkS.weak _ _) ⟨[], l, rfl, rfl, (by first | rfl | (simp only [zlen, zsum, Nat.zero_mul, Int.add_zero, Int.sub_zero, List.nil_append, markG]; rfl))⟩ ?_
  rintro m τ ⟨d, r, rfl, rfl, rfl⟩
  refine Nm.mk lenC ?_
  cases r with
  | nil =>
    refine Br.neg (by simp [markG_length]) ?_
    (repeat' ((conv => whnf); first | refine Br.tt ?_ | refine Br.ff ?_ | refine Br.pos (by assumption) ?_ | refine Br.neg (by assumption) ?_ | refine Br.bself ?_ | refine Br.dself ?_ | refine Br.iself ?_ | refine Br.mk (fun _ => ?_) (fun _ => ?_) | refine Nm.mk lenC ?_ | refine Nm.mk (wrapI (by (first | omega | (simp [inR_t, inR_f] at *; omega))) (by (first | omega | (simp [inR_t, inR_f] at *; omega)))) ?_ | refine Nm.mk (wrapQ (by (first | omega | (simp [inR_t, inR_f] at *; omega))) (by (first | omega | (simp [inR_t, inR_f] at *; omega))) (by (first | omega | (simp [inR_t, inR_f] at *; omega)))) ?_ | refine Nm.mk (tmodN (by (first | omega | (simp [inR_t, inR_f] at *; omega)))) ?_ | refine Nm.mk (szS _) ?_ | refine Nm.mk (mi_eq _ _) ?_ | refine Nm.mk (ma_eq _ _) ?_ | refine Rq.mk (by first | (simp [dOwnL, dOwn] <;> fail) | (first | omega | (simp [inR_t, inR_f] at *; omega))) ?_ | refine And.intro (orderFast (by kernel_rfl)) ?_ | refine And.intro (by kernel_rfl) ?_ ))
    simp only [List.append_nil]
    exact ⟨WkR.refl _, .refl _⟩
  | cons x r =>
    rw [sumN_append] at hl; simp only [sumN] at hl; simp at hl
    rw [sumN_append] at hb
    have hc : Read.cnt x = 1 + x.name.parts.length + 1 := rfl
    simp only [sumN] at hb
    refine Br.pos (by simp [markG_length]; omega) ?_
    refine Rq.mk ⟨by omega, by simp [markG_length]; omega⟩ ?_
    first | refine El.mk (getA (by simp [markG_length])) ?_ | refine El.mk (List.getElem?_set_self (by simp [markG_length])) ?_
    refine Nm.mk (wrapI (by omega) (by omega)) ?_
    refine Rq.mk ⟨by omega, by simp [markG_length]; omega⟩ ?_
    first | refine El.mk (getA (by simp [markG_length])) ?_ | refine El.mk (List.getElem?_set_self (by simp [markG_length])) ?_
    first | refine El.mk (getA (by simp [markG_length])) ?_ | refine El.mk (List.getElem?_set_self (by simp [markG_length])) ?_
    refine Cl.mk (markStringS x.name.parts (k + (sumN Read.cnt d : Nat) + 1) (by omega) (by omega)) ?_
    refine Rq.mk ⟨by omega, by simp [markG_length]; omega⟩ ?_
    first | refine El.mk (getA (by simp [markG_length])) ?_ | refine El.mk (List.getElem?_set_self (by simp [markG_length])) ?_
    refine Nm.mk (wrapI (by omega) (by omega)) ?_
    refine Nm.mk (wrapI (by omega) (by omega)) ?_
    refine Nx.intro r.length (by simp) _ (WkS.weak _ _) ⟨d ++ [x], r, by simp, rfl, ?_⟩
    (repeat' (first | exact rfl | refine consE ?_ ?_ | refine entE ?_ | refine vI ?_ | refine vS ?_ | refine vT ?_ | refine vB ?_))
    · simp only [List.set_set]
      rw [setB (by simp [markG_length])]
      simp [markG_snoc, Read.mkd, spliceAV]
    · rw [sumN_snoc]; omega
    · simp
theorem is43 : FI 43 Try.f43 := ⟨⟨Try.f43, Try.func43, rfl, rfl, rfl, rfl⟩, rfl⟩
set_option maxRecDepth 20000 in
set_option maxHeartbeats 16000000 in
theorem heldReaderS (l : List Read) (k : Int) (hk : 0 ≤ k) (hb : k + (sumN Read.cnt l : Nat) ≤ 4611686018427387904) (hl : l.length + sumN Read.size l ≤ 4611686018427387904) : FO 43 [O (sl false 3 ((markG Read.mkd Read.cnt l k).map (Read.c false))), I k] [O (sl false 3 ((markG Read.mkd Read.cnt l k).map (Read.c false))), I k] (I (k + (sumN Read.cnt l : Nat))) := by
  refine fok envOk mixed is43 ⟨rfl, rfl, ?_⟩
  refine Lp.mk [.sl 0, .sl 1, .sl 5] (fun m σ => ∃ d r, l = d ++ r ∧ m = r.length ∧ σ = [Sa 0 (O (sl false 3 ((markG Read.mkd Read.cnt l k).map (Read.c false)))), Sa 1 (I (k + (sumN Read.cnt d : Nat))), Sa 5 (I d.length)]) (l.length) _ (WkS.weak _ _) ⟨[], l, rfl, rfl, (by first | rfl | (simp only [zlen, zsum, Nat.zero_mul, Int.add_zero, Int.sub_zero, List.nil_append, markG]; rfl))⟩ ?_
  rintro m τ ⟨d, r, rfl, rfl, rfl⟩
  refine Nm.mk lenC ?_
  cases r with
  | nil =>
    refine Br.neg (by simp [markG_length]) ?_
    (repeat' ((conv => whnf); first | refine Br.tt ?_ | refine Br.ff ?_ | refine Br.pos (by assumption) ?_ | refine Br.neg (by assumption) ?_ | refine Br.bself ?_ | refine Br.dself ?_ | refine Br.iself ?_ | refine Br.mk (fun _ => ?_) (fun _ => ?_) | refine Nm.mk lenC ?_ | refine Nm.mk (wrapI (by (first | omega | (simp [inR_t, inR_f] at *; omega))) (by (first | omega | (simp [inR_t, inR_f] at *; omega)))) ?_ | refine Nm.mk (wrapQ (by (first | omega | (simp [inR_t, inR_f] at *; omega))) (by (first | omega | (simp [inR_t, inR_f] at *; omega))) (by (first | omega | (simp [inR_t, inR_f] at *; omega)))) ?_ | refine Nm.mk (tmodN (by (first | omega | (simp [inR_t, inR_f] at *; omega)))) ?_ | refine Nm.mk (szS _) ?_ | refine Nm.mk (mi_eq _ _) ?_ | refine Nm.mk (ma_eq _ _) ?_ | refine Rq.mk (by first | (simp [dOwnL, dOwn] <;> fail) | (first | omega | (simp [inR_t, inR_f] at *; omega))) ?_ | refine And.intro (orderFast (by kernel_rfl)) ?_ | refine And.intro (by kernel_rfl) ?_ ))
    simp only [List.append_nil]
    exact ⟨WkR.refl _, .refl _⟩
  | cons x r =>
    rw [sumN_append] at hl; simp only [sumN] at hl; simp at hl
    rw [sumN_append] at hb
    have hc : Read.cnt x = 1 + x.name.parts.length + 1 := rfl
    simp only [sumN] at hb
    refine Br.pos (by simp [markG_length]; omega) ?_
    refine Rq.mk ⟨by omega, by simp [markG_length]; omega⟩ ?_
    refine El.mk (getM (l := d) (mk := Read.mkd) (cnt := Read.cnt) (x := x) rfl) ?_
    (conv => whnf)
    refine Br.neg (by simp [Read.mkd]) ?_
    refine Nm.mk (wrapI (by omega) (by omega)) ?_
    refine Rq.mk ⟨by omega, by simp [markG_length]; omega⟩ ?_
    refine El.mk (getM (l := d) (mk := Read.mkd) (cnt := Read.cnt) (x := x) rfl) ?_
    refine Cl.mk (heldStringS x.name.parts (k + (sumN Read.cnt d : Nat) + 1) (by omega) (by omega)) ?_
    (conv => whnf)
    refine Br.neg (by simp; omega) ?_
    refine Rq.mk ⟨by omega, by simp [markG_length]; omega⟩ ?_
    refine El.mk (getM (l := d) (mk := Read.mkd) (cnt := Read.cnt) (x := x) rfl) ?_
    (conv => whnf)
    refine Br.neg (by simp [Read.mkd]) ?_
    refine Nm.mk (wrapI (by omega) (by omega)) ?_
    refine Nm.mk (wrapI (by omega) (by omega)) ?_
    refine Nx.intro r.length (by simp) _ (WkS.weak _ _) ⟨d ++ [x], r, by simp, rfl, ?_⟩
    (repeat' (first | exact rfl | refine consE ?_ ?_ | refine entE ?_ | refine vI ?_ | refine vS ?_ | refine vT ?_ | refine vB ?_))
    · rw [sumN_snoc]; omega
    · simp
end Go.Proofs.Ytgcnbfplihjelaa
