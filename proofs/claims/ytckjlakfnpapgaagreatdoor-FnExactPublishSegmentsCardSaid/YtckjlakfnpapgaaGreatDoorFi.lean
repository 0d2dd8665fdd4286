/- Contracts of functions of the program: no statement of the seat is proved here. Each under the conditions that stand in it. -/
import Derived.Test.YtckjlakfnpapgaaGreatDoorFd
set_option linter.all false
namespace Go.Proofs.YtckjlakfnpapgaaGreatDoor
open Go.Vs Go.Proofs
structure TEnt where
  name : Name
  value : Int
  deriving DecidableEq
abbrev TEnt.c (o : Bool) (p : TEnt) : List AV := [cSs o p.name.parts, cI p.value]
@[simp] theorem TEnt.shc (p : TEnt) : shcL (TEnt.c true p) = TEnt.c false p := by simp [TEnt.c, shcL, Vs.shc, shcLL_ints, shcLL_byts, shcLL_strs]
@[simp] theorem TEnt.shcs (l : List TEnt) : shcLL (l.map (TEnt.c true)) = l.map (TEnt.c false) := shcLL_map TEnt.shc l
@[simp] theorem TEnt.down (p : TEnt) : dOwnL (TEnt.c true p) := by simp [TEnt.c, dOwnL, dOwn]
@[simp] theorem TEnt.downs (l : List TEnt) : dOwnLL (l.map (TEnt.c true)) := dOwnLL_of TEnt.down l
theorem TEnt.eq_iff {p q : TEnt} : p = q ↔ p.name = q.name ∧ p.value = q.value := by cases p; cases q; simp
def TEnt.size (p : TEnt) : Nat := Name.size p.name
def TEnt.fits (p : TEnt) : Prop := Name.fits p.name
def TEnt.rng (p : TEnt) : Prop := (-9223372036854775808 ≤ p.value ∧ p.value ≤ 9223372036854775807)
def TEnt.mkd (p : TEnt) (k : Int) : TEnt := ⟨⟨markG mkS one1 p.name.parts (k)⟩, k + (p.name.parts.length : Nat)⟩
def TEnt.cnt (p : TEnt) : Nat := p.name.parts.length + 1
def TEnt.mkv (p : TEnt) (k : Int) : TEnt := ⟨⟨markG mkS one1 p.name.parts (k)⟩, p.value⟩
def TEnt.cntv (p : TEnt) : Nat := p.name.parts.length
theorem TEnt.cnt_le (p : TEnt) : TEnt.cnt p ≤ 5 * (TEnt.size p + 1) := by
  simp only [TEnt.cnt, TEnt.size, strsSize, Name.size]; omega
theorem TEnt.cntv_le (p : TEnt) : TEnt.cntv p ≤ 5 * (TEnt.size p + 1) := by
  simp only [TEnt.cntv, TEnt.size, strsSize, Name.size]; omega
theorem TEnt.cnts_le (l : List TEnt) : sumN TEnt.cnt l ≤ 5 * (l.length + sumN TEnt.size l) := by
  induction l with
  | nil => simp [sumN]
  | cons x l ih => have := TEnt.cnt_le x; simp only [sumN, List.length_cons]; omega
structure Rout where
  pref : Name
  face : Int
  cost : Int
  deriving DecidableEq
abbrev Rout.c (o : Bool) (p : Rout) : List AV := [cSs o p.pref.parts, cI p.face, cI p.cost]
@[simp] theorem Rout.shc (p : Rout) : shcL (Rout.c true p) = Rout.c false p := by simp [Rout.c, shcL, Vs.shc, shcLL_ints, shcLL_byts, shcLL_strs]
@[simp] theorem Rout.shcs (l : List Rout) : shcLL (l.map (Rout.c true)) = l.map (Rout.c false) := shcLL_map Rout.shc l
@[simp] theorem Rout.down (p : Rout) : dOwnL (Rout.c true p) := by simp [Rout.c, dOwnL, dOwn]
@[simp] theorem Rout.downs (l : List Rout) : dOwnLL (l.map (Rout.c true)) := dOwnLL_of Rout.down l
theorem Rout.eq_iff {p q : Rout} : p = q ↔ p.pref = q.pref ∧ p.face = q.face ∧ p.cost = q.cost := by cases p; cases q; simp
def Rout.size (p : Rout) : Nat := Name.size p.pref
def Rout.fits (p : Rout) : Prop := Name.fits p.pref
def Rout.rng (p : Rout) : Prop := (-9223372036854775808 ≤ p.face ∧ p.face ≤ 9223372036854775807) ∧ (-9223372036854775808 ≤ p.cost ∧ p.cost ≤ 9223372036854775807)
def Rout.mkd (p : Rout) (k : Int) : Rout := ⟨⟨markG mkS one1 p.pref.parts (k)⟩, k + (p.pref.parts.length : Nat), k + (p.pref.parts.length : Nat) + 1⟩
def Rout.cnt (p : Rout) : Nat := p.pref.parts.length + 1 + 1
def Rout.mkv (p : Rout) (k : Int) : Rout := ⟨⟨markG mkS one1 p.pref.parts (k)⟩, p.face, p.cost⟩
def Rout.cntv (p : Rout) : Nat := p.pref.parts.length
theorem Rout.cnt_le (p : Rout) : Rout.cnt p ≤ 6 * (Rout.size p + 1) := by
  simp only [Rout.cnt, Rout.size, strsSize, Name.size]; omega
theorem Rout.cntv_le (p : Rout) : Rout.cntv p ≤ 6 * (Rout.size p + 1) := by
  simp only [Rout.cntv, Rout.size, strsSize, Name.size]; omega
theorem Rout.cnts_le (l : List Rout) : sumN Rout.cnt l ≤ 6 * (l.length + sumN Rout.size l) := by
  induction l with
  | nil => simp [sumN]
  | cons x l ih => have := Rout.cnt_le x; simp only [sumN, List.length_cons]; omega
structure Keyy where
  name : Name
  secret : Int
  deriving DecidableEq
abbrev Keyy.c (o : Bool) (p : Keyy) : List AV := [cSs o p.name.parts, cI p.secret]
@[simp] theorem Keyy.shc (p : Keyy) : shcL (Keyy.c true p) = Keyy.c false p := by simp [Keyy.c, shcL, Vs.shc, shcLL_ints, shcLL_byts, shcLL_strs]
@[simp] theorem Keyy.shcs (l : List Keyy) : shcLL (l.map (Keyy.c true)) = l.map (Keyy.c false) := shcLL_map Keyy.shc l
@[simp] theorem Keyy.down (p : Keyy) : dOwnL (Keyy.c true p) := by simp [Keyy.c, dOwnL, dOwn]
@[simp] theorem Keyy.downs (l : List Keyy) : dOwnLL (l.map (Keyy.c true)) := dOwnLL_of Keyy.down l
theorem Keyy.eq_iff {p q : Keyy} : p = q ↔ p.name = q.name ∧ p.secret = q.secret := by cases p; cases q; simp
def Keyy.size (p : Keyy) : Nat := Name.size p.name
def Keyy.fits (p : Keyy) : Prop := Name.fits p.name
def Keyy.rng (p : Keyy) : Prop := (-9223372036854775808 ≤ p.secret ∧ p.secret ≤ 9223372036854775807)
def Keyy.mkd (p : Keyy) (k : Int) : Keyy := ⟨⟨markG mkS one1 p.name.parts (k)⟩, k + (p.name.parts.length : Nat)⟩
def Keyy.cnt (p : Keyy) : Nat := p.name.parts.length + 1
def Keyy.mkv (p : Keyy) (k : Int) : Keyy := ⟨⟨markG mkS one1 p.name.parts (k)⟩, p.secret⟩
def Keyy.cntv (p : Keyy) : Nat := p.name.parts.length
theorem Keyy.cnt_le (p : Keyy) : Keyy.cnt p ≤ 5 * (Keyy.size p + 1) := by
  simp only [Keyy.cnt, Keyy.size, strsSize, Name.size]; omega
theorem Keyy.cntv_le (p : Keyy) : Keyy.cntv p ≤ 5 * (Keyy.size p + 1) := by
  simp only [Keyy.cntv, Keyy.size, strsSize, Name.size]; omega
theorem Keyy.cnts_le (l : List Keyy) : sumN Keyy.cnt l ≤ 5 * (l.length + sumN Keyy.size l) := by
  induction l with
  | nil => simp [sumN]
  | cons x l ih => have := Keyy.cnt_le x; simp only [sumN, List.length_cons]; omega
theorem is20 : FI 20 Tryz.f20 := ⟨⟨Tryz.f20, Tryz.func20, rfl, rfl, rfl, rfl⟩, rfl⟩
set_option maxRecDepth 20000 in
set_option maxHeartbeats 16000000 in
theorem szKey (p : Keyy) (x : Int) (hx : 0 ≤ x ∧ x ≤ 1048576) (hl : Keyy.fits p) : FO 20 [A (Keyy.c false p), I x] [A (Keyy.c false p), I x] (I (szA (Keyy.size p) x)) := by
  refine fok envOk mixed is20 ⟨rfl, rfl, ?_⟩
  refine Cl.mk (szName p.name (x) hx hl) ?_
  (conv => whnf)
  refine Br.dec (fun h => ?_) (fun h => ?_)
  · (repeat' ((conv => whnf); first | refine Br.tt ?_ | refine Br.ff ?_ | refine Br.pos (by assumption) ?_ | refine Br.neg (by assumption) ?_ | refine Br.bself ?_ | refine Br.dself ?_ | refine Br.iself ?_ | refine Br.mk (fun _ => ?_) (fun _ => ?_) | refine Nm.mk lenC ?_ | refine Nm.mk (wrapI (by (first | omega | (simp [inR_t, inR_f] at *; omega))) (by (first | omega | (simp [inR_t, inR_f] at *; omega)))) ?_ | refine Nm.mk (wrapQ (by (first | omega | (simp [inR_t, inR_f] at *; omega))) (by (first | omega | (simp [inR_t, inR_f] at *; omega))) (by (first | omega | (simp [inR_t, inR_f] at *; omega)))) ?_ | refine Nm.mk (tmodN (by (first | omega | (simp [inR_t, inR_f] at *; omega)))) ?_ | refine Nm.mk (szS _) ?_ | refine Nm.mk (mi_eq _ _) ?_ | refine Nm.mk (ma_eq _ _) ?_ | refine Rq.mk (by first | (simp [dOwnL, dOwn] <;> fail) | (first | omega | (simp [inR_t, inR_f] at *; omega))) ?_ | refine And.intro (orderFast (by kernel_rfl)) ?_ | refine And.intro (by kernel_rfl) ?_ ))
    refine Vs.Fin.mk (WkR.eq ?_) (.refl _)
    have h0 := szA_neg h (by omega)
    rw [szA_lt (n := Keyy.size p) (x := x) (by simp only [Keyy.size]; omega)]
  have e0 := szA_nn h (by omega)
  have s0 := szA_le e0
  (repeat' ((conv => whnf); first | refine Br.tt ?_ | refine Br.ff ?_ | refine Br.pos (by assumption) ?_ | refine Br.neg (by assumption) ?_ | refine Br.bself ?_ | refine Br.dself ?_ | refine Br.iself ?_ | refine Br.mk (fun _ => ?_) (fun _ => ?_) | refine Nm.mk lenC ?_ | refine Nm.mk (wrapI (by (first | omega | (simp [inR_t, inR_f] at *; omega))) (by (first | omega | (simp [inR_t, inR_f] at *; omega)))) ?_ | refine Nm.mk (wrapQ (by (first | omega | (simp [inR_t, inR_f] at *; omega))) (by (first | omega | (simp [inR_t, inR_f] at *; omega))) (by (first | omega | (simp [inR_t, inR_f] at *; omega)))) ?_ | refine Nm.mk (tmodN (by (first | omega | (simp [inR_t, inR_f] at *; omega)))) ?_ | refine Nm.mk (szS _) ?_ | refine Nm.mk (mi_eq _ _) ?_ | refine Nm.mk (ma_eq _ _) ?_ | refine Rq.mk (by first | (simp [dOwnL, dOwn] <;> fail) | (first | omega | (simp [inR_t, inR_f] at *; omega))) ?_ | refine And.intro (orderFast (by kernel_rfl)) ?_ | refine And.intro (by kernel_rfl) ?_ ))
  refine Vs.Fin.mk (WkR.eq ?_) (.refl _)
  refine congrArg (fun z => [cI z]) ?_
  rw [szA_le (n := Keyy.size p) (x := x) (by simp only [Keyy.size]; omega)]
  simp only [Keyy.size]; omega
theorem is28 : FI 28 Tryz.f28 := ⟨⟨Tryz.f28, Tryz.func28, rfl, rfl, rfl, rfl⟩, rfl⟩
set_option maxRecDepth 20000 in
set_option maxHeartbeats 16000000 in
theorem toKey (p : Keyy) (hl : Keyy.size p ≤ 1048576) : FO 28 [A (Keyy.c false p)] [A (Keyy.c false p)] (A (Keyy.c true p)) := by
  refine fok envOk mixed is28 ⟨rfl, rfl, ?_⟩
  (repeat' ((conv => whnf); first | refine Br.tt ?_ | refine Br.ff ?_ | refine Br.pos (by assumption) ?_ | refine Br.neg (by assumption) ?_ | refine Br.bself ?_ | refine Br.dself ?_ | refine Br.iself ?_ | refine Br.mk (fun _ => ?_) (fun _ => ?_) | refine Nm.mk lenC ?_ | refine Nm.mk (wrapI (by (first | omega | (simp [inR_t, inR_f] at *; omega))) (by (first | omega | (simp [inR_t, inR_f] at *; omega)))) ?_ | refine Nm.mk (wrapQ (by (first | omega | (simp [inR_t, inR_f] at *; omega))) (by (first | omega | (simp [inR_t, inR_f] at *; omega))) (by (first | omega | (simp [inR_t, inR_f] at *; omega)))) ?_ | refine Nm.mk (tmodN (by (first | omega | (simp [inR_t, inR_f] at *; omega)))) ?_ | refine Nm.mk (szS _) ?_ | refine Nm.mk (mi_eq _ _) ?_ | refine Nm.mk (ma_eq _ _) ?_ | refine Rq.mk (by first | (simp [dOwnL, dOwn] <;> fail) | (first | omega | (simp [inR_t, inR_f] at *; omega))) ?_ | refine And.intro (orderFast (by kernel_rfl)) ?_ | refine And.intro (by kernel_rfl) ?_ | refine Cl.mk (toName p.name (by simp only [Keyy.size] at hl; omega)) ?_ | refine Cl.pre (by simp only [shcLL_ints, shcLL_byts, shcLL_strs, Keyy.shcs, Mani.shcs, Name.shcs, Rout.shcs, Segm.shcs, TEnt.shcs]; rfl) ?_))
  all_goals (try (refine Vs.Fin.mk (WkR.eq ?_) (.refl _); first | rfl | (simp_all []; done) | (simp_all []; omega) | grind | grind []))
theorem is37 : FI 37 Tryz.f37 := ⟨⟨Tryz.f37, Tryz.func37, rfl, rfl, rfl, rfl⟩, rfl⟩
set_option maxRecDepth 20000 in
set_option maxHeartbeats 16000000 in
theorem eqKey (p q : Keyy) (hp : Keyy.size p ≤ 1099511627776) : FO 37 [A (Keyy.c false p), A (Keyy.c false q)] [A (Keyy.c false p), A (Keyy.c false q)] (B (decide (p = q))) := by
  refine fok envOk mixed is37 ⟨rfl, rfl, ?_⟩
  (repeat' ((conv => whnf); first | refine Br.tt ?_ | refine Br.ff ?_ | refine Br.pos (by assumption) ?_ | refine Br.neg (by assumption) ?_ | refine Br.bself ?_ | refine Br.dself ?_ | refine Br.iself ?_ | refine Br.mk (fun _ => ?_) (fun _ => ?_) | refine Nm.mk lenC ?_ | refine Nm.mk (wrapI (by (first | omega | (simp [inR_t, inR_f] at *; omega))) (by (first | omega | (simp [inR_t, inR_f] at *; omega)))) ?_ | refine Nm.mk (wrapQ (by (first | omega | (simp [inR_t, inR_f] at *; omega))) (by (first | omega | (simp [inR_t, inR_f] at *; omega))) (by (first | omega | (simp [inR_t, inR_f] at *; omega)))) ?_ | refine Nm.mk (tmodN (by (first | omega | (simp [inR_t, inR_f] at *; omega)))) ?_ | refine Nm.mk (szS _) ?_ | refine Nm.mk (mi_eq _ _) ?_ | refine Nm.mk (ma_eq _ _) ?_ | refine Rq.mk (by first | (simp [dOwnL, dOwn] <;> fail) | (first | omega | (simp [inR_t, inR_f] at *; omega))) ?_ | refine And.intro (orderFast (by kernel_rfl)) ?_ | refine And.intro (by kernel_rfl) ?_ | refine Cl.mk (eqName p.name q.name (by simp only [Keyy.size] at hp; omega)) ?_ | refine Cl.pre (by simp only [shcLL_ints, shcLL_byts, shcLL_strs, Keyy.shcs, Mani.shcs, Name.shcs, Rout.shcs, Segm.shcs, TEnt.shcs]; rfl) ?_))
  all_goals (try (refine Vs.Fin.mk (WkR.eq ?_) (.refl _); first | rfl | (simp_all [Keyy.eq_iff]; done) | (simp_all [Keyy.eq_iff]; omega) | grind | grind [Keyy.eq_iff]))
theorem is4 : FI 4 Tryz.f4 := ⟨⟨Tryz.f4, Tryz.func4, rfl, rfl, rfl, rfl⟩, rfl⟩
set_option maxRecDepth 20000 in
set_option maxHeartbeats 16000000 in
theorem szKeyS (l : List Keyy) (x : Int) (hx : 0 ≤ x ∧ x ≤ 1048576) (hl : l.length ≤ 9223372036854775807 ∧ ∀ y ∈ l, Keyy.fits y) : FO 4 [O (sl false 2 (l.map (Keyy.c false))), I x] [O (sl false 2 (l.map (Keyy.c false))), I x] (I (szA (l.length + sumN Keyy.size l) x)) := by
  refine fok envOk mixed is4 ⟨rfl, rfl, ?_⟩
  refine Nm.mk lenC ?_
  have hl1 := hl.1
  refine Nm.mk (wrapI (by omega) (by omega)) ?_
  refine Br.dec (fun h => ?_) (fun h => ?_)
  · (repeat' ((conv => whnf); first | refine Br.tt ?_ | refine Br.ff ?_ | refine Br.pos (by assumption) ?_ | refine Br.neg (by assumption) ?_ | refine Br.bself ?_ | refine Br.dself ?_ | refine Br.iself ?_ | refine Br.mk (fun _ => ?_) (fun _ => ?_) | refine Nm.mk lenC ?_ | refine Nm.mk (wrapI (by (first | omega | (simp [inR_t, inR_f] at *; omega))) (by (first | omega | (simp [inR_t, inR_f] at *; omega)))) ?_ | refine Nm.mk (wrapQ (by (first | omega | (simp [inR_t, inR_f] at *; omega))) (by (first | omega | (simp [inR_t, inR_f] at *; omega))) (by (first | omega | (simp [inR_t, inR_f] at *; omega)))) ?_ | refine Nm.mk (tmodN (by (first | omega | (simp [inR_t, inR_f] at *; omega)))) ?_ | refine Nm.mk (szS _) ?_ | refine Nm.mk (mi_eq _ _) ?_ | refine Nm.mk (ma_eq _ _) ?_ | refine Rq.mk (by first | (simp [dOwnL, dOwn] <;> fail) | (first | omega | (simp [inR_t, inR_f] at *; omega))) ?_ | refine And.intro (orderFast (by kernel_rfl)) ?_ | refine And.intro (by kernel_rfl) ?_ ))
    refine Vs.Fin.mk (WkR.eq ?_) (.refl _)
    rw [szA_lt (n := l.length + sumN Keyy.size l) (x := x) (by omega)]
  refine Lp.mk [.sl 0, .sl 1, .sl 5] (fun m σ => ∃ d r, l = d ++ r ∧ m = r.length ∧ 0 ≤ x - l.length - sumN Keyy.size d ∧ σ = [Sa 0 (O (sl false 2 (l.map (Keyy.c false)))), Sa 1 (I (x - l.length - sumN Keyy.size d)), Sa 5 (I d.length)]) (l.length) _ (WkS.weak _ _) ⟨[], l, rfl, rfl, by simp [sumN]; omega, (by first | rfl | (simp only [zlen, zsum, Nat.zero_mul, Int.add_zero, Int.sub_zero, List.nil_append, markG]; rfl))⟩ ?_
  rintro m τ ⟨d, r, rfl, rfl, h0, rfl⟩
  refine Nm.mk lenC ?_
  cases r with
  | nil =>
    refine Br.neg (by simp) ?_
    (repeat' ((conv => whnf); first | refine Br.tt ?_ | refine Br.ff ?_ | refine Br.pos (by assumption) ?_ | refine Br.neg (by assumption) ?_ | refine Br.bself ?_ | refine Br.dself ?_ | refine Br.iself ?_ | refine Br.mk (fun _ => ?_) (fun _ => ?_) | refine Nm.mk lenC ?_ | refine Nm.mk (wrapI (by (first | omega | (simp [inR_t, inR_f] at *; omega))) (by (first | omega | (simp [inR_t, inR_f] at *; omega)))) ?_ | refine Nm.mk (wrapQ (by (first | omega | (simp [inR_t, inR_f] at *; omega))) (by (first | omega | (simp [inR_t, inR_f] at *; omega))) (by (first | omega | (simp [inR_t, inR_f] at *; omega)))) ?_ | refine Nm.mk (tmodN (by (first | omega | (simp [inR_t, inR_f] at *; omega)))) ?_ | refine Nm.mk (szS _) ?_ | refine Nm.mk (mi_eq _ _) ?_ | refine Nm.mk (ma_eq _ _) ?_ | refine Rq.mk (by first | (simp [dOwnL, dOwn] <;> fail) | (first | omega | (simp [inR_t, inR_f] at *; omega))) ?_ | refine And.intro (orderFast (by kernel_rfl)) ?_ | refine And.intro (by kernel_rfl) ?_ ))
    refine Vs.Fin.mk (WkR.eq ?_) (.refl _)
    simp only [List.append_nil] at *
    refine congrArg (fun z => [cI z]) ?_
    rw [szA_le (n := d.length + sumN Keyy.size d) (x := x) (by omega)]
    omega
  | cons y r =>
    simp at hl1
    refine Br.pos (by simp; omega) ?_
    refine Rq.mk ⟨by omega, by simp; omega⟩ ?_
    refine El.mk (getA rfl) ?_
    refine Cl.mk (szKey y _ (by omega) (hl.2 y (by simp))) ?_
    (conv => whnf)
    refine Br.dec (fun h => ?_) (fun h => ?_)
    · (repeat' ((conv => whnf); first | refine Br.tt ?_ | refine Br.ff ?_ | refine Br.pos (by assumption) ?_ | refine Br.neg (by assumption) ?_ | refine Br.bself ?_ | refine Br.dself ?_ | refine Br.iself ?_ | refine Br.mk (fun _ => ?_) (fun _ => ?_) | refine Nm.mk lenC ?_ | refine Nm.mk (wrapI (by (first | omega | (simp [inR_t, inR_f] at *; omega))) (by (first | omega | (simp [inR_t, inR_f] at *; omega)))) ?_ | refine Nm.mk (wrapQ (by (first | omega | (simp [inR_t, inR_f] at *; omega))) (by (first | omega | (simp [inR_t, inR_f] at *; omega))) (by (first | omega | (simp [inR_t, inR_f] at *; omega)))) ?_ | refine Nm.mk (tmodN (by (first | omega | (simp [inR_t, inR_f] at *; omega)))) ?_ | refine Nm.mk (szS _) ?_ | refine Nm.mk (mi_eq _ _) ?_ | refine Nm.mk (ma_eq _ _) ?_ | refine Rq.mk (by first | (simp [dOwnL, dOwn] <;> fail) | (first | omega | (simp [inR_t, inR_f] at *; omega))) ?_ | refine And.intro (orderFast (by kernel_rfl)) ?_ | refine And.intro (by kernel_rfl) ?_ ))
      have h3 := szA_neg h (by omega)
      refine Vs.Fin.mk (WkR.eq ?_) (.refl _)
      rw [szA_lt (n := (d ++ y :: r).length + sumN Keyy.size (d ++ y :: r)) (x := x) (by rw [sumN_append]; simp only [sumN]; omega)]
    · have h3 := szA_nn h (by omega)
      have h4 := szA_le h3
      refine Nm.mk (wrapI (by omega) (by omega)) ?_
      refine Nx.intro r.length (by simp) _ (WkS.weak _ _) ⟨d ++ [y], r, by simp, rfl, by simp only [sumN_snoc, List.append_assoc, List.cons_append, List.nil_append]; omega, ?_⟩
      (repeat' (first | exact rfl | refine consE ?_ ?_ | refine entE ?_ | refine vI ?_ | refine vS ?_ | refine vT ?_ | refine vB ?_))
      · simp only [sumN_snoc, List.append_assoc, List.cons_append, List.nil_append]; omega
      · simp
theorem is7 : FI 7 Tryz.f7 := ⟨⟨Tryz.f7, Tryz.func7, rfl, rfl, rfl, rfl⟩, rfl⟩
set_option maxRecDepth 20000 in
set_option maxHeartbeats 16000000 in
theorem toKeyS (l : List Keyy) (hl : l.length + sumN Keyy.size l ≤ 1048576) : FO 7 [O (sl false 2 (l.map (Keyy.c false)))] [O (sl false 2 (l.map (Keyy.c false)))] (O (sl true 2 (l.map (Keyy.c true)))) := by
  refine fok envOk mixed is7 ⟨rfl, rfl, ?_⟩
  refine Nm.mk lenC ?_
  refine Rq.mk ⟨rfl, by omega, by omega, by simp; omega⟩ ?_
  refine Lp.mk [.sl 0, .sl 3, .sl 4] (fun m σ => ∃ d r, l = d ++ r ∧ m = r.length ∧ σ = [Sa 0 (O (sl false 2 (l.map (Keyy.c false)))), Sa 3 (O (.sl true .non 2 (d.map (Keyy.c true) ++ List.replicate m [.sl true .isnil 0 [], cI 0]))), Sa 4 (I d.length)]) (l.length) _ (WkS.weak _ _) ⟨[], l, rfl, rfl, (by first | rfl | (simp only [zlen, zsum, Nat.zero_mul, Int.add_zero, Int.sub_zero, List.nil_append, markG]; rfl))⟩ ?_
  rintro m τ ⟨d, r, rfl, rfl, rfl⟩
  refine Nm.mk lenC ?_
  cases r with
  | nil =>
    refine Br.neg (by simp) ?_
    refine ⟨rfl, WkR.of (.sl1 ?_ .nil), .refl _⟩
    simp
  | cons x r =>
    have hl2 := hl
    simp at hl2
    refine Br.pos (by simp; omega) ?_
    refine Rq.mk ⟨by omega, by simp; omega⟩ ?_
    refine El.mk (getA rfl) ?_
    refine Cl.mk (toKey x (by have := sumN_mem Keyy.size (l := d ++ x :: r) (x := x) (by simp); omega)) ?_
    refine Rq.mk ⟨by omega, by simp; omega⟩ ?_
    refine El.mk (m := [.sl true .isnil 0 [], cI 0]) (by simp) ?_
    refine Nm.mk (wrapI (by omega) (by omega)) ?_
    refine Nx.intro r.length (by simp) _ (WkS.weak _ _) ⟨d ++ [x], r, by simp, rfl, ?_⟩
    rw [len1, ← setA]; rfl
theorem is12 : FI 12 Tryz.f12 := ⟨⟨Tryz.f12, Tryz.func12, rfl, rfl, rfl, rfl⟩, rfl⟩
set_option maxRecDepth 20000 in
set_option maxHeartbeats 16000000 in
theorem eqKeyS (l b : List Keyy) (ha : l.length + sumN Keyy.size l ≤ 1099511627776) : FO 12 [O (sl false 2 (l.map (Keyy.c false))), O (sl false 2 (b.map (Keyy.c false)))] [O (sl false 2 (l.map (Keyy.c false))), O (sl false 2 (b.map (Keyy.c false)))] (B (decide (l = b))) := by
  refine fok envOk mixed is12 ⟨rfl, rfl, ?_⟩
  refine Nm.mk lenC ?_
  refine Nm.mk lenC ?_
  (conv => whnf)
  refine Br.mk (fun h => ?_) (fun h => ?_)
  · have hne : l ≠ b := by rintro rfl; simp at h
    (repeat' ((conv => whnf); first | refine Br.tt ?_ | refine Br.ff ?_ | refine Br.pos (by assumption) ?_ | refine Br.neg (by assumption) ?_ | refine Br.bself ?_ | refine Br.dself ?_ | refine Br.iself ?_ | refine Br.mk (fun _ => ?_) (fun _ => ?_) | refine Nm.mk lenC ?_ | refine Nm.mk (wrapI (by (first | omega | (simp [inR_t, inR_f] at *; omega))) (by (first | omega | (simp [inR_t, inR_f] at *; omega)))) ?_ | refine Nm.mk (wrapQ (by (first | omega | (simp [inR_t, inR_f] at *; omega))) (by (first | omega | (simp [inR_t, inR_f] at *; omega))) (by (first | omega | (simp [inR_t, inR_f] at *; omega)))) ?_ | refine Nm.mk (tmodN (by (first | omega | (simp [inR_t, inR_f] at *; omega)))) ?_ | refine Nm.mk (szS _) ?_ | refine Nm.mk (mi_eq _ _) ?_ | refine Nm.mk (ma_eq _ _) ?_ | refine Rq.mk (by first | (simp [dOwnL, dOwn] <;> fail) | (first | omega | (simp [inR_t, inR_f] at *; omega))) ?_ | refine And.intro (orderFast (by kernel_rfl)) ?_ | refine And.intro (by kernel_rfl) ?_ ))
    all_goals (try (refine Vs.Fin.mk (WkR.eq ?_) (.refl _); first | rfl | (simp_all [hne]; done) | (simp_all [hne]; omega) | grind | grind [hne]))
  have hl : l.length = b.length := by simp at h; omega
  refine Lp.mk [.sl 0, .sl 1, .sl 5] (fun m σ => ∃ d r e s, l = d ++ r ∧ b = e ++ s ∧ m = r.length ∧ d = e ∧ σ = [Sa 0 (O (sl false 2 (l.map (Keyy.c false)))), Sa 1 (O (sl false 2 (b.map (Keyy.c false)))), Sa 5 (I d.length)]) l.length _ (WkS.weak _ _) ⟨[], l, [], b, rfl, rfl, rfl, rfl, rfl⟩ ?_
  rintro m τ ⟨d, r, e, s, rfl, rfl, rfl, rfl, rfl⟩
  refine Nm.mk lenC ?_
  cases r with
  | nil =>
    obtain rfl : s = [] := by cases s <;> simp_all
    refine Br.neg (by simp) ?_
    (repeat' ((conv => whnf); first | refine Br.tt ?_ | refine Br.ff ?_ | refine Br.pos (by assumption) ?_ | refine Br.neg (by assumption) ?_ | refine Br.bself ?_ | refine Br.dself ?_ | refine Br.iself ?_ | refine Br.mk (fun _ => ?_) (fun _ => ?_) | refine Nm.mk lenC ?_ | refine Nm.mk (wrapI (by (first | omega | (simp [inR_t, inR_f] at *; omega))) (by (first | omega | (simp [inR_t, inR_f] at *; omega)))) ?_ | refine Nm.mk (wrapQ (by (first | omega | (simp [inR_t, inR_f] at *; omega))) (by (first | omega | (simp [inR_t, inR_f] at *; omega))) (by (first | omega | (simp [inR_t, inR_f] at *; omega)))) ?_ | refine Nm.mk (tmodN (by (first | omega | (simp [inR_t, inR_f] at *; omega)))) ?_ | refine Nm.mk (szS _) ?_ | refine Nm.mk (mi_eq _ _) ?_ | refine Nm.mk (ma_eq _ _) ?_ | refine Rq.mk (by first | (simp [dOwnL, dOwn] <;> fail) | (first | omega | (simp [inR_t, inR_f] at *; omega))) ?_ | refine And.intro (orderFast (by kernel_rfl)) ?_ | refine And.intro (by kernel_rfl) ?_ ))
    all_goals (try (refine Vs.Fin.mk (WkR.eq ?_) (.refl _); first | rfl | (simp_all []; done) | (simp_all []; omega) | grind | grind []))
  | cons x r =>
    obtain ⟨y, s, rfl⟩ : ∃ y s', s = y :: s' := by cases s <;> simp_all
    have ha2 := ha
    simp at ha2
    refine Br.pos (by simp; omega) ?_
    refine Rq.mk ⟨by omega, by simp; omega⟩ ?_
    refine El.mk (getA rfl) ?_
    refine Rq.mk ⟨by omega, by simp; omega⟩ ?_
    refine El.mk (getA rfl) ?_
    refine Cl.mk (eqKey x y (by have := sumN_mem Keyy.size (l := d ++ x :: r) (x := x) (by simp); omega)) ?_
    (conv => whnf)
    refine And.intro (by kernel_rfl) ?_
    (conv => whnf)
    refine Br.mk (fun h => ?_) (fun h => ?_)
    · have hne : x ≠ y := by simpa using h
      (repeat' ((conv => whnf); first | refine Br.tt ?_ | refine Br.ff ?_ | refine Br.pos (by assumption) ?_ | refine Br.neg (by assumption) ?_ | refine Br.bself ?_ | refine Br.dself ?_ | refine Br.iself ?_ | refine Br.mk (fun _ => ?_) (fun _ => ?_) | refine Nm.mk lenC ?_ | refine Nm.mk (wrapI (by (first | omega | (simp [inR_t, inR_f] at *; omega))) (by (first | omega | (simp [inR_t, inR_f] at *; omega)))) ?_ | refine Nm.mk (wrapQ (by (first | omega | (simp [inR_t, inR_f] at *; omega))) (by (first | omega | (simp [inR_t, inR_f] at *; omega))) (by (first | omega | (simp [inR_t, inR_f] at *; omega)))) ?_ | refine Nm.mk (tmodN (by (first | omega | (simp [inR_t, inR_f] at *; omega)))) ?_ | refine Nm.mk (szS _) ?_ | refine Nm.mk (mi_eq _ _) ?_ | refine Nm.mk (ma_eq _ _) ?_ | refine Rq.mk (by first | (simp [dOwnL, dOwn] <;> fail) | (first | omega | (simp [inR_t, inR_f] at *; omega))) ?_ | refine And.intro (orderFast (by kernel_rfl)) ?_ | refine And.intro (by kernel_rfl) ?_ ))
      all_goals (try (refine Vs.Fin.mk (WkR.eq ?_) (.refl _); first | rfl | (simp_all [hne]; done) | (simp_all [hne]; omega) | grind | grind [hne]))
    · obtain rfl : x = y := by simpa using h
      refine Nm.mk (wrapI (by omega) (by omega)) ?_
      refine Nx.intro r.length (by simp) _ (WkS.weak _ _) ⟨d ++ [x], r, d ++ [x], s, by simp, by simp, rfl, rfl, ?_⟩
      rw [len1]; rfl
theorem is15 : FI 15 Tryz.f15 := ⟨⟨Tryz.f15, Tryz.func15, rfl, rfl, rfl, rfl⟩, rfl⟩
set_option maxRecDepth 20000 in
set_option maxHeartbeats 16000000 in
theorem markKeyS (l : List Keyy) (k : Int) (hk : 0 ≤ k) (hb : k + (sumN Keyy.cnt l : Nat) ≤ 4611686018427387904) (hl : l.length + sumN Keyy.size l ≤ 4611686018427387904) : FO 15 [O (sl true 2 (l.map (Keyy.c true))), I k] [O (sl true 2 ((markG Keyy.mkd Keyy.cnt l k).map (Keyy.c true))), I k] (I (k + (sumN Keyy.cnt l : Nat))) := by
  refine fok envOk mixed is15 ⟨rfl, rfl, ?_⟩
  refine Lp.mk [.sl 0, .ex 0, .sl 1, .sl 5] (fun m σ => ∃ d r, l = d ++ r ∧ m = r.length ∧ σ = [Rf 0 0, Ex 0 (O (sl true 2 ((markG Keyy.mkd Keyy.cnt d k ++ r).map (Keyy.c true)))), Sa 1 (I (k + (sumN Keyy.cnt d : Nat))), Sa 5 (I d.length)]) (l.length) _ (WkS.weak _ _) ⟨[], l, rfl, rfl, (by first | rfl | (simp only [zlen, zsum, Nat.zero_mul, Int.add_zero, Int.sub_zero, List.nil_append, markG]; rfl))⟩ ?_
  rintro m τ ⟨d, r, rfl, rfl, rfl⟩
  refine Nm.mk lenC ?_
  cases r with
  | nil =>
    refine Br.neg (by simp [markG_length]) ?_
    (repeat' ((conv => whnf); first | refine Br.tt ?_ | refine Br.ff ?_ | refine Br.pos (by assumption) ?_ | refine Br.neg (by assumption) ?_ | refine Br.bself ?_ | refine Br.dself ?_ | refine Br.iself ?_ | refine Br.mk (fun _ => ?_) (fun _ => ?_) | refine Nm.mk lenC ?_ | refine Nm.mk (wrapI (by (first | omega | (simp [inR_t, inR_f] at *; omega))) (by (first | omega | (simp [inR_t, inR_f] at *; omega)))) ?_ | refine Nm.mk (wrapQ (by (first | omega | (simp [inR_t, inR_f] at *; omega))) (by (first | omega | (simp [inR_t, inR_f] at *; omega))) (by (first | omega | (simp [inR_t, inR_f] at *; omega)))) ?_ | refine Nm.mk (tmodN (by (first | omega | (simp [inR_t, inR_f] at *; omega)))) ?_ | refine Nm.mk (szS _) ?_ | refine Nm.mk (mi_eq _ _) ?_ | refine Nm.mk (ma_eq _ _) ?_ | refine Rq.mk (by first | (simp [dOwnL, dOwn] <;> fail) | (first | omega | (simp [inR_t, inR_f] at *; omega))) ?_ | refine And.intro (orderFast (by kernel_rfl)) ?_ | refine And.intro (by kernel_rfl) ?_ ))
    simp only [List.append_nil]
    exact ⟨WkR.refl _, .refl _⟩
  | cons x r =>
    rw [sumN_append] at hl; simp only [sumN] at hl; simp at hl
    rw [sumN_append] at hb
    have hc : Keyy.cnt x = x.name.parts.length + 1 := rfl
    simp only [sumN] at hb
    refine Br.pos (by simp [markG_length]; omega) ?_
    refine Rq.mk ⟨by omega, by simp [markG_length]; omega⟩ ?_
    first | refine El.mk (getA (by simp [markG_length])) ?_ | refine El.mk (List.getElem?_set_self (by simp [markG_length])) ?_
    first | refine El.mk (getA (by simp [markG_length])) ?_ | refine El.mk (List.getElem?_set_self (by simp [markG_length])) ?_
    refine Cl.mk (markStringS x.name.parts (k + (sumN Keyy.cnt d : Nat)) (by omega) (by omega)) ?_
    refine Rq.mk ⟨by omega, by simp [markG_length]; omega⟩ ?_
    first | refine El.mk (getA (by simp [markG_length])) ?_ | refine El.mk (List.getElem?_set_self (by simp [markG_length])) ?_
    refine Nm.mk (wrapI (by omega) (by omega)) ?_
    refine Nm.mk (wrapI (by omega) (by omega)) ?_
    refine Nx.intro r.length (by simp) _ (WkS.weak _ _) ⟨d ++ [x], r, by simp, rfl, ?_⟩
    (repeat' (first | exact rfl | refine consE ?_ ?_ | refine entE ?_ | refine vI ?_ | refine vS ?_ | refine vT ?_ | refine vB ?_))
    · simp only [List.set_set]
      rw [setB (by simp [markG_length])]
      simp [markG_snoc, Keyy.mkd, spliceAV]
    · rw [sumN_snoc]; omega
    · simp
end Go.Proofs.YtckjlakfnpapgaaGreatDoor
