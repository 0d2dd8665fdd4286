/- Contracts of functions of the program: no statement of the seat is proved here. Each under the conditions that stand in it. -/
import Derived.Test.YtnclkamgdcaboaaFd
set_option linter.all false
namespace Go.Proofs.Ytnclkamgdcaboaa
open Go.Vs Go.Proofs
structure Fetc where
  mani : Mani
  received : Int
  segs : List Segm
  outst : Int
  window : Int
  thresh : Int
  losses : Int
  deriving DecidableEq
abbrev Fetc.c (o : Bool) (p : Fetc) : List AV := [cI p.mani.seg, cI p.mani.len, cIs o p.mani.dig, cI p.received, sl o 1 (p.segs.map (Segm.c o)), cI p.outst, cI p.window, cI p.thresh, cI p.losses]
@[simp] theorem Fetc.shc (p : Fetc) : shcL (Fetc.c true p) = Fetc.c false p := by simp [Fetc.c, shcL, Vs.shc, shcLL_ints, shcLL_byts, shcLL_strs, Segm.shcs]
@[simp] theorem Fetc.shcs (l : List Fetc) : shcLL (l.map (Fetc.c true)) = l.map (Fetc.c false) := shcLL_map Fetc.shc l
@[simp] theorem Fetc.down (p : Fetc) : dOwnL (Fetc.c true p) := by simp [Fetc.c, dOwnL, dOwn]
@[simp] theorem Fetc.downs (l : List Fetc) : dOwnLL (l.map (Fetc.c true)) := dOwnLL_of Fetc.down l
theorem Fetc.eq_iff {p q : Fetc} : p = q ↔ p.mani = q.mani ∧ p.received = q.received ∧ p.segs = q.segs ∧ p.outst = q.outst ∧ p.window = q.window ∧ p.thresh = q.thresh ∧ p.losses = q.losses := by cases p; cases q; simp
def Fetc.size (p : Fetc) : Nat := Mani.size p.mani + (p.segs.length + sumN Segm.size p.segs)
def Fetc.fits (p : Fetc) : Prop := Mani.fits p.mani ∧ (p.segs.length ≤ 9223372036854775807 ∧ ∀ y ∈ p.segs, Segm.fits y)
def Fetc.rng (p : Fetc) : Prop := Mani.rng p.mani ∧ (-9223372036854775808 ≤ p.received ∧ p.received ≤ 9223372036854775807) ∧ (-9223372036854775808 ≤ p.outst ∧ p.outst ≤ 9223372036854775807) ∧ (-9223372036854775808 ≤ p.window ∧ p.window ≤ 9223372036854775807) ∧ (-9223372036854775808 ≤ p.thresh ∧ p.thresh ≤ 9223372036854775807) ∧ (-9223372036854775808 ≤ p.losses ∧ p.losses ≤ 9223372036854775807)
def Fetc.mkd (p : Fetc) (k : Int) : Fetc := ⟨⟨k, k + 1, markG mkI one1 p.mani.dig (k + 1 + 1)⟩, k + 1 + 1 + (p.mani.dig.length : Nat), markG Segm.mkd Segm.cnt p.segs (k + 1 + 1 + (p.mani.dig.length : Nat) + 1), k + 1 + 1 + (p.mani.dig.length : Nat) + 1 + (sumN Segm.cnt p.segs : Nat), k + 1 + 1 + (p.mani.dig.length : Nat) + 1 + (sumN Segm.cnt p.segs : Nat) + 1, k + 1 + 1 + (p.mani.dig.length : Nat) + 1 + (sumN Segm.cnt p.segs : Nat) + 1 + 1, k + 1 + 1 + (p.mani.dig.length : Nat) + 1 + (sumN Segm.cnt p.segs : Nat) + 1 + 1 + 1⟩
def Fetc.cnt (p : Fetc) : Nat := 1 + 1 + p.mani.dig.length + 1 + sumN Segm.cnt p.segs + 1 + 1 + 1 + 1
def Fetc.mkv (p : Fetc) (k : Int) : Fetc := ⟨⟨p.mani.seg, p.mani.len, markG mkI one1 p.mani.dig (k)⟩, p.received, markG Segm.mkd Segm.cnt p.segs (k + (p.mani.dig.length : Nat)), p.outst, p.window, p.thresh, p.losses⟩
def Fetc.cntv (p : Fetc) : Nat := p.mani.dig.length + sumN Segm.cnt p.segs
theorem Fetc.cnt_le (p : Fetc) : Fetc.cnt p ≤ 11 * (Fetc.size p + 1) := by
  have := Segm.cnts_le p.segs; simp only [Fetc.cnt, Fetc.size, strsSize, Mani.size]; omega
theorem Fetc.cntv_le (p : Fetc) : Fetc.cntv p ≤ 11 * (Fetc.size p + 1) := by
  have := Segm.cnts_le p.segs; simp only [Fetc.cntv, Fetc.size, strsSize, Mani.size]; omega
theorem Fetc.cnts_le (l : List Fetc) : sumN Fetc.cnt l ≤ 11 * (l.length + sumN Fetc.size l) := by
  induction l with
  | nil => simp [sumN]
  | cons x l ih => have := Fetc.cnt_le x; simp only [sumN, List.length_cons]; omega
theorem is15 : FI 15 Try.f15 := ⟨⟨Try.f15, Try.func15, rfl, rfl, rfl, rfl⟩, rfl⟩
set_option maxRecDepth 20000 in
set_option maxHeartbeats 16000000 in
theorem szFetcher (p : Fetc) (x : Int) (hx : 0 ≤ x ∧ x ≤ 1048576) (hl : Fetc.fits p) : FO 15 [A (Fetc.c false p), I x] [A (Fetc.c false p), I x] (I (szA (Fetc.size p) x)) := by
  refine fok envOk mixed is15 ⟨rfl, rfl, ?_⟩
  refine Cl.mk (szManifest p.mani (x) hx hl.1) ?_
  (conv => whnf)
  refine Br.dec (fun h => ?_) (fun h => ?_)
  · (repeat' ((conv => whnf); first | refine Br.tt ?_ | refine Br.ff ?_ | refine Br.pos (by assumption) ?_ | refine Br.neg (by assumption) ?_ | refine Br.bself ?_ | refine Br.dself ?_ | refine Br.iself ?_ | refine Br.mk (fun _ => ?_) (fun _ => ?_) | refine Nm.mk lenC ?_ | refine Nm.mk (wrapI (by (first | omega | (simp [inR_t, inR_f] at *; omega))) (by (first | omega | (simp [inR_t, inR_f] at *; omega)))) ?_ | refine Nm.mk (wrapQ (by (first | omega | (simp [inR_t, inR_f] at *; omega))) (by (first | omega | (simp [inR_t, inR_f] at *; omega))) (by (first | omega | (simp [inR_t, inR_f] at *; omega)))) ?_ | refine Nm.mk (tmodN (by (first | omega | (simp [inR_t, inR_f] at *; omega)))) ?_ | refine Nm.mk (szS _) ?_ | refine Nm.mk (mi_eq _ _) ?_ | refine Nm.mk (ma_eq _ _) ?_ | refine Rq.mk (by first | (simp [dOwnL, dOwn] <;> fail) | (first | omega | (simp [inR_t, inR_f] at *; omega))) ?_ | refine And.intro (orderFast (by kernel_rfl)) ?_ | refine And.intro (by kernel_rfl) ?_ ))
    refine Vs.Fin.mk (WkR.eq ?_) (.refl _)
    have h0 := szA_neg h (by omega)
    rw [szA_lt (n := Fetc.size p) (x := x) (by simp only [Fetc.size]; omega)]
  have e0 := szA_nn h (by omega)
  have s0 := szA_le e0
  refine Cl.mk (szSegmentS p.segs (szA (Mani.size p.mani) (x)) (by omega) hl.2) ?_
  (conv => whnf)
  refine Br.dec (fun h => ?_) (fun h => ?_)
  · (repeat' ((conv => whnf); first | refine Br.tt ?_ | refine Br.ff ?_ | refine Br.pos (by assumption) ?_ | refine Br.neg (by assumption) ?_ | refine Br.bself ?_ | refine Br.dself ?_ | refine Br.iself ?_ | refine Br.mk (fun _ => ?_) (fun _ => ?_) | refine Nm.mk lenC ?_ | refine Nm.mk (wrapI (by (first | omega | (simp [inR_t, inR_f] at *; omega))) (by (first | omega | (simp [inR_t, inR_f] at *; omega)))) ?_ | refine Nm.mk (wrapQ (by (first | omega | (simp [inR_t, inR_f] at *; omega))) (by (first | omega | (simp [inR_t, inR_f] at *; omega))) (by (first | omega | (simp [inR_t, inR_f] at *; omega)))) ?_ | refine Nm.mk (tmodN (by (first | omega | (simp [inR_t, inR_f] at *; omega)))) ?_ | refine Nm.mk (szS _) ?_ | refine Nm.mk (mi_eq _ _) ?_ | refine Nm.mk (ma_eq _ _) ?_ | refine Rq.mk (by first | (simp [dOwnL, dOwn] <;> fail) | (first | omega | (simp [inR_t, inR_f] at *; omega))) ?_ | refine And.intro (orderFast (by kernel_rfl)) ?_ | refine And.intro (by kernel_rfl) ?_ ))
    refine Vs.Fin.mk (WkR.eq ?_) (.refl _)
    have h0 := szA_neg h (by omega)
    rw [szA_lt (n := Fetc.size p) (x := x) (by simp only [Fetc.size]; omega)]
  have e1 := szA_nn h (by omega)
  have s1 := szA_le e1
  (repeat' ((conv => whnf); first | refine Br.tt ?_ | refine Br.ff ?_ | refine Br.pos (by assumption) ?_ | refine Br.neg (by assumption) ?_ | refine Br.bself ?_ | refine Br.dself ?_ | refine Br.iself ?_ | refine Br.mk (fun _ => ?_) (fun _ => ?_) | refine Nm.mk lenC ?_ | refine Nm.mk (wrapI (by (first | omega | (simp [inR_t, inR_f] at *; omega))) (by (first | omega | (simp [inR_t, inR_f] at *; omega)))) ?_ | refine Nm.mk (wrapQ (by (first | omega | (simp [inR_t, inR_f] at *; omega))) (by (first | omega | (simp [inR_t, inR_f] at *; omega))) (by (first | omega | (simp [inR_t, inR_f] at *; omega)))) ?_ | refine Nm.mk (tmodN (by (first | omega | (simp [inR_t, inR_f] at *; omega)))) ?_ | refine Nm.mk (szS _) ?_ | refine Nm.mk (mi_eq _ _) ?_ | refine Nm.mk (ma_eq _ _) ?_ | refine Rq.mk (by first | (simp [dOwnL, dOwn] <;> fail) | (first | omega | (simp [inR_t, inR_f] at *; omega))) ?_ | refine And.intro (orderFast (by kernel_rfl)) ?_ | refine And.intro (by kernel_rfl) ?_ ))
  refine Vs.Fin.mk (WkR.eq ?_) (.refl _)
  refine congrArg (fun z => [cI z]) ?_
  rw [szA_le (n := Fetc.size p) (x := x) (by simp only [Fetc.size]; omega)]
  simp only [Fetc.size]; omega
theorem is17 : FI 17 Try.f17 := ⟨⟨Try.f17, Try.func17, rfl, rfl, rfl, rfl⟩, rfl⟩
set_option maxRecDepth 20000 in
set_option maxHeartbeats 16000000 in
theorem toFetcher (p : Fetc) (hl : Fetc.size p ≤ 1048576) : FO 17 [A (Fetc.c false p)] [A (Fetc.c false p)] (A (Fetc.c true p)) := by
  refine fok envOk mixed is17 ⟨rfl, rfl, ?_⟩
  (repeat' ((conv => whnf); first | refine Br.tt ?_ | refine Br.ff ?_ | refine Br.pos (by assumption) ?_ | refine Br.neg (by assumption) ?_ | refine Br.bself ?_ | refine Br.dself ?_ | refine Br.iself ?_ | refine Br.mk (fun _ => ?_) (fun _ => ?_) | refine Nm.mk lenC ?_ | refine Nm.mk (wrapI (by (first | omega | (simp [inR_t, inR_f] at *; omega))) (by (first | omega | (simp [inR_t, inR_f] at *; omega)))) ?_ | refine Nm.mk (wrapQ (by (first | omega | (simp [inR_t, inR_f] at *; omega))) (by (first | omega | (simp [inR_t, inR_f] at *; omega))) (by (first | omega | (simp [inR_t, inR_f] at *; omega)))) ?_ | refine Nm.mk (tmodN (by (first | omega | (simp [inR_t, inR_f] at *; omega)))) ?_ | refine Nm.mk (szS _) ?_ | refine Nm.mk (mi_eq _ _) ?_ | refine Nm.mk (ma_eq _ _) ?_ | refine Rq.mk (by first | (simp [dOwnL, dOwn] <;> fail) | (first | omega | (simp [inR_t, inR_f] at *; omega))) ?_ | refine And.intro (orderFast (by kernel_rfl)) ?_ | refine And.intro (by kernel_rfl) ?_ | refine Cl.mk (toManifest p.mani (by simp only [Fetc.size] at hl; omega)) ?_ | refine Cl.mk (toSegmentS p.segs (by simp only [Fetc.size] at hl; omega)) ?_ | refine Cl.pre (by simp only [shcLL_ints, shcLL_byts, shcLL_strs, Fetc.shcs, Mani.shcs, Name.shcs, Segm.shcs]; rfl) ?_))
  all_goals (try (refine Vs.Fin.mk (WkR.eq ?_) (.refl _); first | rfl | (simp_all []; done) | (simp_all []; omega) | grind | grind []))
theorem is19 : FI 19 Try.f19 := ⟨⟨Try.f19, Try.func19, rfl, rfl, rfl, rfl⟩, rfl⟩
set_option maxRecDepth 20000 in
set_option maxHeartbeats 16000000 in
theorem eqFetcher (p q : Fetc) (hp : Fetc.size p ≤ 1099511627776) : FO 19 [A (Fetc.c false p), A (Fetc.c false q)] [A (Fetc.c false p), A (Fetc.c false q)] (B (decide (p = q))) := by
  refine fok envOk mixed is19 ⟨rfl, rfl, ?_⟩
  (repeat' ((conv => whnf); first | refine Br.tt ?_ | refine Br.ff ?_ | refine Br.pos (by assumption) ?_ | refine Br.neg (by assumption) ?_ | refine Br.bself ?_ | refine Br.dself ?_ | refine Br.iself ?_ | refine Br.mk (fun _ => ?_) (fun _ => ?_) | refine Nm.mk lenC ?_ | refine Nm.mk (wrapI (by (first | omega | (simp [inR_t, inR_f] at *; omega))) (by (first | omega | (simp [inR_t, inR_f] at *; omega)))) ?_ | refine Nm.mk (wrapQ (by (first | omega | (simp [inR_t, inR_f] at *; omega))) (by (first | omega | (simp [inR_t, inR_f] at *; omega))) (by (first | omega | (simp [inR_t, inR_f] at *; omega)))) ?_ | refine Nm.mk (tmodN (by (first | omega | (simp [inR_t, inR_f] at *; omega)))) ?_ | refine Nm.mk (szS _) ?_ | refine Nm.mk (mi_eq _ _) ?_ | refine Nm.mk (ma_eq _ _) ?_ | refine Rq.mk (by first | (simp [dOwnL, dOwn] <;> fail) | (first | omega | (simp [inR_t, inR_f] at *; omega))) ?_ | refine And.intro (orderFast (by kernel_rfl)) ?_ | refine And.intro (by kernel_rfl) ?_ | refine Cl.mk (eqManifest p.mani q.mani (by simp only [Fetc.size] at hp; omega)) ?_ | refine Cl.mk (eqSegmentS p.segs q.segs (by simp only [Fetc.size] at hp; omega)) ?_ | refine Cl.pre (by simp only [shcLL_ints, shcLL_byts, shcLL_strs, Fetc.shcs, Mani.shcs, Name.shcs, Segm.shcs]; rfl) ?_))
  all_goals (try (refine Vs.Fin.mk (WkR.eq ?_) (.refl _); first | rfl | (simp_all [Fetc.eq_iff]; done) | (simp_all [Fetc.eq_iff]; omega) | grind | grind [Fetc.eq_iff]))
theorem is24 : FI 24 Try.f24 := ⟨⟨Try.f24, Try.func24, rfl, rfl, rfl, rfl⟩, rfl⟩
set_option maxRecDepth 20000 in
set_option maxHeartbeats 16000000 in
theorem markFetcher (p : Fetc) (k : Int) (hk : 0 ≤ k) (hb : k + (Fetc.cntv p : Nat) ≤ 4611686018427387904) (hz : Fetc.size p ≤ 4611686018427387904) : FO 24 [A (Fetc.c true p), I k] [A (Fetc.c true (Fetc.mkv p k)), I k] (I (k + (Fetc.cntv p : Nat))) := by
  refine fok envOk mixed is24 ⟨rfl, rfl, ?_⟩
  (repeat' ((conv => whnf); first | refine Br.tt ?_ | refine Br.ff ?_ | refine Br.pos (by assumption) ?_ | refine Br.neg (by assumption) ?_ | refine Br.bself ?_ | refine Br.dself ?_ | refine Br.iself ?_ | refine Br.mk (fun _ => ?_) (fun _ => ?_) | refine Nm.mk lenC ?_ | refine Nm.mk (wrapI (by (first | omega | (simp [inR_t, inR_f] at *; omega))) (by (first | omega | (simp [inR_t, inR_f] at *; omega)))) ?_ | refine Nm.mk (wrapQ (by (first | omega | (simp [inR_t, inR_f] at *; omega))) (by (first | omega | (simp [inR_t, inR_f] at *; omega))) (by (first | omega | (simp [inR_t, inR_f] at *; omega)))) ?_ | refine Nm.mk (tmodN (by (first | omega | (simp [inR_t, inR_f] at *; omega)))) ?_ | refine Nm.mk (szS _) ?_ | refine Nm.mk (mi_eq _ _) ?_ | refine Nm.mk (ma_eq _ _) ?_ | refine Rq.mk (by first | (simp [dOwnL, dOwn] <;> fail) | (first | omega | (simp [inR_t, inR_f] at *; omega))) ?_ | refine And.intro (orderFast (by kernel_rfl)) ?_ | refine And.intro (by kernel_rfl) ?_ | refine Cl.mk (markManifest p.mani (k) (by omega) (by simp only [Fetc.cntv, Mani.cntv] at *; omega) (by simp only [Fetc.size] at hz; omega)) ?_ | refine Cl.mk (markSegmentS p.segs (k + (Mani.cntv p.mani : Nat)) (by omega) (by simp only [Fetc.cntv, Mani.cntv] at *; omega) (by simp only [Fetc.size] at hz; omega)) ?_ | refine Cl.pre (by simp only [shcLL_ints, shcLL_byts, shcLL_strs, Fetc.shcs, Mani.shcs, Name.shcs, Segm.shcs]; rfl) ?_))
  refine Vs.Fin.mk (WkR.eq ?_) ?_
  · refine congrArg (fun z => [cI z]) ?_; first | rfl | (simp only [Fetc.cntv, Fetc.mkv, Mani.cntv, Mani.mkv]; omega)
  · first | exact .refl _ | (simp only [Fetc.cntv, Fetc.mkv, Mani.cntv, Mani.mkv]; exact .refl _)
theorem is25 : FI 25 Try.f25 := ⟨⟨Try.f25, Try.func25, rfl, rfl, rfl, rfl⟩, rfl⟩
set_option maxRecDepth 20000 in
set_option maxHeartbeats 16000000 in
theorem heldFetcher (p : Fetc) (k : Int) (hk : 0 ≤ k) (hb : k + (Fetc.cntv p : Nat) ≤ 4611686018427387904) (hz : Fetc.size p ≤ 4611686018427387904) : FO 25 [A (Fetc.c false (Fetc.mkv p k)), I k] [A (Fetc.c false (Fetc.mkv p k)), I k] (I (k + (Fetc.cntv p : Nat))) := by
  refine fok envOk mixed is25 ⟨rfl, rfl, ?_⟩
  (repeat' ((conv => whnf); first | refine Br.tt ?_ | refine Br.ff ?_ | refine Br.pos (by assumption) ?_ | refine Br.neg (by assumption) ?_ | refine Br.bself ?_ | refine Br.dself ?_ | refine Br.iself ?_ | refine Br.neg (by simp; omega) ?_ | refine Nm.mk lenC ?_ | refine Nm.mk (wrapI (by (first | omega | (simp [inR_t, inR_f] at *; omega))) (by (first | omega | (simp [inR_t, inR_f] at *; omega)))) ?_ | refine Nm.mk (wrapQ (by (first | omega | (simp [inR_t, inR_f] at *; omega))) (by (first | omega | (simp [inR_t, inR_f] at *; omega))) (by (first | omega | (simp [inR_t, inR_f] at *; omega)))) ?_ | refine Nm.mk (tmodN (by (first | omega | (simp [inR_t, inR_f] at *; omega)))) ?_ | refine Nm.mk (szS _) ?_ | refine Nm.mk (mi_eq _ _) ?_ | refine Nm.mk (ma_eq _ _) ?_ | refine Rq.mk (by first | (simp [dOwnL, dOwn] <;> fail) | (first | omega | (simp [inR_t, inR_f] at *; omega))) ?_ | refine And.intro (orderFast (by kernel_rfl)) ?_ | refine And.intro (by kernel_rfl) ?_ | refine Cl.mk (heldManifest p.mani (k) (by omega) (by simp only [Fetc.cntv, Mani.cntv] at *; omega) (by simp only [Fetc.size] at hz; omega)) ?_ | refine Cl.mk (heldSegmentS p.segs (k + (Mani.cntv p.mani : Nat)) (by omega) (by simp only [Fetc.cntv, Mani.cntv] at *; omega) (by simp only [Fetc.size] at hz; omega)) ?_ | refine Cl.pre (by simp only [shcLL_ints, shcLL_byts, shcLL_strs, Fetc.shcs, Mani.shcs, Name.shcs, Segm.shcs]; rfl) ?_))
  refine Vs.Fin.mk (WkR.eq ?_) (.refl _)
  refine congrArg (fun z => [cI z]) ?_; first | rfl | (simp only [Fetc.cntv, Fetc.mkv, Mani.cntv, Mani.mkv]; omega)
end Go.Proofs.Ytnclkamgdcaboaa
