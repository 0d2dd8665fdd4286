/- Contracts of functions of the program: no statement of the seat is proved here. Each under the conditions that stand in it. -/
import Derived.Test.YtoekfmkbkffciaaFd
set_option linter.all false
namespace Go.Proofs.Ytoekfmkbkffciaa
open Go.Vs Go.Proofs
structure Adve where
  origin : Int
  version : Int
  nbs : List Int
  prefs : List Name
  deriving DecidableEq
abbrev Adve.c (o : Bool) (p : Adve) : List AV := [cI p.origin, cI p.version, cIs o p.nbs, sl o 1 (p.prefs.map (Name.c o))]
@[simp] theorem Adve.shc (p : Adve) : shcL (Adve.c true p) = Adve.c false p := by simp [Adve.c, shcL, Vs.shc, shcLL_ints, shcLL_byts, shcLL_strs, Name.shcs]
@[simp] theorem Adve.shcs (l : List Adve) : shcLL (l.map (Adve.c true)) = l.map (Adve.c false) := shcLL_map Adve.shc l
@[simp] theorem Adve.down (p : Adve) : dOwnL (Adve.c true p) := by simp [Adve.c, dOwnL, dOwn]
@[simp] theorem Adve.downs (l : List Adve) : dOwnLL (l.map (Adve.c true)) := dOwnLL_of Adve.down l
theorem Adve.eq_iff {p q : Adve} : p = q ↔ p.origin = q.origin ∧ p.version = q.version ∧ p.nbs = q.nbs ∧ p.prefs = q.prefs := by cases p; cases q; simp
def Adve.size (p : Adve) : Nat := p.nbs.length + (p.prefs.length + sumN Name.size p.prefs)
def Adve.fits (p : Adve) : Prop := p.nbs.length ≤ 9223372036854775807 ∧ (p.prefs.length ≤ 9223372036854775807 ∧ ∀ y ∈ p.prefs, Name.fits y)
def Adve.rng (p : Adve) : Prop := (-9223372036854775808 ≤ p.origin ∧ p.origin ≤ 9223372036854775807) ∧ (-9223372036854775808 ≤ p.version ∧ p.version ≤ 9223372036854775807)
def Adve.mkd (p : Adve) (k : Int) : Adve := ⟨k, k + 1, markG mkI one1 p.nbs (k + 1 + 1), markG Name.mkd Name.cnt p.prefs (k + 1 + 1 + (p.nbs.length : Nat))⟩
def Adve.cnt (p : Adve) : Nat := 1 + 1 + p.nbs.length + sumN Name.cnt p.prefs
def Adve.mkv (p : Adve) (k : Int) : Adve := ⟨p.origin, p.version, markG mkI one1 p.nbs (k), markG Name.mkd Name.cnt p.prefs (k + (p.nbs.length : Nat))⟩
def Adve.cntv (p : Adve) : Nat := p.nbs.length + sumN Name.cnt p.prefs
theorem Adve.cnt_le (p : Adve) : Adve.cnt p ≤ 6 * (Adve.size p + 1) := by
  have := Name.cnts_le p.prefs; simp only [Adve.cnt, Adve.size, strsSize]; omega
theorem Adve.cntv_le (p : Adve) : Adve.cntv p ≤ 6 * (Adve.size p + 1) := by
  have := Name.cnts_le p.prefs; simp only [Adve.cntv, Adve.size, strsSize]; omega
theorem Adve.cnts_le (l : List Adve) : sumN Adve.cnt l ≤ 6 * (l.length + sumN Adve.size l) := by
  induction l with
  | nil => simp [sumN]
  | cons x l ih => have := Adve.cnt_le x; simp only [sumN, List.length_cons]; omega
theorem is7 : FI 7 Try.f7 := ⟨⟨Try.f7, Try.func7, rfl, rfl, rfl, rfl⟩, rfl⟩
set_option maxRecDepth 20000 in
set_option maxHeartbeats 16000000 in
theorem eqAdvertisement (p q : Adve) (hp : Adve.size p ≤ 1099511627776) : FO 7 [A (Adve.c false p), A (Adve.c false q)] [A (Adve.c false p), A (Adve.c false q)] (B (decide (p = q))) := by
  refine fok envOk mixed is7 ⟨rfl, rfl, ?_⟩
  (repeat' ((conv => whnf); first | refine stp ?_ | refine Br.mk (fun _ => ?_) (fun _ => ?_) | refine Cl.mk (eqIntS p.nbs q.nbs (by simp only [Adve.size, strsSize] at hp; omega)) ?_ | refine Cl.mk (eqNameS p.prefs q.prefs (by simp only [Adve.size] at hp; omega)) ?_ | refine Cl.pre (by simp only [shcLL_ints, shcLL_byts, shcLL_strs, Adve.shcs, Mani.shcs, Name.shcs, Segm.shcs]; rfl) ?_))
  all_goals (try (refine Vs.Fin.mk (WkR.eq ?_) (.refl _); first | rfl | (simp_all [Adve.eq_iff]; done) | (simp_all [Adve.eq_iff]; omega) | grind | grind [Adve.eq_iff]))
theorem is10 : FI 10 Try.f10 := ⟨⟨Try.f10, Try.func10, rfl, rfl, rfl, rfl⟩, rfl⟩
set_option maxRecDepth 20000 in
set_option maxHeartbeats 16000000 in
theorem markAdvertisement (p : Adve) (k : Int) (hk : 0 ≤ k) (hb : k + (Adve.cntv p : Nat) ≤ 4611686018427387904) (hz : Adve.size p ≤ 4611686018427387904) : FO 10 [A (Adve.c true p), I k] [A (Adve.c true (Adve.mkv p k)), I k] (I (k + (Adve.cntv p : Nat))) := by
  refine fok envOk mixed is10 ⟨rfl, rfl, ?_⟩
  (repeat' ((conv => whnf); first | refine stp ?_ | refine Br.mk (fun _ => ?_) (fun _ => ?_) | refine Cl.mk (markIntS p.nbs (k) (by omega) (by simp only [Adve.cntv] at *; omega)) ?_ | refine Cl.mk (markNameS p.prefs (k + (p.nbs.length : Nat)) (by omega) (by simp only [Adve.cntv] at *; omega) (by simp only [Adve.size] at hz; omega)) ?_ | refine Cl.pre (by simp only [shcLL_ints, shcLL_byts, shcLL_strs, Adve.shcs, Mani.shcs, Name.shcs, Segm.shcs]; rfl) ?_))
  refine Vs.Fin.mk (WkR.eq ?_) ?_
  · refine congrArg (fun z => [cI z]) ?_; first | rfl | (simp only [Adve.cntv, Adve.mkv]; omega)
  · first | exact .refl _ | (simp only [Adve.cntv, Adve.mkv]; exact .refl _)
theorem is11 : FI 11 Try.f11 := ⟨⟨Try.f11, Try.func11, rfl, rfl, rfl, rfl⟩, rfl⟩
set_option maxRecDepth 20000 in
set_option maxHeartbeats 16000000 in
theorem heldAdvertisement (p : Adve) (k : Int) (hk : 0 ≤ k) (hb : k + (Adve.cntv p : Nat) ≤ 4611686018427387904) (hz : Adve.size p ≤ 4611686018427387904) : FO 11 [A (Adve.c false (Adve.mkv p k)), I k] [A (Adve.c false (Adve.mkv p k)), I k] (I (k + (Adve.cntv p : Nat))) := by
  refine fok envOk mixed is11 ⟨rfl, rfl, ?_⟩
  (repeat' ((conv => whnf); first | refine stp ?_ | refine Br.neg (by simp; omega) ?_ | refine Cl.mk (heldIntS p.nbs (k) (by omega) (by simp only [Adve.cntv] at *; omega)) ?_ | refine Cl.mk (heldNameS p.prefs (k + (p.nbs.length : Nat)) (by omega) (by simp only [Adve.cntv] at *; omega) (by simp only [Adve.size] at hz; omega)) ?_ | refine Cl.pre (by simp only [shcLL_ints, shcLL_byts, shcLL_strs, Adve.shcs, Mani.shcs, Name.shcs, Segm.shcs]; rfl) ?_))
  refine Vs.Fin.mk (WkR.eq ?_) (.refl _)
  refine congrArg (fun z => [cI z]) ?_; first | rfl | (simp only [Adve.cntv, Adve.mkv]; omega)
end Go.Proofs.Ytoekfmkbkffciaa
