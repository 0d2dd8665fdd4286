/- Contracts of functions of the program: no statement of the seat is proved here. Each under the conditions that stand in it. -/
import Derived.Test.YtlibidbpgnpdjaaFn
import Derived.Test.YtlibidbpgnpdjaaM1
set_option linter.all false
namespace Go.Proofs.Ytlibidbpgnpdjaa
open Go.Vs Go.Proofs
/-! Names: the order, prefixes -/
def cmpS (a b : ByteArray) : Int := if Op.bytesLess a.toList b.toList = true then -1 else if (!(Op.bytesLess a.toList b.toList || a.toList == b.toList)) = true then 1 else 0
theorem bytesLess_self (l : List UInt8) : Op.bytesLess l l = false := by
  induction l with
  | nil => rfl
  | cons a l ih => simp [Op.bytesLess, ih]
theorem cmpS_zero {a b : ByteArray} : cmpS a b = 0 ↔ a = b := by
  constructor
  · intro h
    unfold cmpS at h
    split at h
    · simp at h
    · split at h
      · simp at h
      · rename_i h1 h2
        refine eqS ?_
        simp at h1 h2
        simp [h2 h1]
  · rintro rfl
    simp [cmpS, bytesLess_self]
def cmpL : List ByteArray → List ByteArray → Int
  | [], [] => 0
  | [], _ :: _ => -1
  | _ :: _, [] => 1
  | x :: a, y :: b => if cmpS x y = 0 then cmpL a b else cmpS x y
theorem cmpL_zero : ∀ {a b : List ByteArray}, cmpL a b = 0 ↔ a = b
  | [], [] => by simp [cmpL]
  | [], _ :: _ => by simp [cmpL]
  | _ :: _, [] => by simp [cmpL]
  | x :: a, y :: b => by
    rw [cmpL]
    split
    · rename_i h
      rw [cmpL_zero, cmpS_zero.1 h]
      simp
    · rename_i h
      constructor
      · intro h2; exact absurd h2 h
      · intro h2
        simp at h2
        exact absurd (cmpS_zero.2 h2.1) h
def hasPre (a p : Name) : Bool := decide (p.parts.length ≤ a.parts.length) && decide (a.parts.take p.parts.length = p.parts)
theorem is112 : FI 112 Try.f112 := ⟨⟨Try.f112, Try.func112, rfl, rfl, rfl, rfl⟩, rfl⟩
set_option maxRecDepth 20000 in
set_option maxHeartbeats 16000000 in
theorem s_l4Cmp (a b : ByteArray) : FO 112 [S a, S b] [S a, S b] (I (cmpS a b)) := by
  refine fok envOk mixed is112 ⟨rfl, rfl, ?_⟩
  (repeat' ((conv => whnf); first | refine Br.tt ?_ | refine Br.ff ?_ | refine Br.pos (by assumption) ?_ | refine Br.neg (by assumption) ?_ | refine Br.bself ?_ | refine Br.dself ?_ | refine Br.iself ?_ | refine Br.mk (fun _ => ?_) (fun _ => ?_) | refine Nm.mk lenC ?_ | refine Nm.mk (wrapI (by (first | omega | (simp [inR_t, inR_f] at *; omega))) (by (first | omega | (simp [inR_t, inR_f] at *; omega)))) ?_ | refine Nm.mk (wrapQ (by (first | omega | (simp [inR_t, inR_f] at *; omega))) (by (first | omega | (simp [inR_t, inR_f] at *; omega))) (by (first | omega | (simp [inR_t, inR_f] at *; omega)))) ?_ | refine Nm.mk (tmodN (by (first | omega | (simp [inR_t, inR_f] at *; omega)))) ?_ | refine Nm.mk (szS _) ?_ | refine Nm.mk (mi_eq _ _) ?_ | refine Nm.mk (ma_eq _ _) ?_ | refine Rq.mk (by first | (simp [dOwnL, dOwn] <;> fail) | (first | omega | (simp [inR_t, inR_f] at *; omega))) ?_ | refine And.intro (orderFast (by kernel_rfl)) ?_ | refine And.intro (by kernel_rfl) ?_ ))
  all_goals (refine Vs.Fin.mk (WkR.eq ?_) (.refl _); simp_all [cmpS])
theorem is106 : FI 106 Try.f106 := ⟨⟨Try.f106, Try.func106, rfl, rfl, rfl, rfl⟩, rfl⟩
set_option maxRecDepth 20000 in
set_option maxHeartbeats 16000000 in
theorem s_CompareNames (a b : Name) (ha : a.parts.length ≤ 1099511627776) (hb : b.parts.length ≤ 1099511627776) : FO 106 [A (Name.c false a), A (Name.c false b)] [A (Name.c false a), A (Name.c false b)] (I (cmpL a.parts b.parts)) := by
  refine fok envOk mixed is106 ⟨rfl, rfl, ?_⟩
  refine Lp.mk [.bx 2, .sl 2, .bx 3, .sl 3, .sl 5] (fun m σ => ∃ d r s, a.parts = d ++ r ∧ b.parts = d ++ s ∧ m = r.length ∧ cmpL a.parts b.parts = cmpL r s ∧ σ = [Bx 2 ((Name.c false a)), Pt 2, Bx 3 ((Name.c false b)), Pt 3, Sa 5 (I d.length)]) (a.parts.length) _ (WkS.weak _ _) ⟨[], a.parts, b.parts, rfl, rfl, rfl, rfl, (by first | rfl | (simp only [zlen, zsum, Nat.zero_mul, Int.add_zero, Int.sub_zero, List.nil_append, markG]; rfl))⟩ ?_
  rintro m τ ⟨d, r, s, hd, he, rfl, hc, rfl⟩
  rw [hc]
  have hla : a.parts.length = d.length + r.length := by rw [hd]; simp
  have hlb : b.parts.length = d.length + s.length := by rw [he]; simp
  cases r with
  | nil =>
    have f1 : decide ((d.length : Int) < (a.parts.length : Int)) = false := by simp at *; omega
    cases s with
    | nil =>
      have f2 : decide ((a.parts.length : Int) < (b.parts.length : Int)) = false := by simp at *; omega
      have f3 : decide ((a.parts.length : Int) > (b.parts.length : Int)) = false := by simp at *; omega
      (repeat' ((conv => whnf); first | refine Br.tt ?_ | refine Br.ff ?_ | refine Br.pos (by assumption) ?_ | refine Br.neg (by assumption) ?_ | refine Br.bself ?_ | refine Br.dself ?_ | refine Br.iself ?_ | refine Nm.mk lenC ?_ | refine Nm.mk (wrapI (by (first | omega | (simp [inR_t, inR_f] at *; omega))) (by (first | omega | (simp [inR_t, inR_f] at *; omega)))) ?_ | refine Nm.mk (wrapQ (by (first | omega | (simp [inR_t, inR_f] at *; omega))) (by (first | omega | (simp [inR_t, inR_f] at *; omega))) (by (first | omega | (simp [inR_t, inR_f] at *; omega)))) ?_ | refine Nm.mk (tmodN (by (first | omega | (simp [inR_t, inR_f] at *; omega)))) ?_ | refine Nm.mk (szS _) ?_ | refine Nm.mk (mi_eq _ _) ?_ | refine Nm.mk (ma_eq _ _) ?_ | refine Rq.mk (by first | (simp [dOwnL, dOwn] <;> fail) | (first | omega | (simp [inR_t, inR_f] at *; omega))) ?_ | refine And.intro (orderFast (by kernel_rfl)) ?_ | refine And.intro (by kernel_rfl) ?_ ))
      exact Vs.Fin.mk (WkR.refl _) (.refl _)
    | cons y s =>
      have f2 : decide ((a.parts.length : Int) < (b.parts.length : Int)) = true := by simp at *; omega
      (repeat' ((conv => whnf); first | refine Br.tt ?_ | refine Br.ff ?_ | refine Br.pos (by assumption) ?_ | refine Br.neg (by assumption) ?_ | refine Br.bself ?_ | refine Br.dself ?_ | refine Br.iself ?_ | refine Nm.mk lenC ?_ | refine Nm.mk (wrapI (by (first | omega | (simp [inR_t, inR_f] at *; omega))) (by (first | omega | (simp [inR_t, inR_f] at *; omega)))) ?_ | refine Nm.mk (wrapQ (by (first | omega | (simp [inR_t, inR_f] at *; omega))) (by (first | omega | (simp [inR_t, inR_f] at *; omega))) (by (first | omega | (simp [inR_t, inR_f] at *; omega)))) ?_ | refine Nm.mk (tmodN (by (first | omega | (simp [inR_t, inR_f] at *; omega)))) ?_ | refine Nm.mk (szS _) ?_ | refine Nm.mk (mi_eq _ _) ?_ | refine Nm.mk (ma_eq _ _) ?_ | refine Rq.mk (by first | (simp [dOwnL, dOwn] <;> fail) | (first | omega | (simp [inR_t, inR_f] at *; omega))) ?_ | refine And.intro (orderFast (by kernel_rfl)) ?_ | refine And.intro (by kernel_rfl) ?_ ))
      exact Vs.Fin.mk (WkR.refl _) (.refl _)
  | cons x r =>
    have f1 : decide ((d.length : Int) < (a.parts.length : Int)) = true := by simp at *; omega
    cases s with
    | nil =>
      have f2 : decide ((d.length : Int) < (b.parts.length : Int)) = false := by simp at *; omega
      have f3 : decide ((a.parts.length : Int) < (b.parts.length : Int)) = false := by simp at *; omega
      have f4 : decide ((a.parts.length : Int) > (b.parts.length : Int)) = true := by simp at *; omega
      (repeat' ((conv => whnf); first | refine Br.tt ?_ | refine Br.ff ?_ | refine Br.pos (by assumption) ?_ | refine Br.neg (by assumption) ?_ | refine Br.bself ?_ | refine Br.dself ?_ | refine Br.iself ?_ | refine Nm.mk lenC ?_ | refine Nm.mk (wrapI (by (first | omega | (simp [inR_t, inR_f] at *; omega))) (by (first | omega | (simp [inR_t, inR_f] at *; omega)))) ?_ | refine Nm.mk (wrapQ (by (first | omega | (simp [inR_t, inR_f] at *; omega))) (by (first | omega | (simp [inR_t, inR_f] at *; omega))) (by (first | omega | (simp [inR_t, inR_f] at *; omega)))) ?_ | refine Nm.mk (tmodN (by (first | omega | (simp [inR_t, inR_f] at *; omega)))) ?_ | refine Nm.mk (szS _) ?_ | refine Nm.mk (mi_eq _ _) ?_ | refine Nm.mk (ma_eq _ _) ?_ | refine Rq.mk (by first | (simp [dOwnL, dOwn] <;> fail) | (first | omega | (simp [inR_t, inR_f] at *; omega))) ?_ | refine And.intro (orderFast (by kernel_rfl)) ?_ | refine And.intro (by kernel_rfl) ?_ ))
      exact Vs.Fin.mk (WkR.refl _) (.refl _)
    | cons y s =>
      have f2 : decide ((d.length : Int) < (b.parts.length : Int)) = true := by simp at *; omega
      simp at hla hlb
      by_cases hz : cmpS x y = 0
      · have f5 : (cmpS x y != 0) = false := by simp [hz]
        obtain rfl := cmpS_zero.1 hz
        (repeat' ((conv => whnf); first | refine Br.tt ?_ | refine Br.ff ?_ | refine Br.pos (by assumption) ?_ | refine Br.neg (by assumption) ?_ | refine Br.bself ?_ | refine Br.dself ?_ | refine Br.iself ?_ | refine Nm.mk lenC ?_ | refine Nm.mk (wrapI (by (first | omega | (simp [inR_t, inR_f] at *; omega))) (by (first | omega | (simp [inR_t, inR_f] at *; omega)))) ?_ | refine Nm.mk (wrapQ (by (first | omega | (simp [inR_t, inR_f] at *; omega))) (by (first | omega | (simp [inR_t, inR_f] at *; omega))) (by (first | omega | (simp [inR_t, inR_f] at *; omega)))) ?_ | refine Nm.mk (tmodN (by (first | omega | (simp [inR_t, inR_f] at *; omega)))) ?_ | refine Nm.mk (szS _) ?_ | refine Nm.mk (mi_eq _ _) ?_ | refine Nm.mk (ma_eq _ _) ?_ | refine Rq.mk (by first | (simp [dOwnL, dOwn] <;> fail) | (first | omega | (simp [inR_t, inR_f] at *; omega))) ?_ | refine And.intro (orderFast (by kernel_rfl)) ?_ | refine And.intro (by kernel_rfl) ?_ | refine El.mk (getH hd rfl) ?_ | refine El.mk (getH he rfl) ?_ | refine Cl.mk (s_l4Cmp _ _) ?_ | refine Cl.pre (by simp only [shcLL_ints, shcLL_byts, shcLL_strs, Mani.shcs, Name.shcs, Segm.shcs]; rfl) ?_))
        refine Nx.intro r.length (by simp) _ (WkS.weak _ _) ⟨d ++ [x], r, s, by simp [hd], by simp [he], rfl, ?_, ?_⟩
        · rw [cmpL, if_pos hz]
        · rw [len1]; rfl
      · have f5 : (cmpS x y != 0) = true := by simp [hz]
        (repeat' ((conv => whnf); first | refine Br.tt ?_ | refine Br.ff ?_ | refine Br.pos (by assumption) ?_ | refine Br.neg (by assumption) ?_ | refine Br.bself ?_ | refine Br.dself ?_ | refine Br.iself ?_ | refine Nm.mk lenC ?_ | refine Nm.mk (wrapI (by (first | omega | (simp [inR_t, inR_f] at *; omega))) (by (first | omega | (simp [inR_t, inR_f] at *; omega)))) ?_ | refine Nm.mk (wrapQ (by (first | omega | (simp [inR_t, inR_f] at *; omega))) (by (first | omega | (simp [inR_t, inR_f] at *; omega))) (by (first | omega | (simp [inR_t, inR_f] at *; omega)))) ?_ | refine Nm.mk (tmodN (by (first | omega | (simp [inR_t, inR_f] at *; omega)))) ?_ | refine Nm.mk (szS _) ?_ | refine Nm.mk (mi_eq _ _) ?_ | refine Nm.mk (ma_eq _ _) ?_ | refine Rq.mk (by first | (simp [dOwnL, dOwn] <;> fail) | (first | omega | (simp [inR_t, inR_f] at *; omega))) ?_ | refine And.intro (orderFast (by kernel_rfl)) ?_ | refine And.intro (by kernel_rfl) ?_ | refine El.mk (getH hd rfl) ?_ | refine El.mk (getH he rfl) ?_ | refine Cl.mk (s_l4Cmp _ _) ?_ | refine Cl.pre (by simp only [shcLL_ints, shcLL_byts, shcLL_strs, Mani.shcs, Name.shcs, Segm.shcs]; rfl) ?_))
        rw [cmpL, if_neg hz]
        exact Vs.Fin.mk (WkR.refl _) (.refl _)
theorem is111 : FI 111 Try.f111 := ⟨⟨Try.f111, Try.func111, rfl, rfl, rfl, rfl⟩, rfl⟩
set_option maxRecDepth 20000 in
set_option maxHeartbeats 16000000 in
theorem s_EqualNames (a b : Name) (ha : a.parts.length ≤ 1099511627776) (hb : b.parts.length ≤ 1099511627776) : FO 111 [A (Name.c false a), A (Name.c false b)] [A (Name.c false a), A (Name.c false b)] (B (decide (a = b))) := by
  refine fok envOk mixed is111 ⟨rfl, rfl, ?_⟩
  (repeat' ((conv => whnf); first | refine Br.tt ?_ | refine Br.ff ?_ | refine Br.pos (by assumption) ?_ | refine Br.neg (by assumption) ?_ | refine Br.bself ?_ | refine Br.dself ?_ | refine Br.iself ?_ | refine Br.mk (fun _ => ?_) (fun _ => ?_) | refine Nm.mk lenC ?_ | refine Nm.mk (wrapI (by (first | omega | (simp [inR_t, inR_f] at *; omega))) (by (first | omega | (simp [inR_t, inR_f] at *; omega)))) ?_ | refine Nm.mk (wrapQ (by (first | omega | (simp [inR_t, inR_f] at *; omega))) (by (first | omega | (simp [inR_t, inR_f] at *; omega))) (by (first | omega | (simp [inR_t, inR_f] at *; omega)))) ?_ | refine Nm.mk (tmodN (by (first | omega | (simp [inR_t, inR_f] at *; omega)))) ?_ | refine Nm.mk (szS _) ?_ | refine Nm.mk (mi_eq _ _) ?_ | refine Nm.mk (ma_eq _ _) ?_ | refine Rq.mk (by first | (simp [dOwnL, dOwn] <;> fail) | (first | omega | (simp [inR_t, inR_f] at *; omega))) ?_ | refine And.intro (orderFast (by kernel_rfl)) ?_ | refine And.intro (by kernel_rfl) ?_ | refine Cl.mk (s_CompareNames a b ha hb) ?_ | refine Cl.pre (by simp only [shcLL_ints, shcLL_byts, shcLL_strs, Mani.shcs, Name.shcs, Segm.shcs]; rfl) ?_))
  refine Vs.Fin.mk (WkR.eq ?_) (.refl _)
  have h := @cmpL_zero a.parts b.parts
  have h2 := @Name.eq_iff a b
  by_cases hc : cmpL a.parts b.parts = 0
  · have e := h2.2 (h.1 hc)
    rw [hc, decide_eq_true e]; rfl
  · have : ¬ a = b := fun h3 => hc (h.2 (h2.1 h3))
    simp [hc, this]
def trunc (n : Name) (k : Int) : Name := ⟨n.parts.take (ma 0 (mi k n.parts.length)).toNat⟩
theorem trunc_le {n : Name} {k : Nat} (h : k ≤ n.parts.length) : trunc n k = ⟨n.parts.take k⟩ := by
  unfold trunc ma mi
  congr 2
  split <;> split <;> omega
end Go.Proofs.Ytlibidbpgnpdjaa
