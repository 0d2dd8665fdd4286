/- Contracts of functions of the program: no statement of the seat is proved here. Each under the conditions that stand in it. -/
import Derived.Test.YtigkmijoefibiaaGreatFn
import Derived.Test.YtigkmijoefibiaaGreatM1
set_option linter.all false
namespace Go.Proofs.YtigkmijoefibiaaGreat
open Go.Vs Go.Proofs
/-! Names: the order, prefixes -/
def cmpS (a b : ByteArray) : Int := if Op.bytesLess a.toList b.toList = true then -1 else if (!(Op.bytesLess a.toList b.toList || a.toList == b.toList)) = true then 1 else 0
theorem bytesLess_self (l : List UInt8) : Op.bytesLess l l = false := by
  induction l with
  | nil => rfl
  | cons a l ih => simp [Op.bytesLess, ih]
theorem cmpS_zero {a b : ByteArray} : cmpS a b = 0 ↔ a = b := by
  constructor
  · intro h
    unfold cmpS at h
    split at h
    · simp at h
    · split at h
      · simp at h
      · rename_i h1 h2
        refine eqS ?_
        simp at h1 h2
        simp [h2 h1]
  · rintro rfl
    simp [cmpS, bytesLess_self]
def cmpL : List ByteArray → List ByteArray → Int
  | [], [] => 0
  | [], _ :: _ => -1
  | _ :: _, [] => 1
  | x :: a, y :: b => if cmpS x y = 0 then cmpL a b else cmpS x y
theorem cmpL_zero : ∀ {a b : List ByteArray}, cmpL a b = 0 ↔ a = b
  | [], [] => by simp [cmpL]
  | [], _ :: _ => by simp [cmpL]
  | _ :: _, [] => by simp [cmpL]
  | x :: a, y :: b => by
    rw [cmpL]
    split
    · rename_i h
      rw [cmpL_zero, cmpS_zero.1 h]
      simp
    · rename_i h
      constructor
      · intro h2; exact absurd h2 h
      · intro h2
        simp at h2
        exact absurd (cmpS_zero.2 h2.1) h
def hasPre (a p : Name) : Bool := decide (p.parts.length ≤ a.parts.length) && decide (a.parts.take p.parts.length = p.parts)
theorem is227 : FI 227 Tryz.f227 := ⟨⟨Tryz.f227, Tryz.func227, rfl, rfl, rfl, rfl⟩, rfl⟩
set_option maxRecDepth 20000 in
set_option maxHeartbeats 16000000 in
theorem s_l4Cmp (a b : ByteArray) : FO 227 [S a, S b] [S a, S b] (I (cmpS a b)) := by
  refine fok envOk mixed is227 ⟨rfl, rfl, ?_⟩
  (repeat' ((conv => whnf); first | refine stp ?_ | refine Br.mk (fun _ => ?_) (fun _ => ?_) ))
  all_goals (refine Vs.Fin.mk (WkR.eq ?_) (.refl _); simp_all [cmpS])
theorem is212 : FI 212 Tryz.f212 := ⟨⟨Tryz.f212, Tryz.func212, rfl, rfl, rfl, rfl⟩, rfl⟩
set_option maxRecDepth 20000 in
set_option maxHeartbeats 16000000 in
theorem s_CompareNames (a b : Name) (ha : a.parts.length ≤ 1099511627776) (hb : b.parts.length ≤ 1099511627776) : FO 212 [A (Name.c false a), A (Name.c false b)] [A (Name.c false a), A (Name.c false b)] (I (cmpL a.parts b.parts)) := by
  refine fok envOk mixed is212 ⟨rfl, rfl, ?_⟩
  refine Lp.mk [.bx 2, .sl 2, .bx 3, .sl 3, .sl 5] (fun m σ => ∃ d r s, a.parts = d ++ r ∧ b.parts = d ++ s ∧ m = r.length ∧ cmpL a.parts b.parts = cmpL r s ∧ σ = [Bx 2 ((Name.c false a)), Pt 2, Bx 3 ((Name.c false b)), Pt 3, Sa 5 (I d.length)]) (a.parts.length) _ (WkS.weak _ _) ⟨[], a.parts, b.parts, rfl, rfl, rfl, rfl, (by first | rfl | (simp only [zlen, zsum, Nat.zero_mul, Int.add_zero, Int.sub_zero, List.nil_append, markG]; rfl))⟩ ?_
  rintro m τ ⟨d, r, s, hd, he, rfl, hc, rfl⟩
  rw [hc]
  have hla : a.parts.length = d.length + r.length := by rw [hd]; simp
  have hlb : b.parts.length = d.length + s.length := by rw [he]; simp
  cases r with
  | nil =>
    have f1 : decide ((d.length : Int) < (a.parts.length : Int)) = false := by simp at *; omega
    cases s with
    | nil =>
      have f2 : decide ((a.parts.length : Int) < (b.parts.length : Int)) = false := by simp at *; omega
      have f3 : decide ((a.parts.length : Int) > (b.parts.length : Int)) = false := by simp at *; omega
      (repeat' ((conv => whnf); first | refine stp ?_ ))
      exact Vs.Fin.mk (WkR.refl _) (.refl _)
    | cons y s =>
      have f2 : decide ((a.parts.length : Int) < (b.parts.length : Int)) = true := by simp at *; omega
      (repeat' ((conv => whnf); first | refine stp ?_ ))
      exact Vs.Fin.mk (WkR.refl _) (.refl _)
  | cons x r =>
    have f1 : decide ((d.length : Int) < (a.parts.length : Int)) = true := by simp at *; omega
    cases s with
    | nil =>
      have f2 : decide ((d.length : Int) < (b.parts.length : Int)) = false := by simp at *; omega
      have f3 : decide ((a.parts.length : Int) < (b.parts.length : Int)) = false := by simp at *; omega
      have f4 : decide ((a.parts.length : Int) > (b.parts.length : Int)) = true := by simp at *; omega
      (repeat' ((conv => whnf); first | refine stp ?_ ))
      exact Vs.Fin.mk (WkR.refl _) (.refl _)
    | cons y s =>
      have f2 : decide ((d.length : Int) < (b.parts.length : Int)) = true := by simp at *; omega
      simp at hla hlb
      by_cases hz : cmpS x y = 0
      · have f5 : (cmpS x y != 0) = false := by simp [hz]
        obtain rfl := cmpS_zero.1 hz
        (repeat' ((conv => whnf); first | refine stp ?_ | refine El.mk (getH hd rfl) ?_ | refine El.mk (getH he rfl) ?_ | refine Cl.mk (s_l4Cmp _ _) ?_ | refine Cl.pre (by simp only [shcLL_ints, shcLL_byts, shcLL_strs, Mani.shcs, Name.shcs, Segm.shcs]; rfl) ?_))
        refine Nx.intro r.length (by simp) _ (WkS.weak _ _) ⟨d ++ [x], r, s, by simp [hd], by simp [he], rfl, ?_, ?_⟩
        · rw [cmpL, if_pos hz]
        · rw [len1]; rfl
      · have f5 : (cmpS x y != 0) = true := by simp [hz]
        (repeat' ((conv => whnf); first | refine stp ?_ | refine El.mk (getH hd rfl) ?_ | refine El.mk (getH he rfl) ?_ | refine Cl.mk (s_l4Cmp _ _) ?_ | refine Cl.pre (by simp only [shcLL_ints, shcLL_byts, shcLL_strs, Mani.shcs, Name.shcs, Segm.shcs]; rfl) ?_))
        rw [cmpL, if_neg hz]
        exact Vs.Fin.mk (WkR.refl _) (.refl _)
theorem is155 : FI 155 Tryz.f155 := ⟨⟨Tryz.f155, Tryz.func155, rfl, rfl, rfl, rfl⟩, rfl⟩
set_option maxRecDepth 20000 in
set_option maxHeartbeats 16000000 in
theorem s_EqualNames (a b : Name) (ha : a.parts.length ≤ 1099511627776) (hb : b.parts.length ≤ 1099511627776) : FO 155 [A (Name.c false a), A (Name.c false b)] [A (Name.c false a), A (Name.c false b)] (B (decide (a = b))) := by
  refine fok envOk mixed is155 ⟨rfl, rfl, ?_⟩
  (repeat' ((conv => whnf); first | refine stp ?_ | refine Br.mk (fun _ => ?_) (fun _ => ?_) | refine Cl.mk (s_CompareNames a b ha hb) ?_ | refine Cl.pre (by simp only [shcLL_ints, shcLL_byts, shcLL_strs, Mani.shcs, Name.shcs, Segm.shcs]; rfl) ?_))
  refine Vs.Fin.mk (WkR.eq ?_) (.refl _)
  have h := @cmpL_zero a.parts b.parts
  have h2 := @Name.eq_iff a b
  by_cases hc : cmpL a.parts b.parts = 0
  · have e := h2.2 (h.1 hc)
    rw [hc, decide_eq_true e]; rfl
  · have : ¬ a = b := fun h3 => hc (h.2 (h2.1 h3))
    simp [hc, this]
def trunc (n : Name) (k : Int) : Name := ⟨n.parts.take (ma 0 (mi k n.parts.length)).toNat⟩
theorem trunc_le {n : Name} {k : Nat} (h : k ≤ n.parts.length) : trunc n k = ⟨n.parts.take k⟩ := by
  unfold trunc ma mi
  congr 2
  split <;> split <;> omega
theorem is217 : FI 217 Tryz.f217 := ⟨⟨Tryz.f217, Tryz.func217, rfl, rfl, rfl, rfl⟩, rfl⟩
set_option maxRecDepth 20000 in
set_option maxHeartbeats 16000000 in
theorem s_Truncate (n : Name) (k : Int) (hn : n.parts.length ≤ 1099511627776) : FO 217 [A (Name.c false n), I k] [A (Name.c false n), I k] (A (Name.c true (trunc n k))) := by
  refine fok envOk mixed is217 ⟨rfl, rfl, ?_⟩
  have hm : 0 ≤ ma 0 (mi k n.parts.length) ∧ ma 0 (mi k n.parts.length) ≤ n.parts.length := by unfold ma mi; split <;> split <;> omega
  (repeat' ((conv => whnf); first | refine stp ?_ | refine Cl.mk (s_Min _ _) ?_ | refine Cl.mk (s_Max _ _) ?_ | refine Cl.pre (by simp only [shcLL_ints, shcLL_byts, shcLL_strs, Mani.shcs, Name.shcs, Segm.shcs]; rfl) ?_))
  refine Vs.Fin.mk (WkR.of (.sl1 ?_ .nil)) (.refl _)
  simp [trunc, List.map_take]
theorem is186 : FI 186 Tryz.f186 := ⟨⟨Tryz.f186, Tryz.func186, rfl, rfl, rfl, rfl⟩, rfl⟩
set_option maxRecDepth 20000 in
set_option maxHeartbeats 16000000 in
theorem s_HasPrefix (a p : Name) (ha : a.parts.length ≤ 1099511627776) (hp : p.parts.length ≤ 1099511627776) : FO 186 [A (Name.c false a), A (Name.c false p)] [A (Name.c false a), A (Name.c false p)] (B (hasPre a p)) := by
  refine fok envOk mixed is186 ⟨rfl, rfl, ?_⟩
  by_cases hl : p.parts.length ≤ a.parts.length
  · have f1 : decide ((a.parts.length : Int) ≥ p.parts.length) = true := by simp; omega
    (repeat' ((conv => whnf); first | refine stp ?_ | refine Cl.mk (s_Truncate a p.parts.length ha) ?_ | refine Cl.mk (s_EqualNames (trunc a p.parts.length) p (by rw [trunc_le hl]; simp; omega) hp) ?_ | refine Cl.pre (by simp only [shcLL_ints, shcLL_byts, shcLL_strs, Mani.shcs, Name.shcs, Segm.shcs]; rfl) ?_))
    refine Vs.Fin.mk (WkR.eq ?_) (.refl _)
    rw [trunc_le hl]
    simp [hasPre, hl, Name.eq_iff]
  · have f1 : decide ((a.parts.length : Int) ≥ p.parts.length) = false := by simp; omega
    (repeat' ((conv => whnf); first | refine stp ?_ ))
    refine Vs.Fin.mk (WkR.eq ?_) (.refl _)
    simp [hasPre, hl]
theorem is185 : FI 185 Tryz.f185 := ⟨⟨Tryz.f185, Tryz.func185, rfl, rfl, rfl, rfl⟩, rfl⟩
set_option maxRecDepth 20000 in
set_option maxHeartbeats 16000000 in
theorem Equal_string (a b : List ByteArray) (ha : a.length ≤ 1099511627776) : FO 185 [Ss false a, Ss false b] [Ss false a, Ss false b] (B (decide (a = b))) := by
  refine fok envOk mixed is185 ⟨rfl, rfl, ?_⟩
  refine Nm.mk lenC ?_
  refine Nm.mk lenC ?_
  (conv => whnf)
  refine Br.mk (fun h => ?_) (fun h => ?_)
  · have hne : a ≠ b := by rintro rfl; simp at h
    (repeat' ((conv => whnf); first | refine stp ?_ | refine Br.mk (fun _ => ?_) (fun _ => ?_) ))
    all_goals (try (refine Vs.Fin.mk (WkR.eq ?_) (.refl _); first | rfl | (simp_all [hne]; done) | (simp_all [hne]; omega) | grind | grind [hne]))
  have hl : a.length = b.length := by simp at h; omega
  refine Nm.mk lenC ?_
  refine Lp.mk [.sl 0, .sl 1, .sl 12, .sl 13] (fun m σ => ∃ d r e s, a = d ++ r ∧ b = e ++ s ∧ m = r.length ∧ d = e ∧ σ = [Sa 0 (Ss false a), Sa 1 (Ss false b), Sa 12 (I a.length), Sa 13 (I d.length)]) (a.length) _ (WkS.weak _ _) ⟨[], a, [], b, rfl, rfl, rfl, rfl, (by first | rfl | (simp only [zlen, zsum, Nat.zero_mul, Int.add_zero, Int.sub_zero, List.nil_append, markG]; rfl))⟩ ?_
  rintro m τ ⟨d, r, e, s, rfl, rfl, rfl, rfl, rfl⟩
  cases r with
  | nil =>
    obtain rfl : s = [] := by cases s <;> simp_all
    refine Br.neg (by simp) ?_
    (repeat' ((conv => whnf); first | refine stp ?_ | refine Br.mk (fun _ => ?_) (fun _ => ?_) ))
    all_goals (try (refine Vs.Fin.mk (WkR.eq ?_) (.refl _); first | rfl | (simp_all []; done) | (simp_all []; omega) | grind | grind []))
  | cons x r =>
    obtain ⟨y, s, rfl⟩ : ∃ y s', s = y :: s' := by cases s <;> simp_all
    refine Br.pos (by simp; omega) ?_
    refine Rq.mk ⟨by omega, by simp; omega⟩ ?_
    refine El.mk (getA rfl) ?_
    refine Rq.mk ⟨by omega, by simp; omega⟩ ?_
    refine El.mk (getA rfl) ?_
    (conv => whnf)
    refine And.intro (by kernel_rfl) ?_
    (conv => whnf)
    refine Br.mk (fun h => ?_) (fun h => ?_)
    · have hne : x ≠ y := by rintro rfl; simp at h
      (repeat' ((conv => whnf); first | refine stp ?_ | refine Br.mk (fun _ => ?_) (fun _ => ?_) ))
      all_goals (try (refine Vs.Fin.mk (WkR.eq ?_) (.refl _); first | rfl | (simp_all [hne]; done) | (simp_all [hne]; omega) | grind | grind [hne]))
    · obtain rfl : x = y := eqS h
      refine Nm.mk (wrapI (by omega) (by simp at ha; omega)) ?_
      refine Nx.intro r.length (by simp) _ (WkS.weak _ _) ⟨d ++ [x], r, d ++ [x], s, by simp, by simp, rfl, rfl, ?_⟩
      rw [len1]; rfl
theorem is108 : FI 108 Tryz.f108 := ⟨⟨Tryz.f108, Tryz.func108, rfl, rfl, rfl, rfl⟩, rfl⟩
set_option maxRecDepth 20000 in
set_option maxHeartbeats 16000000 in
theorem i_HasPrefix (a p : Name) (ha : a.parts.length ≤ 1099511627776) (hp : p.parts.length ≤ 1099511627776) : FO 108 [A (Name.c false a), A (Name.c false p)] [A (Name.c false a), A (Name.c false p)] (B (hasPre a p)) := by
  refine fok envOk mixed is108 ⟨rfl, rfl, ?_⟩
  by_cases hl : p.parts.length ≤ a.parts.length
  · have f1 : decide ((p.parts.length : Int) ≤ a.parts.length) = true := by simp; omega
    (repeat' ((conv => whnf); first | refine stp ?_ ))
    refine Cl.eq (Equal_string (a.parts.take p.parts.length) p.parts (by simp; omega)) (by simp [List.map_take]) ?_
    (repeat' ((conv => whnf); first | refine stp ?_ ))
    refine Vs.Fin.mk (WkR.eq ?_) (.refl _)
    simp [hasPre, hl]
  · have f1 : decide ((p.parts.length : Int) ≤ a.parts.length) = false := by simp; omega
    (repeat' ((conv => whnf); first | refine stp ?_ ))
    refine Vs.Fin.mk (WkR.eq ?_) (.refl _)
    simp [hasPre, hl]
theorem is148 : FI 148 Tryz.f148 := ⟨⟨Tryz.f148, Tryz.func148, rfl, rfl, rfl, rfl⟩, rfl⟩
set_option maxRecDepth 20000 in
set_option maxHeartbeats 16000000 in
theorem i_EqualNames (a b : Name) (ha : a.parts.length ≤ 1099511627776) : FO 148 [A (Name.c false a), A (Name.c false b)] [A (Name.c false a), A (Name.c false b)] (B (decide (a = b))) := by
  refine fok envOk mixed is148 ⟨rfl, rfl, ?_⟩
  (repeat' ((conv => whnf); first | refine stp ?_ | refine Br.mk (fun _ => ?_) (fun _ => ?_) | refine Cl.mk (Equal_string a.parts b.parts ha) ?_ | refine Cl.pre (by simp only [shcLL_ints, shcLL_byts, shcLL_strs, Mani.shcs, Name.shcs, Segm.shcs]; rfl) ?_))
  refine Vs.Fin.mk (WkR.eq ?_) (.refl _)
  simp [Name.eq_iff]
end Go.Proofs.YtigkmijoefibiaaGreat
