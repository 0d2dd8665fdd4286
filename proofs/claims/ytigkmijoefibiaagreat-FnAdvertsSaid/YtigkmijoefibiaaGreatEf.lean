/- Contracts of functions of the program: no statement of the seat is proved here. Each under the conditions that stand in it. -/
import Derived.Test.YtigkmijoefibiaaGreatM7
import Derived.Test.YtigkmijoefibiaaGreatSb
import Derived.Test.YtigkmijoefibiaaGreatAb
set_option linter.all false
namespace Go.Proofs.YtigkmijoefibiaaGreat
open Go.Vs Go.Proofs
/-! Lists held against each other -/
set_option maxRecDepth 20000
theorem ad_ext {x y : Adve} (h1 : x.origin = y.origin) (h2 : x.version = y.version) (h3 : x.nbs = y.nbs) (h4 : x.prefs = y.prefs) : x = y := by
  cases x; cases y; simp at *; exact ⟨h1, h2, h3, h4⟩
theorem nm_ext {x y : Name} (h : x.parts = y.parts) : x = y := by
  cases x; cases y; simp at *; exact h
theorem cons_ne {α : Type} {d r s : List α} {x y : α} (h : x ≠ y) : d ++ x :: r ≠ d ++ y :: s := by
  intro h2; simp at h2; exact h h2.1
set_option maxRecDepth 20000 in
set_option maxHeartbeats 16000000 in
theorem eq_Ints (a b : List Int) (ha : a.length ≤ 1099511627776) (hb : b.length ≤ 1099511627776) : FO 37 [Is false a, Is false b] [Is false a, Is false b] (B (decide (a = b))) := by
  refine fok envOk mixed is37 ⟨rfl, rfl, ?_⟩
  refine Nm.mk lenC ?_
  refine Nm.mk lenC ?_
  (conv => whnf)
  refine Br.mk (fun h => ?_) (fun h => ?_)
  · have hne : a ≠ b := by rintro rfl; simp at h
    (repeat' ((conv => whnf); first | refine stp ?_ ))
    refine Vs.Fin.mk (WkR.eq ?_) (.refl _)
    rw [decide_eq_false hne]
  have hl : a.length = b.length := by simp at h; omega
  refine Lp.mk [.sl 0, .sl 1, .sl 5] (fun m σ => ∃ d r e s, a = d ++ r ∧ b = e ++ s ∧ m = r.length ∧ d = e ∧ σ = [Sa 0 (Is false a), Sa 1 (Is false b), Sa 5 (I d.length)]) (a.length) _ (WkS.weak _ _) ⟨[], a, [], b, rfl, rfl, rfl, rfl, (by first | rfl | (simp only [zlen, zsum, Nat.zero_mul, Int.add_zero, Int.sub_zero, List.nil_append, markG]; rfl))⟩ ?_
  rintro m τ ⟨d, r, e, s, h1, h2, rfl, rfl, rfl⟩
  have hy : a.length = d.length + r.length := by rw [h1]; simp
  have hy2 : b.length = d.length + s.length := by rw [h2]; simp
  refine Nm.mk lenC ?_
  cases r with
  | nil =>
    obtain rfl : s = [] := by
      cases s with
      | nil => rfl
      | cons y s => simp at hy hy2; omega
    refine Br.neg (by simp at * <;> omega) ?_
    (repeat' ((conv => whnf); first | refine stp ?_ ))
    refine Vs.Fin.mk (WkR.eq ?_) (.refl _)
    rw [decide_eq_true (h1.trans h2.symm)]
  | cons x r =>
    obtain ⟨y, s, rfl⟩ : ∃ y s', s = y :: s' := by
      cases s with
      | nil => simp at hy hy2; omega
      | cons y s' => exact ⟨y, s', rfl⟩
    simp at hy hy2
    refine Br.pos (by simp <;> omega) ?_
    by_cases hxy : x = y
    · subst hxy
      (repeat' ((conv => whnf); first | refine stp ?_ | refine El.mk (getH h1 rfl) ?_ | refine El.mk (getH h2 rfl) ?_ | refine Cl.pre (by simp only [shcLL_ints, shcLL_byts, shcLL_strs, Adve.shcs, Fetc.shcs, Gran.shcs, Mani.shcs, Name.shcs, Read.shcs, Segm.shcs]; rfl) ?_))
      refine Nx.intro r.length (by simp) _ (WkS.weak _ _) ⟨d ++ [x], r, d ++ [x], s, by simp [h1], by simp [h2], rfl, rfl, ?_⟩
      rw [len1]; rfl
    · have hne : a ≠ b := by rw [h1, h2]; exact cons_ne hxy
      have f1 : (!(x == y)) = true := by simp [hxy]
      (repeat' ((conv => whnf); first | refine stp ?_ | refine El.mk (getH h1 rfl) ?_ | refine El.mk (getH h2 rfl) ?_ | refine Cl.pre (by simp only [shcLL_ints, shcLL_byts, shcLL_strs, Adve.shcs, Fetc.shcs, Gran.shcs, Mani.shcs, Name.shcs, Read.shcs, Segm.shcs]; rfl) ?_))
      refine Vs.Fin.mk (WkR.eq ?_) (.refl _)
      rw [decide_eq_false hne]
theorem is146 : FI 146 Tryz.f146 := ⟨⟨Tryz.f146, Tryz.func146, rfl, rfl, rfl, rfl⟩, rfl⟩
set_option maxRecDepth 20000 in
set_option maxHeartbeats 16000000 in
theorem Equal_int (a b : List Int) (ha : a.length ≤ 1099511627776) (hb : b.length ≤ 1099511627776) : FO 146 [Is false a, Is false b] [Is false a, Is false b] (B (decide (a = b))) := by
  refine fok envOk mixed is146 ⟨rfl, rfl, ?_⟩
  refine Nm.mk lenC ?_
  refine Nm.mk lenC ?_
  (conv => whnf)
  refine Br.mk (fun h => ?_) (fun h => ?_)
  · have hne : a ≠ b := by rintro rfl; simp at h
    (repeat' ((conv => whnf); first | refine stp ?_ ))
    refine Vs.Fin.mk (WkR.eq ?_) (.refl _)
    rw [decide_eq_false hne]
  have hl : a.length = b.length := by simp at h; omega
  refine Nm.mk lenC ?_
  refine Lp.mk [.sl 0, .sl 1, .sl 12, .sl 13] (fun m σ => ∃ d r e s, a = d ++ r ∧ b = e ++ s ∧ m = r.length ∧ d = e ∧ σ = [Sa 0 (Is false a), Sa 1 (Is false b), Sa 12 (I a.length), Sa 13 (I d.length)]) (a.length) _ (WkS.weak _ _) ⟨[], a, [], b, rfl, rfl, rfl, rfl, (by first | rfl | (simp only [zlen, zsum, Nat.zero_mul, Int.add_zero, Int.sub_zero, List.nil_append, markG]; rfl))⟩ ?_
  rintro m τ ⟨d, r, e, s, h1, h2, rfl, rfl, rfl⟩
  have hy : a.length = d.length + r.length := by rw [h1]; simp
  have hy2 : b.length = d.length + s.length := by rw [h2]; simp
  cases r with
  | nil =>
    obtain rfl : s = [] := by
      cases s with
      | nil => rfl
      | cons y s => simp at hy hy2; omega
    refine Br.neg (by simp at * <;> omega) ?_
    (repeat' ((conv => whnf); first | refine stp ?_ ))
    refine Vs.Fin.mk (WkR.eq ?_) (.refl _)
    rw [decide_eq_true (h1.trans h2.symm)]
  | cons x r =>
    obtain ⟨y, s, rfl⟩ : ∃ y s', s = y :: s' := by
      cases s with
      | nil => simp at hy hy2; omega
      | cons y s' => exact ⟨y, s', rfl⟩
    simp at hy hy2
    refine Br.pos (by simp <;> omega) ?_
    by_cases hxy : x = y
    · subst hxy
      (repeat' ((conv => whnf); first | refine stp ?_ | refine El.mk (getH h1 rfl) ?_ | refine El.mk (getH h2 rfl) ?_ | refine Cl.pre (by simp only [shcLL_ints, shcLL_byts, shcLL_strs, Adve.shcs, Fetc.shcs, Gran.shcs, Mani.shcs, Name.shcs, Read.shcs, Segm.shcs]; rfl) ?_))
      refine Nx.intro r.length (by simp) _ (WkS.weak _ _) ⟨d ++ [x], r, d ++ [x], s, by simp [h1], by simp [h2], rfl, rfl, ?_⟩
      rw [len1]; rfl
    · have hne : a ≠ b := by rw [h1, h2]; exact cons_ne hxy
      have f1 : (!(x == y)) = true := by simp [hxy]
      (repeat' ((conv => whnf); first | refine stp ?_ | refine El.mk (getH h1 rfl) ?_ | refine El.mk (getH h2 rfl) ?_ | refine Cl.pre (by simp only [shcLL_ints, shcLL_byts, shcLL_strs, Adve.shcs, Fetc.shcs, Gran.shcs, Mani.shcs, Name.shcs, Read.shcs, Segm.shcs]; rfl) ?_))
      refine Vs.Fin.mk (WkR.eq ?_) (.refl _)
      rw [decide_eq_false hne]
set_option maxRecDepth 20000 in
set_option maxHeartbeats 16000000 in
theorem eq_Texts (a b : List ByteArray) (ha : a.length ≤ 1099511627776) (hb : b.length ≤ 1099511627776) : FO 179 [Ss false a, Ss false b] [Ss false a, Ss false b] (B (decide (a = b))) := by
  refine fok envOk mixed is179 ⟨rfl, rfl, ?_⟩
  refine Nm.mk lenC ?_
  refine Nm.mk lenC ?_
  (conv => whnf)
  refine Br.mk (fun h => ?_) (fun h => ?_)
  · have hne : a ≠ b := by rintro rfl; simp at h
    (repeat' ((conv => whnf); first | refine stp ?_ ))
    refine Vs.Fin.mk (WkR.eq ?_) (.refl _)
    rw [decide_eq_false hne]
  have hl : a.length = b.length := by simp at h; omega
  refine Lp.mk [.sl 0, .sl 1, .sl 5] (fun m σ => ∃ d r e s, a = d ++ r ∧ b = e ++ s ∧ m = r.length ∧ d = e ∧ σ = [Sa 0 (Ss false a), Sa 1 (Ss false b), Sa 5 (I d.length)]) (a.length) _ (WkS.weak _ _) ⟨[], a, [], b, rfl, rfl, rfl, rfl, (by first | rfl | (simp only [zlen, zsum, Nat.zero_mul, Int.add_zero, Int.sub_zero, List.nil_append, markG]; rfl))⟩ ?_
  rintro m τ ⟨d, r, e, s, h1, h2, rfl, rfl, rfl⟩
  have hy : a.length = d.length + r.length := by rw [h1]; simp
  have hy2 : b.length = d.length + s.length := by rw [h2]; simp
  refine Nm.mk lenC ?_
  cases r with
  | nil =>
    obtain rfl : s = [] := by
      cases s with
      | nil => rfl
      | cons y s => simp at hy hy2; omega
    refine Br.neg (by simp at * <;> omega) ?_
    (repeat' ((conv => whnf); first | refine stp ?_ ))
    refine Vs.Fin.mk (WkR.eq ?_) (.refl _)
    rw [decide_eq_true (h1.trans h2.symm)]
  | cons x r =>
    obtain ⟨y, s, rfl⟩ : ∃ y s', s = y :: s' := by
      cases s with
      | nil => simp at hy hy2; omega
      | cons y s' => exact ⟨y, s', rfl⟩
    simp at hy hy2
    refine Br.pos (by simp <;> omega) ?_
    by_cases hxy : x = y
    · subst hxy
      (repeat' ((conv => whnf); first | refine stp ?_ | refine El.mk (getH h1 rfl) ?_ | refine El.mk (getH h2 rfl) ?_ | refine Brsself ?_ | refine Cl.pre (by simp only [shcLL_ints, shcLL_byts, shcLL_strs, Adve.shcs, Fetc.shcs, Gran.shcs, Mani.shcs, Name.shcs, Read.shcs, Segm.shcs]; rfl) ?_))
      refine Nx.intro r.length (by simp) _ (WkS.weak _ _) ⟨d ++ [x], r, d ++ [x], s, by simp [h1], by simp [h2], rfl, rfl, ?_⟩
      rw [len1]; rfl
    · have hne : a ≠ b := by rw [h1, h2]; exact cons_ne hxy
      (repeat' ((conv => whnf); first | refine stp ?_ | refine El.mk (getH h1 rfl) ?_ | refine El.mk (getH h2 rfl) ?_ | refine Cl.pre (by simp only [shcLL_ints, shcLL_byts, shcLL_strs, Adve.shcs, Fetc.shcs, Gran.shcs, Mani.shcs, Name.shcs, Read.shcs, Segm.shcs]; rfl) ?_))
      refine Br.mk (fun h => ?_) (fun h => ?_)
      · (repeat' ((conv => whnf); first | refine stp ?_ ))
        refine Vs.Fin.mk (WkR.eq ?_) (.refl _)
        rw [decide_eq_false hne]
      · exact absurd (eqS h) hxy
set_option maxRecDepth 20000 in
set_option maxHeartbeats 16000000 in
theorem eq_Name (a b : Name) (ha : a.parts.length ≤ 1099511627776) (hb : b.parts.length ≤ 1099511627776) : FO 99 [A (Name.c false a), A (Name.c false b)] [A (Name.c false a), A (Name.c false b)] (B (decide (a = b))) := by
  refine fok envOk mixed is99 ⟨rfl, rfl, ?_⟩
  (repeat' ((conv => whnf); first | refine stp ?_ | refine Cl.mk (eq_Texts a.parts b.parts ha hb) ?_ | refine Cl.pre (by simp only [shcLL_ints, shcLL_byts, shcLL_strs, Adve.shcs, Fetc.shcs, Gran.shcs, Mani.shcs, Name.shcs, Read.shcs, Segm.shcs]; rfl) ?_))
  refine Vs.Fin.mk (WkR.eq ?_) (.refl _)
  rw [show decide (a = b) = decide (a.parts = b.parts) from decide_eq_decide.2 ⟨fun h => by rw [h], nm_ext⟩]
theorem is137 : FI 137 Tryz.f137 := ⟨⟨Tryz.f137, Tryz.func137, rfl, rfl, rfl, rfl⟩, rfl⟩
set_option maxRecDepth 20000 in
set_option maxHeartbeats 16000000 in
theorem eq_Names (a b : List Name) (ha : a.length + sumN Name.size a ≤ 1099511627776) (hb : b.length + sumN Name.size b ≤ 1099511627776) : FO 137 [O (sl false 1 (a.map (Name.c false))), O (sl false 1 (b.map (Name.c false)))] [O (sl false 1 (a.map (Name.c false))), O (sl false 1 (b.map (Name.c false)))] (B (decide (a = b))) := by
  refine fok envOk mixed is137 ⟨rfl, rfl, ?_⟩
  refine Nm.mk lenC ?_
  refine Nm.mk lenC ?_
  (conv => whnf)
  refine Br.mk (fun h => ?_) (fun h => ?_)
  · have hne : a ≠ b := by rintro rfl; simp at h
    (repeat' ((conv => whnf); first | refine stp ?_ ))
    refine Vs.Fin.mk (WkR.eq ?_) (.refl _)
    rw [decide_eq_false hne]
  have hl : a.length = b.length := by simp at h; omega
  refine Lp.mk [.sl 0, .sl 1, .sl 5] (fun m σ => ∃ d r e s, a = d ++ r ∧ b = e ++ s ∧ m = r.length ∧ d = e ∧ σ = [Sa 0 (O (sl false 1 (a.map (Name.c false)))), Sa 1 (O (sl false 1 (b.map (Name.c false)))), Sa 5 (I d.length)]) (a.length) _ (WkS.weak _ _) ⟨[], a, [], b, rfl, rfl, rfl, rfl, (by first | rfl | (simp only [zlen, zsum, Nat.zero_mul, Int.add_zero, Int.sub_zero, List.nil_append, markG]; rfl))⟩ ?_
  rintro m τ ⟨d, r, e, s, h1, h2, rfl, rfl, rfl⟩
  have hy : a.length = d.length + r.length := by rw [h1]; simp
  have hy2 : b.length = d.length + s.length := by rw [h2]; simp
  refine Nm.mk lenC ?_
  cases r with
  | nil =>
    obtain rfl : s = [] := by
      cases s with
      | nil => rfl
      | cons y s => simp at hy hy2; omega
    refine Br.neg (by simp at * <;> omega) ?_
    (repeat' ((conv => whnf); first | refine stp ?_ ))
    refine Vs.Fin.mk (WkR.eq ?_) (.refl _)
    rw [decide_eq_true (h1.trans h2.symm)]
  | cons x r =>
    obtain ⟨y, s, rfl⟩ : ∃ y s', s = y :: s' := by
      cases s with
      | nil => simp at hy hy2; omega
      | cons y s' => exact ⟨y, s', rfl⟩
    simp at hy hy2
    refine Br.pos (by simp <;> omega) ?_
    have hx := nm_in ha (x := x) (by rw [h1]; simp)
    have hyy := nm_in hb (x := y) (by rw [h2]; simp)
    have hxl := strs_len hx
    have hyl := strs_len hyy
    by_cases hxy : x = y
    · subst hxy
      (repeat' ((conv => whnf); first | refine stp ?_ | refine El.mk (getH h1 rfl) ?_ | refine El.mk (getH h2 rfl) ?_ | refine Cl.mk (same_Name x (by omega)) ?_ | refine Cl.pre (by simp only [shcLL_ints, shcLL_byts, shcLL_strs, Adve.shcs, Fetc.shcs, Gran.shcs, Mani.shcs, Name.shcs, Read.shcs, Segm.shcs]; rfl) ?_))
      refine Nx.intro r.length (by simp) _ (WkS.weak _ _) ⟨d ++ [x], r, d ++ [x], s, by simp [h1], by simp [h2], rfl, rfl, ?_⟩
      rw [len1]; rfl
    · have hne : a ≠ b := by rw [h1, h2]; exact cons_ne hxy
      have q := eq_Name x y (by omega) (by omega)
      rw [decide_eq_false hxy] at q
      (repeat' ((conv => whnf); first | refine stp ?_ | refine El.mk (getH h1 rfl) ?_ | refine El.mk (getH h2 rfl) ?_ | refine Cl.mk (q) ?_ | refine Cl.pre (by simp only [shcLL_ints, shcLL_byts, shcLL_strs, Adve.shcs, Fetc.shcs, Gran.shcs, Mani.shcs, Name.shcs, Read.shcs, Segm.shcs]; rfl) ?_))
      refine Vs.Fin.mk (WkR.eq ?_) (.refl _)
      rw [decide_eq_false hne]
theorem is147 : FI 147 Tryz.f147 := ⟨⟨Tryz.f147, Tryz.func147, rfl, rfl, rfl, rfl⟩, rfl⟩
set_option maxRecDepth 20000 in
set_option maxHeartbeats 16000000 in
theorem EqualFunc_Name (a b : List Name) (g : Nat) (ha : a.length ≤ 1099511627776) (hb : b.length ≤ 1099511627776) (hg : ∀ x ∈ a, ∀ y, FO g [A (Name.c false x), A (Name.c false y)] [A (Name.c false x), A (Name.c false y)] (B (decide (x = y)))) : FO 147 [O (sl false 1 (a.map (Name.c false))), O (sl false 1 (b.map (Name.c false))), O (.clo g [])] [O (sl false 1 (a.map (Name.c false))), O (sl false 1 (b.map (Name.c false))), O (.clo g [])] (B (decide (a = b))) := by
  refine fok envOk mixed is147 ⟨rfl, rfl, ?_⟩
  refine Nm.mk lenC ?_
  refine Nm.mk lenC ?_
  (conv => whnf)
  refine Br.mk (fun h => ?_) (fun h => ?_)
  · have hne : a ≠ b := by rintro rfl; simp at h
    (repeat' ((conv => whnf); first | refine stp ?_ ))
    refine Vs.Fin.mk (WkR.eq ?_) (.refl _)
    rw [decide_eq_false hne]
  have hl : a.length = b.length := by simp at h; omega
  refine Nm.mk lenC ?_
  refine Lp.mk [.sl 1, .sl 2, .sl 15, .sl 16, .sl 17] (fun m σ => ∃ d r e s, a = d ++ r ∧ b = e ++ s ∧ m = r.length ∧ d = e ∧ σ = [Sa 1 (O (sl false 1 (b.map (Name.c false)))), Sa 2 (O (.clo g [])), Sa 15 (O (sl false 1 (a.map (Name.c false)))), Sa 16 (I a.length), Sa 17 (I d.length)]) (a.length) _ (WkS.weak _ _) ⟨[], a, [], b, rfl, rfl, rfl, rfl, (by first | rfl | (simp only [zlen, zsum, Nat.zero_mul, Int.add_zero, Int.sub_zero, List.nil_append, markG]; rfl))⟩ ?_
  rintro m τ ⟨d, r, e, s, h1, h2, rfl, rfl, rfl⟩
  have hy : a.length = d.length + r.length := by rw [h1]; simp
  have hy2 : b.length = d.length + s.length := by rw [h2]; simp
  cases r with
  | nil =>
    obtain rfl : s = [] := by
      cases s with
      | nil => rfl
      | cons y s => simp at hy hy2; omega
    refine Br.neg (by simp at * <;> omega) ?_
    (repeat' ((conv => whnf); first | refine stp ?_ ))
    refine Vs.Fin.mk (WkR.eq ?_) (.refl _)
    rw [decide_eq_true (h1.trans h2.symm)]
  | cons x r =>
    obtain ⟨y, s, rfl⟩ : ∃ y s', s = y :: s' := by
      cases s with
      | nil => simp at hy hy2; omega
      | cons y s' => exact ⟨y, s', rfl⟩
    simp at hy hy2
    refine Br.pos (by simp <;> omega) ?_
    have q0 := hg x (by rw [h1]; simp) x
    rw [decide_eq_true rfl] at q0
    by_cases hxy : x = y
    · subst hxy
      (repeat' ((conv => whnf); first | refine stp ?_ | refine El.mk (getH h1 rfl) ?_ | refine El.mk (getH h2 rfl) ?_ | refine Cl.mk (q0) ?_ | refine Cl.pre (by simp only [shcLL_ints, shcLL_byts, shcLL_strs, Adve.shcs, Fetc.shcs, Gran.shcs, Mani.shcs, Name.shcs, Read.shcs, Segm.shcs]; rfl) ?_))
      refine Nx.intro r.length (by simp) _ (WkS.weak _ _) ⟨d ++ [x], r, d ++ [x], s, by simp [h1], by simp [h2], rfl, rfl, ?_⟩
      rw [len1]; rfl
    · have hne : a ≠ b := by rw [h1, h2]; exact cons_ne hxy
      have q := hg x (by rw [h1]; simp) y
      rw [decide_eq_false hxy] at q
      (repeat' ((conv => whnf); first | refine stp ?_ | refine El.mk (getH h1 rfl) ?_ | refine El.mk (getH h2 rfl) ?_ | refine Cl.mk (q) ?_ | refine Cl.pre (by simp only [shcLL_ints, shcLL_byts, shcLL_strs, Adve.shcs, Fetc.shcs, Gran.shcs, Mani.shcs, Name.shcs, Read.shcs, Segm.shcs]; rfl) ?_))
      refine Vs.Fin.mk (WkR.eq ?_) (.refl _)
      rw [decide_eq_false hne]
theorem is57 : FI 57 Tryz.f57 := ⟨⟨Tryz.f57, Tryz.func57, rfl, rfl, rfl, rfl⟩, rfl⟩
set_option maxRecDepth 20000 in
set_option maxHeartbeats 16000000 in
theorem eq_Db (a b : List Adve) (ha : a.length + sumN Adve.size a ≤ 1099511627776) (hb : b.length + sumN Adve.size b ≤ 1099511627776) : FO 57 [Al a, Al b] [Al a, Al b] (B (decide (a = b))) := by
  refine fok envOk mixed is57 ⟨rfl, rfl, ?_⟩
  refine Nm.mk lenC ?_
  refine Nm.mk lenC ?_
  (conv => whnf)
  refine Br.mk (fun h => ?_) (fun h => ?_)
  · have hne : a ≠ b := by rintro rfl; simp at h
    (repeat' ((conv => whnf); first | refine stp ?_ ))
    refine Vs.Fin.mk (WkR.eq ?_) (.refl _)
    rw [decide_eq_false hne]
  have hl : a.length = b.length := by simp at h; omega
  refine Lp.mk [.sl 0, .sl 1, .sl 5] (fun m σ => ∃ d r e s, a = d ++ r ∧ b = e ++ s ∧ m = r.length ∧ d = e ∧ σ = [Sa 0 (Al a), Sa 1 (Al b), Sa 5 (I d.length)]) (a.length) _ (WkS.weak _ _) ⟨[], a, [], b, rfl, rfl, rfl, rfl, (by first | rfl | (simp only [zlen, zsum, Nat.zero_mul, Int.add_zero, Int.sub_zero, List.nil_append, markG]; rfl))⟩ ?_
  rintro m τ ⟨d, r, e, s, h1, h2, rfl, rfl, rfl⟩
  have hy : a.length = d.length + r.length := by rw [h1]; simp
  have hy2 : b.length = d.length + s.length := by rw [h2]; simp
  refine Nm.mk lenC ?_
  cases r with
  | nil =>
    obtain rfl : s = [] := by
      cases s with
      | nil => rfl
      | cons y s => simp at hy hy2; omega
    refine Br.neg (by simp at * <;> omega) ?_
    (repeat' ((conv => whnf); first | refine stp ?_ ))
    refine Vs.Fin.mk (WkR.eq ?_) (.refl _)
    rw [decide_eq_true (h1.trans h2.symm)]
  | cons x r =>
    obtain ⟨y, s, rfl⟩ : ∃ y s', s = y :: s' := by
      cases s with
      | nil => simp at hy hy2; omega
      | cons y s' => exact ⟨y, s', rfl⟩
    simp at hy hy2
    refine Br.pos (by simp <;> omega) ?_
    have hx := ad_in ha (x := x) (by rw [h1]; simp)
    have hyy := ad_in hb (x := y) (by rw [h2]; simp)
    have hx2 : x.nbs.length + (x.prefs.length + sumN Name.size x.prefs) ≤ 1099511627776 := hx
    have hy3 : y.nbs.length + (y.prefs.length + sumN Name.size y.prefs) ≤ 1099511627776 := hyy
    have q1 := same_Ints x.nbs (by omega)
    have q2 := eq_Names x.prefs x.prefs (by omega) (by omega)
    rw [decide_eq_true rfl] at q2
    by_cases hxy : x = y
    · subst hxy
      (repeat' ((conv => whnf); first | refine stp ?_ | refine El.mk (getH h1 rfl) ?_ | refine El.mk (getH h2 rfl) ?_ | refine Cl.mk (q1) ?_ | refine Cl.mk (q2) ?_ | refine Cl.pre (by simp only [shcLL_ints, shcLL_byts, shcLL_strs, Adve.shcs, Fetc.shcs, Gran.shcs, Mani.shcs, Name.shcs, Read.shcs, Segm.shcs]; rfl) ?_))
      refine Nx.intro r.length (by simp) _ (WkS.weak _ _) ⟨d ++ [x], r, d ++ [x], s, by simp [h1], by simp [h2], rfl, rfl, ?_⟩
      rw [len1]; rfl
    · have hne : a ≠ b := by rw [h1, h2]; exact cons_ne hxy
      (repeat' ((conv => whnf); first | refine stp ?_ | refine Br.mk (fun _ => ?_) (fun _ => ?_) | refine El.mk (getH h1 rfl) ?_ | refine El.mk (getH h2 rfl) ?_ | refine Cl.mk (eq_Ints x.nbs y.nbs (by omega) (by omega)) ?_ | refine Cl.mk (eq_Names x.prefs y.prefs (by omega) (by omega)) ?_ | refine Cl.pre (by simp only [shcLL_ints, shcLL_byts, shcLL_strs, Adve.shcs, Fetc.shcs, Gran.shcs, Mani.shcs, Name.shcs, Read.shcs, Segm.shcs]; rfl) ?_))
      all_goals first
        | (refine Vs.Fin.mk (WkR.eq ?_) (.refl _); rw [decide_eq_false hne])
        | (exfalso; exact hxy (ad_ext (by simp_all) (by simp_all) (by simp_all) (by simp_all)))
theorem is145 : FI 145 Tryz.f145 := ⟨⟨Tryz.f145, Tryz.func145, rfl, rfl, rfl, rfl⟩, rfl⟩
set_option maxRecDepth 20000 in
set_option maxHeartbeats 16000000 in
theorem i_EqualDb_1 (x y : Adve) (hx : Adve.size x ≤ 1099511627776) (hy : Adve.size y ≤ 1099511627776) : FO 145 [A (Adve.c false x), A (Adve.c false y)] [A (Adve.c false x), A (Adve.c false y)] (B (decide (x = y))) := by
  refine fok envOk mixed is145 ⟨rfl, rfl, ?_⟩
  have hx2 : x.nbs.length + (x.prefs.length + sumN Name.size x.prefs) ≤ 1099511627776 := hx
  have hy3 : y.nbs.length + (y.prefs.length + sumN Name.size y.prefs) ≤ 1099511627776 := hy
  have q2 := EqualFunc_Name x.prefs y.prefs 148 (by omega) (by omega) (fun n hn m => i_EqualNames n m (by
    have h1 := nm_in (z := 1099511627776) (by omega) hn
    have h2 := strs_len h1
    omega))
  (repeat' ((conv => whnf); first | refine stp ?_ | refine Br.mk (fun _ => ?_) (fun _ => ?_) | refine Cl.mk (Equal_int x.nbs y.nbs (by omega) (by omega)) ?_ | refine Cl.mk (q2) ?_ | refine Cl.pre (by simp only [shcLL_ints, shcLL_byts, shcLL_strs, Adve.shcs, Fetc.shcs, Gran.shcs, Mani.shcs, Name.shcs, Read.shcs, Segm.shcs]; rfl) ?_))
  all_goals
    refine Vs.Fin.mk (WkR.eq (congrArg (fun b => [cB b]) ?_)) (.refl _)
    by_cases hxy : x = y
    · subst hxy; simp_all
    · rw [decide_eq_false hxy]
      all_goals (rw [decide_eq_false_iff_not]; intro h; exact hxy (ad_ext (by simp_all) (by simp_all) (by simp_all) (by simp_all)))
theorem is144 : FI 144 Tryz.f144 := ⟨⟨Tryz.f144, Tryz.func144, rfl, rfl, rfl, rfl⟩, rfl⟩
set_option maxRecDepth 20000 in
set_option maxHeartbeats 16000000 in
theorem EqualFunc_Adve (a b : List Adve) (g : Nat) (ha : a.length ≤ 1099511627776) (hb : b.length ≤ 1099511627776) (hg : ∀ x ∈ a, ∀ y ∈ b, FO g [A (Adve.c false x), A (Adve.c false y)] [A (Adve.c false x), A (Adve.c false y)] (B (decide (x = y)))) : FO 144 [Al a, Al b, O (.clo g [])] [Al a, Al b, O (.clo g [])] (B (decide (a = b))) := by
  refine fok envOk mixed is144 ⟨rfl, rfl, ?_⟩
  refine Nm.mk lenC ?_
  refine Nm.mk lenC ?_
  (conv => whnf)
  refine Br.mk (fun h => ?_) (fun h => ?_)
  · have hne : a ≠ b := by rintro rfl; simp at h
    (repeat' ((conv => whnf); first | refine stp ?_ ))
    refine Vs.Fin.mk (WkR.eq ?_) (.refl _)
    rw [decide_eq_false hne]
  have hl : a.length = b.length := by simp at h; omega
  refine Nm.mk lenC ?_
  refine Lp.mk [.sl 1, .sl 2, .sl 15, .sl 16, .sl 17] (fun m σ => ∃ d r e s, a = d ++ r ∧ b = e ++ s ∧ m = r.length ∧ d = e ∧ σ = [Sa 1 (Al b), Sa 2 (O (.clo g [])), Sa 15 (Al a), Sa 16 (I a.length), Sa 17 (I d.length)]) (a.length) _ (WkS.weak _ _) ⟨[], a, [], b, rfl, rfl, rfl, rfl, (by first | rfl | (simp only [zlen, zsum, Nat.zero_mul, Int.add_zero, Int.sub_zero, List.nil_append, markG]; rfl))⟩ ?_
  rintro m τ ⟨d, r, e, s, h1, h2, rfl, rfl, rfl⟩
  have hy : a.length = d.length + r.length := by rw [h1]; simp
  have hy2 : b.length = d.length + s.length := by rw [h2]; simp
  cases r with
  | nil =>
    obtain rfl : s = [] := by
      cases s with
      | nil => rfl
      | cons y s => simp at hy hy2; omega
    refine Br.neg (by simp at * <;> omega) ?_
    (repeat' ((conv => whnf); first | refine stp ?_ ))
    refine Vs.Fin.mk (WkR.eq ?_) (.refl _)
    rw [decide_eq_true (h1.trans h2.symm)]
  | cons x r =>
    obtain ⟨y, s, rfl⟩ : ∃ y s', s = y :: s' := by
      cases s with
      | nil => simp at hy hy2; omega
      | cons y s' => exact ⟨y, s', rfl⟩
    simp at hy hy2
    refine Br.pos (by simp <;> omega) ?_
    have q0 : x = y → FO g [A (Adve.c false x), A (Adve.c false y)] [A (Adve.c false x), A (Adve.c false y)] (B true) := fun e => by
      have := hg x (by rw [h1]; simp) y (by rw [h2]; simp)
      rwa [decide_eq_true e] at this
    by_cases hxy : x = y
    · subst hxy
      (repeat' ((conv => whnf); first | refine stp ?_ | refine El.mk (getH h1 rfl) ?_ | refine El.mk (getH h2 rfl) ?_ | refine Cl.mk (q0 rfl) ?_ | refine Cl.pre (by simp only [shcLL_ints, shcLL_byts, shcLL_strs, Adve.shcs, Fetc.shcs, Gran.shcs, Mani.shcs, Name.shcs, Read.shcs, Segm.shcs]; rfl) ?_))
      refine Nx.intro r.length (by simp) _ (WkS.weak _ _) ⟨d ++ [x], r, d ++ [x], s, by simp [h1], by simp [h2], rfl, rfl, ?_⟩
      rw [len1]; rfl
    · have hne : a ≠ b := by rw [h1, h2]; exact cons_ne hxy
      have q := hg x (by rw [h1]; simp) y (by rw [h2]; simp)
      rw [decide_eq_false hxy] at q
      (repeat' ((conv => whnf); first | refine stp ?_ | refine El.mk (getH h1 rfl) ?_ | refine El.mk (getH h2 rfl) ?_ | refine Cl.mk (q) ?_ | refine Cl.pre (by simp only [shcLL_ints, shcLL_byts, shcLL_strs, Adve.shcs, Fetc.shcs, Gran.shcs, Mani.shcs, Name.shcs, Read.shcs, Segm.shcs]; rfl) ?_))
      refine Vs.Fin.mk (WkR.eq ?_) (.refl _)
      rw [decide_eq_false hne]
theorem is61 : FI 61 Tryz.f61 := ⟨⟨Tryz.f61, Tryz.func61, rfl, rfl, rfl, rfl⟩, rfl⟩
set_option maxRecDepth 20000 in
set_option maxHeartbeats 16000000 in
theorem i_EqualDb (a b : List Adve) (ha : a.length + sumN Adve.size a ≤ 1099511627776) (hb : b.length + sumN Adve.size b ≤ 1099511627776) : FO 61 [Al a, Al b] [Al a, Al b] (B (decide (a = b))) := by
  refine fok envOk mixed is61 ⟨rfl, rfl, ?_⟩
  have q := EqualFunc_Adve a b 145 (by omega) (by omega) (fun x hx y hy => i_EqualDb_1 x y (ad_in ha hx) (ad_in hb hy))
  (repeat' ((conv => whnf); first | refine stp ?_ | refine Cl.mk (q) ?_ | refine Cl.pre (by simp only [shcLL_ints, shcLL_byts, shcLL_strs, Adve.shcs, Fetc.shcs, Gran.shcs, Mani.shcs, Name.shcs, Read.shcs, Segm.shcs]; rfl) ?_))
  exact Vs.Fin.mk (WkR.refl _) (.refl _)
end Go.Proofs.YtigkmijoefibiaaGreat
