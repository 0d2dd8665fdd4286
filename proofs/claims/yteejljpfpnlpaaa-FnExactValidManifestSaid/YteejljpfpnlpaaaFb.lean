/- Contracts of functions of the program: no statement of the seat is proved here. Each under the conditions that stand in it. -/
import Derived.Test.YteejljpfpnlpaaaFa
set_option linter.all false
namespace Go.Proofs.Yteejljpfpnlpaaa
open Go.Vs Go.Proofs
structure Mani where
  seg : Int
  len : Int
  dig : List Int
  deriving DecidableEq
abbrev Mani.c (o : Bool) (p : Mani) : List AV := [cI p.seg, cI p.len, cIs o p.dig]
theorem Mani.shc (p : Mani) : shcL (p.c true) = p.c false := by simp [Mani.c, shcL, Vs.shc, shcLL_ints]
def okDig (x : Int) : Bool := inR x 0 2147483646
def vMani (p : Mani) : Bool := inR p.seg 1 60 && inR p.len 0 (p.seg * 8) && decide ((p.dig.length : Int) = cdiv p.len p.seg) && p.dig.all okDig
theorem is15 : FI 15 Try.f15 := ⟨⟨Try.f15, Try.func15, rfl, rfl, rfl, rfl⟩, rfl⟩
set_option maxRecDepth 20000 in
theorem s_ValidManifest (p : Mani) (hl : p.dig.length ≤ 1048576) : FO 15 [A (p.c false)] [A (p.c false)] (B (vMani p)) := by
  refine fok envOk mixed is15 ⟨rfl, rfl, ?_⟩
  obtain ⟨seg, len, dig⟩ := p
  (repeat' ((conv => whnf); first | refine Br.tt ?_ | refine Br.ff ?_ | refine Br.pos (by assumption) ?_ | refine Br.neg (by assumption) ?_ | refine Br.bself ?_ | refine Br.dself ?_ | refine Br.mk (fun _ => ?_) (fun _ => ?_) | refine Nm.mk lenC ?_ | refine Nm.mk (wrapI (by (first | omega | (simp [inR_t, inR_f] at *; omega))) (by (first | omega | (simp [inR_t, inR_f] at *; omega)))) ?_ | refine Nm.mk (wrapQ (by (first | omega | (simp [inR_t, inR_f] at *; omega))) (by (first | omega | (simp [inR_t, inR_f] at *; omega))) (by (first | omega | (simp [inR_t, inR_f] at *; omega)))) ?_ | refine Nm.mk (tmodN (by (first | omega | (simp [inR_t, inR_f] at *; omega)))) ?_ | refine Rq.mk (by first | (simp [dOwnL, dOwn] <;> fail) | (first | omega | (simp [inR_t, inR_f] at *; omega))) ?_ | refine And.intro (by kernel_rfl) ?_ | refine Cl.mk (s_l1In _ _ _) ?_ | refine Cl.eq (s_l1In _ _ _) (by first | rfl | (simp [shcLL_ints, shcLL_bytes, shcLL_strs, shcL, shc, firsts, capArgs, TyI.shape, aggShape]; done)) ?_ | refine Cl.mk (s_CeilDiv _ _) ?_ | refine Cl.eq (s_CeilDiv _ _) (by first | rfl | (simp [shcLL_ints, shcLL_bytes, shcLL_strs, shcL, shc, firsts, capArgs, TyI.shape, aggShape]; done)) ?_))
  all_goals (try (refine Vs.Fin.mk (WkR.eq ?_) (.refl _); first | rfl | (simp_all [vMani, inR_t]; done) | (simp_all [vMani, inR_t]; omega) | grind | grind [vMani, inR_t]))
  refine Lp.mk [.bx 1, .sl 1, .sl 3] (fun m σ => ∃ d r, dig = d ++ r ∧ m = r.length ∧ d.all okDig = true ∧ σ = [Bx 1 (Mani.c false ⟨seg, len, dig⟩), Pt 1, Sa 3 (I d.length)]) dig.length _ (WkS.weak _ _) ⟨[], dig, rfl, rfl, rfl, rfl⟩ ?_
  rintro m τ ⟨d, r, rfl, rfl, hok, rfl⟩
  refine Nm.mk lenC ?_
  cases r with
  | nil =>
    refine Br.neg (by simp) ?_
    (repeat' ((conv => whnf); first | refine Br.tt ?_ | refine Br.ff ?_ | refine Br.pos (by assumption) ?_ | refine Br.neg (by assumption) ?_ | refine Br.bself ?_ | refine Br.dself ?_ | refine Br.mk (fun _ => ?_) (fun _ => ?_) | refine Nm.mk lenC ?_ | refine Nm.mk (wrapI (by (first | omega | (simp [inR_t, inR_f] at *; omega))) (by (first | omega | (simp [inR_t, inR_f] at *; omega)))) ?_ | refine Nm.mk (wrapQ (by (first | omega | (simp [inR_t, inR_f] at *; omega))) (by (first | omega | (simp [inR_t, inR_f] at *; omega))) (by (first | omega | (simp [inR_t, inR_f] at *; omega)))) ?_ | refine Nm.mk (tmodN (by (first | omega | (simp [inR_t, inR_f] at *; omega)))) ?_ | refine Rq.mk (by first | (simp [dOwnL, dOwn] <;> fail) | (first | omega | (simp [inR_t, inR_f] at *; omega))) ?_ | refine And.intro (by kernel_rfl) ?_ ))
    all_goals (try (refine Vs.Fin.mk (WkR.eq ?_) (.refl _); first | rfl | (simp_all [vMani, inR_t]; done) | (simp_all [vMani, inR_t]; omega) | grind | grind [vMani, inR_t]))
  | cons x r =>
    refine Br.pos (by simp; omega) ?_
    refine Rq.mk ⟨by omega, by simp; omega⟩ ?_
    refine El.mk (getA rfl) ?_
    (repeat' ((conv => whnf); first | refine Br.tt ?_ | refine Br.ff ?_ | refine Br.pos (by assumption) ?_ | refine Br.neg (by assumption) ?_ | refine Br.bself ?_ | refine Br.dself ?_ | refine Br.mk (fun _ => ?_) (fun _ => ?_) | refine Nm.mk lenC ?_ | refine Nm.mk (wrapI (by (first | omega | (simp [inR_t, inR_f] at *; omega))) (by (first | omega | (simp [inR_t, inR_f] at *; omega)))) ?_ | refine Nm.mk (wrapQ (by (first | omega | (simp [inR_t, inR_f] at *; omega))) (by (first | omega | (simp [inR_t, inR_f] at *; omega))) (by (first | omega | (simp [inR_t, inR_f] at *; omega)))) ?_ | refine Nm.mk (tmodN (by (first | omega | (simp [inR_t, inR_f] at *; omega)))) ?_ | refine Rq.mk (by first | (simp [dOwnL, dOwn] <;> fail) | (first | omega | (simp [inR_t, inR_f] at *; omega))) ?_ | refine And.intro (by kernel_rfl) ?_ | refine Cl.mk (s_l1In _ _ _) ?_ | refine Cl.eq (s_l1In _ _ _) (by first | rfl | (simp [shcLL_ints, shcLL_bytes, shcLL_strs, shcL, shc, firsts, capArgs, TyI.shape, aggShape]; done)) ?_))
    · all_goals (try (refine Vs.Fin.mk (WkR.eq ?_) (.refl _); first | rfl | (simp_all [vMani, okDig]; done) | (simp_all [vMani, okDig]; omega) | grind | grind [vMani, okDig]))
    · refine Nx.intro r.length (by simp) _ (WkS.weak _ _) ⟨d ++ [x], r, by simp, rfl, by simp_all [okDig], ?_⟩
      rw [len1]; rfl
/-- The first place at which p holds; -1 where none. -/
def findI {α : Type} (p : α → Bool) : List α → Int → Int
  | [], _ => -1
  | x :: l, i => if p x then i else findI p l (i + 1)
theorem findI_none {α : Type} {p : α → Bool} {l : List α} (h : l.any p = false) (i : Int) : findI p l i = -1 := by
  induction l generalizing i with
  | nil => rfl
  | cons x l ih => simp at h; simp [findI, h.1]; exact ih (by simpa using h.2) _
theorem findI_at {α : Type} {p : α → Bool} {d r : List α} {x : α} (h : d.any p = false) (hx : p x = true) (i : Int) : findI p (d ++ x :: r) i = i + d.length := by
  induction d generalizing i with
  | nil => simp [findI, hx]
  | cons y d ih => simp at h; simp [findI, h.1]; rw [ih (by simpa using h.2)]; omega
theorem findI_ge {α : Type} {p : α → Bool} (l : List α) (i : Int) (hi : 0 ≤ i) : decide (findI p l i ≥ 0) = l.any p := by
  induction l generalizing i with
  | nil => rfl
  | cons x l ih =>
    simp only [findI, List.any_cons]
    split
    · simp_all
    · rename_i h
      rw [ih (i + 1) (by omega)]
      simp [h]
theorem is96 : FI 96 Try.f96 := ⟨⟨Try.f96, Try.func96, rfl, rfl, rfl, rfl⟩, rfl⟩
set_option maxRecDepth 20000 in
theorem IndexFunc_int {l : List Int} (hl : l.length ≤ 1099511627776) {g : Nat} {p : Int → Bool} (hg : ∀ x ∈ l, FO g [I x] [I x] (B (p x))) : FO 96 [Is false l, O (.clo g [])] [Is false l, O (.clo g [])] (I (findI p l 0)) := by
  refine fok envOk mixed is96 ⟨rfl, rfl, ?_⟩
  refine Nm.mk lenC ?_
  refine Lp.mk [.sl 0, .sl 1, .sl 7, .sl 8] (fun m σ => ∃ d r, l = d ++ r ∧ m = r.length ∧ d.any p = false ∧ σ = [Sa 0 (Is false l), Sa 1 (O (.clo g [])), Sa 7 (I l.length), Sa 8 (I d.length)]) l.length _ (WkS.weak _ _) ⟨[], l, rfl, rfl, rfl, rfl⟩ ?_
  rintro m τ ⟨d, r, rfl, rfl, hd, rfl⟩
  cases r with
  | nil =>
    refine Br.neg (by simp) ?_
    (repeat' ((conv => whnf); first | refine Br.tt ?_ | refine Br.ff ?_ | refine Br.pos (by assumption) ?_ | refine Br.neg (by assumption) ?_ | refine Br.bself ?_ | refine Br.dself ?_ | refine Br.mk (fun _ => ?_) (fun _ => ?_) | refine Nm.mk lenC ?_ | refine Nm.mk (wrapI (by (first | omega | (simp [inR_t, inR_f] at *; omega))) (by (first | omega | (simp [inR_t, inR_f] at *; omega)))) ?_ | refine Nm.mk (wrapQ (by (first | omega | (simp [inR_t, inR_f] at *; omega))) (by (first | omega | (simp [inR_t, inR_f] at *; omega))) (by (first | omega | (simp [inR_t, inR_f] at *; omega)))) ?_ | refine Nm.mk (tmodN (by (first | omega | (simp [inR_t, inR_f] at *; omega)))) ?_ | refine Rq.mk (by first | (simp [dOwnL, dOwn] <;> fail) | (first | omega | (simp [inR_t, inR_f] at *; omega))) ?_ | refine And.intro (by kernel_rfl) ?_ ))
    refine Vs.Fin.mk (WkR.eq ?_) (.refl _)
    rw [findI_none (by simpa using hd)]
  | cons x r =>
    refine Br.pos (by simp; omega) ?_
    refine Rq.mk ⟨by omega, by simp; omega⟩ ?_
    refine El.mk (getA rfl) ?_
    refine Cl.mk (hg x (by simp)) ?_
    refine Br.mk (fun h => ?_) (fun h => ?_)
    · (repeat' ((conv => whnf); first | refine Br.tt ?_ | refine Br.ff ?_ | refine Br.pos (by assumption) ?_ | refine Br.neg (by assumption) ?_ | refine Br.bself ?_ | refine Br.dself ?_ | refine Br.mk (fun _ => ?_) (fun _ => ?_) | refine Nm.mk lenC ?_ | refine Nm.mk (wrapI (by (first | omega | (simp [inR_t, inR_f] at *; omega))) (by (first | omega | (simp [inR_t, inR_f] at *; omega)))) ?_ | refine Nm.mk (wrapQ (by (first | omega | (simp [inR_t, inR_f] at *; omega))) (by (first | omega | (simp [inR_t, inR_f] at *; omega))) (by (first | omega | (simp [inR_t, inR_f] at *; omega)))) ?_ | refine Nm.mk (tmodN (by (first | omega | (simp [inR_t, inR_f] at *; omega)))) ?_ | refine Rq.mk (by first | (simp [dOwnL, dOwn] <;> fail) | (first | omega | (simp [inR_t, inR_f] at *; omega))) ?_ | refine And.intro (by kernel_rfl) ?_ ))
      refine Vs.Fin.mk (WkR.eq ?_) (.refl _)
      rw [findI_at hd h]; simp
    · refine Nm.mk (wrapI (by omega) (by simp at hl; omega)) ?_
      refine Nx.intro r.length (by simp) _ (WkS.weak _ _) ⟨d ++ [x], r, by simp, rfl, by simp_all, ?_⟩
      rw [len1]; rfl
theorem is64 : FI 64 Try.f64 := ⟨⟨Try.f64, Try.func64, rfl, rfl, rfl, rfl⟩, rfl⟩
set_option maxRecDepth 20000 in
theorem ContainsFunc_int {l : List Int} (hl : l.length ≤ 1099511627776) {g : Nat} {p : Int → Bool} (hg : ∀ x ∈ l, FO g [I x] [I x] (B (p x))) : FO 64 [Is false l, O (.clo g [])] [Is false l, O (.clo g [])] (B (l.any p)) := by
  refine fok envOk mixed is64 ⟨rfl, rfl, ?_⟩
  (repeat' ((conv => whnf); first | refine Br.tt ?_ | refine Br.ff ?_ | refine Br.pos (by assumption) ?_ | refine Br.neg (by assumption) ?_ | refine Br.bself ?_ | refine Br.dself ?_ | refine Br.mk (fun _ => ?_) (fun _ => ?_) | refine Nm.mk lenC ?_ | refine Nm.mk (wrapI (by (first | omega | (simp [inR_t, inR_f] at *; omega))) (by (first | omega | (simp [inR_t, inR_f] at *; omega)))) ?_ | refine Nm.mk (wrapQ (by (first | omega | (simp [inR_t, inR_f] at *; omega))) (by (first | omega | (simp [inR_t, inR_f] at *; omega))) (by (first | omega | (simp [inR_t, inR_f] at *; omega)))) ?_ | refine Nm.mk (tmodN (by (first | omega | (simp [inR_t, inR_f] at *; omega)))) ?_ | refine Rq.mk (by first | (simp [dOwnL, dOwn] <;> fail) | (first | omega | (simp [inR_t, inR_f] at *; omega))) ?_ | refine And.intro (by kernel_rfl) ?_ | refine Cl.mk (IndexFunc_int hl hg) ?_ | refine Cl.eq (IndexFunc_int hl hg) (by first | rfl | (simp [shcLL_ints, shcLL_bytes, shcLL_strs, shcL, shc, firsts, capArgs, TyI.shape, aggShape]; done)) ?_))
  refine Vs.Fin.mk (WkR.eq ?_) (.refl _)
  rw [← findI_ge l 0 (by omega)]
theorem is65 : FI 65 Try.f65 := ⟨⟨Try.f65, Try.func65, rfl, rfl, rfl, rfl⟩, rfl⟩
set_option maxRecDepth 20000 in
theorem i_ValidManifest_1 (x : Int) : FO 65 [I x] [I x] (B (!okDig x)) := by
  refine fok envOk mixed is65 ⟨rfl, rfl, ?_⟩
  (repeat' ((conv => whnf); first | refine Br.tt ?_ | refine Br.ff ?_ | refine Br.pos (by assumption) ?_ | refine Br.neg (by assumption) ?_ | refine Br.bself ?_ | refine Br.dself ?_ | refine Br.mk (fun _ => ?_) (fun _ => ?_) | refine Nm.mk lenC ?_ | refine Nm.mk (wrapI (by (first | omega | (simp [inR_t, inR_f] at *; omega))) (by (first | omega | (simp [inR_t, inR_f] at *; omega)))) ?_ | refine Nm.mk (wrapQ (by (first | omega | (simp [inR_t, inR_f] at *; omega))) (by (first | omega | (simp [inR_t, inR_f] at *; omega))) (by (first | omega | (simp [inR_t, inR_f] at *; omega)))) ?_ | refine Nm.mk (tmodN (by (first | omega | (simp [inR_t, inR_f] at *; omega)))) ?_ | refine Rq.mk (by first | (simp [dOwnL, dOwn] <;> fail) | (first | omega | (simp [inR_t, inR_f] at *; omega))) ?_ | refine And.intro (by kernel_rfl) ?_ | refine Cl.mk (i_InRange _ _ _) ?_ | refine Cl.eq (i_InRange _ _ _) (by first | rfl | (simp [shcLL_ints, shcLL_bytes, shcLL_strs, shcL, shc, firsts, capArgs, TyI.shape, aggShape]; done)) ?_))
  all_goals (try (refine Vs.Fin.mk (WkR.eq ?_) (.refl _); first | rfl | (simp_all [okDig]; done) | (simp_all [okDig]; omega) | grind | grind [okDig]))
theorem is17 : FI 17 Try.f17 := ⟨⟨Try.f17, Try.func17, rfl, rfl, rfl, rfl⟩, rfl⟩
set_option maxRecDepth 20000 in
theorem i_ValidManifest (p : Mani) (hl : p.dig.length ≤ 1048576) : FO 17 [A (p.c false)] [A (p.c false)] (B (vMani p)) := by
  refine fok envOk mixed is17 ⟨rfl, rfl, ?_⟩
  (repeat' ((conv => whnf); first | refine Br.tt ?_ | refine Br.ff ?_ | refine Br.pos (by assumption) ?_ | refine Br.neg (by assumption) ?_ | refine Br.bself ?_ | refine Br.dself ?_ | refine Br.mk (fun _ => ?_) (fun _ => ?_) | refine Nm.mk lenC ?_ | refine Nm.mk (wrapI (by (first | omega | (simp [inR_t, inR_f] at *; omega))) (by (first | omega | (simp [inR_t, inR_f] at *; omega)))) ?_ | refine Nm.mk (wrapQ (by (first | omega | (simp [inR_t, inR_f] at *; omega))) (by (first | omega | (simp [inR_t, inR_f] at *; omega))) (by (first | omega | (simp [inR_t, inR_f] at *; omega)))) ?_ | refine Nm.mk (tmodN (by (first | omega | (simp [inR_t, inR_f] at *; omega)))) ?_ | refine Rq.mk (by first | (simp [dOwnL, dOwn] <;> fail) | (first | omega | (simp [inR_t, inR_f] at *; omega))) ?_ | refine And.intro (by kernel_rfl) ?_ | refine Cl.mk (i_InRange _ _ _) ?_ | refine Cl.eq (i_InRange _ _ _) (by first | rfl | (simp [shcLL_ints, shcLL_bytes, shcLL_strs, shcL, shc, firsts, capArgs, TyI.shape, aggShape]; done)) ?_ | refine Cl.mk (i_CeilDiv _ _) ?_ | refine Cl.eq (i_CeilDiv _ _) (by first | rfl | (simp [shcLL_ints, shcLL_bytes, shcLL_strs, shcL, shc, firsts, capArgs, TyI.shape, aggShape]; done)) ?_ | refine Cl.mk (ContainsFunc_int (by omega) (fun x _ => i_ValidManifest_1 x)) ?_ | refine Cl.eq (ContainsFunc_int (by omega) (fun x _ => i_ValidManifest_1 x)) (by first | rfl | (simp [shcLL_ints, shcLL_bytes, shcLL_strs, shcL, shc, firsts, capArgs, TyI.shape, aggShape]; done)) ?_))
  all_goals (try (refine Vs.Fin.mk (WkR.eq ?_) (.refl _); first | rfl | (simp_all [vMani, inR_t, List.all_eq_not_any_not]; done) | (simp_all [vMani, inR_t, List.all_eq_not_any_not]; omega) | grind | grind [vMani, inR_t, List.all_eq_not_any_not]))
def Mani.size (p : Mani) : Nat := p.dig.length
def Mani.fits (p : Mani) : Prop := p.dig.length ≤ 9223372036854775807
theorem is14 : FI 14 Try.f14 := ⟨⟨Try.f14, Try.func14, rfl, rfl, rfl, rfl⟩, rfl⟩
set_option maxRecDepth 20000 in
theorem szManifest (p : Mani) (x : Int) (hx : 0 ≤ x ∧ x ≤ 1048576) (hl : p.fits) : FO 14 [A (p.c false), I x] [A (p.c false), I x] (I (szA p.size x)) := by
  refine fok envOk mixed is14 ⟨rfl, rfl, ?_⟩
  (repeat' ((conv => whnf); first | refine Br.tt ?_ | refine Br.ff ?_ | refine Br.pos (by assumption) ?_ | refine Br.neg (by assumption) ?_ | refine Br.bself ?_ | refine Br.dself ?_ | refine Br.mk (fun _ => ?_) (fun _ => ?_) | refine Nm.mk lenC ?_ | refine Nm.mk (wrapI (by (first | omega | (simp [inR_t, inR_f] at *; omega))) (by (first | omega | (simp [inR_t, inR_f] at *; omega)))) ?_ | refine Nm.mk (wrapQ (by (first | omega | (simp [inR_t, inR_f] at *; omega))) (by (first | omega | (simp [inR_t, inR_f] at *; omega))) (by (first | omega | (simp [inR_t, inR_f] at *; omega)))) ?_ | refine Nm.mk (tmodN (by (first | omega | (simp [inR_t, inR_f] at *; omega)))) ?_ | refine Rq.mk (by first | (simp [dOwnL, dOwn] <;> fail) | (first | omega | (simp [inR_t, inR_f] at *; omega))) ?_ | refine And.intro (by kernel_rfl) ?_ | refine Cl.mk (szIntS p.dig x hx hl) ?_ | refine Cl.eq (szIntS p.dig x hx hl) (by first | rfl | (simp [shcLL_ints, shcLL_bytes, shcLL_strs, shcL, shc, firsts, capArgs, TyI.shape, aggShape]; done)) ?_))
  · refine Vs.Fin.mk (WkR.eq ?_) (.refl _)
    rw [show szA p.size x = -1 from szA_no (by assumption)]
  · all_goals (try (refine Vs.Fin.mk (WkR.eq ?_) (.refl _); first | rfl | (simp_all [Mani.size, szA]; done) | (simp_all [Mani.size, szA]; omega) | grind | grind [Mani.size, szA]))
theorem is16 : FI 16 Try.f16 := ⟨⟨Try.f16, Try.func16, rfl, rfl, rfl, rfl⟩, rfl⟩
set_option maxRecDepth 20000 in
theorem toManifest (p : Mani) (hl : p.size ≤ 1048576) : FO 16 [A (p.c false)] [A (p.c false)] (A (p.c true)) := by
  refine fok envOk mixed is16 ⟨rfl, rfl, ?_⟩
  (repeat' ((conv => whnf); first | refine Br.tt ?_ | refine Br.ff ?_ | refine Br.pos (by assumption) ?_ | refine Br.neg (by assumption) ?_ | refine Br.bself ?_ | refine Br.dself ?_ | refine Br.mk (fun _ => ?_) (fun _ => ?_) | refine Nm.mk lenC ?_ | refine Nm.mk (wrapI (by (first | omega | (simp [inR_t, inR_f] at *; omega))) (by (first | omega | (simp [inR_t, inR_f] at *; omega)))) ?_ | refine Nm.mk (wrapQ (by (first | omega | (simp [inR_t, inR_f] at *; omega))) (by (first | omega | (simp [inR_t, inR_f] at *; omega))) (by (first | omega | (simp [inR_t, inR_f] at *; omega)))) ?_ | refine Nm.mk (tmodN (by (first | omega | (simp [inR_t, inR_f] at *; omega)))) ?_ | refine Rq.mk (by first | (simp [dOwnL, dOwn] <;> fail) | (first | omega | (simp [inR_t, inR_f] at *; omega))) ?_ | refine And.intro (by kernel_rfl) ?_ | refine Cl.mk (toIntS p.dig hl) ?_ | refine Cl.eq (toIntS p.dig hl) (by first | rfl | (simp [shcLL_ints, shcLL_bytes, shcLL_strs, shcL, shc, firsts, capArgs, TyI.shape, aggShape]; done)) ?_))
  all_goals (try (refine Vs.Fin.mk (WkR.eq ?_) (.refl _); first | rfl | (simp_all []; done) | (simp_all []; omega) | grind | grind []))
theorem Mani.eq_iff {p q : Mani} : p = q ↔ p.seg = q.seg ∧ p.len = q.len ∧ p.dig = q.dig := by cases p; cases q; simp
theorem is18 : FI 18 Try.f18 := ⟨⟨Try.f18, Try.func18, rfl, rfl, rfl, rfl⟩, rfl⟩
set_option maxRecDepth 20000 in
theorem eqManifest (p q : Mani) (hp : p.size ≤ 1048576) : FO 18 [A (p.c false), A (q.c false)] [A (p.c false), A (q.c false)] (B (decide (p = q))) := by
  refine fok envOk mixed is18 ⟨rfl, rfl, ?_⟩
  (repeat' ((conv => whnf); first | refine Br.tt ?_ | refine Br.ff ?_ | refine Br.pos (by assumption) ?_ | refine Br.neg (by assumption) ?_ | refine Br.bself ?_ | refine Br.dself ?_ | refine Br.mk (fun _ => ?_) (fun _ => ?_) | refine Nm.mk lenC ?_ | refine Nm.mk (wrapI (by (first | omega | (simp [inR_t, inR_f] at *; omega))) (by (first | omega | (simp [inR_t, inR_f] at *; omega)))) ?_ | refine Nm.mk (wrapQ (by (first | omega | (simp [inR_t, inR_f] at *; omega))) (by (first | omega | (simp [inR_t, inR_f] at *; omega))) (by (first | omega | (simp [inR_t, inR_f] at *; omega)))) ?_ | refine Nm.mk (tmodN (by (first | omega | (simp [inR_t, inR_f] at *; omega)))) ?_ | refine Rq.mk (by first | (simp [dOwnL, dOwn] <;> fail) | (first | omega | (simp [inR_t, inR_f] at *; omega))) ?_ | refine And.intro (by kernel_rfl) ?_ | refine Cl.mk (eqIntS p.dig q.dig (by simp [Mani.size] at hp; omega)) ?_ | refine Cl.eq (eqIntS p.dig q.dig (by simp [Mani.size] at hp; omega)) (by first | rfl | (simp [shcLL_ints, shcLL_bytes, shcLL_strs, shcL, shc, firsts, capArgs, TyI.shape, aggShape]; done)) ?_))
  all_goals (try (refine Vs.Fin.mk (WkR.eq ?_) (.refl _); first | rfl | (simp_all [Mani.eq_iff]; done) | (simp_all [Mani.eq_iff]; omega) | grind | grind [Mani.eq_iff]))
theorem is3 : FI 3 Try.f3 := ⟨⟨Try.f3, Try.func3, rfl, rfl, rfl, rfl⟩, rfl⟩
set_option maxRecDepth 20000 in
theorem exValidManifest (p : Mani) (hl : p.fits) : FO 3 [A (p.c false)] [A (p.c false)] (B true) := by
  refine fok envOk mixed is3 ⟨rfl, rfl, ?_⟩
  (repeat' ((conv => whnf); first | refine Br.tt ?_ | refine Br.ff ?_ | refine Br.pos (by assumption) ?_ | refine Br.neg (by assumption) ?_ | refine Br.bself ?_ | refine Br.dself ?_ | refine Br.mk (fun _ => ?_) (fun _ => ?_) | refine Nm.mk lenC ?_ | refine Nm.mk (wrapI (by (first | omega | (simp [inR_t, inR_f] at *; omega))) (by (first | omega | (simp [inR_t, inR_f] at *; omega)))) ?_ | refine Nm.mk (wrapQ (by (first | omega | (simp [inR_t, inR_f] at *; omega))) (by (first | omega | (simp [inR_t, inR_f] at *; omega))) (by (first | omega | (simp [inR_t, inR_f] at *; omega)))) ?_ | refine Nm.mk (tmodN (by (first | omega | (simp [inR_t, inR_f] at *; omega)))) ?_ | refine Rq.mk (by first | (simp [dOwnL, dOwn] <;> fail) | (first | omega | (simp [inR_t, inR_f] at *; omega))) ?_ | refine And.intro (by kernel_rfl) ?_ | refine Cl.mk (szManifest p 1048576 (by omega) hl) ?_ | refine Cl.eq (szManifest p 1048576 (by omega) hl) (by first | rfl | (simp [shcLL_ints, shcLL_bytes, shcLL_strs, shcL, shc, firsts, capArgs, TyI.shape, aggShape]; done)) ?_))
  all_goals (try (refine Vs.Fin.mk (WkR.eq ?_) (.refl _); first | rfl | (simp_all []; done) | (simp_all []; omega) | grind | grind []))
  have hs : p.size ≤ 1048576 := by have := szA_ok (n := p.size) (x := 1048576) (by assumption) (by omega); omega
  (repeat' ((conv => whnf); first | refine Br.tt ?_ | refine Br.ff ?_ | refine Br.pos (by assumption) ?_ | refine Br.neg (by assumption) ?_ | refine Br.bself ?_ | refine Br.dself ?_ | refine Br.mk (fun _ => ?_) (fun _ => ?_) | refine Nm.mk lenC ?_ | refine Nm.mk (wrapI (by (first | omega | (simp [inR_t, inR_f] at *; omega))) (by (first | omega | (simp [inR_t, inR_f] at *; omega)))) ?_ | refine Nm.mk (wrapQ (by (first | omega | (simp [inR_t, inR_f] at *; omega))) (by (first | omega | (simp [inR_t, inR_f] at *; omega))) (by (first | omega | (simp [inR_t, inR_f] at *; omega)))) ?_ | refine Nm.mk (tmodN (by (first | omega | (simp [inR_t, inR_f] at *; omega)))) ?_ | refine Rq.mk (by first | (simp [dOwnL, dOwn] <;> fail) | (first | omega | (simp [inR_t, inR_f] at *; omega))) ?_ | refine And.intro (by kernel_rfl) ?_ | refine Cl.mk (toManifest p hs) ?_ | refine Cl.eq (toManifest p hs) (by first | rfl | (simp [shcLL_ints, shcLL_bytes, shcLL_strs, shcL, shc, firsts, capArgs, TyI.shape, aggShape]; done)) ?_ | refine Cl.mk (s_ValidManifest p hs) ?_ | refine Cl.eq (s_ValidManifest p hs) (by first | rfl | (simp [shcLL_ints, shcLL_bytes, shcLL_strs, shcL, shc, firsts, capArgs, TyI.shape, aggShape]; done)) ?_ | refine Cl.mk (i_ValidManifest p hs) ?_ | refine Cl.eq (i_ValidManifest p hs) (by first | rfl | (simp [shcLL_ints, shcLL_bytes, shcLL_strs, shcL, shc, firsts, capArgs, TyI.shape, aggShape]; done)) ?_ | refine Cl.mk (eqManifest p p hs) ?_ | refine Cl.eq (eqManifest p p hs) (by first | rfl | (simp [shcLL_ints, shcLL_bytes, shcLL_strs, shcL, shc, firsts, capArgs, TyI.shape, aggShape]; done)) ?_))
  all_goals (try (refine Vs.Fin.mk (WkR.eq ?_) (.refl _); first | rfl | (simp_all []; done) | (simp_all []; omega) | grind | grind []))
end Go.Proofs.Yteejljpfpnlpaaa
