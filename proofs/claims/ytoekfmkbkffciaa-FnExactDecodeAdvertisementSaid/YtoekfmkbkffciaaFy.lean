/- Contracts of functions of the program: no statement of the seat is proved here. Each under the conditions that stand in it. -/
import Derived.Test.YtoekfmkbkffciaaFl
import Derived.Test.YtoekfmkbkffciaaFh
import Derived.Test.YtoekfmkbkffciaaFf
set_option linter.all false
namespace Go.Proofs.Ytoekfmkbkffciaa
open Go.Vs Go.Proofs
theorem is42 : FI 42 Try.f42 := ⟨⟨Try.f42, Try.func42, rfl, rfl, rfl, rfl⟩, rfl⟩
set_option maxRecDepth 20000 in
set_option maxHeartbeats 16000000 in
theorem IndexFunc_Name1 {l : List Name} (hl : l.length ≤ 1099511627776) {g : Nat} {cc0 : List AV} {co0 : Nat} {p : Name → Bool} (hg : ∀ x ∈ l, FO g [A (Name.c false x), O (.cp cc0 co0)] [A (Name.c false x), O (.cp cc0 co0)] (B (p x))) : FO 42 [O (sl false 1 (l.map (Name.c false))), O (.clo g [.cp cc0 co0])] [O (sl false 1 (l.map (Name.c false))), O (.clo g [.cp cc0 co0])] (I (findI p l 0)) := by
  refine fok envOk mixed is42 ⟨rfl, rfl, ?_⟩
  refine Nm.mk lenC ?_
  refine Lp.mk [.sl 0, .sl 1, .sl 7, .sl 8] (fun m σ => ∃ d r, l = d ++ r ∧ m = r.length ∧ d.any p = false ∧ σ = [Sa 0 (O (sl false 1 (l.map (Name.c false)))), Sa 1 (O (.clo g [.cp cc0 co0])), Sa 7 (I l.length), Sa 8 (I d.length)]) (l.length) _ (WkS.weak _ _) ⟨[], l, rfl, rfl, rfl, (by first | rfl | (simp only [zlen, zsum, Nat.zero_mul, Int.add_zero, Int.sub_zero, List.nil_append, markG]; rfl))⟩ ?_
  rintro m τ ⟨d, r, rfl, rfl, hd, rfl⟩
  cases r with
  | nil =>
    refine Br.neg (by simp) ?_
    (repeat' ((conv => whnf); first | refine stp ?_ | refine Br.mk (fun _ => ?_) (fun _ => ?_) ))
    refine Vs.Fin.mk (WkR.eq ?_) (.refl _)
    rw [findI_none (by simpa using hd)]
  | cons x r =>
    refine Br.pos (by simp; omega) ?_
    refine Rq.mk ⟨by omega, by simp; omega⟩ ?_
    refine El.mk (getA rfl) ?_
    refine Cl.mk (hg x (by simp)) ?_
    refine Rq.mk (by simp [dOwnL, dOwn]) ?_
    refine Br.mk (fun h => ?_) (fun h => ?_)
    · (repeat' ((conv => whnf); first | refine stp ?_ | refine Br.mk (fun _ => ?_) (fun _ => ?_) ))
      refine Vs.Fin.mk (WkR.eq ?_) (.refl _)
      rw [findI_at hd h]; simp
    · refine Nm.mk (wrapI (by omega) (by simp at hl; omega)) ?_
      refine Nx.intro r.length (by simp) _ (WkS.weak _ _) ⟨d ++ [x], r, by simp, rfl, by simp_all, ?_⟩
      rw [len1]; rfl
theorem is32 : FI 32 Try.f32 := ⟨⟨Try.f32, Try.func32, rfl, rfl, rfl, rfl⟩, rfl⟩
set_option maxRecDepth 20000 in
set_option maxHeartbeats 16000000 in
theorem ContainsFunc_Name1 {l : List Name} (hl : l.length ≤ 1099511627776) {g : Nat} {cc0 : List AV} {co0 : Nat} {p : Name → Bool} (hg : ∀ x ∈ l, FO g [A (Name.c false x), O (.cp cc0 co0)] [A (Name.c false x), O (.cp cc0 co0)] (B (p x))) : FO 32 [O (sl false 1 (l.map (Name.c false))), O (.clo g [.cp cc0 co0])] [O (sl false 1 (l.map (Name.c false))), O (.clo g [.cp cc0 co0])] (B (l.any p)) := by
  refine fok envOk mixed is32 ⟨rfl, rfl, ?_⟩
  (repeat' ((conv => whnf); first | refine stp ?_ | refine Br.mk (fun _ => ?_) (fun _ => ?_) | refine Cl.mk (IndexFunc_Name1 hl hg) ?_ | refine Cl.pre (by simp only [shcLL_ints, shcLL_byts, shcLL_strs, Adve.shcs, Gran.shcs, Mani.shcs, Name.shcs, Read.shcs, Segm.shcs]; rfl) ?_))
  refine Vs.Fin.mk (WkR.eq ?_) (.refl _)
  rw [← findI_ge l 0 (by omega)]
end Go.Proofs.Ytoekfmkbkffciaa
