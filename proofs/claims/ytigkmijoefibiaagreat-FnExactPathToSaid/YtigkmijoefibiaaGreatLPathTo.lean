/- FnExactPathTo answers true for every input and leaves its arguments as they were. No condition. -/
import Derived.Test.YtigkmijoefibiaaGreatGq
import Derived.Test.YtigkmijoefibiaaGreatLift
import Derived.Test.YtigkmijoefibiaaGreatRows
set_option linter.all false
namespace Go.Proofs.YtigkmijoefibiaaGreat
open Go.Vs Go.Proofs
open Go.ChangeShapes Go.WideShapes Go.ChangeAt Go.RowKit
theorem Name.opens : Opens Tryz.prog 28 (fun p : Name => Name.c false p) (fun p : Name => Name.fits p ∧ True) :=
  Opens.struct kids (of_decide_eq_true (by kernel_rfl)) Tryz.underlying28 rfl
    (OpensF.cons ((Opens.slice (sz := 1) Tryz.underlying26 (by kernel_rfl) (by decide) (fun _ => rfl) (Opens.string Tryz.underlying9))) OpensF.nil)
    (fun x => ⟨x.1⟩) (fun _ => rfl) (fun a h => ⟨h.1, trivial⟩)
theorem Adve.opens : Opens Tryz.prog 102 (fun p : Adve => Adve.c false p) (fun p : Adve => Adve.fits p ∧ Adve.rng p) :=
  Opens.struct kids (of_decide_eq_true (by kernel_rfl)) Tryz.underlying102 rfl
    (OpensF.cons (Opens.int Tryz.underlying3) (OpensF.cons (Opens.int Tryz.underlying3) (OpensF.cons ((Opens.slice (sz := 1) Tryz.underlying32 (by kernel_rfl) (by decide) (fun _ => rfl) (Opens.int Tryz.underlying3))) (OpensF.cons ((Opens.slice (sz := 1) Tryz.underlying100 (by kernel_rfl) (by decide) (fun _ => rfl) Name.opens)) OpensF.nil))))
    (fun x => ⟨x.1, x.2.1, x.2.2.1, x.2.2.2.1⟩) (fun _ => rfl) (fun a h => ⟨⟨h.2.2.1.1, ⟨h.2.2.2.1.1, fun y hy => (h.2.2.2.1.2 y hy).1⟩⟩, ⟨h.1, h.2.1⟩⟩)
theorem Link.opens : Opens Tryz.prog 166 (fun p : Link => Link.c false p) (fun p : Link => True ∧ Link.rng p) :=
  Opens.struct kids (of_decide_eq_true (by kernel_rfl)) Tryz.underlying166 rfl
    (OpensF.cons (Opens.int Tryz.underlying3) (OpensF.cons (Opens.int Tryz.underlying3) OpensF.nil))
    (fun x => ⟨x.1, x.2.1⟩) (fun _ => rfl) (fun a h => ⟨trivial, ⟨h.1, h.2.1⟩⟩)
theorem Topo.opens : Opens Tryz.prog 24 (fun p : Topo => Topo.c false p) (fun p : Topo => Topo.fits p ∧ Topo.rng p) :=
  Opens.struct kids (of_decide_eq_true (by kernel_rfl)) Tryz.underlying24 rfl
    (OpensF.cons (Opens.int Tryz.underlying3) (OpensF.cons ((Opens.slice (sz := 2) Tryz.underlying22 (by kernel_rfl) (by decide) (fun _ => rfl) Link.opens)) OpensF.nil))
    (fun x => ⟨x.1, x.2.1⟩) (fun _ => rfl) (fun a h => ⟨h.2.1.1, ⟨h.1, fun y hy => (h.2.1.2 y hy).2⟩⟩)
set_option maxRecDepth 100000 in
theorem lifted_PathTo (os : Os) (started : os.Started) (H : Type) (enc : TypeId × Value → H) :
    ReturnsInHanded {} Tryz.checked os 3 .any (Rows.fnExactPathToSpec.pre6 enc Tryz.prog Tryz.f3 Rows.fnExactPathToRow.domain false) (Rows.fnExactPathToSpec.post enc Tryz.prog Tryz.f3 false true false false) := by
  refine returnsInHanded_of_change (C := Tryz.checked) own started (by kernel_rfl) Tryz.func3
    (ChangeSpec.witness6 (enc := enc) (C := Tryz.checked) false ⟨#[], #[.agg #[.int .i64 0, .slice none 0 0], .slice none 0 0, .int .i64 0, .agg #[.slice none 0 0]], []⟩ 8 (by kernel_rfl) (by kernel_rfl) (by kernel_rfl) (by kernel_rfl)) ?_
  intro W base args ds gs before hval hW _ _
  exact law_calls (fn := Tryz.f3) (s := Rows.fnExactPathToSpec) (ts := [24, 25, 3, 28]) (tb := 4) kids full rfl (by intro t ht; simp at ht; rcases ht with rfl | rfl | rfl | rfl <;> exact of_decide_eq_true (by kernel_rfl)) rfl Tryz.underlying4 rfl
    (by intro H ds h; match ds, h with | [d0, d1, d2, d3], _ => exact ⟨rfl, rfl, rfl⟩)
    (OpensA.agg (P := Tryz.prog) Tryz.underlying24 (Topo.opens) (OpensA.one (P := Tryz.prog) (by kernel_rfl) ((Opens.slice (sz := 4) Tryz.underlying25 (by kernel_rfl) (by decide) (fun _ => rfl) Adve.opens)) (OpensA.one (P := Tryz.prog) (by kernel_rfl) (Opens.int Tryz.underlying3) (OpensA.agg (P := Tryz.prog) Tryz.underlying28 (Name.opens) OpensA.nil))))
    (outs := fun p => [A (Topo.c false p.1), O (sl false 4 (p.2.1.map (Adve.c false))), I p.2.2.1, A (Name.c false p.2.2.2.1)]) (fun p hp => exPathTo p.1 hp.1.1 hp.1.2 p.2.1 ⟨hp.2.1.1, fun y hy => (hp.2.1.2 y hy).1⟩ (fun y hy => (hp.2.1.2 y hy).2) p.2.2.1 hp.2.2.1 p.2.2.2.1 hp.2.2.2.1.1) enc W base args ds gs before hval hW
theorem fnExactPathTo_holds : Rows.FnExactPathToSaid :=
  OpenClaim.holds_of_wide 3 Tryz.f3 rfl rfl rfl rfl rfl rfl rfl ⟨rfl, rfl, rfl, rfl, rfl⟩ rfl rfl rfl rfl rfl (by kernel_rfl) Tryz.func3 (by kernel_rfl)
    (of_decide_eq_true (by kernel_rfl)) (by unfold Func.isWrapper; first | (rw [if_pos (by decide +kernel)]; kernel_rfl) | (rw [if_neg (by decide +kernel)]; exact ⟨rfl, rfl⟩))
    (fun os started H enc _ => lifted_PathTo os started H enc)
#print axioms fnExactPathTo_holds
end Go.Proofs.YtigkmijoefibiaaGreat
