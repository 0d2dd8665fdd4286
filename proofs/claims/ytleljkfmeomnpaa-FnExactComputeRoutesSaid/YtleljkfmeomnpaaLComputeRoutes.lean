/- FnExactComputeRoutes answers true for every input and leaves its arguments as they were. No condition. -/
import Derived.Test.YtleljkfmeomnpaaGh
import Derived.Test.YtleljkfmeomnpaaLift
import Derived.Test.YtleljkfmeomnpaaRows
set_option linter.all false
namespace Go.Proofs.Ytleljkfmeomnpaa
open Go.Vs Go.Proofs
open Go.ChangeShapes Go.WideShapes Go.ChangeAt Go.RowKit
theorem Name.opens : Opens Try.prog 25 (fun p : Name => Name.c false p) (fun p : Name => Name.fits p ∧ True) :=
  Opens.struct kids (of_decide_eq_true (by kernel_rfl)) Try.underlying25 rfl
    (OpensF.cons ((Opens.slice (sz := 1) Try.underlying23 (by kernel_rfl) (by decide) (fun _ => rfl) (Opens.string Try.underlying9))) OpensF.nil)
    (fun x => ⟨x.1⟩) (fun _ => rfl) (fun a h => ⟨h.1, trivial⟩)
theorem Adve.opens : Opens Try.prog 72 (fun p : Adve => Adve.c false p) (fun p : Adve => Adve.fits p ∧ Adve.rng p) :=
  Opens.struct kids (of_decide_eq_true (by kernel_rfl)) Try.underlying72 rfl
    (OpensF.cons (Opens.int Try.underlying3) (OpensF.cons (Opens.int Try.underlying3) (OpensF.cons ((Opens.slice (sz := 1) Try.underlying28 (by kernel_rfl) (by decide) (fun _ => rfl) (Opens.int Try.underlying3))) (OpensF.cons ((Opens.slice (sz := 1) Try.underlying70 (by kernel_rfl) (by decide) (fun _ => rfl) Name.opens)) OpensF.nil))))
    (fun x => ⟨x.1, x.2.1, x.2.2.1, x.2.2.2.1⟩) (fun _ => rfl) (fun a h => ⟨⟨h.2.2.1.1, ⟨h.2.2.2.1.1, fun y hy => (h.2.2.2.1.2 y hy).1⟩⟩, ⟨h.1, h.2.1⟩⟩)
theorem Link.opens : Opens Try.prog 123 (fun p : Link => Link.c false p) (fun p : Link => True ∧ Link.rng p) :=
  Opens.struct kids (of_decide_eq_true (by kernel_rfl)) Try.underlying123 rfl
    (OpensF.cons (Opens.int Try.underlying3) (OpensF.cons (Opens.int Try.underlying3) OpensF.nil))
    (fun x => ⟨x.1, x.2.1⟩) (fun _ => rfl) (fun a h => ⟨trivial, ⟨h.1, h.2.1⟩⟩)
theorem Topo.opens : Opens Try.prog 46 (fun p : Topo => Topo.c false p) (fun p : Topo => Topo.fits p ∧ Topo.rng p) :=
  Opens.struct kids (of_decide_eq_true (by kernel_rfl)) Try.underlying46 rfl
    (OpensF.cons (Opens.int Try.underlying3) (OpensF.cons ((Opens.slice (sz := 2) Try.underlying44 (by kernel_rfl) (by decide) (fun _ => rfl) Link.opens)) OpensF.nil))
    (fun x => ⟨x.1, x.2.1⟩) (fun _ => rfl) (fun a h => ⟨h.2.1.1, ⟨h.1, fun y hy => (h.2.1.2 y hy).2⟩⟩)
set_option maxRecDepth 100000 in
theorem lifted_ComputeRoutes (os : Os) (started : os.Started) (H : Type) (enc : TypeId × Value → H) :
    ReturnsInHanded {} Try.checked os 8 .any (Rows.fnExactComputeRoutesSpec.pre6 enc Try.prog Try.f8 Rows.fnExactComputeRoutesRow.domain false) (Rows.fnExactComputeRoutesSpec.post enc Try.prog Try.f8 false true false false) := by
  refine returnsInHanded_of_change (C := Try.checked) own started (by kernel_rfl) Try.func8
    (ChangeSpec.witness6 (enc := enc) (C := Try.checked) false ⟨#[], #[.agg #[.int .i64 0, .slice none 0 0], .slice none 0 0, .int .i64 0], []⟩ 8 (by kernel_rfl) (by kernel_rfl) (by kernel_rfl) (by kernel_rfl)) ?_
  intro W base args ds gs before hval hW _ _
  exact law_calls (fn := Try.f8) (s := Rows.fnExactComputeRoutesSpec) (ts := [46, 22, 3]) (tb := 4) kids full rfl (by intro t ht; simp at ht; rcases ht with rfl | rfl | rfl <;> exact of_decide_eq_true (by kernel_rfl)) rfl Try.underlying4 rfl
    (by intro H ds h; match ds, h with | [d0, d1, d2], _ => exact ⟨rfl, rfl, rfl⟩)
    (OpensA.agg (P := Try.prog) Try.underlying46 (Topo.opens) (OpensA.one (P := Try.prog) (by kernel_rfl) ((Opens.slice (sz := 4) Try.underlying22 (by kernel_rfl) (by decide) (fun _ => rfl) Adve.opens)) (OpensA.one (P := Try.prog) (by kernel_rfl) (Opens.int Try.underlying3) OpensA.nil)))
    (outs := fun p => [A (Topo.c false p.1), O (sl false 4 (p.2.1.map (Adve.c false))), I p.2.2.1]) (fun p hp => exComputeRoutes p.1 hp.1.1 hp.1.2 p.2.1 ⟨hp.2.1.1, fun y hy => (hp.2.1.2 y hy).1⟩ (fun y hy => (hp.2.1.2 y hy).2) p.2.2.1 hp.2.2.1) enc W base args ds gs before hval hW
theorem fnExactComputeRoutes_holds : Rows.FnExactComputeRoutesSaid :=
  OpenClaim.holds_of_wide 8 Try.f8 rfl rfl rfl rfl rfl rfl rfl ⟨rfl, rfl, rfl, rfl, rfl⟩ rfl rfl rfl rfl rfl (by kernel_rfl) Try.func8 (by kernel_rfl)
    (of_decide_eq_true (by kernel_rfl)) (by unfold Func.isWrapper; first | (rw [if_pos (by decide +kernel)]; kernel_rfl) | (rw [if_neg (by decide +kernel)]; exact ⟨rfl, rfl⟩))
    (fun os started H enc _ => lifted_ComputeRoutes os started H enc)
#print axioms fnExactComputeRoutes_holds
end Go.Proofs.Ytleljkfmeomnpaa
