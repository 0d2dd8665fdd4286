/- FnExactMergeAdvertisement answers true for every input and leaves its arguments as they were. No condition. -/
import Derived.Test.YtoheiodpkjdlcaaGm
import Derived.Test.YtoheiodpkjdlcaaLift
import Derived.Test.YtoheiodpkjdlcaaRows
set_option linter.all false
namespace Go.Proofs.Ytoheiodpkjdlcaa
open Go.Vs Go.Proofs
open Go.ChangeShapes Go.WideShapes Go.ChangeAt Go.RowKit
theorem Name.opens : Opens Try.prog 96 (fun p : Name => Name.c false p) (fun p : Name => Name.fits p ∧ True) :=
  Opens.struct kids (of_decide_eq_true (by kernel_rfl)) Try.underlying96 rfl
    (OpensF.cons ((Opens.slice (sz := 1) Try.underlying65 (by kernel_rfl) (by decide) (fun _ => rfl) (Opens.string Try.underlying9))) OpensF.nil)
    (fun x => ⟨x.1⟩) (fun _ => rfl) (fun a h => ⟨h.1, trivial⟩)
theorem Adve.opens : Opens Try.prog 48 (fun p : Adve => Adve.c false p) (fun p : Adve => Adve.fits p ∧ Adve.rng p) :=
  Opens.struct kids (of_decide_eq_true (by kernel_rfl)) Try.underlying48 rfl
    (OpensF.cons (Opens.int Try.underlying3) (OpensF.cons (Opens.int Try.underlying3) (OpensF.cons ((Opens.slice (sz := 1) Try.underlying28 (by kernel_rfl) (by decide) (fun _ => rfl) (Opens.int Try.underlying3))) (OpensF.cons ((Opens.slice (sz := 1) Try.underlying46 (by kernel_rfl) (by decide) (fun _ => rfl) Name.opens)) OpensF.nil))))
    (fun x => ⟨x.1, x.2.1, x.2.2.1, x.2.2.2.1⟩) (fun _ => rfl) (fun a h => ⟨⟨h.2.2.1.1, ⟨h.2.2.2.1.1, fun y hy => (h.2.2.2.1.2 y hy).1⟩⟩, ⟨h.1, h.2.1⟩⟩)
set_option maxRecDepth 100000 in
theorem lifted_MergeAdvertisement (os : Os) (started : os.Started) (H : Type) (enc : TypeId × Value → H) :
    ReturnsInHanded {} Try.checked os 5 .any (Rows.fnExactMergeAdvertisementSpec.pre6 enc Try.prog Try.f5 Rows.fnExactMergeAdvertisementRow.domain false) (Rows.fnExactMergeAdvertisementSpec.post enc Try.prog Try.f5 false true false false) := by
  refine returnsInHanded_of_change (C := Try.checked) own started (by kernel_rfl) Try.func5
    (ChangeSpec.witness6 (enc := enc) (C := Try.checked) false ⟨#[], #[.slice none 0 0, .agg #[.int .i64 0, .int .i64 0, .slice none 0 0, .slice none 0 0]], []⟩ 8 (by kernel_rfl) (by kernel_rfl) (by kernel_rfl) (by kernel_rfl)) ?_
  intro W base args ds gs before hval hW _ _
  exact law_calls (fn := Try.f5) (s := Rows.fnExactMergeAdvertisementSpec) (ts := [45, 48]) (tb := 4) kids full rfl (by intro t ht; simp at ht; rcases ht with rfl | rfl <;> exact of_decide_eq_true (by kernel_rfl)) rfl Try.underlying4 rfl
    (by intro H ds h; match ds, h with | [d0, d1], _ => exact ⟨rfl, rfl, rfl⟩)
    (OpensA.one (P := Try.prog) (by kernel_rfl) ((Opens.slice (sz := 4) Try.underlying45 (by kernel_rfl) (by decide) (fun _ => rfl) Adve.opens)) (OpensA.agg (P := Try.prog) Try.underlying48 (Adve.opens) OpensA.nil))
    (outs := fun p => [O (sl false 4 (p.1.map (Adve.c false))), A (Adve.c false p.2.1)]) (fun p hp => exMergeAdvertisement p.1 ⟨hp.1.1, fun y hy => (hp.1.2 y hy).1⟩ (fun y hy => (hp.1.2 y hy).2) p.2.1 hp.2.1.1 hp.2.1.2) enc W base args ds gs before hval hW
theorem fnExactMergeAdvertisement_holds : Rows.FnExactMergeAdvertisementSaid :=
  OpenClaim.holds_of_wide 5 Try.f5 rfl rfl rfl rfl rfl rfl rfl ⟨rfl, rfl, rfl, rfl, rfl⟩ rfl rfl rfl rfl rfl (by kernel_rfl) Try.func5 (by kernel_rfl)
    (of_decide_eq_true (by kernel_rfl)) (by unfold Func.isWrapper; first | (rw [if_pos (by decide +kernel)]; kernel_rfl) | (rw [if_neg (by decide +kernel)]; exact ⟨rfl, rfl⟩))
    (fun os started H enc _ => lifted_MergeAdvertisement os started H enc)
#print axioms fnExactMergeAdvertisement_holds
end Go.Proofs.Ytoheiodpkjdlcaa
