/- FnExactRemoveReader answers true for every input and leaves its arguments as they were. No condition. -/
import Derived.Test.YtgcnbfplihjelaaGk
import Derived.Test.YtgcnbfplihjelaaLift
import Derived.Test.YtgcnbfplihjelaaRows
set_option linter.all false
namespace Go.Proofs.Ytgcnbfplihjelaa
open Go.Vs Go.Proofs
open Go.ChangeShapes Go.WideShapes Go.ChangeAt Go.RowKit
theorem Name.opens : Opens Try.prog 51 (fun p : Name => Name.c false p) (fun p : Name => Name.fits p ∧ True) :=
  Opens.struct kids (of_decide_eq_true (by kernel_rfl)) Try.underlying51 rfl
    (OpensF.cons ((Opens.slice (sz := 1) Try.underlying49 (by kernel_rfl) (by decide) (fun _ => rfl) (Opens.string Try.underlying9))) OpensF.nil)
    (fun x => ⟨x.1⟩) (fun _ => rfl) (fun a h => ⟨h.1, trivial⟩)
theorem Read.opens : Opens Try.prog 90 (fun p : Read => Read.c false p) (fun p : Read => Read.fits p ∧ Read.rng p) :=
  Opens.struct kids (of_decide_eq_true (by kernel_rfl)) Try.underlying90 rfl
    (OpensF.cons (Opens.int Try.underlying3) (OpensF.cons (Name.opens) (OpensF.cons (Opens.int Try.underlying3) OpensF.nil)))
    (fun x => ⟨x.1, x.2.1, x.2.2.1⟩) (fun _ => rfl) (fun a h => ⟨h.2.1.1, ⟨h.1, h.2.2.1⟩⟩)
set_option maxRecDepth 100000 in
theorem lifted_RemoveReader (os : Os) (started : os.Started) (H : Type) (enc : TypeId × Value → H) :
    ReturnsInHanded {} Try.checked os 5 .any (Rows.fnExactRemoveReaderSpec.pre6 enc Try.prog Try.f5 Rows.fnExactRemoveReaderRow.domain false) (Rows.fnExactRemoveReaderSpec.post enc Try.prog Try.f5 false true false false) := by
  refine returnsInHanded_of_change (C := Try.checked) own started (by kernel_rfl) Try.func5
    (ChangeSpec.witness6 (enc := enc) (C := Try.checked) false ⟨#[], #[.slice none 0 0, .int .i64 0, .agg #[.slice none 0 0]], []⟩ 8 (by kernel_rfl) (by kernel_rfl) (by kernel_rfl) (by kernel_rfl)) ?_
  intro W base args ds gs before hval hW _ _
  exact law_calls (fn := Try.f5) (s := Rows.fnExactRemoveReaderSpec) (ts := [48, 3, 51]) (tb := 4) kids full rfl (by intro t ht; simp at ht; rcases ht with rfl | rfl | rfl <;> exact of_decide_eq_true (by kernel_rfl)) rfl Try.underlying4 rfl
    (by intro H ds h; match ds, h with | [d0, d1, d2], _ => exact ⟨rfl, rfl, rfl⟩)
    (OpensA.one (P := Try.prog) (by kernel_rfl) ((Opens.slice (sz := 3) Try.underlying48 (by kernel_rfl) (by decide) (fun _ => rfl) Read.opens)) (OpensA.one (P := Try.prog) (by kernel_rfl) (Opens.int Try.underlying3) (OpensA.agg (P := Try.prog) Try.underlying51 (Name.opens) OpensA.nil)))
    (outs := fun p => [O (sl false 3 (p.1.map (Read.c false))), I p.2.1, A (Name.c false p.2.2.1)]) (fun p hp => exRemoveReader p.1 ⟨hp.1.1, fun y hy => (hp.1.2 y hy).1⟩ (fun y hy => (hp.1.2 y hy).2) p.2.1 hp.2.1 p.2.2.1 hp.2.2.1.1) enc W base args ds gs before hval hW
theorem fnExactRemoveReader_holds : Rows.FnExactRemoveReaderSaid :=
  OpenClaim.holds_of_wide 5 Try.f5 rfl rfl rfl rfl rfl rfl rfl ⟨rfl, rfl, rfl, rfl, rfl⟩ rfl rfl rfl rfl rfl (by kernel_rfl) Try.func5 (by kernel_rfl)
    (of_decide_eq_true (by kernel_rfl)) (by unfold Func.isWrapper; first | (rw [if_pos (by decide +kernel)]; kernel_rfl) | (rw [if_neg (by decide +kernel)]; exact ⟨rfl, rfl⟩))
    (fun os started H enc _ => lifted_RemoveReader os started H enc)
#print axioms fnExactRemoveReader_holds
end Go.Proofs.Ytgcnbfplihjelaa
