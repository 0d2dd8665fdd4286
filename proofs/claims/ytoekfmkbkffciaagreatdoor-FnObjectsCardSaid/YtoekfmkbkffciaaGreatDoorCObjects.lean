/- FnObjects answers true for every input and leaves its arguments as they were. No condition. -/
import Derived.Test.YtoekfmkbkffciaaGreatDoorOn
import Derived.Test.YtoekfmkbkffciaaGreatDoorLift
import Derived.Test.YtoekfmkbkffciaaGreatDoorRows
import Derived.Test.YtoekfmkbkffciaaGreatDoorTie
import Derived.Test.YtoekfmkbkffciaaGreatDoorCards
import Derived.ProofKit
import Derived.LaidMore
import Derived.OpenShut
import Derived.Stop.Joined
import Derived.SevenTiedAt
set_option linter.all false
namespace Go.Proofs.YtoekfmkbkffciaaGreatDoor
open Go.Vs Go.Proofs
open Go.ChangeShapes Go.WideShapes Go.ChangeAt Go.RowKit

def laidL : List (String × DataW Unit) := Rows.fnObjectsRow.laid
theorem door_met (os : Os) (args : Array Value) : laidMetH Tryz.prog laidL ((World.doorLaid Tryz.prog 400 os).forCall (fun _ _ => 0) ⟨#[], args, []⟩).memory :=
  laidMetH_of_parts3 (fuel := 8) (laidMet_of_run' 8 (by kernel_rfl) (by kernel_rfl)) (by kernel_rfl) (by kernel_rfl)
theorem laidMet_tail {P : Program} {x : String × DataW Unit} {rest : List (String × DataW Unit)} {W : World} (h : laidMet P (x :: rest) W) : laidMet P rest W := by
  obtain ⟨ps, ⟨g, t, cs, fuel, p, q, h1, h2, h3, h4, h5, rfl⟩, hn, H⟩ := h
  exact ⟨q, h5, (List.nodup_append.1 hn).2.1, fun b off hb => H b off (List.mem_append.2 (.inr hb))⟩
theorem gl_of_laid {W : World} (h : laidMetH Tryz.prog laidL W) : Gl Tryz.prog W (Old W) := by
  have e : laidL = Rows.fnObjectsRow.laid := rfl
  rw [MakeChecks.laidMetH_plain _ _ _ (by kernel_rfl)] at h
  have h2 := laidMet_tail (laidMet_tail (show laidMet Tryz.prog (_ :: _ :: (_, Lib.tabData .u64 Lib.pow10Tab) :: []) W from h))
  obtain ⟨G, hG⟩ : ∃ G, Tryz.prog.globalNamed "internal/strconv.uint64pow10" = some G := Option.isSome_iff_exists.1 (by kernel_rfl)
  have hGk : G = _ := Option.some.inj (hG.symm.trans (show _ = some (Tryz.prog.globalNamed "internal/strconv.uint64pow10").get! by kernel_rfl))
  have ht := Lib.tabIs_of_head hG (t := 175) (e := 161) (n := 20) (by rw [hGk]; kernel_rfl) Tryz.underlying175 Tryz.underlying161 (by kernel_rfl) (by kernel_rfl) h2
  intro g cs hg
  unfold tabOf at hg
  rw [hG] at hg
  cases hg
  unfold Lib.TabIs World.var? at ht
  rw [hG] at ht
  have ht2 : (match W.heap[G]? with | some (.cells cs _ _) => some cs | _ => none) = some pow10s := ht.trans (congrArg some (by kernel_rfl))
  cases hh : W.heap[G]? with
  | none => rw [hh] at ht2; cases ht2
  | some o =>
    rw [hh] at ht2
    cases o with
    | cells cs t fz =>
      cases ht2
      exact ⟨(Array.getElem?_eq_some_iff.1 hh).1, t, fz, rfl⟩
    | _ => cases ht2
set_option maxRecDepth 100000 in
theorem lifted_FnObjects (os : Os) (started : os.Started) (H : Type) (enc : TypeId × Value → H) :
    ReturnsInHanded {} Tryz.checked os 3 .any (fun w args => (Rows.fnObjectsSpec.pre enc Tryz.prog Tryz.f3 [] false w args ∧ laidMetH Tryz.prog laidL w) ∧ sizedMet enc Tryz.prog Tryz.f3 (OpenSpec.ofChange Rows.fnObjectsSpec) false w args)
      (Rows.fnObjectsSpec.post enc Tryz.prog Tryz.f3 false true false false) := by
  refine returnsInHanded_of_change_and (C := Tryz.checked) (X := fun w _ => laidMetH Tryz.prog laidL w) (fun _ _ _ hh h => h.of_heap hh) own started (by kernel_rfl) Tryz.func3
    (ChangeSpec.witness_shaped (enc := enc) (C := Tryz.checked) (os := os) (X := fun w _ => laidMetH Tryz.prog laidL w) false (World.doorLaid Tryz.prog 400 os) #[.slice none 0 0] 8 rfl (World.shaped_of_RefB (by kernel_rfl) (by kernel_rfl)) (by kernel_rfl) (by kernel_rfl) (by kernel_rfl) (door_met os _)) ?_
  intro W base args ds gs before hval hW _ _ hL _
  exact law_callsG (fn := Tryz.f3) (s := Rows.fnObjectsSpec) (ts := [22]) (tb := 4) kids full rfl (by intro t ht; simp at ht; rcases ht with rfl <;> exact of_decide_eq_true (by kernel_rfl)) rfl Tryz.underlying4 rfl
    (by intro H ds h; match ds, h with | [d0], _ => exact ⟨rfl, rfl, rfl⟩)
    (OpensA.one (P := Tryz.prog) (by kernel_rfl) ((Opens.slice (sz := 1) Tryz.underlying22 (by kernel_rfl) (by decide) (fun _ => rfl) (Opens.byte Tryz.underlying5))) OpensA.nil)
    (outs := fun p => [O (cYs false p.1)]) (fun p _ => exObjects p.1) enc W base args ds gs before hval hW (gl_of_laid hL)
theorem fnObjects_holds : Rows.FnObjectsSaid :=
  OpenClaim.holds_of_wide 3 Tryz.f3 rfl rfl rfl rfl rfl rfl rfl ⟨rfl, rfl, rfl, rfl, rfl⟩ rfl rfl rfl rfl rfl (by kernel_rfl) Tryz.func3 (by kernel_rfl)
    (of_decide_eq_true (by kernel_rfl)) (by unfold Func.isWrapper; first | (rw [if_pos (by decide +kernel)]; kernel_rfl) | (rw [if_neg (by decide +kernel)]; exact ⟨rfl, rfl⟩))
    (fun os started H enc _ => lifted_FnObjects os started H enc)
theorem fnObjects_card : Rows.FnObjectsCardSaid :=
  Claim7.holds_tied_plain_at .later [] [.data, .data, .data] true Rows.fnObjectsCard.stood.harness false
    fnObjects_holds (fun _ h => by cases h) (by kernel_rfl) (fun _ h => by cases h) fnObjects_row_tie rfl ⟨rfl, rfl⟩ (by kernel_rfl) rfl
    (fun f fn hf hfn => by
      obtain rfl : f = 3 := Option.some.inj ((show Tryz.prog.funcNamed Rows.fnObjectsRow.func = some 3 by kernel_rfl).symm.trans hf) |>.symm
      obtain rfl : fn = Tryz.f3 := (Option.some.inj (Tryz.func3.symm.trans hfn)).symm
      exact ⟨by kernel_rfl, fun j t ht => by
        rw [Tryz.params3] at ht
        have hm : t ∈ [22] := by simpa using Array.mem_of_getElem? ht
        have hall : ([22].all fun u => !Tryz.prog.wantsStandIn u) = true := by kernel_rfl
        exact (show Tryz.prog.wantsStandIn t = false by simpa using List.all_eq_true.1 hall t hm)⟩)
    (by kernel_rfl)
#print axioms fnObjects_card
end Go.Proofs.YtoekfmkbkffciaaGreatDoor
