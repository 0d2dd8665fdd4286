/- Contracts of functions of the program: no statement of the seat is proved here. Each under the conditions that stand in it. -/
import Derived.Test.YtgcnbfplihjelaaGreatDoorEnv
import Derived.Shelf.RegionOpenPlain
import Derived.WalkKit
import Derived.Lib.Walk
import Derived.Lib.SliceRun
import Derived.Lib.AppendZerosOnto
set_option linter.all false
namespace Go.Proofs.YtgcnbfplihjelaaGreatDoor
open Go.Vs Go.Proofs
/-! What the library makes anew -/
theorem repsW {w w' : World} {S S' : Nat → Prop} {args : List Arg} {vals : List Value} {fp : List Nat} (h : Reps w S args vals fp) (hS : ∀ b, S b → S' b ∧ w'.heap[b]? = w.heap[b]?) (hfp : ∀ b ∈ fp, w'.heap[b]? = w.heap[b]?) : Reps w' S' args vals fp := by
  induction h with
  | nil => exact .nil
  | cons h t ih => exact .cons (h.mono hS (fun b hb => hfp b (by simp [hb])) (fun _ _ h => h)) (ih (fun b hb => hfp b (by simp [hb])))
theorem fresh_post {w : World} {S : Nat → Prop} {args : List Arg} {vals : List Value} {e : TypeId} {cur : Array Value} {n cap sz : Nat} {els : List (List AV)} (hn : els.length = n) (hsz : ∀ el ∈ els, el.length = sz) (hpos : 0 < sz) (hcap : n ≤ cap) (hmax : cap ≤ maxLen) (hcur : cur.size = cap * sz)
    (hin : Rep (w.drew.alloc (.cells cur e)) (fun _ => none) (fun b => S b) els.flatten (cur.toList.take (n * sz)) []) (hargs : Reps w S args vals []) (hS : ∀ b, S b → b < w.heap.size) :
    FPost w S vals [] args (O (sl true sz els)) (.returned (.slice (some ⟨w.heap.size, 0, none⟩) n cap)) (w.drew.alloc (.cells cur e)) := by
  have hold : ∀ b, b < w.heap.size → (w.drew.alloc (.cells cur e)).heap[b]? = w.heap[b]? := by
    intro b hb
    show (w.heap.push _)[b]? = _
    rw [Array.getElem?_push, if_neg (by omega)]
  have hlt : w.heap.size < (w.drew.alloc (.cells cur e)).heap.size := by
    show _ < (w.heap.push _).size
    simp
  have hSS : ∀ b, S b → ((S b ∨ b ∈ ([] : List Nat) ∨ w.heap.size ≤ b) ∧ b < (w.drew.alloc (.cells cur e)).heap.size ∧ b ∉ [w.heap.size] ++ []) := by
    intro b hb
    have := hS b hb
    exact ⟨.inl hb, by omega, by simp; omega⟩
  refine ⟨[.slice (some ⟨w.heap.size, 0, none⟩) n cap], [w.heap.size], [], rfl, rfl, ⟨rfl, rfl, rfl, by omega, fun b hb _ => hold b hb⟩, by simp, ?_, ?_, ?_⟩
  · intro b hb
    simp at hb
    subst hb
    exact ⟨.inr (Nat.le_refl _), hlt⟩
  · have := @Rep.owd (w.drew.alloc (.cells cur e)) (fun _ => none) (fun b => (S b ∨ b ∈ ([] : List Nat) ∨ w.heap.size ≤ b) ∧ b < (w.drew.alloc (.cells cur e)).heap.size ∧ b ∉ [w.heap.size] ++ []) .unk sz w.heap.size n cap els cur e [] [] [] [] (by simp) (by show (w.heap.push _)[w.heap.size]? = _; simp) hn hsz hpos hcap hmax (Nat.le_of_eq hcur.symm)
      (hin.mono (fun b hb => ⟨hSS b hb, rfl⟩) (by simp) (fun _ _ h => h)) .nil
    simpa using this
  · exact repsW hargs (fun b hb => ⟨hSS b hb, hold b (hS b hb)⟩) (by simp)
section
open Go.Lib Go.Shelf Go.RowKit
theorem is197 : FI 197 Tryz.f197 := ⟨⟨Tryz.f197, Tryz.func197, rfl, rfl, rfl, rfl⟩, rfl⟩
set_option maxHeartbeats 4000000 in
set_option maxRecDepth 100000 in
theorem grow_c (n : Nat) (h0 : 0 < n) (h1 : n ≤ 1048576000) (w : World) :
    Calls Tryz.prog 197 #[.slice none 0 0, .int .i64 n] w fun e w' =>
      e = .returned (.slice (some ⟨w.heap.size, 0, none⟩) 0 (grownCap w n 0 3)) ∧
      w' = w.drew.alloc (.cells (Builtin.zeroCells (.int .i64 0 : Value).cells n ++ Builtin.zeroCells (.int .i64 0 : Value).cells (grownCap w n 0 3 - n)) 3) := by
  have h1' : ¬ ((n : Int) < 0) := by omega
  have h2 : (n : Int) > 0 := by omega
  have h3 : wrap64 ((n : Int) - 0) = (n : Int) := by unfold wrap64; omega
  have mixed := mixed
  have hrz : ∀ ty, (Builtin.append_ #[49, 3] ty #[.slice none 0 0, .int .i64 (n : Int)]).run Tryz.prog w =
      .ok (.slice (some ⟨w.heap.size, 0, none⟩) n (grownCap w n 0 3)) (w.drew.alloc (.cells (Builtin.zeroCells (.int .i64 0 : Value).cells n ++ Builtin.zeroCells (.int .i64 0 : Value).cells (grownCap w n 0 3 - n)) 3)) := fun ty => by
    have h := Lib.run_append_grow_zeros w 49 3 ty 3 Tryz.t3 (.int .i64 0) .i64 .i64 Tryz.underlying49 Tryz.underlying3 (by kernel_rfl) rfl none 0 0 [] (run_firstCells_none w.drew Tryz.t3.size 0 0 0) n h0 (by decide) (by omega) (by omega)
      (by show n * 8 ≤ _; omega)
      (growslice_fits (by omega) (by show (0 + n) * 8 ≤ _; omega))
    simpa only [Nat.zero_add, Array.empty_append] using h
  go_enter Tryz.func197, Tryz.ntmps197
  go_wp2_with (at_builtin; refine Lib.wpList_append_run _ rfl _ _ _ _ rfl _ _ rfl rfl _ _ (hrz _) ?_)
  all_goals (go_ret; exact ⟨rfl, rfl⟩)
set_option maxHeartbeats 4000000 in
set_option maxRecDepth 100000 in
theorem grow_0 (w : World) :
    Calls Tryz.prog 197 #[.slice none 0 0, .int .i64 0] w fun e w' => e = .returned (.slice none 0 0) ∧ w' = w := by
  have mixed := mixed
  go_enter Tryz.func197, Tryz.ntmps197
  go_wp2
  all_goals (go_ret; exact ⟨rfl, rfl⟩)
theorem zc_size (v : Value) (h : v.cells = #[v]) (n : Nat) : (Builtin.zeroCells v.cells n).size = n := by
  simp [Builtin.zeroCells, h]
theorem Grow_nil (n : Nat) (h1 : n ≤ 1048576000) : FO 197 [O (.sl false .isnil 0 []), I n] [O (.sl false .isnil 0 []), I n] (Is true []) := by
  obtain ⟨fn, hf, hb, hrs, hnt, hname⟩ := is197.ex
  refine ⟨⟨fn, _, hf, hb, hname⟩, fun w S vals fp hS hnd hfp hreps hgl => ?_⟩
  have hr2 := hreps
  cases hreps with
  | cons a1 t =>
    cases t with
    | cons a2 t =>
      cases t
      cases a2 with
      | v _ t =>
        cases t
        cases a1 with
        | nils hf t =>
          cases t
          show Calls Tryz.prog 197 #[.slice none 0 0, .int .i64 n] w _
          rcases Nat.eq_zero_or_pos n with rfl | h0
          · refine (grow_0 w).mono ?_
            rintro e w' ⟨rfl, rfl⟩
            refine ⟨[.slice none 0 0], [], [], rfl, rfl, ⟨rfl, rfl, rfl, Nat.le_refl _, fun _ _ _ => rfl⟩, by simp, by simp, .nils (by simp) .nil, ?_⟩
            exact hr2.mono (fun b hb => ⟨.inl hb, (hS b hb).1, by simp⟩)
          · have hge := grownCap_ge w n 0 3
            have hmx := grownCap_le_maxLen w n 0 3 (by unfold maxLen; omega)
            refine (grow_c n h0 h1 w).mono ?_
            rintro e w' ⟨rfl, rfl⟩
            refine fresh_post (els := []) rfl (by simp) (by decide) (Nat.zero_le _) hmx ?_ ?_ hr2 (fun b hb => (hS b hb).1)
            · rw [Array.size_append, zc_size _ rfl, zc_size _ rfl]; omega
            · simp; exact .nil
        | emp hf _ _ => simp at hf
        | shd hf _ _ _ _ _ _ _ _ _ => simp at hf
end
end Go.Proofs.YtgcnbfplihjelaaGreatDoor
