/- Contracts of functions of the program: no statement of the seat is proved here. Each under the conditions that stand in it. -/
import Derived.Test.YtigkmijoefibiaaGreatM3
import Derived.LoopN
import Derived.Handy
import Derived.Deep.RegionLaw
import Derived.Laws.CopyOwn
set_option linter.all false
namespace Go.Proofs.YtigkmijoefibiaaGreat
open Go.Vs Go.Proofs
section
open Go.Lib Go.Shelf Go.RowKit
set_option maxHeartbeats 4000000 in
set_option maxRecDepth 100000 in
theorem mul64_6 (w : World) : Calls Tryz.prog 234 #[.int .u64 1, .int .u64 6] w fun e w' => e = .returned (.tuple #[.int .u64 0, .int .u64 6]) ∧ w' = w := by
  have mixed := mixed
  go_enter Tryz.func234, Tryz.ntmps234
  go_wp2
  all_goals (go_ret2; exact ⟨rfl, rfl⟩)
set_option maxHeartbeats 4000000 in
set_option maxRecDepth 100000 in
theorem mul_6 (w : World) : Calls Tryz.prog 218 #[.int .u64 1, .int .u64 6] w fun e w' => e = .returned (.tuple #[.int .u64 0, .int .u64 6]) ∧ w' = w := by
  have mixed := mixed
  have c64 := mul64_6 w
  have e264 : ∀ args w, (callFunc 234 args).run Tryz.prog w = .ok (.enter 234 args) w := enters_of Tryz.func234 (by kernel_rfl) rfl
  go_enter Tryz.func218, Tryz.ntmps218
  go_wp2_with (go_at_fn (234); refine c64.mono ?_; rintro e w' ⟨rfl, hw⟩; rw [hw])
  go_ret2
  exact ⟨rfl, rfl⟩
theorem rep_facts {w u : World} {T : TypeId} {xs cs : List Value} (hx : ∀ (j : Nat) (v : Value), cs[j]? = some v → xs[j]? = some v) (hb : Below w.heap.size w u) (hg : u.heap[w.heap.size]? = some (.cells xs.toArray T (0, 0))) :
    u.drew.heap[w.heap.size]? = some (.cells xs.toArray T (0, 0)) ∧ Below w.heap.size w u.drew ∧ ∀ (j : Nat) (v : Value), cs[j]? = some v → u.drew.cell? ((⟨w.heap.size, 0, none⟩ : Addr).add j) = some v := by
  refine ⟨hg, hb.drew, fun j v h => ?_⟩
  have h2 := hx j v h
  have h3 : u.drew.cell? ((⟨w.heap.size, 0, none⟩ : Addr).add j) = xs.toArray[0 + j]? := by
    have h4 : u.drew.heap[w.heap.size]? = some (.cells xs.toArray T (0, 0)) := hg
    cases j <;> simp [World.cell?, Addr.add, h4]
  rw [h3]
  simpa using h2
theorem rep_head {xs : List Value} {k : Nat} : ∀ (j : Nat) (v : Value), (xs.take k)[j]? = some v → xs[j]? = some v := by
  intro j v h
  rw [List.getElem?_take] at h
  split at h
  · exact h
  · simp at h
set_option maxHeartbeats 4000000 in
set_option maxRecDepth 100000 in
theorem repeat_6c (w : World) (a : Addr) (c : Nat) (h0 : w.cell? (a.add 0) = some (.int .i64 (-1))) (hab : a.block < w.heap.size) :
    Calls Tryz.prog 187 #[.slice (some a) 1 c, .int .i64 6] w fun e w' =>
      e = .returned (.slice (some ⟨w.heap.size, 0, none⟩) 6 6) ∧ Below w.heap.size w w' ∧ w'.heap[w.heap.size]? = some (.cells (List.toArray [.int .i64 (-1), .int .i64 (-1), .int .i64 (-1), .int .i64 (-1), .int .i64 (-1), .int .i64 (-1)]) 3 (0, 0)) := by
  have mixed := mixed
  have hm := mul_6 w
  have em : ∀ args w, (callFunc 218 args).run Tryz.prog w = .ok (.enter 218 args) w := enters_of Tryz.func218 (by kernel_rfl) rfl
  have hmk : ∀ u : World, (Instr.makeSlice 32 (.int .i64 6) (.int .i64 6)).run Tryz.prog u = .ok (.slice (some ⟨u.heap.size, 0, none⟩) 6 6) (u.alloc (.cells (madeCells #[.int .i64 0] 6) 3)) := fun u => by
    have := run_makeSlice (P := Tryz.prog) u 32 3 Tryz.t3 (.int .i64 0) Tryz.underlying32 (by kernel_rfl) (by kernel_rfl) .i64 .i64 6 6 (by omega) (Int.le_refl _) (by decide) (by decide) (by decide)
    simpa [show Tryz.t3.size = 1 from rfl, Value.cells] using this
  have hm6 : madeCells #[.int .i64 0] 6 = #[.int .i64 0, .int .i64 0, .int .i64 0, .int .i64 0, .int .i64 0, .int .i64 0] := by kernel_rfl
  rw [hm6] at hmk
  have hsz : (Tryz.prog.info? 3).map (·.size) = some 1 := by kernel_rfl
  have hg : ∀ xs : Array Value, (w.alloc (.cells xs 3)).heap[w.heap.size]? = some (.cells xs 3 (0, 0)) := fun xs => by
    show (w.heap.push _)[w.heap.size]? = _; simp
  have hs0 : ∀ j v, [(.int .i64 (-1) : Value)][j]? = some v → (w.alloc (.cells #[.int .i64 0, .int .i64 0, .int .i64 0, .int .i64 0, .int .i64 0, .int .i64 0] 3)).cell? (a.add j) = some v := by
    intro j v h
    match j, h with
    | 0, h =>
      simp at h
      rw [← h]
      exact (World.cell?_alloc_lt w _ (a.add 0) hab).trans h0
    | j + 1, h => simp at h
  have hc0 : ∀ ty, (Builtin.copy_ #[32, 32] ty #[.slice (some ⟨w.heap.size, 0, none⟩) 6 6, .slice (some a) 1 c]).run Tryz.prog (w.alloc (.cells #[.int .i64 0, .int .i64 0, .int .i64 0, .int .i64 0, .int .i64 0, .int .i64 0] 3)) = .ok (goInt 1) ((w.alloc (.cells #[.int .i64 0, .int .i64 0, .int .i64 0, .int .i64 0, .int .i64 0, .int .i64 0] 3)).setRow w.heap.size #[.int .i64 (-1), .int .i64 0, .int .i64 0, .int .i64 0, .int .i64 0, .int .i64 0]) := fun ty => by
    have := run_copy_row Tryz.prog (w.alloc (.cells #[.int .i64 0, .int .i64 0, .int .i64 0, .int .i64 0, .int .i64 0, .int .i64 0] 3)) 32 32 ty 3 w.heap.size 0 6 6 a 1 c _ 3 [.int .i64 (-1)] Tryz.underlying32 hsz (hg _) rfl hs0 (by simp) (by simp [Value.oneCell'])
    exact this
  go_enter Tryz.func187, Tryz.ntmps187
  go_wp2_with (first | (go_at_fn (218); refine hm.mono ?_; rintro e w' ⟨rfl, hw⟩; rw [hw]) | (at_builtin; refine Lib.wpList_copy_run _ rfl _ _ _ _ rfl _ _ rfl rfl (hc0 _) ?_))
  have hb0 : Below w.heap.size w (w.alloc (.cells #[.int .i64 0, .int .i64 0, .int .i64 0, .int .i64 0, .int .i64 0, .int .i64 0] 3)) := ⟨rfl, rfl, rfl, by show _ ≤ (w.heap.push _).size; simp, fun k hk => by
    show (w.heap.push _)[k]? = _
    rw [Array.getElem?_push, if_neg (by omega)]⟩
  have hb1 : Below w.heap.size w ((w.alloc (.cells #[.int .i64 0, .int .i64 0, .int .i64 0, .int .i64 0, .int .i64 0, .int .i64 0] 3)).setRow w.heap.size #[.int .i64 (-1), .int .i64 0, .int .i64 0, .int .i64 0, .int .i64 0, .int .i64 0]) := below_setRow hb0 (Nat.le_refl _) _
  have hg1 := setRow_heap (w.alloc (.cells #[.int .i64 0, .int .i64 0, .int .i64 0, .int .i64 0, .int .i64 0, .int .i64 0] 3)) w.heap.size _ #[.int .i64 (-1), .int .i64 0, .int .i64 0, .int .i64 0, .int .i64 0, .int .i64 0] 3 _ (hg _)
  have hoc : ∀ n, ∀ v ∈ List.replicate n (.int .i64 (-1) : Value), v.oneCell' = true := by
    intro n v hv
    rw [List.mem_replicate] at hv
    rw [hv.2]; rfl
  clear hc0 hs0 hmk hg hb0
  generalize ((w.alloc (.cells #[.int .i64 0, .int .i64 0, .int .i64 0, .int .i64 0, .int .i64 0, .int .i64 0] 3)).setRow w.heap.size #[.int .i64 (-1), .int .i64 0, .int .i64 0, .int .i64 0, .int .i64 0, .int .i64 0]) = u1 at hb1 hg1 ⊢
  refine wp_loop_rounds 4 ?_
  obtain ⟨hgd1, hbd1, hsd1⟩ := rep_facts (cs := [.int .i64 (-1)]) (by intro j v h; exact rep_head (xs := [.int .i64 (-1), .int .i64 0, .int .i64 0, .int .i64 0, .int .i64 0, .int .i64 0]) (k := 1) j v h) hb1 hg1
  rw [rounds_succ]
  go_wp2
  go_region_law (refine step_copy_splice rfl (.tmp 41) (.tmp 44) 32 32 rfl 3 Tryz.underlying32 hsz (some ⟨w.heap.size, 1, none⟩) (some ⟨w.heap.size, 0, none⟩) 5 5 1 6 (by simp [Act.eval, Act.put]) (by simp [Act.eval, Act.put]) w.heap.size 1 [.int .i64 (-1), .int .i64 0, .int .i64 0, .int .i64 0, .int .i64 0, .int .i64 0] 3 hgd1 [.int .i64 (-1)] rfl (fun _ => ⟨rfl, _, rfl, hsd1⟩) (Nat.le_of_ble_eq_true rfl) (hoc 1) w.heap.size w hbd1 (Nat.le_refl _) ?_; intro u2 hg2 hb2)
  have hg2 := hg2.out
  rw [show splice ([.int .i64 (-1), .int .i64 0, .int .i64 0, .int .i64 0, .int .i64 0, .int .i64 0] : List Value) 1 [.int .i64 (-1)] = [.int .i64 (-1), .int .i64 (-1), .int .i64 0, .int .i64 0, .int .i64 0, .int .i64 0] from rfl] at hg2
  show Code.rounds _ _ _ 3 _ _
  obtain ⟨hgd2, hbd2, hsd2⟩ := rep_facts (cs := [.int .i64 (-1), .int .i64 (-1)]) (by intro j v h; exact rep_head (xs := [.int .i64 (-1), .int .i64 (-1), .int .i64 0, .int .i64 0, .int .i64 0, .int .i64 0]) (k := 2) j v h) hb2 hg2
  rw [rounds_succ]
  go_wp2
  go_region_law (refine step_copy_splice rfl (.tmp 41) (.tmp 44) 32 32 rfl 3 Tryz.underlying32 hsz (some ⟨w.heap.size, 2, none⟩) (some ⟨w.heap.size, 0, none⟩) 4 4 2 6 (by simp [Act.eval, Act.put]) (by simp [Act.eval, Act.put]) w.heap.size 2 [.int .i64 (-1), .int .i64 (-1), .int .i64 0, .int .i64 0, .int .i64 0, .int .i64 0] 3 hgd2 [.int .i64 (-1), .int .i64 (-1)] rfl (fun _ => ⟨rfl, _, rfl, hsd2⟩) (Nat.le_of_ble_eq_true rfl) (hoc 2) w.heap.size w hbd2 (Nat.le_refl _) ?_; intro u4 hg4 hb4)
  have hg4 := hg4.out
  rw [show splice ([.int .i64 (-1), .int .i64 (-1), .int .i64 0, .int .i64 0, .int .i64 0, .int .i64 0] : List Value) 2 [.int .i64 (-1), .int .i64 (-1)] = [.int .i64 (-1), .int .i64 (-1), .int .i64 (-1), .int .i64 (-1), .int .i64 0, .int .i64 0] from rfl] at hg4
  show Code.rounds _ _ _ 2 _ _
  obtain ⟨hgd4, hbd4, hsd4⟩ := rep_facts (cs := [.int .i64 (-1), .int .i64 (-1)]) (by intro j v h; exact rep_head (xs := [.int .i64 (-1), .int .i64 (-1), .int .i64 (-1), .int .i64 (-1), .int .i64 0, .int .i64 0]) (k := 2) j v h) hb4 hg4
  rw [rounds_succ]
  go_wp2
  go_region_law (refine step_copy_splice rfl (.tmp 41) (.tmp 44) 32 32 rfl 3 Tryz.underlying32 hsz (some ⟨w.heap.size, 4, none⟩) (some ⟨w.heap.size, 0, none⟩) 2 2 4 6 (by simp [Act.eval, Act.put]) (by simp [Act.eval, Act.put]) w.heap.size 4 [.int .i64 (-1), .int .i64 (-1), .int .i64 (-1), .int .i64 (-1), .int .i64 0, .int .i64 0] 3 hgd4 [.int .i64 (-1), .int .i64 (-1)] rfl (fun _ => ⟨rfl, _, rfl, hsd4⟩) (Nat.le_of_ble_eq_true rfl) (hoc 2) w.heap.size w hbd4 (Nat.le_refl _) ?_; intro u6 hg6 hb6)
  have hg6 := hg6.out
  rw [show splice ([.int .i64 (-1), .int .i64 (-1), .int .i64 (-1), .int .i64 (-1), .int .i64 0, .int .i64 0] : List Value) 4 [.int .i64 (-1), .int .i64 (-1)] = [.int .i64 (-1), .int .i64 (-1), .int .i64 (-1), .int .i64 (-1), .int .i64 (-1), .int .i64 (-1)] from rfl] at hg6
  show Code.rounds _ _ _ 1 _ _
  rw [rounds_succ]
  go_wp2
  go_ret
  exact ⟨rfl, hb6, hg6⟩
end
theorem fresh_postB {w w' : World} {S : Nat → Prop} {args : List Arg} {vals : List Value} {e : TypeId} {cur : Array Value} {n cap sz : Nat} {els : List (List AV)} (hk : Go.RowKit.Below w.heap.size w w') (hg : w'.heap[w.heap.size]? = some (.cells cur e (0, 0))) (hn : els.length = n) (hsz : ∀ el ∈ els, el.length = sz) (hpos : 0 < sz) (hcap : n ≤ cap) (hmax : cap ≤ maxLen) (hcur : cur.size = cap * sz)
    (hin : Rep w' (fun _ => none) (fun b => S b) els.flatten (cur.toList.take (n * sz)) []) (hargs : Reps w S args vals []) (hS : ∀ b, S b → b < w.heap.size) :
    FPost w S vals [] args (O (sl true sz els)) (.returned (.slice (some ⟨w.heap.size, 0, none⟩) n cap)) w' := by
  have hold : ∀ b, b < w.heap.size → w'.heap[b]? = w.heap[b]? := hk.block
  have hlt : w.heap.size < w'.heap.size := (Array.getElem?_eq_some_iff.1 hg).1
  have hSS : ∀ b, S b → ((S b ∨ b ∈ ([] : List Nat) ∨ w.heap.size ≤ b) ∧ b < w'.heap.size ∧ b ∉ [w.heap.size] ++ []) := by
    intro b hb
    have := hS b hb
    exact ⟨.inl hb, by omega, by simp; omega⟩
  refine ⟨[.slice (some ⟨w.heap.size, 0, none⟩) n cap], [w.heap.size], [], rfl, rfl, ⟨hk.os, hk.tape, hk.output, hk.size, fun b hb _ => hold b hb⟩, by simp, ?_, ?_, ?_⟩
  · intro b hb
    simp at hb
    subst hb
    exact ⟨.inr (Nat.le_refl _), hlt⟩
  · have := @Rep.owd w' (fun _ => none) (fun b => (S b ∨ b ∈ ([] : List Nat) ∨ w.heap.size ≤ b) ∧ b < w'.heap.size ∧ b ∉ [w.heap.size] ++ []) .unk sz w.heap.size n cap els cur e [] [] [] [] (by simp) hg hn hsz hpos hcap hmax (Nat.le_of_eq hcur.symm)
      (hin.mono (fun b hb => ⟨hSS b hb, rfl⟩) (by simp) (fun _ _ h => h)) .nil
    simpa using this
  · exact repsW hargs (fun b hb => ⟨hSS b hb, hold b (hS b hb)⟩) (by simp)
theorem is187 : FI 187 Tryz.f187 := ⟨⟨Tryz.f187, Tryz.func187, rfl, rfl, rfl, rfl⟩, rfl⟩
theorem Repeat_6 : FO 187 [Is false [-1], I 6] [Is false [-1], I 6] (Is true (List.replicate 6 (-1))) := by
  obtain ⟨fn, hf, hb, hrs, hnt, hname⟩ := is187.ex
  refine ⟨⟨fn, _, hf, hb, hname⟩, fun w S vals fp hS hnd hfp hreps hgl => ?_⟩
  have hr2 := hreps
  cases hreps with
  | cons a1 t =>
    cases t with
    | cons a2 t =>
      cases t
      cases a2 with
      | v _ t =>
        cases t
        cases a1 with
        | @shd _ _ _ _ g o n cap els cs al vl fl hf hg hrow hn hsz hpos hcap hmax hin t =>
          cases t
          have hS1 := (hS _ hg).1
          have hn1 : n = 1 := by simpa [ints] using hn.symm
          subst hn1
          have hin2 : Rep w (fun _ => none) S [AV.v (.int .i64 (-1))] cs [] := hin
          cases hin2 with
          | v h t2 =>
            cases t2
            obtain ⟨cur, e, fz, hgc, hrw⟩ := hrow
            have h0 : w.cell? ((⟨g, o, none⟩ : Addr).add 0) = some (.int .i64 (-1)) := by
              have := congrArg (fun l => l[0]?) hrw
              simp at this
              simp [World.cell?, Addr.add, hgc, this]
            show Calls Tryz.prog 187 #[.slice (some ⟨g, o, none⟩) 1 cap, .int .i64 6] w _
            refine (repeat_6c w ⟨g, o, none⟩ cap h0 hS1).mono ?_
            rintro e w' ⟨rfl, hk, hg6⟩
            refine fresh_postB hk hg6 (els := ints (List.replicate 6 (-1))) rfl (by intro el hel; simp [ints] at hel; rw [hel]; rfl) (by decide) (Nat.le_refl _) (by unfold maxLen; omega) rfl ?_ hr2 (fun b hb => (hS b hb).1)
            exact .v rfl (.v rfl (.v rfl (.v rfl (.v rfl (.v rfl .nil)))))
end Go.Proofs.YtigkmijoefibiaaGreat
