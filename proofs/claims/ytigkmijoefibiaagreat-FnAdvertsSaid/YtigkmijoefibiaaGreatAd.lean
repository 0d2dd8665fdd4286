/- Contracts of functions of the program: no statement of the seat is proved here. Each under the conditions that stand in it. -/
import Derived.Test.YtigkmijoefibiaaGreatDl
import Derived.Tactics
import Derived.Tactics2
import Derived.StillTactics
import Derived.LoopN
import Derived.Handy
import Derived.Deep.RegionLaw
import Derived.Deep.LoopGhost
import Derived.Deep.AppendSrc
import Derived.Laws.CopyOwn
import Derived.Laws.CopyRow
import Derived.WalkKit
import Derived.Lib.Walk
import Derived.Lib.SliceRun
import Derived.Shelf.RegionOpenPlain
import Derived.Shelf.Spec.SlicesInsertGrow
set_option linter.all false
namespace Go.Proofs.YtigkmijoefibiaaGreat
open Go.Vs Go.Proofs
/-! slices.Insert at elements of four cells: the walk -/
section
open Go.Lib Go.Shelf Go.RowKit
theorem run_copy_rowN {P : Program} (w : World) (dT sT ty elem : TypeId) (z g o dLen dCap : Nat) (a : Addr) (sLen sCap : Nat) (cur : Array Value) (t : TypeId) (cs : List Value)
    (hu : P.underlying dT = some (.slice elem)) (hs : (P.info? elem).map (·.size) = some z)
    (hg : w.heap[g]? = some (.cells cur t (0, 0))) (hn : cs.length = Nat.min sLen dLen * z)
    (hsrc : ∀ j v, cs[j]? = some v → w.cell? (a.add j) = some v) (hfit : o + cs.length ≤ cur.size) (h1 : ∀ v ∈ cs, v.oneCell' = true) :
    (Builtin.copy_ #[dT, sT] ty #[.slice (some ⟨g, o, none⟩) dLen dCap, .slice (some a) sLen sCap]).run P w =
      .ok (goInt (Nat.min sLen dLen)) (w.setRow g (cur.toList.take o ++ cs ++ cur.toList.drop (o + cs.length)).toArray) := by
  have hl := run_loadCells_list (P := P) w a cs hsrc
  have hst := run_storeCells_at P g o t cs 0 cur w hg (by simpa using hfit) h1
  cases hq : P.info? elem with
  | none => simp [hq] at hs
  | some i =>
    have hi : i.size = z := by simpa [hq] using hs
    simp [Builtin.copy_, run_underlying hu, Builtin.lenOf, Builtin.firstCells, sizeOf, typeInfo, hq, hi, ← hn, hl, hst]
theorem setCells_row (w : World) (g o : Nat) (cur : Array Value) (t : TypeId) (vs : List Value) (hg : w.heap[g]? = some (.cells cur t (0, 0))) (hl : o + vs.length ≤ cur.size) (h1 : ∀ v ∈ vs, v.oneCell' = true) :
    w.setCells g o vs = w.setRow g (cur.toList.take o ++ vs ++ cur.toList.drop (o + vs.length)).toArray := by
  have e1 := run_storeCells_cells (P := Tryz.prog) g o vs 0 w (fun j hj => by rw [cell_in hg (List.getElem?_eq_getElem (by simp; omega))]; rfl) (fun j _ => fro_in hg) h1
  have e2 := run_storeCells_at Tryz.prog g o t vs 0 cur w hg (by simpa using hl) h1
  rw [Nat.add_zero] at e1 e2
  have := e1.symm.trans e2
  injection this
theorem shape_in {w : World} {g : Nat} {cur : Array Value} {t : TypeId} (hg : w.heap[g]? = some (.cells cur t (0, 0))) : w.shape? g = some (t, cur.size) := by simp [World.shape?, hg]
end
section
open Go.Lib Go.Shelf Go.RowKit
set_option maxHeartbeats 8000000 in
set_option maxRecDepth 100000 in
theorem ins_end_room (w : World) (g n cap h vc : Nat) (cur row : Array Value) (T T2 : TypeId) (vs : List Value) (hg : w.heap[g]? = some (.cells cur T (0, 0))) (hh : w.heap[h]? = some (.cells row T2 (0, 0))) (hr : row.toList.take 4 = vs) (hvl : vs.length = 4)
    (h1 : ∀ v ∈ vs, v.oneCell' = true) (hroom : n + 1 ≤ cap) (hcap : cap * 4 ≤ cur.size) (hc63 : cap ≤ 9223372036854775807) :
    Calls Tryz.prog 118 #[.slice (some ⟨g, 0, none⟩) n cap, .int .i64 n, .slice (some ⟨h, 0, none⟩) 1 vc] w fun e w' => e = .returned (.slice (some ⟨g, 0, none⟩) (n + 1) cap) ∧ w' = w.setRow g (cur.toList.take (n * 4) ++ vs ++ cur.toList.drop (n * 4 + 4)).toArray := by
  have mixed := mixed
  have hz1 : ¬ ((1 : Int) = 0) := by omega
  have hsrc : Src Tryz.prog (Tryz.t77).size (38) (.slice (some ⟨h, 0, none⟩) 1 vc) 1 vs w := Src.ofSlice w Tryz.underlying38 ⟨h, 0, none⟩ 1 vc vs (by rw [hvl]; rfl) (fun j u hj => by
    rw [Addr.add_lit, Nat.zero_add]
    refine cell_in hh ?_
    rw [← hr, List.getElem?_take] at hj
    split at hj
    · exact hj
    · cases hj) h1
  have hrun : ∀ ty, (Builtin.append_ #[(38), (38)] ty #[.slice (some ⟨g, 0, none⟩) n cap, .slice (some ⟨h, 0, none⟩) 1 vc]).run Tryz.prog w = .ok (.slice (some ⟨g, 0, none⟩) (n + 1) cap) (w.setRow g (cur.toList.take (n * 4) ++ vs ++ cur.toList.drop (n * 4 + 4)).toArray) := fun ty => by
    have := run_append_room_src w (38) (38) ty (77) _ Tryz.underlying38 (by kernel_rfl : Tryz.prog.info? (77) = some Tryz.t77) g 0 n cap _ 1 vs hsrc hroom (fun j hj => by
      rw [cell_in hg (List.getElem?_eq_getElem (by have e : (Tryz.t77).size = 4 := rfl; rw [e]; simp; omega))]; rfl) (fun j _ => fro_in hg)
    rw [this, show 0 + n * (Tryz.t77).size = n * 4 by rw [Nat.zero_add]; rfl, setCells_row w g (n * 4) cur T vs hg (by omega) h1, hvl]
  clear hsrc hr hh
  go_enter Tryz.func118, Tryz.ntmps118
  go_wp2_with (at_builtin; refine Lib.wpList_append_run _ rfl _ _ _ _ rfl _ _ rfl rfl _ _ (hrun _) ?_)
  go_ret
  exact ⟨rfl, by rw [List.append_assoc]⟩
set_option maxHeartbeats 8000000 in
set_option maxRecDepth 100000 in
theorem ins_end_grow (w : World) (base : Option Addr) (n cap h vc : Nat) (row : Array Value) (T2 : TypeId) (olds vs : List Value) (hh : w.heap[h]? = some (.cells row T2 (0, 0))) (hr : row.toList.take 4 = vs) (hvl : vs.length = 4) (h1 : ∀ v ∈ vs, v.oneCell' = true)
    (hol : olds.length = n * 4) (hbase : (base = none ∧ n = 0) ∨ ∃ g cur T, base = some ⟨g, 0, none⟩ ∧ w.heap[g]? = some (.cells cur T (0, 0)) ∧ cur.toList.take (n * 4) = olds) (hnc : n ≤ cap) (hroom : cap < n + 1) (hbig : n ≤ 1099511627776) :
    Calls Tryz.prog 118 #[.slice base n cap, .int .i64 n, .slice (some ⟨h, 0, none⟩) 1 vc] w fun e w' => ∃ G z, n + 1 ≤ G ∧ G ≤ maxLen ∧ z.length = (G - (n + 1)) * 4 ∧ e = .returned (.slice (some ⟨w.heap.size, 0, none⟩) (n + 1) G) ∧ w' = w.drew.alloc (.cells ((olds ++ vs) ++ z).toArray (77)) := by
  have mixed := mixed
  have hz1 : ¬ ((1 : Int) = 0) := by omega
  have hsrc : Src Tryz.prog (Tryz.t77).size (38) (.slice (some ⟨h, 0, none⟩) 1 vc) 1 vs w := Src.ofSlice w Tryz.underlying38 ⟨h, 0, none⟩ 1 vc vs (by rw [hvl]; rfl) (fun j u hj => by
    rw [Addr.add_lit, Nat.zero_add]
    refine cell_in hh ?_
    rw [← hr, List.getElem?_take] at hj
    split at hj
    · exact hj
    · cases hj) h1
  have hold : (Builtin.firstCells (Tryz.t77).size n (.slice base n cap)).run Tryz.prog w.drew = .ok olds.toArray w.drew := by
    rcases hbase with ⟨rfl, rfl⟩ | ⟨g, cur, T, rfl, hg, hc⟩
    · have ho : olds = [] := by simpa using hol
      rw [ho]
      exact run_firstCells_none w.drew _ 0 0 cap
    · exact run_firstCells_some w.drew _ n ⟨g, 0, none⟩ n cap olds (by rw [hol]; rfl) (fun j v hj => by
        rw [Addr.add_lit, Nat.zero_add]
        refine cell_in (w := w.drew) hg ?_
        rw [← hc, List.getElem?_take] at hj
        split at hj
        · exact hj
        · cases hj)
  obtain ⟨G, hG⟩ : ∃ G, G = grownCap w (n + 1) cap (77) := ⟨_, rfl⟩
  have hG1 : n + 1 ≤ G := by rw [hG]; exact grownCap_ge w _ _ _
  have hG2 : G ≤ maxLen := by rw [hG]; exact grownCap_le_maxLen w (n + 1) cap _ (by unfold maxLen; omega)
  have hrun : ∃ z : List Value, z.length = (G - (n + 1)) * 4 ∧ ∀ ty, (Builtin.append_ #[(38), (38)] ty #[.slice base n cap, .slice (some ⟨h, 0, none⟩) 1 vc]).run Tryz.prog w = .ok (.slice (some ⟨w.heap.size, 0, none⟩) (n + 1) G) (w.drew.alloc (.cells ((olds ++ vs) ++ z).toArray (77))) := by
    refine ⟨(Builtin.zeroCells (Value.agg #[.int .i64 0, .int .i64 0, .slice none 0 0, .slice none 0 0]).cells (G - (n + 1))).toList, by simp [Builtin.zeroCells, Value.cells], fun ty => ?_⟩
    have := run_append_grow_src w (38) (38) ty (77) Tryz.t77 (Value.agg #[.int .i64 0, .int .i64 0, .slice none 0 0, .slice none 0 0]) Tryz.underlying38 (by kernel_rfl) (by kernel_rfl) base n cap olds hold _ 1 vs hsrc hroom (by omega) (growslice_fits hroom (by have e : (Tryz.t77).bytes = 64 := rfl; rw [e]; omega))
    rw [this, ← hG]
    congr 4
    apply Array.ext'
    simp
  obtain ⟨z, hz, hrun⟩ := hrun
  clear hsrc hr hh hold hG
  have HG1 : Aside _ := hG1
  have HG2 : Aside _ := hG2
  clear hG1 hG2
  go_enter Tryz.func118, Tryz.ntmps118
  rcases hbase with ⟨rfl, rfl⟩ | ⟨g, cur, T, rfl, hg, hc⟩
  · go_wp2_with (at_builtin; refine Lib.wpList_append_run _ rfl _ _ _ _ rfl _ _ rfl rfl _ _ (hrun _) ?_)
    go_ret
    exact ⟨G, z, HG1.out, HG2.out, hz, rfl, by rw [List.append_assoc olds vs z]; rfl⟩
  · clear hg hc
    go_wp2_with (at_builtin; refine Lib.wpList_append_run _ rfl _ _ _ _ rfl _ _ rfl rfl _ _ (hrun _) ?_)
    go_ret
    exact ⟨G, z, HG1.out, HG2.out, hz, rfl, by rw [List.append_assoc olds vs z]; rfl⟩
set_option maxHeartbeats 8000000 in
set_option maxRecDepth 100000 in
theorem ins_mid_room (w : World) (g n cap i h vc m : Nat) (cur row : Array Value) (T T2 : TypeId) (cs vs : List Value) (hg : w.heap[g]? = some (.cells cur T (0, 0))) (hh : w.heap[h]? = some (.cells row T2 (0, 0))) (hr : row.toList.take 4 = vs) (hvl : vs.length = 4) (h1 : ∀ v ∈ vs, v.oneCell' = true)
    (hcs : cur.toList.take (n * 4) = cs) (h1c : ∀ v ∈ cs, v.oneCell' = true) (hi : i < n) (hm : m = 1) (hroom : n + m ≤ cap) (hcap : cap * 4 ≤ cur.size) (hc63 : cap ≤ 9223372036854775807) (hne : h ≠ g) :
    Calls Tryz.prog 118 #[.slice (some ⟨g, 0, none⟩) n cap, .int .i64 i, .slice (some ⟨h, 0, none⟩) m vc] w fun e w' => e = .returned (.slice (some ⟨g, 0, none⟩) (n + m) cap) ∧ Keeps w w' [g] ∧ ∃ cj : Array Value, w'.heap[g]? = some (.cells cj T (0, 0)) ∧ cj.size = cur.size ∧ cj.toList.take ((n + m) * 4) = cs.take (i * 4) ++ vs ++ cs.drop (i * 4) := by
  have mixed := mixed
  have hz1 : ¬ ((m : Int) = 0) := by omega
  have hz2 : ¬ ((i : Int) = (n : Int)) := by omega
  have hov : ∀ x lb cb, (callFunc 194 #[.slice (some ⟨h, 0, none⟩) m vc, .slice (some ⟨g, x, none⟩) lb cb]).run Tryz.prog w = .ok (.value (.bool false)) w := fun x lb cb => by
    rw [run_callFunc_extern Tryz.func194 (by kernel_rfl) (by kernel_rfl) (by kernel_rfl) (e := Extern.SlicesOverlaps.overlaps #[(38), (38)] #[4]) (by kernel_rfl),
      Lib.run_overlaps_apart w (38) 4 (77) Tryz.underlying38 4 (fun w => by kernel_rfl) ⟨h, 0, none⟩ ⟨g, x, none⟩ m vc lb cb hne T2 T row.size cur.size (shape_in hh) (shape_in hg) (by omega) (fro_in hh) (fro_in hh)]
    rfl
  have hw1 : IntKind.i64.wrap ((i : Int) + (m : Int)) = (i : Int) + (m : Int) := by rw [IntKind.wrap_i64]; omega
  have hb1 : (0 : Int) ≤ (i : Int) + (m : Int) := by omega
  have hin : i ≤ n := by omega
  have htn : ((i : Int) + (m : Int)).toNat = i + m := by omega
  have hb2 : ¬ (cap = i + m) := by omega
  have hb3 : (i : Int) ≤ (n : Int) + (m : Int) := by omega
  have hb4 : ¬ (cap = i) := by omega
  have hcl : cs.length = n * 4 := by rw [← hcs]; simp; omega
  have hdl : (cs.drop (i * 4)).length = (n - i) * 4 := by rw [List.length_drop, hcl]; omega
  have hsz : (Tryz.prog.info? (77)).map (·.size) = some 4 := by kernel_rfl
  obtain ⟨W1, hW1⟩ : ∃ W1, W1 = w.drew.setRow g (cur.toList.take ((i + m) * 4) ++ cs.drop (i * 4) ++ cur.toList.drop ((i + m) * 4 + (cs.drop (i * 4)).length)).toArray := ⟨_, rfl⟩
  have hg1 : W1.heap[g]? = some (.cells (cur.toList.take ((i + m) * 4) ++ cs.drop (i * 4) ++ cur.toList.drop ((i + m) * 4 + (cs.drop (i * 4)).length)).toArray T (0, 0)) := by rw [hW1]; exact setRow_heap w.drew g cur _ T (0, 0) hg
  have hcp1 : ∀ ty dc sc, (Builtin.copy_ #[(38), (38)] ty #[.slice (some ⟨g, (i + m) * 4, none⟩) (n + m - (i + m)) dc, .slice (some ⟨g, i * 4, none⟩) (n + m - i) sc]).run Tryz.prog w.drew = .ok (goInt (Nat.min (n + m - i) (n + m - (i + m)))) W1 := fun ty dc sc => by
    rw [hW1]
    exact run_copy_rowN w.drew _ _ ty (77) 4 g ((i + m) * 4) (n + m - (i + m)) dc ⟨g, i * 4, none⟩ (n + m - i) sc cur T (cs.drop (i * 4)) Tryz.underlying38 hsz hg (by rw [hdl]; simp only [Nat.min_def]; split <;> omega)
      (fun j v hj => by
        rw [Addr.add_lit]
        refine cell_in (w := w.drew) hg ?_
        rw [List.getElem?_drop, ← hcs, List.getElem?_take] at hj
        split at hj
        · exact hj
        · cases hj) (by rw [hdl]; omega) (fun v hv => h1c v (List.mem_of_mem_drop hv))
  obtain ⟨R1, hR1⟩ : ∃ R1, R1 = (cur.toList.take ((i + m) * 4) ++ cs.drop (i * 4) ++ cur.toList.drop ((i + m) * 4 + (cs.drop (i * 4)).length)).toArray := ⟨_, rfl⟩
  rw [← hR1] at hg1 hW1
  have hRs : R1.size = cur.size := by
    rw [hR1]; simp only [List.size_toArray, List.length_append, List.length_take, List.length_drop, Array.length_toList, hcl]; omega
  have hh1 : ∀ W : World, W.heap = W1.heap → W.heap[h]? = some (.cells row T2 (0, 0)) := fun W hW => by rw [hW, hW1]; exact (setRow_other w.drew g h _ hne).trans hh
  have hcp2 : ∀ (W : World), W.heap = W1.heap → ∀ ty dc, (Builtin.copy_ #[(38), (38)] ty #[.slice (some ⟨g, i * 4, none⟩) (n + m - i) dc, .slice (some ⟨h, 0, none⟩) m vc]).run Tryz.prog W = .ok (goInt (Nat.min m (n + m - i))) (W.setRow g (R1.toList.take (i * 4) ++ vs ++ R1.toList.drop (i * 4 + 4)).toArray) := fun W hW ty dc => by
    have := run_copy_rowN W (38) (38) ty (77) 4 g (i * 4) (n + m - i) dc ⟨h, 0, none⟩ m vc R1 T vs Tryz.underlying38 hsz (by rw [hW]; exact hg1) (by rw [hvl]; simp only [Nat.min_def]; split <;> omega)
      (fun j v hj => by
        rw [Addr.add_lit, Nat.zero_add]
        refine cell_in (hh1 W hW) ?_
        rw [← hr, List.getElem?_take] at hj
        split at hj
        · exact hj
        · cases hj) (by rw [hvl, hRs]; omega) h1
    rw [hvl] at this
    exact this
  have hfin : ∀ W : World, W.heap = W1.heap → W.os = w.os → W.tape = w.tape → W.output = w.output → Keeps w (W.setRow g (R1.toList.take (i * 4) ++ vs ++ R1.toList.drop (i * 4 + 4)).toArray) [g] ∧ ∃ cj : Array Value, (W.setRow g (R1.toList.take (i * 4) ++ vs ++ R1.toList.drop (i * 4 + 4)).toArray).heap[g]? = some (.cells cj T (0, 0)) ∧ cj.size = cur.size ∧ cj.toList.take ((n + m) * 4) = cs.take (i * 4) ++ vs ++ cs.drop (i * 4) := by
    intro W hW e1 e2 e3
    have hgW : W.heap[g]? = some (.cells R1 T (0, 0)) := by rw [hW]; exact hg1
    have hk : Keeps w W [g] := ⟨e1, e2, e3, by rw [hW, hW1, setRow_size]; exact Nat.le_refl _, fun b _ hb => by rw [hW, hW1]; exact setRow_other w.drew g b _ (by simpa using hb)⟩
    refine ⟨keepsTr hk (keepsRow W g _) (by simp), _, setRow_heap W g R1 _ T (0, 0) hgW, ?_, ?_⟩
    · simp only [List.size_toArray, List.length_append, List.length_take, List.length_drop, Array.length_toList, hvl, hRs]; omega
    · subst hm
      have q1 : R1.toList.take (i * 4) = cs.take (i * 4) := by
        rw [hR1, ← hcs]
        simp only [List.append_assoc]
        rw [List.take_append_of_le_length (by simp; omega), List.take_take, List.take_take]
        congr 1
        omega
      have q2 : R1.toList.drop (i * 4 + 4) = cs.drop (i * 4) ++ cur.toList.drop ((i + 1) * 4 + (cs.drop (i * 4)).length) := by
        rw [hR1]
        simp only [List.append_assoc]
        rw [List.drop_append, List.drop_of_length_le (by simp; omega)]
        rw [show i * 4 + 4 - (cur.toList.take ((i + 1) * 4)).length = 0 by simp; omega]
        simp
      rw [List.toList_toArray, q1, q2, ← List.append_assoc, List.take_append_of_le_length (by simp; omega), List.take_of_length_le (by simp; omega)]
  have HF : Aside _ := hfin
  have HM : Aside (m = 1) := hm
  clear hm hfin hR1 hRs hg1 hh1 hr hvl h1 h1c hcs hcl hdl hg hh hcap
  go_enter Tryz.func118, Tryz.ntmps118
  go_wp2_with (simp only [hov])
  go_region_law_o (refine step_copy_runI rfl _ _ (38) (38) rfl _ _ (by simp [Act.eval, Act.put]) (by simp [Act.eval, Act.put]) (hcp1 _ _ _) ?_)
  go_wp2_with (at_builtin; refine wpList_copy_runI _ rfl _ _ (38) (38) rfl _ _ rfl rfl (hcp2 _ rfl _ _) ?_)
  go_ret
  have hf := HF.out W1 rfl (by rw [hW1]; rfl) (by rw [hW1]; rfl) (by rw [hW1]; rfl)
  rw [hW1] at hf
  simp only [List.append_assoc] at hf ⊢
  exact ⟨rfl, hf⟩
set_option maxHeartbeats 8000000 in
set_option maxRecDepth 100000 in
theorem ins_mid_grow (w : World) (g n cap i h vc m : Nat) (cur row : Array Value) (T T2 : TypeId) (cs vs : List Value) (hg : w.heap[g]? = some (.cells cur T (0, 0))) (hh : w.heap[h]? = some (.cells row T2 (0, 0))) (hr : row.toList.take 4 = vs) (hvl : vs.length = 4) (h1 : ∀ v ∈ vs, v.oneCell' = true)
    (hcs : cur.toList.take (n * 4) = cs) (h1c : ∀ v ∈ cs, v.oneCell' = true) (hi : i < n) (hm : m = 1) (hnc : n ≤ cap) (hroom : cap < n + m) (hcap : cap * 4 ≤ cur.size) (hbig : n ≤ 1099511627776) :
    Calls Tryz.prog 118 #[.slice (some ⟨g, 0, none⟩) n cap, .int .i64 i, .slice (some ⟨h, 0, none⟩) m vc] w fun e w' => ∃ G, n + m ≤ G ∧ G ≤ maxLen ∧ e = .returned (.slice (some ⟨w.heap.size, 0, none⟩) (n + m) G) ∧ Keeps w w' [] ∧ ∃ cj : Array Value, w'.heap[w.heap.size]? = some (.cells cj (77) (0, 0)) ∧ cj.size = G * 4 ∧ cj.toList.take ((n + m) * 4) = cs.take (i * 4) ++ vs ++ cs.drop (i * 4) := by
  have mixed := mixed
  have hz1 : ¬ ((m : Int) = 0) := by omega
  have hz2 : ¬ ((i : Int) = (n : Int)) := by omega
  have hz3 : (cap : Int) < (n : Int) + (m : Int) := by omega
  have hgs : g < w.heap.size := (Array.getElem?_eq_some_iff.1 hg).1
  have hhs : h < w.heap.size := (Array.getElem?_eq_some_iff.1 hh).1
  have hkk : (n : Int) + (m : Int) - (i : Int) = ((n + m - i : Nat) : Int) := by omega
  have hik : i + (n + m - i) = n + m := by omega
  have hw1 : IntKind.i64.wrap ((i : Int) + (m : Int)) = (i : Int) + (m : Int) := by rw [IntKind.wrap_i64]; omega
  have hb1 : (0 : Int) ≤ (i : Int) + (m : Int) := by omega
  have hin : i ≤ n := by omega
  have htn : ((i : Int) + (m : Int)).toNat = i + m := by omega
  have hb3 : (i : Int) ≤ (n : Int) := by omega
  have hci : ¬ (cap = i) := by omega
  have hcl : cs.length = n * 4 := by rw [← hcs]; simp; omega
  have hdl : (cs.drop (i * 4)).length = (n - i) * 4 := by rw [List.length_drop, hcl]; omega
  have htl : (cs.take (i * 4)).length = i * 4 := by rw [List.length_take, hcl]; omega
  have hsz : (Tryz.prog.info? (77)).map (·.size) = some 4 := by kernel_rfl
  have hat : ∀ j v, cs[j]? = some v → cur.toList[j]? = some v := fun j v hj => by
    rw [← hcs, List.getElem?_take] at hj
    split at hj
    · exact hj
    · cases hj
  obtain ⟨G, hG⟩ : ∃ G, G = grownCap w (n + m) cap (77) := ⟨_, rfl⟩
  have hG1 : n + m ≤ G := by rw [hG]; exact grownCap_ge w _ _ _
  have hG2 : G ≤ maxLen := by rw [hG]; exact grownCap_le_maxLen w (n + m) cap _ (by unfold maxLen; omega)
  have hG63 : G ≤ 9223372036854775807 := by unfold maxLen at hG2; omega
  have hGi : ¬ (G = i) := by omega
  have hGim : ¬ (G = i + m) := by omega
  have hold : (Builtin.firstCells (Tryz.t77).size i (.slice (some ⟨g, 0, none⟩) i cap)).run Tryz.prog w.drew = .ok (cs.take (i * 4)).toArray w.drew :=
    run_firstCells_some w.drew _ i ⟨g, 0, none⟩ i cap (cs.take (i * 4)) (by rw [htl]; rfl) (fun j v hj => by
      rw [Addr.add_lit, Nat.zero_add]
      refine cell_in (w := w.drew) hg (hat j v ?_)
      rw [List.getElem?_take] at hj
      split at hj
      · exact hj
      · cases hj)
  obtain ⟨Z, hZl, hrz⟩ : ∃ Z : List Value, Z.length = (G - i) * 4 ∧ ∀ ty, (Builtin.append_ #[(38), 3] ty #[.slice (some ⟨g, 0, none⟩) i cap, .int .i64 ((n : Int) + (m : Int) - (i : Int))]).run Tryz.prog w = .ok (.slice (some ⟨w.heap.size, 0, none⟩) (n + m) G) (w.drew.alloc (.cells (cs.take (i * 4) ++ Z).toArray (77))) := by
    refine ⟨(Builtin.zeroCells (Value.agg #[.int .i64 0, .int .i64 0, .slice none 0 0, .slice none 0 0]).cells (n + m - i)).toList ++ (Builtin.zeroCells (Value.agg #[.int .i64 0, .int .i64 0, .slice none 0 0, .slice none 0 0]).cells (G - (n + m))).toList, by simp [Builtin.zeroCells, Value.cells]; omega, fun ty => ?_⟩
    have hq := Lib.run_append_grow_zeros w (38) 3 ty (77) Tryz.t77 (Value.agg #[.int .i64 0, .int .i64 0, .slice none 0 0, .slice none 0 0]) .i64 .i64 Tryz.underlying38 Tryz.underlying3 (by kernel_rfl) (by kernel_rfl) (some ⟨g, 0, none⟩) i cap (cs.take (i * 4)) hold (n + m - i) (by omega) (by decide) (by omega) (by omega)
      (by have e : (Tryz.t77).bytes = 64 := rfl; rw [e]; omega) (by have e : (Tryz.t77).bytes = 64 := rfl; rw [e, hik]; exact growslice_fits hroom (by omega))
    rw [hik, ← hG] at hq
    rw [hkk, hq]
    congr 4
    apply Array.ext'
    simp
  obtain ⟨R0, hR0⟩ : ∃ R0, R0 = (cs.take (i * 4) ++ Z).toArray := ⟨_, rfl⟩
  rw [← hR0] at hrz
  have hs0 : R0.size = G * 4 := by rw [hR0]; simp only [List.size_toArray, List.length_append, htl, hZl]; omega
  obtain ⟨RA, hRA⟩ : ∃ RA, RA = (R0.toList.take (i * 4) ++ vs ++ R0.toList.drop (i * 4 + 4)).toArray := ⟨_, rfl⟩
  have hsA : RA.size = G * 4 := by rw [hRA]; simp only [List.size_toArray, List.length_append, List.length_take, List.length_drop, Array.length_toList, hvl, hs0]; omega
  obtain ⟨RB, hRB⟩ : ∃ RB, RB = (RA.toList.take ((i + m) * 4) ++ cs.drop (i * 4) ++ RA.toList.drop ((i + m) * 4 + (cs.drop (i * 4)).length)).toArray := ⟨_, rfl⟩
  have hsB : RB.size = G * 4 := by rw [hRB]; simp only [List.size_toArray, List.length_append, List.length_take, List.length_drop, Array.length_toList, hsA, hcl]; omega
  obtain ⟨W1, hW1⟩ : ∃ W1, W1 = w.drew.alloc (.cells R0 (77)) := ⟨_, rfl⟩
  have h0 : W1.heap[w.heap.size]? = some (.cells R0 (77) (0, 0)) := by rw [hW1]; show (w.heap.push _)[w.heap.size]? = _; simp
  have hlt : ∀ b, b < w.heap.size → W1.heap[b]? = w.heap[b]? := fun b hb => by rw [hW1]; exact (keepsAl w.drew _).block b hb (by simp)
  rw [← hW1] at hrz
  have hcpA : ∀ (W : World), W.heap = W1.heap → ∀ ty dc, (Builtin.copy_ #[(38), (38)] ty #[.slice (some ⟨w.heap.size, i * 4, none⟩) (n + m - i) dc, .slice (some ⟨h, 0, none⟩) m vc]).run Tryz.prog W = .ok (goInt (Nat.min m (n + m - i))) (W.setRow w.heap.size RA) := fun W hW ty dc => by
    have := run_copy_rowN W (38) (38) ty (77) 4 w.heap.size (i * 4) (n + m - i) dc ⟨h, 0, none⟩ m vc R0 (77) vs Tryz.underlying38 hsz (by rw [hW]; exact h0) (by rw [hvl]; simp only [Nat.min_def]; split <;> omega)
      (fun j v hj => by
        rw [Addr.add_lit, Nat.zero_add]
        refine cell_in (show W.heap[h]? = _ by rw [hW, hlt h hhs]; exact hh) ?_
        rw [← hr, List.getElem?_take] at hj
        split at hj
        · exact hj
        · cases hj) (by rw [hvl, hs0]; omega) h1
    rw [hvl, ← hRA] at this
    exact this
  have hcpB : ∀ (W : World), W.heap = (W1.setRow w.heap.size RA).heap → ∀ ty dc sc, (Builtin.copy_ #[(38), (38)] ty #[.slice (some ⟨w.heap.size, (i + m) * 4, none⟩) (n + m - (i + m)) dc, .slice (some ⟨g, i * 4, none⟩) (n - i) sc]).run Tryz.prog W = .ok (goInt (Nat.min (n - i) (n + m - (i + m)))) (W.setRow w.heap.size RB) := fun W hW ty dc sc => by
    rw [hRB]
    exact run_copy_rowN W (38) (38) ty (77) 4 w.heap.size ((i + m) * 4) (n + m - (i + m)) dc ⟨g, i * 4, none⟩ (n - i) sc RA (77) (cs.drop (i * 4)) Tryz.underlying38 hsz (by rw [hW]; exact setRow_heap W1 _ R0 _ (77) (0, 0) h0) (by rw [hdl]; simp only [Nat.min_def]; split <;> omega)
      (fun j v hj => by
        rw [Addr.add_lit]
        refine cell_in (show W.heap[g]? = _ by rw [hW, setRow_other W1 _ g _ (by omega), hlt g hgs]; exact hg) ?_
        rw [List.getElem?_drop] at hj
        exact hat _ _ hj) (by rw [hdl, hsA]; omega) (fun v hv => h1c v (List.mem_of_mem_drop hv))
  have hfin : ∀ W : World, W.heap = (W1.setRow w.heap.size RA).heap → W.os = w.os → W.tape = w.tape → W.output = w.output → Keeps w (W.setRow w.heap.size RB) [] ∧ ∃ cj : Array Value, (W.setRow w.heap.size RB).heap[w.heap.size]? = some (.cells cj (77) (0, 0)) ∧ cj.size = G * 4 ∧ cj.toList.take ((n + m) * 4) = cs.take (i * 4) ++ vs ++ cs.drop (i * 4) := by
    intro W hW e1 e2 e3
    have hgW : W.heap[w.heap.size]? = some (.cells RA (77) (0, 0)) := by rw [hW]; exact setRow_heap W1 _ R0 _ (77) (0, 0) h0
    have hW1s : w.heap.size ≤ W1.heap.size := by rw [hW1]; exact (keepsAl w.drew _).size
    have hk : Keeps w W [] := ⟨e1, e2, e3, by rw [hW, setRow_size]; exact hW1s, fun b hb _ => by rw [hW, setRow_other W1 _ b _ (by omega)]; exact hlt b hb⟩
    refine ⟨keepsTr hk (keepsRow W _ _) (by simp), _, setRow_heap W _ RA _ (77) (0, 0) hgW, hsB, ?_⟩
    subst hm
    have q0 : R0.toList.take (i * 4) = cs.take (i * 4) := by
      rw [hR0]; simp only [List.toList_toArray]
      rw [List.take_append_of_le_length (by omega), List.take_take, Nat.min_self]
    have q1 : RA.toList.take ((i + 1) * 4) = cs.take (i * 4) ++ vs := by
      rw [hRA]; simp only [List.toList_toArray]
      rw [q0, List.take_append_of_le_length (by simp only [List.length_append, htl, hvl]; omega), List.take_of_length_le (by simp only [List.length_append, htl, hvl]; omega)]
    rw [hRB]; simp only [List.toList_toArray]
    rw [q1, List.take_append_of_le_length (by simp only [List.length_append, htl, hvl, hdl]; omega), List.take_of_length_le (by simp only [List.length_append, htl, hvl, hdl]; omega)]
  have HF : Aside _ := hfin
  have HM : Aside (m = 1) := hm
  have HG1 : Aside _ := hG1
  have HG2 : Aside _ := hG2
  have HW1 : Aside _ := hW1
  clear hkk hik hW1 hold hm hfin hR0 hRA hRB hs0 hsA hsB h0 hlt hr hvl h1 h1c hcs hcl hdl htl hat hg hh hcap hG2 hG hZl
  go_enter Tryz.func118, Tryz.ntmps118
  go_wp2_with (first
    | (at_builtin; refine Lib.wpList_append_run _ rfl _ _ _ _ rfl _ _ rfl rfl _ _ (hrz _) ?_)
    | (at_builtin; refine wpList_copy_runI _ rfl _ _ (38) (38) rfl _ _ rfl rfl (hcpA _ rfl _ _) ?_))
  go_region_law_o (refine step_copy_runI rfl _ _ (38) (38) rfl (.slice (some ⟨w.heap.size, (i + m) * 4, none⟩) (n + m - (i + m)) (G - (i + m))) (.slice (some ⟨g, i * 4, none⟩) (n - i) (cap - i)) (by simp [Act.eval, Act.put]) (by simp [Act.eval, Act.put]) (hcpB (W1.setRow w.heap.size RA).drew rfl 3 (G - (i + m)) (cap - i)) ?_)
  go_wp2
  go_ret
  have hf := HF.out (W1.setRow w.heap.size RA).drew rfl (by rw [HW1.out]; rfl) (by rw [HW1.out]; rfl) (by rw [HW1.out]; rfl)
  exact ⟨G, HG1.out, HG2.out, rfl, hf⟩
end
end Go.Proofs.YtigkmijoefibiaaGreat
