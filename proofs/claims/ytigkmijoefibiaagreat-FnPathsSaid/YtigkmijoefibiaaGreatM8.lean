/- Contracts of functions of the program: no statement of the seat is proved here. Each under the conditions that stand in it. -/
import Derived.Test.YtigkmijoefibiaaGreatFa
import Derived.Test.YtigkmijoefibiaaGreatM4
import Derived.Test.YtigkmijoefibiaaGreatRa
import Derived.Tactics
import Derived.Tactics2
import Derived.StillTactics
import Derived.LoopN
import Derived.Handy
import Derived.Deep.RegionLaw
import Derived.Deep.LoopGhost
import Derived.Laws.CopyOwn
import Derived.WalkKit
import Derived.Lib.Walk
import Derived.Lib.SliceRun
import Derived.Shelf.RegionOpenPlain
set_option linter.all false
namespace Go.Proofs.YtigkmijoefibiaaGreat
open Go.Vs Go.Proofs
/-! A lent slice whose elements hold memory of their own, where the elements' memory need not come back -/
theorem FOk.half {P : Program} {f : FuncId} {sz : Nat} {els : List (List AV)} {rest outs : List Arg} {res : Arg} (h : FOk P f ((.one, [sl true sz (shcLL els)]) :: rest) outs res) : FOk P f ((.one, [sl true sz els]) :: rest) outs res := by
  refine ⟨h.1, fun w S vals fp hS hnd hfp hreps hgl => ?_⟩
  generalize haa : ((Shape.one, [sl true sz els]) :: rest) = aa at hreps
  cases hreps with
  | nil => cases haa
  | @cons s1 as1 vs1 f1 args1 vals1 fps1 h1 t1 =>
    obtain ⟨e1, e2⟩ := List.cons.inj haa
    cases e1
    cases e2
    cases h1 with
    | nils hf t =>
      exact h.2 w S _ _ hS hnd hfp (Reps.cons (Rep.nils hf t) t1) hgl
    | @owd _ _ _ _ g n cap _ cur T _ _ fi fq hnf hgc hn hsz hpos hcap hmax hcur hinr t =>
      cases t
      simp only [List.append_nil] at *
      have hfiS : ∀ b ∈ fi, b ∉ g :: fps1 := by
        intro b hb hc
        rw [List.nodup_append] at hnd
        rcases List.mem_cons.1 hc with rfl | hc
        · exact (List.nodup_cons.1 hnd.1).1 hb
        · exact hnd.2.2 b (by simp [hb]) b hc rfl
      have hin2 := hinr.shc (S' := fun b => S b ∨ b ∈ fi) (fun b hb => .inl hb) (fun b hb => .inr hb)
      rw [← shcLL_flatten] at hin2
      have hsz2 : ∀ el ∈ shcLL els, el.length = sz := by
        intro el he
        have : ∀ (L : List (List AV)), (∀ el ∈ L, el.length = sz) → ∀ el ∈ shcLL L, el.length = sz := by
          intro L
          induction L with
          | nil => intro _ el he; simp [shcLL] at he
          | cons x L ih =>
            intro hL el he
            rw [shcLL] at he
            rcases List.mem_cons.1 he with rfl | he
            · have : ∀ m : List AV, (shcL m).length = m.length := by
                intro m
                induction m with
                | nil => rfl
                | cons y m ih => simp [shcL, ih]
              rw [this]; exact hL x (by simp)
            · exact ih (fun el he => hL el (by simp [he])) el he
        exact this els hsz el he
      have hlen2 : (shcLL els).length = els.length := by
        have : ∀ (L : List (List AV)), (shcLL L).length = L.length := by
          intro L
          induction L with
          | nil => rfl
          | cons x L ih => simp [shcLL, ih]
        exact this els
      have hrep := Rep.owd (β := fun _ => none) (S := fun b => S b ∨ b ∈ fi) (nf := NF.unk) hnf hgc (hlen2.trans hn) hsz2 hpos hcap hmax hcur hin2 Rep.nil
      simp only [List.append_nil] at hrep
      have hc := h.2 w (fun b => S b ∨ b ∈ fi) (shVal .one [.slice (some ⟨g, 0, none⟩) n cap] :: vals1) ([g] ++ fps1) ?_ ?_ ?_ (Reps.cons hrep (t1.mono fun b hb => .inl hb)) ?_
      · refine hc.mono ?_
        rintro e w' ⟨rvs, fpr, fp', rfl, hfit, hk, hn1, hn2, hr1, hr2⟩
        refine ⟨rvs, fpr, fp', rfl, hfit, ⟨hk.os, hk.tape, hk.output, hk.size, fun b hb hb2 => hk.block b hb (fun hb3 => hb2 ?_)⟩, hn1, fun b hb => ⟨?_, (hn2 b hb).2⟩, ?_, ?_⟩
        · simp at hb3 ⊢
          rcases hb3 with rfl | hb3
          · exact .inl rfl
          · exact .inr (.inr hb3)
        · rcases (hn2 b hb).1 with h | h
          · left
            simp at h ⊢
            rcases h with rfl | h
            · exact .inl rfl
            · exact .inr (.inr h)
          · exact .inr h
        · refine hr1.mono (fun b hb => ⟨⟨?_, hb.2⟩, rfl⟩) (fun _ _ => rfl) (fun _ _ h => h)
          rcases hb.1 with (h | h) | h | h
          · exact .inl h
          · exact .inr (.inl (by simp [h]))
          · exact .inr (.inl (by simp at h ⊢; rcases h with h | h <;> simp [h]))
          · exact .inr (.inr h)
        · refine hr2.mono (fun b hb => ⟨?_, hb.2⟩)
          rcases hb.1 with (h | h) | h | h
          · exact .inl h
          · exact .inr (.inl (by simp [h]))
          · exact .inr (.inl (by simp at h ⊢; rcases h with h | h <;> simp [h]))
          · exact .inr (.inr h)
      · rintro b (hb | hb)
        · refine ⟨(hS b hb).1, fun hc => (hS b hb).2 ?_⟩
          simp at hc ⊢
          rcases hc with h | h <;> simp [h]
        · refine ⟨hfp b (by simp [hb]), ?_⟩
          simpa using hfiS b hb
      · rw [List.nodup_append] at hnd ⊢
        refine ⟨by simp, hnd.2.1, ?_⟩
        intro a ha b hb
        exact hnd.2.2 a (by simp at ha; simp [ha]) b hb
      · intro b hb
        refine hfp b ?_
        simp at hb ⊢
        rcases hb with h | h <;> simp [h]
      · intro g' cs hg
        exact ⟨.inl (hgl g' cs hg).1, (hgl g' cs hg).2⟩
/-! slices.DeleteFunc at elements of three cells: the walk -/
section
open Go.Lib Go.Shelf Go.RowKit
theorem run_clear_c {P : Program} (w : World) (t e : TypeId) (z : Value) (ht : P.underlying t = some (.slice e)) (hv : ∀ w, (zeroValue e).run P w = .ok z w) (hz0 : 0 < z.cells.size) (h1 : ∀ v ∈ z.cells.toList, v.oneCell' = true) (g o n c : Nat) (hn : 0 < n) (cur : Array Value) (T : TypeId) (hg : w.heap[g]? = some (.cells cur T (0, 0))) (hfit : o + n * z.cells.size ≤ cur.size) :
    ∃ vs : List Value, vs.length = n * z.cells.size ∧ (∀ v ∈ vs, v.oneCell' = true) ∧ ∀ ty, (Builtin.clear_ #[t] ty #[.slice (some ⟨g, o, none⟩) n c]).run P w = .ok (.tuple #[]) (w.setRow g (cur.toList.take o ++ vs ++ cur.toList.drop (o + vs.length)).toArray) := by
  have hlen : (Builtin.zeroCells z.cells n).toList.length = n * z.cells.size := by simp [Builtin.zeroCells]
  have hone : ∀ v ∈ (Builtin.zeroCells z.cells n).toList, v.oneCell' = true := by
    intro v hv'
    simp only [Builtin.zeroCells, Array.toList_map, List.mem_map] at hv'
    obtain ⟨i, -, rfl⟩ := hv'
    have hlt : i % z.cells.size < z.cells.size := Nat.mod_lt _ hz0
    rw [getElem!_pos z.cells _ hlt]
    exact h1 _ (by simp)
  refine ⟨_, hlen, hone, fun ty => ?_⟩
  have hst := run_storeCells_at P g o T (Builtin.zeroCells z.cells n).toList 0 cur w hg (by rw [hlen]; omega) hone
  simp only [Nat.add_zero] at hst
  obtain ⟨m, rfl⟩ : ∃ m, n = m + 1 := ⟨n - 1, by omega⟩
  simp [Builtin.clear_, run_underlying ht, hv, hst]
/-- What is kept, cell by cell. -/
def kI (kp : Nat → Bool) (j : Nat) : List Nat := (List.range j).filter kp
def kL (kp : Nat → Bool) (c : List Value) (j : Nat) : List Value := (kI kp j).flatMap fun t => (c.drop (t * 3)).take 3
theorem kI_succ (kp : Nat → Bool) (j : Nat) : kI kp (j + 1) = kI kp j ++ if kp j = true then [j] else [] := by
  unfold kI
  rw [List.range_succ, List.filter_append]
  simp only [List.filter_cons, List.filter_nil]
theorem kI_all {kp : Nat → Bool} {k : Nat} (h : ∀ j, j < k → kp j = true) : kI kp k = List.range k := by
  unfold kI
  rw [List.filter_eq_self]
  intro a ha
  exact h a (by simpa using ha)
theorem kL_all {c : List Value} : ∀ {k : Nat}, k * 3 ≤ c.length → (List.range k).flatMap (fun t => (c.drop (t * 3)).take 3) = c.take (k * 3)
  | 0, _ => by simp
  | k + 1, h => by
    rw [List.range_succ, List.flatMap_append, kL_all (by omega)]
    simp only [List.flatMap_cons, List.flatMap_nil, List.append_nil]
    rw [show (k + 1) * 3 = k * 3 + 3 by omega, List.take_add]
theorem set3 {c : List Value} {o : Nat} (h : o + 3 ≤ c.length) (x y z : Value) : ((c.set o x).set (o + 1) y).set (o + 2) z = c.take o ++ [x, y, z] ++ c.drop (o + 3) := by
  obtain ⟨a, r, rfl, rfl⟩ : ∃ a r, c = a ++ r ∧ a.length = o := ⟨c.take o, c.drop o, by simp, by simp; omega⟩
  rcases r with _ | ⟨x0, _ | ⟨x1, _ | ⟨x2, r⟩⟩⟩
  · exfalso; simp at h; omega
  · exfalso; simp at h
  · exfalso; simp at h
  · rw [List.set_append_right _ _ (Nat.le_refl _), List.set_append_right _ _ (by omega), List.set_append_right _ _ (by omega), List.take_left]
    have e1 : a.length + 1 - a.length = 1 := by omega
    have e2 : a.length + 2 - a.length = 2 := by omega
    rw [Nat.sub_self, e1, e2, List.drop_append]
    simp
structure DInv (kp : Nat → Bool) (cur cj : List Value) (i j : Nat) : Prop where
  len : cj.length = cur.length
  hi : i = (kI kp j).length
  lt : i < j
  low : cj.take (i * 3) = kL kp cur j
  high : ∀ x, j * 3 ≤ x → cj[x]? = cur[x]?
theorem DInv.start {kp : Nat → Bool} {cur : List Value} {k : Nat} (h : ∀ j, j < k → kp j = true) (hk : kp k = false) (hl : k * 3 ≤ cur.length) : DInv kp cur cur k (k + 1) := by
  have e : kI kp (k + 1) = List.range k := by rw [kI_succ, kI_all h, hk]; simp
  exact ⟨rfl, by rw [e]; simp, by omega, by rw [kL, e, kL_all hl], fun _ _ => rfl⟩
theorem DInv.skip {kp : Nat → Bool} {cur cj : List Value} {i j : Nat} (h : DInv kp cur cj i j) (hk : kp j = false) : DInv kp cur cj i (j + 1) := by
  have e : kI kp (j + 1) = kI kp j := by rw [kI_succ, hk]; simp
  exact ⟨h.len, by rw [e]; exact h.hi, by have := h.lt; omega, by rw [kL, e]; exact h.low, fun x hx => h.high x (by omega)⟩
theorem DInv.keep {kp : Nat → Bool} {cur cj : List Value} {i j : Nat} (h : DInv kp cur cj i j) (hk : kp j = true) {v0 v1 v2 : Value} (h0 : cur[j * 3]? = some v0) (h1 : cur[j * 3 + 1]? = some v1) (h2 : cur[j * 3 + 2]? = some v2) :
    DInv kp cur (((cj.set (i * 3) v0).set (i * 3 + 1) v1).set (i * 3 + 2) v2) (i + 1) (j + 1) := by
  have e : kI kp (j + 1) = kI kp j ++ [j] := by rw [kI_succ, hk]; simp
  have hlt := h.lt
  have hl2 : j * 3 + 2 < cur.length := (List.getElem?_eq_some_iff.1 h2).1
  have hfit : i * 3 + 3 ≤ cj.length := by rw [h.len]; omega
  refine ⟨by simp [h.len], by rw [e, List.length_append, ← h.hi]; rfl, by omega, ?_, fun x hx => ?_⟩
  · rw [set3 hfit, kL, e, List.flatMap_append, show (i + 1) * 3 = i * 3 + 3 by omega]
    have ht : (cj.take (i * 3) ++ [v0, v1, v2]).length = i * 3 + 3 := by simp; omega
    rw [← ht, List.take_left, h.low]
    congr 1
    simp only [List.flatMap_cons, List.flatMap_nil, List.append_nil]
    have g0 := (List.getElem?_eq_some_iff.1 h0)
    have g1 := (List.getElem?_eq_some_iff.1 h1)
    have g2 := (List.getElem?_eq_some_iff.1 h2)
    rw [List.drop_eq_getElem_cons g0.1, List.drop_eq_getElem_cons g1.1, List.drop_eq_getElem_cons g2.1, g0.2, g1.2, g2.2]
    rfl
  · rw [List.getElem?_set_ne (by omega), List.getElem?_set_ne (by omega), List.getElem?_set_ne (by omega)]
    exact h.high x (by omega)
theorem setCell_o {w : World} {g o : Nat} {c : Array Value} {T : TypeId} (hg : w.heap[g]? = some (.cells c T (0, 0))) (ho : o < c.size) (x : Value) :
    (w.setCell ⟨g, o, none⟩ x).heap[g]? = some (.cells (c.setIfInBounds o x) T (0, 0)) ∧ (∀ b, b ≠ g → (w.setCell ⟨g, o, none⟩ x).heap[b]? = w.heap[b]?) ∧ (w.setCell ⟨g, o, none⟩ x).heap.size = w.heap.size := by
  refine ⟨?_, fun b hb => ?_, ?_⟩
  · simp [World.setCell, Array.getElem?_modify, hg]
  · simp [World.setCell, Array.getElem?_modify, Ne.symm hb]
  · simp [World.setCell]
theorem keepsTr {w w1 w2 : World} {fp fq : List Nat} (h : Keeps w w1 fp) (k : Keeps w1 w2 fq) (hs : ∀ b ∈ fq, b ∈ fp ∨ w.heap.size ≤ b) : Keeps w w2 fp :=
  ⟨k.os.trans h.os, k.tape.trans h.tape, k.output.trans h.output, Nat.le_trans h.size k.size, fun b hb hbf => (k.block b (Nat.lt_of_lt_of_le hb h.size) (fun hq => (hs b hq).elim hbf (fun h2 => by omega))).trans (h.block b hb hbf)⟩
theorem keepsAl (w : World) (o : Obj) : Keeps w (w.alloc o) [] := ⟨rfl, rfl, rfl, by show _ ≤ (w.heap.push _).size; simp, fun b hb _ => by
  show (w.heap.push _)[b]? = _
  rw [Array.getElem?_push, if_neg (by omega)]⟩
theorem keepsSt {w : World} {g o : Nat} {c : Array Value} {T : TypeId} (hg : w.heap[g]? = some (.cells c T (0, 0))) (ho : o < c.size) (x : Value) : Keeps w (w.setCell ⟨g, o, none⟩ x) [g] := by
  obtain ⟨-, h2, h3⟩ := setCell_o hg ho x
  exact ⟨rfl, rfl, rfl, by rw [h3]; exact Nat.le_refl _, fun b _ hb => h2 b (by simpa using hb)⟩
theorem cell_in {w : World} {g o : Nat} {c : Array Value} {T : TypeId} (hg : w.heap[g]? = some (.cells c T (0, 0))) {v : Value} (h : c.toList[o]? = some v) : w.cell? ⟨g, o, none⟩ = some v := by
  have : c[o]? = some v := by simpa using h
  simp [World.cell?, hg, this]
theorem fro_in {w : World} {g o : Nat} {c : Array Value} {T : TypeId} (hg : w.heap[g]? = some (.cells c T (0, 0))) : w.frozen? ⟨g, o, none⟩ = false := by
  simp [World.frozen?, hg]
theorem keepsRow (w : World) (g : Nat) (c : Array Value) : Keeps w (w.setRow g c) [g] := ⟨rfl, rfl, rfl, by rw [setRow_size]; exact Nat.le_refl _, fun b _ hb => setRow_other w g b _ (by simpa using hb)⟩
theorem delF {u w2 : World} {g h o : Nat} {cj : Array Value} {T T2 : TypeId} {v0 v1 v2 : Value} (hk2 : Keeps u w2 []) (hb : u.heap[h]? = some (.cells #[v0, v1, v2] T2 (0, 0))) (hg : u.heap[g]? = some (.cells cj T (0, 0))) (ho : o + 3 ≤ cj.size) :
    w2.cell? ⟨h, 0, none⟩ = some v0 ∧ w2.cell? ⟨h, 1, none⟩ = some v1 ∧ w2.cell? ⟨h, 2, none⟩ = some v2 ∧ (∃ x, w2.cell? ⟨g, o, none⟩ = some x) ∧ (∃ x, w2.cell? ⟨g, o + 1, none⟩ = some x) ∧ (∃ x, w2.cell? ⟨g, o + 2, none⟩ = some x) ∧
      w2.frozen? ⟨g, o, none⟩ = false ∧ w2.frozen? ⟨g, o + 1, none⟩ = false ∧ w2.frozen? ⟨g, o + 2, none⟩ = false ∧ Aside (w2.heap[g]? = some (.cells cj T (0, 0))) ∧ Aside (Keeps u w2 []) := by
  have hb2 := (hk2.block h (Array.getElem?_eq_some_iff.1 hb).1 (by simp)).trans hb
  have hg2 := (hk2.block g (Array.getElem?_eq_some_iff.1 hg).1 (by simp)).trans hg
  exact ⟨cell_in hb2 rfl, cell_in hb2 rfl, cell_in hb2 rfl, ⟨_, cell_in hg2 (List.getElem?_eq_getElem (by simp; omega))⟩, ⟨_, cell_in hg2 (List.getElem?_eq_getElem (by simp; omega))⟩, ⟨_, cell_in hg2 (List.getElem?_eq_getElem (by simp; omega))⟩, fro_in hg2, fro_in hg2, fro_in hg2, hg2, hk2⟩
end
section
open Go.Lib Go.Shelf Go.RowKit
set_option maxHeartbeats 8000000 in
set_option maxRecDepth 100000 in
theorem del_Rout (w : World) (g n cap : Nat) (cur : Array Value) (T : TypeId) (d : FuncId) (lb : Array Value) (kp : Nat → Bool) (k : Nat)
    (hg : w.heap[g]? = some (.cells cur T (0, 0))) (hn : n * 3 ≤ cur.size) (hnm : n ≤ 1099511627776) (hcap : n ≤ cap) (h1c : ∀ v ∈ cur.toList.take (n * 3), v.oneCell' = true)
    (ed : ∀ args w, (callFunc d args).run Tryz.prog w = .ok (.enter d args) w)
    (hIF : Calls Tryz.prog 177 #[.slice (some ⟨g, 0, none⟩) n cap, .func (.func d) #[] lb] w fun e w' => e = .returned (.int .i64 (k : Int)) ∧ Keeps w w' [])
    (hk : k < n) (hk0 : kp k = false) (hk1 : ∀ j, j < k → kp j = true)
    (hd : ∀ (u : World) (j : Nat) (v0 v1 v2 : Value), j < n → cur.toList[j * 3]? = some v0 → cur.toList[j * 3 + 1]? = some v1 → cur.toList[j * 3 + 2]? = some v2 → Keeps w u [g] → Calls Tryz.prog d (#[.agg #[v0, v1, v2]] ++ lb) u fun e u' => e = .returned (.bool (!kp j)) ∧ Keeps u u' []) :
    Calls Tryz.prog 161 #[.slice (some ⟨g, 0, none⟩) n cap, .func (.func d) #[] lb] w fun e w' => e = .returned (.slice (some ⟨g, 0, none⟩) (kI kp n).length cap) ∧ Keeps w w' [g] ∧ ∃ cj : Array Value,
      w'.heap[g]? = some (.cells cj T (0, 0)) ∧ cj.size = cur.size ∧ cj.toList.take ((kI kp n).length * 3) = kL kp cur.toList n := by
  have mixed := mixed
  have hgs : g < w.heap.size := (Array.getElem?_eq_some_iff.1 hg).1
  have hne1 : ((k : Int) == -1) = false := beq_eq_false_iff_ne.2 (by omega)
  have eIF : ∀ args w, (callFunc 177 args).run Tryz.prog w = .ok (.enter 177 args) w := enters_of Tryz.func177 (by kernel_rfl) rfl
  have hm : ∀ t, t < n * 3 → ∀ v, cur.toList[t]? = some v → v.oneCell' = true := fun t ht v hv => h1c v (List.mem_of_getElem? (i := t) (by rw [List.getElem?_take, if_pos ht]; exact hv))
  have HM : Aside _ := hm
  have HD : Aside _ := hd
  have HI : Aside (DInv kp cur.toList cur.toList k (k + 1)) := DInv.start hk1 hk0 (by simp; omega)
  clear hd hm h1c
  go_enter Tryz.func161, Tryz.ntmps161
  go_wp2_with (go_at_fn (177); refine hIF.mono ?_; rintro e w' ⟨rfl, hkw⟩)
  go_loopg [5, 6] n (fun gg s5 s6 wr => ∃ (i j : Nat) (cj : Array Value), s5 = .int .i64 i ∧ s6 = .int .i64 j ∧ j ≤ n ∧ n - j ≤ gg ∧ Aside (Keeps w wr [g]) ∧ Aside (wr.heap[g]? = some (.cells cj T (0, 0))) ∧ Aside (DInv kp cur.toList cj.toList i j))
  case atStart => exact ⟨k, k + 1, cur, rfl, by go_num, by omega, by omega, (⟨hkw.os, hkw.tape, hkw.output, hkw.size, fun b hb _ => hkw.block b hb (by simp)⟩ : Keeps w w' [g]), (hkw.block g hgs (by simp)).trans hg, HI.out⟩
  case round =>
    obtain ⟨i, j, cj, rfl, rfl, hjn, hgg, HK, HG, HV⟩ := hrel
    by_cases hlt : j < n
    · have hltz : (j : Int) < (n : Int) := by omega
      obtain ⟨v0, hv0⟩ : ∃ v, cur.toList[j * 3]? = some v := ⟨_, List.getElem?_eq_getElem (by simp; omega)⟩
      obtain ⟨v1, hv1⟩ : ∃ v, cur.toList[j * 3 + 1]? = some v := ⟨_, List.getElem?_eq_getElem (by simp; omega)⟩
      obtain ⟨v2, hv2⟩ : ∃ v, cur.toList[j * 3 + 2]? = some v := ⟨_, List.getElem?_eq_getElem (by simp; omega)⟩
      have o0 := HM.out _ (by omega) v0 hv0
      have o1 := HM.out _ (by omega) v1 hv1
      have o2 := HM.out _ (by omega) v2 hv2
      have c0 : wr.cell? ⟨g, j * 3, none⟩ = some v0 := cell_in HG.out ((HV.out.high _ (by omega)).trans hv0)
      have c1 : wr.cell? ⟨g, j * 3 + 1, none⟩ = some v1 := cell_in HG.out ((HV.out.high _ (by omega)).trans hv1)
      have c2 : wr.cell? ⟨g, j * 3 + 2, none⟩ = some v2 := cell_in HG.out ((HV.out.high _ (by omega)).trans hv2)
      have s0 : ∀ (a : Addr) (m : Mode) (w : World), (store a v0 m).run Tryz.prog w = stored Tryz.prog w a v0 m := fun a m w => run_store Tryz.prog w a v0 m o0
      have s1 : ∀ (a : Addr) (m : Mode) (w : World), (store a v1 m).run Tryz.prog w = stored Tryz.prog w a v1 m := fun a m w => run_store Tryz.prog w a v1 m o1
      have s2 : ∀ (a : Addr) (m : Mode) (w : World), (store a v2 m).run Tryz.prog w = stored Tryz.prog w a v2 m := fun a m w => run_store Tryz.prog w a v2 m o2
      have V0 : Aside (cur.toList[j * 3]? = some v0) := hv0
      have V1 : Aside (cur.toList[j * 3 + 1]? = some v1) := hv1
      have V2 : Aside (cur.toList[j * 3 + 2]? = some v2) := hv2
      have hKA : Keeps w (wr.alloc (.cells #[v0, v1, v2] 71)) [g] := keepsTr HK.out (keepsAl _ _) (by simp)
      have hcall := HD.out (wr.alloc (.cells #[v0, v1, v2] 71)) j v0 v1 v2 hlt hv0 hv1 hv2 hKA
      have KA : Aside _ := hKA
      have hszr : wr.heap.size < (wr.alloc (.cells #[v0, v1, v2] 71)).heap.size := by show _ < (wr.heap.push _).size; simp
      have SZ : Aside _ := hszr
      have hne : g < wr.heap.size := Nat.lt_of_lt_of_le hgs HK.out.size
      have NE : Aside (g < wr.heap.size) := hne
      have hbx : (wr.alloc (.cells #[v0, v1, v2] 71)).heap[wr.heap.size]? = some (.cells #[v0, v1, v2] 71 (0, 0)) := by
        show (wr.heap.push _)[wr.heap.size]? = _
        simp
      have BX : Aside _ := hbx
      have hgx : (wr.alloc (.cells #[v0, v1, v2] 71)).heap[g]? = some (.cells cj T (0, 0)) := ((keepsAl wr _).block g hne (by simp)).trans HG.out
      have GX : Aside _ := hgx
      clear hv0 hv1 hv2 hKA hszr hne hbx hgx
      cases hq : kp j with
      | false =>
        rw [hq] at hcall
        go_wp2_with (go_at_fn d; refine hcall.mono ?_; rintro e w2 ⟨rfl, hk2⟩)
        go_roundg (n - (j + 1))
        case measure => omega
        case rel =>
          exact ⟨i, j + 1, cj, rfl, by go_num, by omega, Nat.le_refl _, (keepsTr KA.out hk2 (by simp)), (hk2.block g (Nat.lt_trans NE.out SZ.out) (by simp)).trans GX.out, HV.out.skip hq⟩
      | true =>
        rw [hq] at hcall
        have hil : i * 3 + 3 ≤ cj.size := by
          have h1 := HV.out.lt
          have h2 := HV.out.len
          simp at h2; omega
        have hin : i < n := by have h1 := HV.out.lt; omega
        have hinz : (i : Int) < (n : Int) := by omega
        go_wp2_with (go_at_fn d; refine hcall.mono ?_; rintro e w2 ⟨rfl, hk2⟩; obtain ⟨b0, b1, b2, ⟨x0, d0⟩, ⟨x1, d1⟩, ⟨x2, d2⟩, f0, f1, f2, HG2, HK2⟩ := delF hk2 BX.out GX.out hil; clear hk2)
        go_roundg (n - (j + 1))
        case measure => omega
        case rel =>
          have k1 := setCell_o HG2.out (o := i * 3) (by omega) v0
          have k2 := setCell_o k1.1 (o := i * 3 + 1) (by simp; omega) v1
          have k3 := setCell_o k2.1 (o := i * 3 + 2) (by simp; omega) v2
          refine ⟨i + 1, j + 1, _, by go_num, by go_num, by omega, Nat.le_refl _, ?_, k3.1, ?_⟩
          · have q0 : Keeps w w2 [g] := keepsTr KA.out HK2.out (by simp)
            have q1 := keepsTr q0 (keepsSt HG2.out (o := i * 3) (by omega) v0) (by simp)
            have q2 := keepsTr q1 (keepsSt k1.1 (o := i * 3 + 1) (by simp; omega) v1) (by simp)
            exact keepsTr q2 (keepsSt k2.1 (o := i * 3 + 2) (by simp; omega) v2) (by simp)
          · have := HV.out.keep hq V0.out V1.out V2.out
            rw [← Array.toList_setIfInBounds, ← Array.toList_setIfInBounds, ← Array.toList_setIfInBounds] at this
            exact this
    · obtain rfl : j = n := by omega
      have hltz : ¬ (j : Int) < (j : Int) := by omega
      have hil := HV.out.lt
      have hcl2 : cj.size = cur.size := by have := HV.out.len; simpa using this
      obtain ⟨vs, hvl, hv1, hcl⟩ := run_clear_c wr 57 71 _ Tryz.underlying57 Tryz.zeroValue71 (by decide) (by decide) g (i * 3) (j - i) (cap - i) (by omega) cj T HG.out (by show i * 3 + (j - i) * 3 ≤ cj.size; omega)
      have HVL : Aside (vs.length = _) := hvl
      clear hvl hv1
      have hic : i ≤ cap := by omega
      have hij2 : i ≤ j := by omega
      go_wp2
      go_ret
      have hV := HV.out
      have hvl : vs.length = (j - i) * 3 := HVL.out
      have hll : cj.toList.length = cur.size := by simp [hcl2]
      have htl : (cj.toList.take (i * 3)).length = i * 3 := by simp; omega
      refine ⟨by show Ending.returned (.slice (some ⟨g, 0, none⟩) i cap) = _; rw [← hV.hi], keepsTr HK.out (keepsRow wr g _) (by simp), _, setRow_heap wr g cj _ T (0, 0) HG.out, ?_, ?_⟩
      · simp only [List.size_toArray, List.length_append, htl, List.length_drop, hll, hvl]; omega
      · rw [← hV.hi, ← hV.low]
        simp only [List.toList_toArray]
        rw [List.take_append_of_le_length (by omega), List.take_of_length_le (by omega)]
end
end Go.Proofs.YtigkmijoefibiaaGreat
