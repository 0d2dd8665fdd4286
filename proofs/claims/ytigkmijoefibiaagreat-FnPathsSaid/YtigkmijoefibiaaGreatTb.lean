/- Contracts of functions of the program: no statement of the seat is proved here. Each under the conditions that stand in it. -/
import Derived.Test.YtigkmijoefibiaaGreatM3
import Derived.Tactics
import Derived.Tactics2
import Derived.StillTactics
import Derived.Laws.Pointers
import Derived.WalkKit
import Derived.Deep.QuietTactic
import Derived.BigQuiet
set_option linter.all false
namespace Go.Proofs.YtigkmijoefibiaaGreat
open Go.Vs Go.Proofs
def hNext (h : Int) : Int := RowKit.wrap64 (RowKit.wrap64 (h * 6364136223846793005) + 1442695040888963407)
def xT (h : Int) : Int := bits BinOp.and IntKind.i64 (bits BinOp.xor IntKind.i64 (hNext h / 8589934592) (hNext h / 140737488355328)) 255
def xB (h b : Int) : Int := bits BinOp.and IntKind.i64 (RowKit.wrap64 (xT h + b)) 255
theorem add_block (a : Addr) (i : Nat) : (a.add i).block = a.block := by unfold Addr.add; split <;> rfl
theorem setCell_cells {w : World} {g : Nat} {v0 v1 v2 : Value} {T : TypeId} (hg : w.heap[g]? = some (.cells #[v0, v1, v2] T (0, 0))) (x : Value) :
    (w.setCell ⟨g, 2, none⟩ x).heap[g]? = some (.cells #[v0, v1, x] T (0, 0)) ∧ ∀ b, b ≠ g → (w.setCell ⟨g, 2, none⟩ x).heap[b]? = w.heap[b]? := by
  refine ⟨?_, fun b hb => ?_⟩
  · simp [World.setCell, Array.getElem?_modify, hg]
  · simp [World.setCell, Array.getElem?_modify, Ne.symm hb]
set_option maxHeartbeats 4000000 in
set_option maxRecDepth 100000 in
theorem byteR (w : World) (g : Nat) (p : Option Addr) (n cap : Nat) (i h : Int) (h0 : w.cell? ⟨g, 0, none⟩ = some (.slice p n cap)) (h1 : w.cell? ⟨g, 1, none⟩ = some (.int .i64 i)) (h2 : w.cell? ⟨g, 2, none⟩ = some (.int .i64 h))
   (f1 : w.frozen? ⟨g, 1, none⟩ = false) (f2 : w.frozen? ⟨g, 2, none⟩ = false) (hi : (n : Int) ≤ i) :
    Calls Tryz.prog 173 #[.pointer (some ⟨g, 0, none⟩)] w fun e w' => e = .returned (.int .i64 (xT h)) ∧ ∃ k, w' = (w.setCell ⟨g, 2, none⟩ (.int .i64 (hNext h))).drewN k := by
  have mixed := mixed
  go_enter Tryz.func173, Tryz.ntmps173
  go_wp2
  change Code.wp _ _ _ _ (w.setCell ⟨g, 2, none⟩ (.int .i64 (hNext h)))
  have g0 : (w.setCell ⟨g, 2, none⟩ (.int .i64 (hNext h))).cell? ⟨g, 0, none⟩ = some (.slice p n cap) := (World.cell?_setCell_other w ⟨g, 2, none⟩ ⟨g, 0, none⟩ _ (by simp)).trans h0
  have g1 : (w.setCell ⟨g, 2, none⟩ (.int .i64 (hNext h))).cell? ⟨g, 1, none⟩ = some (.int .i64 i) := (World.cell?_setCell_other w ⟨g, 2, none⟩ ⟨g, 1, none⟩ _ (by simp)).trans h1
  have g2 : (w.setCell ⟨g, 2, none⟩ (.int .i64 (hNext h))).cell? ⟨g, 2, none⟩ = some (.int .i64 (hNext h)) := World.cell?_setCell_same _ _ _ h2
  generalize hw1 : w.setCell ⟨g, 2, none⟩ (.int .i64 (hNext h)) = w1 at g0 g1 g2 ⊢
  go_quiet (fail)
  go_wp2
  go_quiet (fail)
  go_wp2
  go_ret
  exact ⟨rfl, _, by rw [hw1]; exact World.drewN_drewN _ _ _⟩
set_option maxHeartbeats 4000000 in
set_option maxRecDepth 100000 in
theorem byteM (w : World) (g : Nat) (a : Addr) (n cap : Nat) (i : Nat) (h b : Int) (h0 : w.cell? ⟨g, 0, none⟩ = some (.slice (some a) n cap)) (h1 : w.cell? ⟨g, 1, none⟩ = some (.int .i64 (i : Int))) (h2 : w.cell? ⟨g, 2, none⟩ = some (.int .i64 h))
   (f1 : w.frozen? ⟨g, 1, none⟩ = false) (f2 : w.frozen? ⟨g, 2, none⟩ = false) (hi : (i : Int) < (n : Int)) (hn : n ≤ 9223372036854775807) (hab : a.block ≠ g) (hb : w.cell? (a.add i) = some (.int .u8 b)) (hb2 : 0 ≤ b ∧ b ≤ 255) :
    Calls Tryz.prog 173 #[.pointer (some ⟨g, 0, none⟩)] w fun e w' => e = .returned (.int .i64 (xB h b)) ∧ ∃ k, w' = ((w.setCell ⟨g, 2, none⟩ (.int .i64 (hNext h))).drewN k).setCell ⟨g, 1, none⟩ (.int .i64 (i + 1)) := by
  have mixed := mixed
  go_enter Tryz.func173, Tryz.ntmps173
  go_wp2
  change Code.wp _ _ _ _ (w.setCell ⟨g, 2, none⟩ (.int .i64 (hNext h)))
  have g0 : (w.setCell ⟨g, 2, none⟩ (.int .i64 (hNext h))).cell? ⟨g, 0, none⟩ = some (.slice (some a) n cap) := (World.cell?_setCell_other w ⟨g, 2, none⟩ ⟨g, 0, none⟩ _ (by simp)).trans h0
  have g1 : (w.setCell ⟨g, 2, none⟩ (.int .i64 (hNext h))).cell? ⟨g, 1, none⟩ = some (.int .i64 (i : Int)) := (World.cell?_setCell_other w ⟨g, 2, none⟩ ⟨g, 1, none⟩ _ (by simp)).trans h1
  have g2 : (w.setCell ⟨g, 2, none⟩ (.int .i64 (hNext h))).cell? ⟨g, 2, none⟩ = some (.int .i64 (hNext h)) := World.cell?_setCell_same _ _ _ h2
  have g3 : (w.setCell ⟨g, 2, none⟩ (.int .i64 (hNext h))).cell? (a.add i) = some (.int .u8 b) := (World.cell?_setCell_other w ⟨g, 2, none⟩ (a.add i) _ (fun he => hab (by rw [← add_block a i, ← he]))).trans hb
  have g4 : (w.setCell ⟨g, 2, none⟩ (.int .i64 (hNext h))).frozen? ⟨g, 1, none⟩ = false := by simpa using f1
  generalize hw1 : w.setCell ⟨g, 2, none⟩ (.int .i64 (hNext h)) = w1 at g0 g1 g2 g3 g4 ⊢
  go_quiet (fail)
  go_wp2
  go_quiet (fail)
  go_wp2
  go_quiet (fail)
  go_wp2
  go_ret
  have e : RowKit.wrap64 ((i : Int) + 1) = (i : Int) + 1 := by unfold RowKit.wrap64; omega
  exact ⟨rfl, _, by rw [hw1]⟩
/-- What a cursor's call leaves. -/
theorem cur_post {w w' : World} {S : Nat → Prop} {g : Nat} {b : List UInt8} {v : Value} {i h x : Int} {T : TypeId} (hS : ∀ b, S b → b < w.heap.size ∧ b ∉ [g]) (hgl : g < w.heap.size)
    (hk : Keeps w w' [g]) (hg : w'.heap[g]? = some (.cells #[v, .int .i64 i, .int .i64 h] T (0, 0))) (hv : Rep w (fun _ => none) S [cYs false b] [v] []) :
    FPost w S [.pointer (some ⟨g, 0, none⟩)] [g] [O (.own [cYs false b, cI i, cI h])] (I x) (.returned (.int .i64 x)) w' := by
  have hgl2 : g < w'.heap.size := Nat.lt_of_lt_of_le hgl hk.size
  have hSS : ∀ b, S b → ((S b ∨ b ∈ [g] ∨ w.heap.size ≤ b) ∧ b < w'.heap.size ∧ b ∉ ([] : List Nat) ++ [g]) ∧ w'.heap[b]? = w.heap[b]? := fun b hb =>
    ⟨⟨.inl hb, Nat.lt_of_lt_of_le (hS b hb).1 hk.size, (hS b hb).2⟩, hk.block b (hS b hb).1 (hS b hb).2⟩
  refine ⟨[.int .i64 x], [], [g], rfl, rfl, hk, by simp, ?_, .v rfl .nil, ?_⟩
  · intro b hb
    simp only [List.nil_append, List.mem_singleton] at hb
    subst hb
    exact ⟨.inl (by simp), hgl2⟩
  · have h1 := hv.mono hSS (by simp) (fun _ _ h => h)
    have h2 : Rep w' (fun _ => none) _ [.own [cYs false b, cI i, cI h]] [.pointer (some ⟨g, 0, none⟩)] _ := Rep.own hg ((h1.append (.v (x := .int .i64 i) rfl (.v (x := .int .i64 h) rfl .nil)))) .nil
    have h3 := Reps.cons (s := .one) h2 .nil
    exact h3
theorem bits_255 (a : Int) : 0 ≤ bits BinOp.and IntKind.i64 a 255 ∧ bits BinOp.and IntKind.i64 a 255 ≤ 255 := by
  have h := andI_b a 255 (by omega) (by omega)
  have e : bits BinOp.and IntKind.i64 a 255 = andI a 255 := rfl
  rw [e]; exact h
theorem flat1 : ∀ (b : List UInt8), (byts b).flatten = b.map fun x => cY x
  | [] => rfl
  | x :: b => by simp only [List.map_cons, List.flatten_cons, flat1 b]; rfl
theorem cell_of3 {w : World} {g : Nat} {v0 v1 v2 : Value} {T : TypeId} (hg : w.heap[g]? = some (.cells #[v0, v1, v2] T (0, 0))) :
    w.cell? ⟨g, 0, none⟩ = some v0 ∧ w.cell? ⟨g, 1, none⟩ = some v1 ∧ w.cell? ⟨g, 2, none⟩ = some v2 ∧ w.frozen? ⟨g, 1, none⟩ = false ∧ w.frozen? ⟨g, 2, none⟩ = false := by
  simp [World.cell?, World.frozen?, hg]
theorem setCell_1 {w : World} {g : Nat} {v0 v1 v2 : Value} {T : TypeId} (hg : w.heap[g]? = some (.cells #[v0, v1, v2] T (0, 0))) (x : Value) :
    (w.setCell ⟨g, 1, none⟩ x).heap[g]? = some (.cells #[v0, x, v2] T (0, 0)) ∧ ∀ b, b ≠ g → (w.setCell ⟨g, 1, none⟩ x).heap[b]? = w.heap[b]? := by
  refine ⟨?_, fun b hb => ?_⟩
  · simp [World.setCell, Array.getElem?_modify, hg]
  · simp [World.setCell, Array.getElem?_modify, Ne.symm hb]
theorem is173 : FI 173 Tryz.f173 := ⟨⟨Tryz.f173, Tryz.func173, rfl, rfl, rfl, rfl⟩, rfl⟩
theorem s_l1Byte {cs : List AV} (hc : IsC cs) : ∃ cs' x, IsC cs' ∧ 0 ≤ x ∧ x ≤ 255 ∧ FO 173 [O (.own cs)] [O (.own cs')] (I x) := by
  obtain ⟨fn, hf, hb, hrs, hnt, hname⟩ := is173.ex
  have hok : FnOk Tryz.prog 173 := ⟨fn, _, hf, hb, hname⟩
  obtain ⟨b, i, h, rfl, hi⟩ := hc
  obtain ⟨k, rfl⟩ : ∃ k : Nat, i = k := ⟨i.toNat, by omega⟩
  have unp : ∀ {w : World} {S : Nat → Prop} {vals : List Value} {fp : List Nat}, Reps w S [O (.own [cYs false b, cI k, cI h])] vals fp →
      ∃ g T p n cap, vals = [.pointer (some ⟨g, 0, none⟩)] ∧ fp = [g] ∧ w.heap[g]? = some (.cells #[.slice p n cap, .int .i64 k, .int .i64 h] T (0, 0)) ∧ n = b.length ∧ Rep w (fun _ => none) S [cYs false b] [.slice p n cap] [] := by
    intro w S vals fp hr
    cases hr with
    | cons a t =>
      cases t
      cases a with
      | @own _ _ g cells cur T av vl fi fl hg hin t =>
        cases t
        obtain ⟨v, us, f1, f2, e1, e2, r1, r2⟩ := Rep.uncons hin
        have hf1 := r1.fp_nil rfl
        subst hf1
        obtain ⟨p, n, cap, rfl, hn⟩ := r1.sl_len
        cases r2 with
        | v _ r2 =>
          cases r2 with
          | v _ r2 =>
            cases r2
            have hcur : cur = #[.slice p n cap, .int .i64 k, .int .i64 h] := Array.toList_inj.1 (by simpa using e1)
            subst hcur
            exact ⟨g, T, p, n, cap, rfl, by rw [e2]; rfl, hg, by simpa using hn, r1⟩
  by_cases hlt : k < b.length
  · refine ⟨[cYs false b, cI ((k : Int) + 1), cI (hNext h)], xB h (b[k].toNat), ⟨b, _, _, rfl, by omega⟩, (bits_255 _).1, (bits_255 _).2, hok, fun w S vals fp hS hnd hfp hr _ => ?_⟩
    obtain ⟨g, T, p, n, cap, rfl, rfl, hg, hn, hv⟩ := unp hr
    subst hn
    obtain ⟨c0, c1, c2, z1, z2⟩ := cell_of3 hg
    have hx := b[k].toNat_lt
    have hv2 := hv
    have hfl : (byts b).flatten = b.map fun x => cY x := flat1 b
    have hk : (byts b).flatten[k]? = some (cY b[k]) := by rw [hfl]; simp [hlt]
    have hbl : (byts b).length = b.length := by simp
    rw [show cYs false b = .sl false .unk 1 (byts b) from rfl] at hv
    generalize byts b = E at hv hk hbl
    generalize hnb : b.length = N at hv hg c0
    cases hv with
    | nils _ t => simp at hbl; omega
    | emp _ _ t => simp at hbl; omega
    | @shd _ _ nf sz gg oo nn cc els cells av vl fl hnf hgS hrow hn2 hsz hpos hcap hmax hin t =>
      obtain ⟨y, g1, gc, g2, hy, -, hone, -⟩ := hin.at hk
      cases hone with
      | v _ _ =>
        have hcell := hrow.cell hy
        have hne : gg ≠ g := fun he => (hS _ hgS).2 (by simp [he])
        refine (byteM w g ⟨gg, oo, none⟩ N cap k h (b[k].toNat) c0 c1 c2 z1 z2 (by omega) (by unfold maxLen at hmax; omega) hne (by rw [Addr.add_lit]; exact hcell) (by omega)).mono ?_
        rintro e w' ⟨rfl, q, rfl⟩
        obtain ⟨s1, s2⟩ := setCell_cells hg (.int .i64 (hNext h))
        have s1' : ((w.setCell ⟨g, 2, none⟩ (.int .i64 (hNext h))).drewN q).heap[g]? = some (.cells #[.slice (some ⟨gg, oo, none⟩) N cap, .int .i64 k, .int .i64 (hNext h)] T (0, 0)) := s1
        obtain ⟨s3, s4⟩ := setCell_1 s1' (.int .i64 ((k : Int) + 1))
        refine cur_post hS (hfp g (by simp)) ⟨rfl, rfl, rfl, by simp [World.setCell, World.drewN], fun b' _ hb' => ?_⟩ s3 (hnb ▸ hv2)
        simp only [List.mem_singleton] at hb'
        rw [s4 b' hb']
        exact s2 b' hb'
  · refine ⟨[cYs false b, cI (k : Int), cI (hNext h)], xT h, ⟨b, _, _, rfl, by omega⟩, (bits_255 _).1, (bits_255 _).2, hok, fun w S vals fp hS hnd hfp hr _ => ?_⟩
    obtain ⟨g, T, p, n, cap, rfl, rfl, hg, hn, hv⟩ := unp hr
    subst hn
    obtain ⟨c0, c1, c2, z1, z2⟩ := cell_of3 hg
    refine (byteR w g p b.length cap k h c0 c1 c2 z1 z2 (by omega)).mono ?_
    rintro e w' ⟨rfl, q, rfl⟩
    obtain ⟨s1, s2⟩ := setCell_cells hg (.int .i64 (hNext h))
    refine cur_post hS (hfp g (by simp)) ⟨rfl, rfl, rfl, by simp [World.setCell, World.drewN], fun b' _ hb' => ?_⟩ s1 hv
    simp only [List.mem_singleton] at hb'
    exact s2 b' hb'
end Go.Proofs.YtigkmijoefibiaaGreat
