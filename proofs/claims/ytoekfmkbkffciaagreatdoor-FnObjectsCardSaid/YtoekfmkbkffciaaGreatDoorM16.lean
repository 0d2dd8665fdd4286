/- Contracts of functions of the program: no statement of the seat is proved here. Each under the conditions that stand in it. -/
import Derived.Test.YtoekfmkbkffciaaGreatDoorM3
import Derived.Tactics
import Derived.Tactics2
import Derived.StillTactics
import Derived.Laws.Pointers
import Derived.WalkKit
import Derived.Deep.QuietTactic
import Derived.BigQuiet
import Derived.Test.YtoekfmkbkffciaaGreatDoorFn
import Derived.Test.YtoekfmkbkffciaaGreatDoorM1
set_option linter.all false
namespace Go.Proofs.YtoekfmkbkffciaaGreatDoor
open Go.Vs Go.Proofs
def hNext (h : Int) : Int := RowKit.wrap64 (RowKit.wrap64 (h * 6364136223846793005) + 1442695040888963407)
def xT (h : Int) : Int := bits BinOp.and IntKind.i64 (bits BinOp.xor IntKind.i64 (hNext h / 8589934592) (hNext h / 140737488355328)) 255
def xB (h b : Int) : Int := bits BinOp.and IntKind.i64 (RowKit.wrap64 (xT h + b)) 255
theorem add_block (a : Addr) (i : Nat) : (a.add i).block = a.block := by unfold Addr.add; split <;> rfl
theorem setCell_cells {w : World} {g : Nat} {v0 v1 v2 : Value} {T : TypeId} (hg : w.heap[g]? = some (.cells #[v0, v1, v2] T (0, 0))) (x : Value) :
    (w.setCell ⟨g, 2, none⟩ x).heap[g]? = some (.cells #[v0, v1, x] T (0, 0)) ∧ ∀ b, b ≠ g → (w.setCell ⟨g, 2, none⟩ x).heap[b]? = w.heap[b]? := by
  refine ⟨?_, fun b hb => ?_⟩
  · simp [World.setCell, Array.getElem?_modify, hg]
  · simp [World.setCell, Array.getElem?_modify, Ne.symm hb]
set_option maxHeartbeats 4000000 in
set_option maxRecDepth 100000 in
theorem byteR (w : World) (g : Nat) (p : Option Addr) (n cap : Nat) (i h : Int) (h0 : w.cell? ⟨g, 0, none⟩ = some (.slice p n cap)) (h1 : w.cell? ⟨g, 1, none⟩ = some (.int .i64 i)) (h2 : w.cell? ⟨g, 2, none⟩ = some (.int .i64 h))
   (f1 : w.frozen? ⟨g, 1, none⟩ = false) (f2 : w.frozen? ⟨g, 2, none⟩ = false) (hi : (n : Int) ≤ i) :
    Calls Tryz.prog 43 #[.pointer (some ⟨g, 0, none⟩)] w fun e w' => e = .returned (.int .i64 (xT h)) ∧ ∃ k, w' = (w.setCell ⟨g, 2, none⟩ (.int .i64 (hNext h))).drewN k := by
  have mixed := mixed
  go_enter Tryz.func43, Tryz.ntmps43
  go_wp2
  change Code.wp _ _ _ _ (w.setCell ⟨g, 2, none⟩ (.int .i64 (hNext h)))
  have g0 : (w.setCell ⟨g, 2, none⟩ (.int .i64 (hNext h))).cell? ⟨g, 0, none⟩ = some (.slice p n cap) := (World.cell?_setCell_other w ⟨g, 2, none⟩ ⟨g, 0, none⟩ _ (by simp)).trans h0
  have g1 : (w.setCell ⟨g, 2, none⟩ (.int .i64 (hNext h))).cell? ⟨g, 1, none⟩ = some (.int .i64 i) := (World.cell?_setCell_other w ⟨g, 2, none⟩ ⟨g, 1, none⟩ _ (by simp)).trans h1
  have g2 : (w.setCell ⟨g, 2, none⟩ (.int .i64 (hNext h))).cell? ⟨g, 2, none⟩ = some (.int .i64 (hNext h)) := World.cell?_setCell_same _ _ _ h2
  generalize hw1 : w.setCell ⟨g, 2, none⟩ (.int .i64 (hNext h)) = w1 at g0 g1 g2 ⊢
  go_quiet (fail)
  go_wp2
  go_quiet (fail)
  go_wp2
  go_ret
  exact ⟨rfl, _, by rw [hw1]; exact World.drewN_drewN _ _ _⟩
set_option maxHeartbeats 4000000 in
set_option maxRecDepth 100000 in
theorem byteM (w : World) (g : Nat) (a : Addr) (n cap : Nat) (i : Nat) (h b : Int) (h0 : w.cell? ⟨g, 0, none⟩ = some (.slice (some a) n cap)) (h1 : w.cell? ⟨g, 1, none⟩ = some (.int .i64 (i : Int))) (h2 : w.cell? ⟨g, 2, none⟩ = some (.int .i64 h))
   (f1 : w.frozen? ⟨g, 1, none⟩ = false) (f2 : w.frozen? ⟨g, 2, none⟩ = false) (hi : (i : Int) < (n : Int)) (hn : n ≤ 9223372036854775807) (hab : a.block ≠ g) (hb : w.cell? (a.add i) = some (.int .u8 b)) (hb2 : 0 ≤ b ∧ b ≤ 255) :
    Calls Tryz.prog 43 #[.pointer (some ⟨g, 0, none⟩)] w fun e w' => e = .returned (.int .i64 (xB h b)) ∧ ∃ k, w' = ((w.setCell ⟨g, 2, none⟩ (.int .i64 (hNext h))).drewN k).setCell ⟨g, 1, none⟩ (.int .i64 (i + 1)) := by
  have mixed := mixed
  go_enter Tryz.func43, Tryz.ntmps43
  go_wp2
  change Code.wp _ _ _ _ (w.setCell ⟨g, 2, none⟩ (.int .i64 (hNext h)))
  have g0 : (w.setCell ⟨g, 2, none⟩ (.int .i64 (hNext h))).cell? ⟨g, 0, none⟩ = some (.slice (some a) n cap) := (World.cell?_setCell_other w ⟨g, 2, none⟩ ⟨g, 0, none⟩ _ (by simp)).trans h0
  have g1 : (w.setCell ⟨g, 2, none⟩ (.int .i64 (hNext h))).cell? ⟨g, 1, none⟩ = some (.int .i64 (i : Int)) := (World.cell?_setCell_other w ⟨g, 2, none⟩ ⟨g, 1, none⟩ _ (by simp)).trans h1
  have g2 : (w.setCell ⟨g, 2, none⟩ (.int .i64 (hNext h))).cell? ⟨g, 2, none⟩ = some (.int .i64 (hNext h)) := World.cell?_setCell_same _ _ _ h2
  have g3 : (w.setCell ⟨g, 2, none⟩ (.int .i64 (hNext h))).cell? (a.add i) = some (.int .u8 b) := (World.cell?_setCell_other w ⟨g, 2, none⟩ (a.add i) _ (fun he => hab (by rw [← add_block a i, ← he]))).trans hb
  have g4 : (w.setCell ⟨g, 2, none⟩ (.int .i64 (hNext h))).frozen? ⟨g, 1, none⟩ = false := by simpa using f1
  generalize hw1 : w.setCell ⟨g, 2, none⟩ (.int .i64 (hNext h)) = w1 at g0 g1 g2 g3 g4 ⊢
  go_quiet (fail)
  go_wp2
  go_quiet (fail)
  go_wp2
  go_quiet (fail)
  go_wp2
  go_ret
  have e : RowKit.wrap64 ((i : Int) + 1) = (i : Int) + 1 := by unfold RowKit.wrap64; omega
  exact ⟨rfl, _, by rw [hw1]⟩
/-- What a cursor's call leaves. -/
theorem cur_post {w w' : World} {S : Nat → Prop} {g : Nat} {b : List UInt8} {v : Value} {i h x : Int} {T : TypeId} (hS : ∀ b, S b → b < w.heap.size ∧ b ∉ [g]) (hgl : g < w.heap.size)
    (hk : Keeps w w' [g]) (hg : w'.heap[g]? = some (.cells #[v, .int .i64 i, .int .i64 h] T (0, 0))) (hv : Rep w (fun _ => none) S [cYs false b] [v] []) :
    FPost w S [.pointer (some ⟨g, 0, none⟩)] [g] [O (.own [cYs false b, cI i, cI h])] (I x) (.returned (.int .i64 x)) w' := by
  have hgl2 : g < w'.heap.size := Nat.lt_of_lt_of_le hgl hk.size
  have hSS : ∀ b, S b → ((S b ∨ b ∈ [g] ∨ w.heap.size ≤ b) ∧ b < w'.heap.size ∧ b ∉ ([] : List Nat) ++ [g]) ∧ w'.heap[b]? = w.heap[b]? := fun b hb =>
    ⟨⟨.inl hb, Nat.lt_of_lt_of_le (hS b hb).1 hk.size, (hS b hb).2⟩, hk.block b (hS b hb).1 (hS b hb).2⟩
  refine ⟨[.int .i64 x], [], [g], rfl, rfl, hk, by simp, ?_, .v rfl .nil, ?_⟩
  · intro b hb
    simp only [List.nil_append, List.mem_singleton] at hb
    subst hb
    exact ⟨.inl (by simp), hgl2⟩
  · have h1 := hv.mono hSS (by simp) (fun _ _ h => h)
    have h2 : Rep w' (fun _ => none) _ [.own [cYs false b, cI i, cI h]] [.pointer (some ⟨g, 0, none⟩)] _ := Rep.own hg ((h1.append (.v (x := .int .i64 i) rfl (.v (x := .int .i64 h) rfl .nil)))) .nil
    have h3 := Reps.cons (s := .one) h2 .nil
    exact h3
theorem bits_255 (a : Int) : 0 ≤ bits BinOp.and IntKind.i64 a 255 ∧ bits BinOp.and IntKind.i64 a 255 ≤ 255 := by
  have h := andI_b a 255 (by omega) (by omega)
  have e : bits BinOp.and IntKind.i64 a 255 = andI a 255 := rfl
  rw [e]; exact h
theorem flat1 : ∀ (b : List UInt8), (byts b).flatten = b.map fun x => cY x
  | [] => rfl
  | x :: b => by simp only [List.map_cons, List.flatten_cons, flat1 b]; rfl
theorem cell_of3 {w : World} {g : Nat} {v0 v1 v2 : Value} {T : TypeId} (hg : w.heap[g]? = some (.cells #[v0, v1, v2] T (0, 0))) :
    w.cell? ⟨g, 0, none⟩ = some v0 ∧ w.cell? ⟨g, 1, none⟩ = some v1 ∧ w.cell? ⟨g, 2, none⟩ = some v2 ∧ w.frozen? ⟨g, 1, none⟩ = false ∧ w.frozen? ⟨g, 2, none⟩ = false := by
  simp [World.cell?, World.frozen?, hg]
theorem setCell_1 {w : World} {g : Nat} {v0 v1 v2 : Value} {T : TypeId} (hg : w.heap[g]? = some (.cells #[v0, v1, v2] T (0, 0))) (x : Value) :
    (w.setCell ⟨g, 1, none⟩ x).heap[g]? = some (.cells #[v0, x, v2] T (0, 0)) ∧ ∀ b, b ≠ g → (w.setCell ⟨g, 1, none⟩ x).heap[b]? = w.heap[b]? := by
  refine ⟨?_, fun b hb => ?_⟩
  · simp [World.setCell, Array.getElem?_modify, hg]
  · simp [World.setCell, Array.getElem?_modify, Ne.symm hb]
theorem is43 : FI 43 Tryz.f43 := ⟨⟨Tryz.f43, Tryz.func43, rfl, rfl, rfl, rfl⟩, rfl⟩
theorem s_l1Byte {cs : List AV} (hc : IsC cs) : ∃ cs' x, IsC cs' ∧ 0 ≤ x ∧ x ≤ 255 ∧ FO 43 [O (.own cs)] [O (.own cs')] (I x) := by
  obtain ⟨fn, hf, hb, hrs, hnt, hname⟩ := is43.ex
  have hok : FnOk Tryz.prog 43 := ⟨fn, _, hf, hb, hname⟩
  obtain ⟨b, i, h, rfl, hi⟩ := hc
  obtain ⟨k, rfl⟩ : ∃ k : Nat, i = k := ⟨i.toNat, by omega⟩
  have unp : ∀ {w : World} {S : Nat → Prop} {vals : List Value} {fp : List Nat}, Reps w S [O (.own [cYs false b, cI k, cI h])] vals fp →
      ∃ g T p n cap, vals = [.pointer (some ⟨g, 0, none⟩)] ∧ fp = [g] ∧ w.heap[g]? = some (.cells #[.slice p n cap, .int .i64 k, .int .i64 h] T (0, 0)) ∧ n = b.length ∧ Rep w (fun _ => none) S [cYs false b] [.slice p n cap] [] := by
    intro w S vals fp hr
    cases hr with
    | cons a t =>
      cases t
      cases a with
      | @own _ _ g cells cur T av vl fi fl hg hin t =>
        cases t
        obtain ⟨v, us, f1, f2, e1, e2, r1, r2⟩ := Rep.uncons hin
        have hf1 := r1.fp_nil rfl
        subst hf1
        obtain ⟨p, n, cap, rfl, hn⟩ := r1.sl_len
        cases r2 with
        | v _ r2 =>
          cases r2 with
          | v _ r2 =>
            cases r2
            have hcur : cur = #[.slice p n cap, .int .i64 k, .int .i64 h] := Array.toList_inj.1 (by simpa using e1)
            subst hcur
            exact ⟨g, T, p, n, cap, rfl, by rw [e2]; rfl, hg, by simpa using hn, r1⟩
  by_cases hlt : k < b.length
  · refine ⟨[cYs false b, cI ((k : Int) + 1), cI (hNext h)], xB h (b[k].toNat), ⟨b, _, _, rfl, by omega⟩, (bits_255 _).1, (bits_255 _).2, hok, fun w S vals fp hS hnd hfp hr _ => ?_⟩
    obtain ⟨g, T, p, n, cap, rfl, rfl, hg, hn, hv⟩ := unp hr
    subst hn
    obtain ⟨c0, c1, c2, z1, z2⟩ := cell_of3 hg
    have hx := b[k].toNat_lt
    have hv2 := hv
    have hfl : (byts b).flatten = b.map fun x => cY x := flat1 b
    have hk : (byts b).flatten[k]? = some (cY b[k]) := by rw [hfl]; simp [hlt]
    have hbl : (byts b).length = b.length := by simp
    rw [show cYs false b = .sl false .unk 1 (byts b) from rfl] at hv
    generalize byts b = E at hv hk hbl
    generalize hnb : b.length = N at hv hg c0
    cases hv with
    | nils _ t => simp at hbl; omega
    | emp _ _ t => simp at hbl; omega
    | @shd _ _ nf sz gg oo nn cc els cells av vl fl hnf hgS hrow hn2 hsz hpos hcap hmax hin t =>
      obtain ⟨y, g1, gc, g2, hy, -, hone, -⟩ := hin.at hk
      cases hone with
      | v _ _ =>
        have hcell := hrow.cell hy
        have hne : gg ≠ g := fun he => (hS _ hgS).2 (by simp [he])
        refine (byteM w g ⟨gg, oo, none⟩ N cap k h (b[k].toNat) c0 c1 c2 z1 z2 (by omega) (by unfold maxLen at hmax; omega) hne (by rw [Addr.add_lit]; exact hcell) (by omega)).mono ?_
        rintro e w' ⟨rfl, q, rfl⟩
        obtain ⟨s1, s2⟩ := setCell_cells hg (.int .i64 (hNext h))
        have s1' : ((w.setCell ⟨g, 2, none⟩ (.int .i64 (hNext h))).drewN q).heap[g]? = some (.cells #[.slice (some ⟨gg, oo, none⟩) N cap, .int .i64 k, .int .i64 (hNext h)] T (0, 0)) := s1
        obtain ⟨s3, s4⟩ := setCell_1 s1' (.int .i64 ((k : Int) + 1))
        refine cur_post hS (hfp g (by simp)) ⟨rfl, rfl, rfl, by simp [World.setCell, World.drewN], fun b' _ hb' => ?_⟩ s3 (hnb ▸ hv2)
        simp only [List.mem_singleton] at hb'
        rw [s4 b' hb']
        exact s2 b' hb'
  · refine ⟨[cYs false b, cI (k : Int), cI (hNext h)], xT h, ⟨b, _, _, rfl, by omega⟩, (bits_255 _).1, (bits_255 _).2, hok, fun w S vals fp hS hnd hfp hr _ => ?_⟩
    obtain ⟨g, T, p, n, cap, rfl, rfl, hg, hn, hv⟩ := unp hr
    subst hn
    obtain ⟨c0, c1, c2, z1, z2⟩ := cell_of3 hg
    refine (byteR w g p b.length cap k h c0 c1 c2 z1 z2 (by omega)).mono ?_
    rintro e w' ⟨rfl, q, rfl⟩
    obtain ⟨s1, s2⟩ := setCell_cells hg (.int .i64 (hNext h))
    refine cur_post hS (hfp g (by simp)) ⟨rfl, rfl, rfl, by simp [World.setCell, World.drewN], fun b' _ hb' => ?_⟩ s1 hv
    simp only [List.mem_singleton] at hb'
    exact s2 b' hb'
/-! Names: the order, prefixes -/
def cmpS (a b : ByteArray) : Int := if Op.bytesLess a.toList b.toList = true then -1 else if (!(Op.bytesLess a.toList b.toList || a.toList == b.toList)) = true then 1 else 0
theorem bytesLess_self (l : List UInt8) : Op.bytesLess l l = false := by
  induction l with
  | nil => rfl
  | cons a l ih => simp [Op.bytesLess, ih]
theorem cmpS_zero {a b : ByteArray} : cmpS a b = 0 ↔ a = b := by
  constructor
  · intro h
    unfold cmpS at h
    split at h
    · simp at h
    · split at h
      · simp at h
      · rename_i h1 h2
        refine eqS ?_
        simp at h1 h2
        simp [h2 h1]
  · rintro rfl
    simp [cmpS, bytesLess_self]
def cmpL : List ByteArray → List ByteArray → Int
  | [], [] => 0
  | [], _ :: _ => -1
  | _ :: _, [] => 1
  | x :: a, y :: b => if cmpS x y = 0 then cmpL a b else cmpS x y
theorem cmpL_zero : ∀ {a b : List ByteArray}, cmpL a b = 0 ↔ a = b
  | [], [] => by simp [cmpL]
  | [], _ :: _ => by simp [cmpL]
  | _ :: _, [] => by simp [cmpL]
  | x :: a, y :: b => by
    rw [cmpL]
    split
    · rename_i h
      rw [cmpL_zero, cmpS_zero.1 h]
      simp
    · rename_i h
      constructor
      · intro h2; exact absurd h2 h
      · intro h2
        simp at h2
        exact absurd (cmpS_zero.2 h2.1) h
def hasPre (a p : Name) : Bool := decide (p.parts.length ≤ a.parts.length) && decide (a.parts.take p.parts.length = p.parts)
theorem is144 : FI 144 Tryz.f144 := ⟨⟨Tryz.f144, Tryz.func144, rfl, rfl, rfl, rfl⟩, rfl⟩
set_option maxRecDepth 20000 in
set_option maxHeartbeats 16000000 in
theorem s_l4Cmp (a b : ByteArray) : FO 144 [S a, S b] [S a, S b] (I (cmpS a b)) := by
  refine fok envOk mixed is144 ⟨rfl, rfl, ?_⟩
  (repeat' ((conv => whnf); first | refine stp ?_ | refine Br.mk (fun _ => ?_) (fun _ => ?_) ))
  all_goals (refine Vs.Fin.mk (WkR.eq ?_) (.refl _); simp_all [cmpS])
theorem is133 : FI 133 Tryz.f133 := ⟨⟨Tryz.f133, Tryz.func133, rfl, rfl, rfl, rfl⟩, rfl⟩
set_option maxRecDepth 20000 in
set_option maxHeartbeats 16000000 in
theorem s_CompareNames (a b : Name) (ha : a.parts.length ≤ 1099511627776) (hb : b.parts.length ≤ 1099511627776) : FO 133 [A (Name.c false a), A (Name.c false b)] [A (Name.c false a), A (Name.c false b)] (I (cmpL a.parts b.parts)) := by
  refine fok envOk mixed is133 ⟨rfl, rfl, ?_⟩
  refine Lp.mk [.bx 2, .sl 2, .bx 3, .sl 3, .sl 5] (fun m σ => ∃ d r s, a.parts = d ++ r ∧ b.parts = d ++ s ∧ m = r.length ∧ cmpL a.parts b.parts = cmpL r s ∧ σ = [Bx 2 ((Name.c false a)), Pt 2, Bx 3 ((Name.c false b)), Pt 3, Sa 5 (I d.length)]) (a.parts.length) _ (WkS.weak _ _) ⟨[], a.parts, b.parts, rfl, rfl, rfl, rfl, (by first | rfl | (simp only [zlen, zsum, Nat.zero_mul, Int.add_zero, Int.sub_zero, List.nil_append, markG]; rfl))⟩ ?_
  rintro m τ ⟨d, r, s, hd, he, rfl, hc, rfl⟩
  rw [hc]
  have hla : a.parts.length = d.length + r.length := by rw [hd]; simp
  have hlb : b.parts.length = d.length + s.length := by rw [he]; simp
  cases r with
  | nil =>
    have f1 : decide ((d.length : Int) < (a.parts.length : Int)) = false := by simp at *; omega
    cases s with
    | nil =>
      have f2 : decide ((a.parts.length : Int) < (b.parts.length : Int)) = false := by simp at *; omega
      have f3 : decide ((a.parts.length : Int) > (b.parts.length : Int)) = false := by simp at *; omega
      (repeat' ((conv => whnf); first | refine stp ?_ ))
      exact Vs.Fin.mk (WkR.refl _) (.refl _)
    | cons y s =>
      have f2 : decide ((a.parts.length : Int) < (b.parts.length : Int)) = true := by simp at *; omega
      (repeat' ((conv => whnf); first | refine stp ?_ ))
      exact Vs.Fin.mk (WkR.refl _) (.refl _)
  | cons x r =>
    have f1 : decide ((d.length : Int) < (a.parts.length : Int)) = true := by simp at *; omega
    cases s with
    | nil =>
      have f2 : decide ((d.length : Int) < (b.parts.length : Int)) = false := by simp at *; omega
      have f3 : decide ((a.parts.length : Int) < (b.parts.length : Int)) = false := by simp at *; omega
      have f4 : decide ((a.parts.length : Int) > (b.parts.length : Int)) = true := by simp at *; omega
      (repeat' ((conv => whnf); first | refine stp ?_ ))
      exact Vs.Fin.mk (WkR.refl _) (.refl _)
    | cons y s =>
      have f2 : decide ((d.length : Int) < (b.parts.length : Int)) = true := by simp at *; omega
      simp at hla hlb
      by_cases hz : cmpS x y = 0
      · have f5 : (cmpS x y != 0) = false := by simp [hz]
        obtain rfl := cmpS_zero.1 hz
        (repeat' ((conv => whnf); first | refine stp ?_ | refine El.mk (getH hd rfl) ?_ | refine El.mk (getH he rfl) ?_ | refine Cl.mk (s_l4Cmp _ _) ?_ | refine Cl.pre (by simp only [shcLL_ints, shcLL_byts, shcLL_strs, Mani.shcs, Name.shcs, Segm.shcs]; rfl) ?_))
        refine Nx.intro r.length (by simp) _ (WkS.weak _ _) ⟨d ++ [x], r, s, by simp [hd], by simp [he], rfl, ?_, ?_⟩
        · rw [cmpL, if_pos hz]
        · rw [len1]; rfl
      · have f5 : (cmpS x y != 0) = true := by simp [hz]
        (repeat' ((conv => whnf); first | refine stp ?_ | refine El.mk (getH hd rfl) ?_ | refine El.mk (getH he rfl) ?_ | refine Cl.mk (s_l4Cmp _ _) ?_ | refine Cl.pre (by simp only [shcLL_ints, shcLL_byts, shcLL_strs, Mani.shcs, Name.shcs, Segm.shcs]; rfl) ?_))
        rw [cmpL, if_neg hz]
        exact Vs.Fin.mk (WkR.refl _) (.refl _)
theorem is126 : FI 126 Tryz.f126 := ⟨⟨Tryz.f126, Tryz.func126, rfl, rfl, rfl, rfl⟩, rfl⟩
set_option maxRecDepth 20000 in
set_option maxHeartbeats 16000000 in
theorem s_EqualNames (a b : Name) (ha : a.parts.length ≤ 1099511627776) (hb : b.parts.length ≤ 1099511627776) : FO 126 [A (Name.c false a), A (Name.c false b)] [A (Name.c false a), A (Name.c false b)] (B (decide (a = b))) := by
  refine fok envOk mixed is126 ⟨rfl, rfl, ?_⟩
  (repeat' ((conv => whnf); first | refine stp ?_ | refine Br.mk (fun _ => ?_) (fun _ => ?_) | refine Cl.mk (s_CompareNames a b ha hb) ?_ | refine Cl.pre (by simp only [shcLL_ints, shcLL_byts, shcLL_strs, Mani.shcs, Name.shcs, Segm.shcs]; rfl) ?_))
  refine Vs.Fin.mk (WkR.eq ?_) (.refl _)
  have h := @cmpL_zero a.parts b.parts
  have h2 := @Name.eq_iff a b
  by_cases hc : cmpL a.parts b.parts = 0
  · have e := h2.2 (h.1 hc)
    rw [hc, decide_eq_true e]; rfl
  · have : ¬ a = b := fun h3 => hc (h.2 (h2.1 h3))
    simp [hc, this]
def trunc (n : Name) (k : Int) : Name := ⟨n.parts.take (ma 0 (mi k n.parts.length)).toNat⟩
theorem trunc_le {n : Name} {k : Nat} (h : k ≤ n.parts.length) : trunc n k = ⟨n.parts.take k⟩ := by
  unfold trunc ma mi
  congr 2
  split <;> split <;> omega
theorem is113 : FI 113 Tryz.f113 := ⟨⟨Tryz.f113, Tryz.func113, rfl, rfl, rfl, rfl⟩, rfl⟩
set_option maxRecDepth 20000 in
set_option maxHeartbeats 16000000 in
theorem Equal_string (a b : List ByteArray) (ha : a.length ≤ 1099511627776) : FO 113 [Ss false a, Ss false b] [Ss false a, Ss false b] (B (decide (a = b))) := by
  refine fok envOk mixed is113 ⟨rfl, rfl, ?_⟩
  refine Nm.mk lenC ?_
  refine Nm.mk lenC ?_
  (conv => whnf)
  refine Br.mk (fun h => ?_) (fun h => ?_)
  · have hne : a ≠ b := by rintro rfl; simp at h
    (repeat' ((conv => whnf); first | refine stp ?_ | refine Br.mk (fun _ => ?_) (fun _ => ?_) ))
    all_goals (try (refine Vs.Fin.mk (WkR.eq ?_) (.refl _); first | rfl | (simp_all [hne]; done) | (simp_all [hne]; omega) | grind | grind [hne]))
  have hl : a.length = b.length := by simp at h; omega
  refine Nm.mk lenC ?_
  refine Lp.mk [.sl 0, .sl 1, .sl 12, .sl 13] (fun m σ => ∃ d r e s, a = d ++ r ∧ b = e ++ s ∧ m = r.length ∧ d = e ∧ σ = [Sa 0 (Ss false a), Sa 1 (Ss false b), Sa 12 (I a.length), Sa 13 (I d.length)]) (a.length) _ (WkS.weak _ _) ⟨[], a, [], b, rfl, rfl, rfl, rfl, (by first | rfl | (simp only [zlen, zsum, Nat.zero_mul, Int.add_zero, Int.sub_zero, List.nil_append, markG]; rfl))⟩ ?_
  rintro m τ ⟨d, r, e, s, rfl, rfl, rfl, rfl, rfl⟩
  cases r with
  | nil =>
    obtain rfl : s = [] := by cases s <;> simp_all
    refine Br.neg (by simp) ?_
    (repeat' ((conv => whnf); first | refine stp ?_ | refine Br.mk (fun _ => ?_) (fun _ => ?_) ))
    all_goals (try (refine Vs.Fin.mk (WkR.eq ?_) (.refl _); first | rfl | (simp_all []; done) | (simp_all []; omega) | grind | grind []))
  | cons x r =>
    obtain ⟨y, s, rfl⟩ : ∃ y s', s = y :: s' := by cases s <;> simp_all
    refine Br.pos (by simp; omega) ?_
    refine Rq.mk ⟨by omega, by simp; omega⟩ ?_
    refine El.mk (getA rfl) ?_
    refine Rq.mk ⟨by omega, by simp; omega⟩ ?_
    refine El.mk (getA rfl) ?_
    (conv => whnf)
    refine And.intro (by kernel_rfl) ?_
    (conv => whnf)
    refine Br.mk (fun h => ?_) (fun h => ?_)
    · have hne : x ≠ y := by rintro rfl; simp at h
      (repeat' ((conv => whnf); first | refine stp ?_ | refine Br.mk (fun _ => ?_) (fun _ => ?_) ))
      all_goals (try (refine Vs.Fin.mk (WkR.eq ?_) (.refl _); first | rfl | (simp_all [hne]; done) | (simp_all [hne]; omega) | grind | grind [hne]))
    · obtain rfl : x = y := eqS h
      refine Nm.mk (wrapI (by omega) (by simp at ha; omega)) ?_
      refine Nx.intro r.length (by simp) _ (WkS.weak _ _) ⟨d ++ [x], r, d ++ [x], s, by simp, by simp, rfl, rfl, ?_⟩
      rw [len1]; rfl
theorem is82 : FI 82 Tryz.f82 := ⟨⟨Tryz.f82, Tryz.func82, rfl, rfl, rfl, rfl⟩, rfl⟩
set_option maxRecDepth 20000 in
set_option maxHeartbeats 16000000 in
theorem i_EqualNames (a b : Name) (ha : a.parts.length ≤ 1099511627776) : FO 82 [A (Name.c false a), A (Name.c false b)] [A (Name.c false a), A (Name.c false b)] (B (decide (a = b))) := by
  refine fok envOk mixed is82 ⟨rfl, rfl, ?_⟩
  (repeat' ((conv => whnf); first | refine stp ?_ | refine Br.mk (fun _ => ?_) (fun _ => ?_) | refine Cl.mk (Equal_string a.parts b.parts ha) ?_ | refine Cl.pre (by simp only [shcLL_ints, shcLL_byts, shcLL_strs, Mani.shcs, Name.shcs, Segm.shcs]; rfl) ?_))
  refine Vs.Fin.mk (WkR.eq ?_) (.refl _)
  simp [Name.eq_iff]
theorem draws {σ χ : Type} {P : σ → Prop} {R : σ → χ → σ → Prop} (h : ∀ s, P s → ∃ s' x, P s' ∧ R s x s') (s0 : σ) (h0 : P s0) : ∃ (C : Nat → σ) (X : Nat → χ), C 0 = s0 ∧ ∀ j, P (C j) ∧ R (C j) (X j) (C (j + 1)) := by
  have h' : ∀ s : {s // P s}, ∃ t : {s // P s} × χ, R s.1 t.2 t.1.1 := fun s => by
    obtain ⟨s', x, a, b⟩ := h s.1 s.2
    exact ⟨(⟨s', a⟩, x), b⟩
  refine ⟨fun j => (Nat.rec (motive := fun _ => {s // P s}) ⟨s0, h0⟩ (fun _ s => (Classical.choose (h' s)).1) j : {s // P s}).1, fun j => (Classical.choose (h' (Nat.rec (motive := fun _ => {s // P s}) ⟨s0, h0⟩ (fun _ s => (Classical.choose (h' s)).1) j))).2, rfl, fun j => ⟨Subtype.property _, ?_⟩⟩
  exact Classical.choose_spec (h' _)
theorem getV {α : Type} {c : α → List AV} {l : List α} {i : Int} {v : α} (h : l[i.toNat]? = some v) : (l.map c)[i.toNat]? = some (c v) := by simp [h]
theorem is22 : FI 22 Tryz.f22 := ⟨⟨Tryz.f22, Tryz.func22, rfl, rfl, rfl, rfl⟩, rfl⟩
set_option maxRecDepth 20000 in
set_option maxHeartbeats 16000000 in
theorem l1Below0 (cs : List AV) (n : Int) (hn : n ≤ 0) : FO 22 [O (.own cs), I n] [O (.own cs), I n] (I 0) := by
  refine fok envOk mixed is22 ⟨rfl, rfl, ?_⟩
  have f1 : decide (n ≤ 0) = true := by simpa using hn
  (repeat' ((conv => whnf); first | refine stp ?_ ))
  exact Vs.Fin.mk (WkR.refl _) (.refl _)
set_option maxRecDepth 20000 in
set_option maxHeartbeats 16000000 in
theorem l1Below1 (cs cs1 : List AV) (n x : Int) (hn : 0 < n ∧ n ≤ 256) (hx : 0 ≤ x ∧ x ≤ 255) (k1 : FO 43 [O (.own cs)] [O (.own cs1)] (I x)) : FO 22 [O (.own cs), I n] [O (.own cs1), I n] (I (x % n)) := by
  refine fok envOk mixed is22 ⟨rfl, rfl, ?_⟩
  have f1 : decide (n ≤ 0) = false := by simp; omega
  have f2 : decide (n ≤ 256) = true := by simp; omega
  (repeat' ((conv => whnf); first | refine stp ?_ | refine Cl.mk (k1) ?_ | refine Cl.pre (by simp only [shcLL_ints, shcLL_byts, shcLL_strs, Mani.shcs, Name.shcs, Segm.shcs]; rfl) ?_))
  exact Vs.Fin.mk (WkR.refl _) (.refl _)
set_option maxRecDepth 20000 in
set_option maxHeartbeats 16000000 in
theorem l1Below3 (cs cs1 cs2 cs3 : List AV) (n x y z : Int) (hn : 256 < n) (hx : 0 ≤ x ∧ x ≤ 255) (hy : 0 ≤ y ∧ y ≤ 255) (hz : 0 ≤ z ∧ z ≤ 255) (k1 : FO 43 [O (.own cs)] [O (.own cs1)] (I x)) (k2 : FO 43 [O (.own cs1)] [O (.own cs2)] (I y)) (k3 : FO 43 [O (.own cs2)] [O (.own cs3)] (I z)) : FO 22 [O (.own cs), I n] [O (.own cs3), I n] (I ((x * 65536 + y * 256 + z) % n)) := by
  refine fok envOk mixed is22 ⟨rfl, rfl, ?_⟩
  have f1 : decide (n ≤ 0) = false := by simp; omega
  have f2 : decide (n ≤ 256) = false := by simp; omega
  (repeat' ((conv => whnf); first | refine stp ?_ | refine Cl.mk (k1) ?_ | refine Cl.mk (k2) ?_ | refine Cl.mk (k3) ?_ | refine Cl.pre (by simp only [shcLL_ints, shcLL_byts, shcLL_strs, Mani.shcs, Name.shcs, Segm.shcs]; rfl) ?_))
  exact Vs.Fin.mk (WkR.refl _) (.refl _)
theorem below_ok {cs : List AV} (hc : IsC cs) (n : Int) : ∃ cs' x, IsC cs' ∧ (0 < n → 0 ≤ x ∧ x < n) ∧ (n ≤ 0 → x = 0) ∧ FO 22 [O (.own cs), I n] [O (.own cs'), I n] (I x) := by
  by_cases h0 : n ≤ 0
  · exact ⟨cs, 0, hc, fun h => by omega, fun _ => rfl, l1Below0 cs n h0⟩
  obtain ⟨c1, x, i1, x0, x1, k1⟩ := s_l1Byte hc
  by_cases h1 : n ≤ 256
  · exact ⟨c1, x % n, i1, fun _ => ⟨Int.emod_nonneg _ (by omega), Int.emod_lt_of_pos _ (by omega)⟩, fun h => by omega, l1Below1 cs c1 n x (by omega) ⟨x0, x1⟩ k1⟩
  · obtain ⟨c2, y, i2, y0, y1, k2⟩ := s_l1Byte i1
    obtain ⟨c3, z, i3, z0, z1, k3⟩ := s_l1Byte i2
    exact ⟨c3, _, i3, fun _ => ⟨Int.emod_nonneg _ (by omega), Int.emod_lt_of_pos _ (by omega)⟩, fun h => by omega, l1Below3 cs c1 c2 c3 n x y z (by omega) ⟨x0, x1⟩ ⟨y0, y1⟩ ⟨z0, z1⟩ k1 k2 k3⟩
theorem is47 : FI 47 Tryz.f47 := ⟨⟨Tryz.f47, Tryz.func47, rfl, rfl, rfl, rfl⟩, rfl⟩
set_option maxRecDepth 20000 in
set_option maxHeartbeats 16000000 in
theorem l1Once0 (cs cs1 : List AV) (n x : Int) (k1 : FO 22 [O (.own cs), I n] [O (.own cs1), I n] (I x)) : FO 47 [O (.own cs), I n] [O (.own cs1), I n] (B (x == 0)) := by
  refine fok envOk mixed is47 ⟨rfl, rfl, ?_⟩
  (repeat' ((conv => whnf); first | refine stp ?_ | refine Cl.mk (k1) ?_ | refine Cl.pre (by simp only [shcLL_ints, shcLL_byts, shcLL_strs, Mani.shcs, Name.shcs, Segm.shcs]; rfl) ?_))
  exact Vs.Fin.mk (WkR.refl _) (.refl _)
theorem once_ok {cs : List AV} (hc : IsC cs) (n : Int) : ∃ cs' b, IsC cs' ∧ FO 47 [O (.own cs), I n] [O (.own cs'), I n] (B b) := by
  obtain ⟨c1, x, i1, -, -, k1⟩ := below_ok hc n
  exact ⟨c1, _, i1, l1Once0 cs c1 n x k1⟩
theorem is48 : FI 48 Tryz.f48 := ⟨⟨Tryz.f48, Tryz.func48, rfl, rfl, rfl, rfl⟩, rfl⟩
set_option maxRecDepth 20000 in
set_option maxHeartbeats 16000000 in
theorem l1Str0 (cs cs1 : List AV) (l : List ByteArray) (x : Int) (v : ByteArray) (hl : l.length ≤ 1048576) (hx : 0 ≤ x ∧ x < l.length) (hv : l[x.toNat]? = some v) (k1 : FO 22 [O (.own cs), I l.length] [O (.own cs1), I l.length] (I x)) : FO 48 [O (.own cs), Ss false l] [O (.own cs1), Ss false l] (S v) := by
  refine fok envOk mixed is48 ⟨rfl, rfl, ?_⟩
  (repeat' ((conv => whnf); first | refine stp ?_ | refine Cl.mk (k1) ?_ | refine El.mk (getV hv) ?_ | refine Cl.pre (by simp only [shcLL_ints, shcLL_byts, shcLL_strs, Mani.shcs, Name.shcs, Segm.shcs]; rfl) ?_))
  exact Vs.Fin.mk (WkR.refl _) (.refl _)
theorem str_ok {cs : List AV} (hc : IsC cs) (l : List ByteArray) (hl : l.length ≤ 1048576) (h0 : 0 < l.length) : ∃ cs' v, IsC cs' ∧ v ∈ l ∧ FO 48 [O (.own cs), Ss false l] [O (.own cs'), Ss false l] (S v) := by
  obtain ⟨c1, x, i1, hx, -, k1⟩ := below_ok hc l.length
  obtain ⟨hx0, hx1⟩ := hx (by omega)
  have hlt : x.toNat < l.length := by omega
  exact ⟨c1, l[x.toNat], i1, List.getElem_mem _, l1Str0 cs c1 l x _ hl ⟨hx0, hx1⟩ (List.getElem?_eq_getElem hlt) k1⟩
def bT (X : Nat → Int) (j : Nat) : List UInt8 := (List.range j).map fun k => UInt8.ofNat (X k).toNat
theorem bT_succ (X : Nat → Int) (j : Nat) : bT X (j + 1) = bT X j ++ [UInt8.ofNat (X j).toNat] := by simp [bT, List.range_succ]
theorem bT_len (X : Nat → Int) (j : Nat) : (bT X j).length = j := by simp [bT]
theorem wrap8d {x : Int} (h : 0 ≤ x ∧ x ≤ 255) : IntKind.wrap .u8 x = ((UInt8.ofNat x.toNat).toNat : Int) := by
  have h1 : IntKind.wrap .u8 x = x % 256 := by unfold IntKind.wrap; simp [IntKind.signed, IntKind.bits]
  rw [h1, UInt8.toNat_ofNat']
  omega
theorem is21 : FI 21 Tryz.f21 := ⟨⟨Tryz.f21, Tryz.func21, rfl, rfl, rfl, rfl⟩, rfl⟩
set_option maxRecDepth 20000 in
set_option maxHeartbeats 16000000 in
theorem l1Bytes0 (C : Nat → List AV) (X : Nat → Int) (n : Int) (hn : n ≤ 1048576) (hX : ∀ j, 0 ≤ X j ∧ X j ≤ 255) (hk : ∀ j, FO 43 [O (.own (C j))] [O (.own (C (j + 1)))] (I (X j))) : FO 21 [O (.own (C 0)), I n] [O (.own (C n.toNat)), I n] (Ys true (bT X n.toNat)) := by
  refine fok envOk mixed is21 ⟨rfl, rfl, ?_⟩
  refine Lp.mk [.sl 0, .ex 0, .sl 1, .sl 5, .sl 6] (fun m σ => ∃ j, j + m = n.toNat ∧ σ = [Rf 0 0, Ex 0 (O (.own (C j))), Sa 1 (I n), Sa 5 (O (.sl true .non 1 (byts (bT X j)))), Sa 6 (I j)]) (n.toNat) _ (WkS.weak _ _) ⟨0, by simp, (by first | rfl | (simp only [zlen, zsum, Nat.zero_mul, Int.add_zero, Int.sub_zero, List.nil_append, markG]; rfl))⟩ ?_
  rintro m τ ⟨j, hj, rfl⟩
  have hbl := bT_len X j
  have hXj := hX j
  refine Br.dec (fun h => ?_) (fun h => ?_)
  · (repeat' ((conv => whnf); first | refine stp ?_ | refine Cl.mk (hk j) ?_ | refine Nm.mk (wrap8d hXj) ?_ | refine Cl.pre (by simp only [shcLL_ints, shcLL_byts, shcLL_strs, Mani.shcs, Name.shcs, Segm.shcs]; rfl) ?_))
    refine Nx.intro (m - 1) (by omega) _ (WkS.weak _ _) ⟨j + 1, by omega, ?_⟩
    (repeat' (first | exact rfl | refine consE ?_ ?_ | refine entE ?_ | refine vI ?_ | refine vS ?_ | refine vT ?_ | refine vB ?_))
    rw [bT_succ]; simp
  · obtain rfl : j = n.toNat := by omega
    (repeat' ((conv => whnf); first | refine stp ?_ ))
    exact Vs.Fin.mk (WkR.of (.sl1 rfl .nil)) (.refl _)
theorem bytes_ok {cs : List AV} (hc : IsC cs) (n : Int) (hn : n ≤ 1048576) : ∃ cs' b, IsC cs' ∧ b.length = n.toNat ∧ FO 21 [O (.own cs), I n] [O (.own cs'), I n] (Ys true b) := by
  obtain ⟨C, X, rfl, h⟩ := draws (P := IsC) (R := fun s x s' => (0 ≤ x ∧ x ≤ 255) ∧ FO 43 [O (.own s)] [O (.own s')] (I x)) (fun s hs => by
    obtain ⟨c, x, a, b, d, e⟩ := s_l1Byte hs
    exact ⟨c, x, a, ⟨b, d⟩, e⟩) cs hc
  exact ⟨_, _, (h n.toNat).1, bT_len X _, l1Bytes0 C X n hn (fun j => (h j).2.1) (fun j => (h j).2.2)⟩
theorem mul_b {x y : Int} (hx : 0 ≤ x ∧ x < 1000000) (hy : 0 ≤ y ∧ y < 2000) : 0 ≤ x * y ∧ x * y ≤ 2147483648 := by
  have h1 : x * y ≤ 1000000 * 2000 := Int.mul_le_mul (by omega) (by omega) hy.1 (by omega)
  exact ⟨Int.mul_nonneg hx.1 hy.1, by omega⟩
/-! Names, drawn -/
def names6 : List ByteArray := [⟨#[97]⟩, ⟨#[98]⟩, ⟨#[110, 101, 119, 115]⟩, ⟨#[120, 45, 49]⟩, ⟨#[49]⟩, ⟨#[107, 101, 121]⟩]
theorem names6_size : ∀ s ∈ names6, s.size ≤ 8 := by decide
theorem apName_size {n : Name} {s : ByteArray} : strsSize (apName n s).parts ≤ strsSize n.parts + 1 + s.size := by
  unfold apName
  split
  · have := strs_snoc n.parts s; simp only []; omega
  · omega
def odds6 : List ByteArray := [⟨#[]⟩, ⟨#[65]⟩, ⟨#[116, 111, 111, 108, 111, 110, 103, 120, 120]⟩, ⟨#[97, 47, 98]⟩, ⟨#[32]⟩, ⟨#[101, 105, 103, 104, 116, 56, 56, 56]⟩]
theorem odds6_size : ∀ s ∈ odds6, s.size ≤ 9 := by decide
def strM : ByteArray := ⟨#[109]⟩
theorem least {P : Nat → Prop} : ∀ n, P n → ∃ k, k ≤ n ∧ P k ∧ ∀ j, j < k → ¬ P j := by
  intro n
  induction n using Nat.strongRecOn with
  | _ n ih =>
    intro h
    by_cases h2 : ∃ j, j < n ∧ P j
    · obtain ⟨j, hj, hp⟩ := h2
      obtain ⟨k, k1, k2, k3⟩ := ih j hj hp
      exact ⟨k, by omega, k2, k3⟩
    · exact ⟨n, Nat.le_refl _, h, fun j hj hp => h2 ⟨j, hj, hp⟩⟩
theorem strs_rep (l : List ByteArray) : ∀ k, strsSize (l ++ List.replicate k strM) = strsSize l + 2 * k
  | 0 => by simp
  | k + 1 => by
    rw [List.replicate_succ', ← List.append_assoc, strs_snoc, strs_rep l k]
    have : strM.size = 1 := rfl
    omega
theorem new_ok (l : List UInt8) (hl : l.length ≤ 1048576) : ∃ cs, IsC cs ∧ FO 20 [Ys false l] [Ys false l] (O (.own cs)) := ⟨_, ⟨l, 0, _, rfl, by omega⟩, s_l1New0 l hl⟩
end Go.Proofs.YtoekfmkbkffciaaGreatDoor
