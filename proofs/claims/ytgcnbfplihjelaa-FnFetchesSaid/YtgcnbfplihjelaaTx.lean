/- Contracts of functions of the program: no statement of the seat is proved here. Each under the conditions that stand in it. -/
import Derived.Test.YtgcnbfplihjelaaFd
import Derived.Tactics
import Derived.Tactics2
import Derived.StillTactics
import Derived.Laws.Pointers
import Derived.WalkKit
import Derived.Deep.QuietTactic
import Derived.BigQuiet
import Derived.Test.YtgcnbfplihjelaaSb
set_option linter.all false
namespace Go.Proofs.Ytgcnbfplihjelaa
open Go.Vs Go.Proofs
/-! The draws' cursor -/
def andI (a b : Int) : Int := IntKind.wrap .i64 ((BitVec.ofInt (IntKind.bits .i64) a &&& BitVec.ofInt (IntKind.bits .i64) b).toNat : Int)
theorem andI_eq (a b : Int) : IntKind.wrap .i64 ((BitVec.ofInt (IntKind.bits .i64) a &&& BitVec.ofInt (IntKind.bits .i64) b).toNat : Int) = andI a b := rfl
theorem andI_b (a b : Int) (h : 0 ≤ b) (h2 : b ≤ 9223372036854775807) : 0 ≤ andI a b ∧ andI a b ≤ b := by
  have h3 : (BitVec.ofInt 64 b).toNat = b.toNat := by rw [BitVec.toNat_ofInt]; omega
  have h4 : (BitVec.ofInt 64 a &&& BitVec.ofInt 64 b).toNat ≤ b.toNat := by rw [BitVec.toNat_and, h3]; exact Nat.and_le_right
  have h5 : andI a b = ((BitVec.ofInt 64 a &&& BitVec.ofInt 64 b).toNat : Int) := by
    show IntKind.wrap .i64 ((BitVec.ofInt 64 a &&& BitVec.ofInt 64 b).toNat : Int) = _
    exact wrapI (by omega) (by omega)
  omega
def hstep (h : Int) (c : UInt8) : Int := andI (h * 137 + c.toNat + 11) 1073741823
def hashT (n : Nat) (l : List UInt8) : Int := l.foldl hstep (192917 + n)
theorem hashT_snoc (n : Nat) (l : List UInt8) (c : UInt8) : hashT n (l ++ [c]) = hstep (hashT n l) c := by simp [hashT]
theorem fold_b : ∀ (l : List UInt8) (h : Int), 0 ≤ h ∧ h ≤ 1073741823 → 0 ≤ l.foldl hstep h ∧ l.foldl hstep h ≤ 1073741823
  | [], h, hb => hb
  | c :: l, h, hb => fold_b l _ (andI_b _ _ (by omega) (by omega))
theorem hashT_b {n : Nat} (hn : n ≤ 1048576) (l : List UInt8) : 0 ≤ hashT n l ∧ hashT n l ≤ 1073741823 := fold_b l _ (by omega)
/-- What a cursor's cells hold. -/
def IsC (cs : List AV) : Prop := ∃ (b : List UInt8) (i h : Int), cs = [cYs false b, cI i, cI h] ∧ 0 ≤ i
theorem is44 : FI 44 Try.f44 := ⟨⟨Try.f44, Try.func44, rfl, rfl, rfl, rfl⟩, rfl⟩
set_option maxRecDepth 20000 in
set_option maxHeartbeats 16000000 in
theorem s_l1New0 (l : List UInt8) (hl : l.length ≤ 1048576) : FO 44 [Ys false l] [Ys false l] (O (.own [cYs false l, cI 0, cI (hashT l.length (l.take 4000))])) := by
  refine fok envOk mixed is44 ⟨rfl, rfl, ?_⟩
  (repeat' ((conv => whnf); first | refine Br.tt ?_ | refine Br.ff ?_ | refine Br.pos (by assumption) ?_ | refine Br.neg (by assumption) ?_ | refine Br.bself ?_ | refine Br.dself ?_ | refine Br.iself ?_ | refine Nm.mk lenC ?_ | refine Nm.mk (wrapI (by (first | omega | (simp [inR_t, inR_f] at *; omega))) (by (first | omega | (simp [inR_t, inR_f] at *; omega)))) ?_ | refine Nm.mk (wrapQ (by (first | omega | (simp [inR_t, inR_f] at *; omega))) (by (first | omega | (simp [inR_t, inR_f] at *; omega))) (by (first | omega | (simp [inR_t, inR_f] at *; omega)))) ?_ | refine Nm.mk (tmodN (by (first | omega | (simp [inR_t, inR_f] at *; omega)))) ?_ | refine Nm.mk (szS _) ?_ | refine Nm.mk (mi_eq _ _) ?_ | refine Nm.mk (ma_eq _ _) ?_ | refine Rq.mk (by first | (simp [dOwnL, dOwn] <;> fail) | (first | omega | (simp [inR_t, inR_f] at *; omega))) ?_ | refine And.intro (orderFast (by kernel_rfl)) ?_ | refine And.intro (by kernel_rfl) ?_ ))
  refine Lp.mk [.sl 0, .sl 3, .sl 4] (fun m σ => ∃ d r, l = d ++ r ∧ m = r.length ∧ d.length ≤ 4000 ∧ σ = [Sa 0 (Ys false l), Sa 3 (I (hashT l.length d)), Sa 4 (I d.length)]) (l.length) _ (WkS.weak _ _) ⟨[], l, rfl, rfl, by simp, (by first | rfl | (simp only [zlen, zsum, Nat.zero_mul, Int.add_zero, Int.sub_zero, List.nil_append, markG]; rfl))⟩ ?_
  rintro m τ ⟨d, r, hl2, rfl, hd, rfl⟩
  have hy : l.length = d.length + r.length := by rw [hl2]; simp
  have hb := hashT_b (n := l.length) hl d
  cases r with
  | nil =>
    have f1 : decide (((d.length : Nat) : Int) < ((l.length : Nat) : Int)) = false := by simp at * <;> omega
    (repeat' ((conv => whnf); first | refine Br.tt ?_ | refine Br.ff ?_ | refine Br.pos (by assumption) ?_ | refine Br.neg (by assumption) ?_ | refine Br.bself ?_ | refine Br.dself ?_ | refine Br.iself ?_ | refine Nm.mk lenC ?_ | refine Nm.mk (wrapI (by (first | omega | (simp [inR_t, inR_f] at *; omega))) (by (first | omega | (simp [inR_t, inR_f] at *; omega)))) ?_ | refine Nm.mk (wrapQ (by (first | omega | (simp [inR_t, inR_f] at *; omega))) (by (first | omega | (simp [inR_t, inR_f] at *; omega))) (by (first | omega | (simp [inR_t, inR_f] at *; omega)))) ?_ | refine Nm.mk (tmodN (by (first | omega | (simp [inR_t, inR_f] at *; omega)))) ?_ | refine Nm.mk (szS _) ?_ | refine Nm.mk (mi_eq _ _) ?_ | refine Nm.mk (ma_eq _ _) ?_ | refine Rq.mk (by first | (simp [dOwnL, dOwn] <;> fail) | (first | omega | (simp [inR_t, inR_f] at *; omega))) ?_ | refine And.intro (orderFast (by kernel_rfl)) ?_ | refine And.intro (by kernel_rfl) ?_ ))
    refine Vs.Fin.mk (WkR.eq ?_) (.refl _)
    rw [show l.take 4000 = d by rw [hl2, List.append_nil, List.take_of_length_le hd]]
  | cons x r =>
    simp at hy
    have hx := x.toNat_lt
    have f1 : decide (((d.length : Nat) : Int) < ((l.length : Nat) : Int)) = true := by simp <;> omega
    by_cases h : d.length < 4000
    · have f2 : decide (((d.length : Nat) : Int) < 4000) = true := by simp; omega
      (repeat' ((conv => whnf); first | refine Br.tt ?_ | refine Br.ff ?_ | refine Br.pos (by assumption) ?_ | refine Br.neg (by assumption) ?_ | refine Br.bself ?_ | refine Br.dself ?_ | refine Br.iself ?_ | refine Nm.mk lenC ?_ | refine Nm.mk (wrapI (by (first | omega | (simp [inR_t, inR_f] at *; omega))) (by (first | omega | (simp [inR_t, inR_f] at *; omega)))) ?_ | refine Nm.mk (wrapQ (by (first | omega | (simp [inR_t, inR_f] at *; omega))) (by (first | omega | (simp [inR_t, inR_f] at *; omega))) (by (first | omega | (simp [inR_t, inR_f] at *; omega)))) ?_ | refine Nm.mk (tmodN (by (first | omega | (simp [inR_t, inR_f] at *; omega)))) ?_ | refine Nm.mk (szS _) ?_ | refine Nm.mk (mi_eq _ _) ?_ | refine Nm.mk (ma_eq _ _) ?_ | refine Rq.mk (by first | (simp [dOwnL, dOwn] <;> fail) | (first | omega | (simp [inR_t, inR_f] at *; omega))) ?_ | refine And.intro (orderFast (by kernel_rfl)) ?_ | refine And.intro (by kernel_rfl) ?_ | refine Nm.mk (andI_eq _ _) ?_ | refine El.mk (getH hl2 rfl) ?_ | refine Cl.pre (by simp only [shcLL_ints, shcLL_byts, shcLL_strs, Mani.shcs, Name.shcs, Segm.shcs]; rfl) ?_))
      refine Nx.intro r.length (by simp) _ (WkS.weak _ _) ⟨d ++ [x], r, by simp [hl2], rfl, by simp; omega, ?_⟩
      (repeat' (first | exact rfl | refine consE ?_ ?_ | refine entE ?_ | refine vI ?_ | refine vS ?_ | refine vT ?_ | refine vB ?_))
      · rw [hashT_snoc]; rfl
      · simp
    · have f2 : decide (((d.length : Nat) : Int) < 4000) = false := by simp; omega
      (repeat' ((conv => whnf); first | refine Br.tt ?_ | refine Br.ff ?_ | refine Br.pos (by assumption) ?_ | refine Br.neg (by assumption) ?_ | refine Br.bself ?_ | refine Br.dself ?_ | refine Br.iself ?_ | refine Nm.mk lenC ?_ | refine Nm.mk (wrapI (by (first | omega | (simp [inR_t, inR_f] at *; omega))) (by (first | omega | (simp [inR_t, inR_f] at *; omega)))) ?_ | refine Nm.mk (wrapQ (by (first | omega | (simp [inR_t, inR_f] at *; omega))) (by (first | omega | (simp [inR_t, inR_f] at *; omega))) (by (first | omega | (simp [inR_t, inR_f] at *; omega)))) ?_ | refine Nm.mk (tmodN (by (first | omega | (simp [inR_t, inR_f] at *; omega)))) ?_ | refine Nm.mk (szS _) ?_ | refine Nm.mk (mi_eq _ _) ?_ | refine Nm.mk (ma_eq _ _) ?_ | refine Rq.mk (by first | (simp [dOwnL, dOwn] <;> fail) | (first | omega | (simp [inR_t, inR_f] at *; omega))) ?_ | refine And.intro (orderFast (by kernel_rfl)) ?_ | refine And.intro (by kernel_rfl) ?_ ))
      refine Vs.Fin.mk (WkR.eq ?_) (.refl _)
      rw [show l.take 4000 = d by rw [hl2, List.take_append, List.take_of_length_le (by omega), show 4000 - d.length = 0 by omega]; simp]
def hNext (h : Int) : Int := RowKit.wrap64 (RowKit.wrap64 (h * 6364136223846793005) + 1442695040888963407)
def xT (h : Int) : Int := bits BinOp.and IntKind.i64 (bits BinOp.xor IntKind.i64 (hNext h / 8589934592) (hNext h / 140737488355328)) 255
def xB (h b : Int) : Int := bits BinOp.and IntKind.i64 (RowKit.wrap64 (xT h + b)) 255
theorem add_block (a : Addr) (i : Nat) : (a.add i).block = a.block := by unfold Addr.add; split <;> rfl
theorem setCell_cells {w : World} {g : Nat} {v0 v1 v2 : Value} {T : TypeId} (hg : w.heap[g]? = some (.cells #[v0, v1, v2] T (0, 0))) (x : Value) :
    (w.setCell ⟨g, 2, none⟩ x).heap[g]? = some (.cells #[v0, v1, x] T (0, 0)) ∧ ∀ b, b ≠ g → (w.setCell ⟨g, 2, none⟩ x).heap[b]? = w.heap[b]? := by
  refine ⟨?_, fun b hb => ?_⟩
  · simp [World.setCell, Array.getElem?_modify, hg]
  · simp [World.setCell, Array.getElem?_modify, Ne.symm hb]
set_option maxHeartbeats 4000000 in
set_option maxRecDepth 100000 in
theorem byteR (w : World) (g : Nat) (p : Option Addr) (n cap : Nat) (i h : Int) (h0 : w.cell? ⟨g, 0, none⟩ = some (.slice p n cap)) (h1 : w.cell? ⟨g, 1, none⟩ = some (.int .i64 i)) (h2 : w.cell? ⟨g, 2, none⟩ = some (.int .i64 h))
   (f1 : w.frozen? ⟨g, 1, none⟩ = false) (f2 : w.frozen? ⟨g, 2, none⟩ = false) (hi : (n : Int) ≤ i) :
    Calls Try.prog 97 #[.pointer (some ⟨g, 0, none⟩)] w fun e w' => e = .returned (.int .i64 (xT h)) ∧ ∃ k, w' = (w.setCell ⟨g, 2, none⟩ (.int .i64 (hNext h))).drewN k := by
  have mixed := mixed
  go_enter Try.func97, Try.ntmps97
  go_wp2
  change Code.wp _ _ _ _ (w.setCell ⟨g, 2, none⟩ (.int .i64 (hNext h)))
  have g0 : (w.setCell ⟨g, 2, none⟩ (.int .i64 (hNext h))).cell? ⟨g, 0, none⟩ = some (.slice p n cap) := (World.cell?_setCell_other w ⟨g, 2, none⟩ ⟨g, 0, none⟩ _ (by simp)).trans h0
  have g1 : (w.setCell ⟨g, 2, none⟩ (.int .i64 (hNext h))).cell? ⟨g, 1, none⟩ = some (.int .i64 i) := (World.cell?_setCell_other w ⟨g, 2, none⟩ ⟨g, 1, none⟩ _ (by simp)).trans h1
  have g2 : (w.setCell ⟨g, 2, none⟩ (.int .i64 (hNext h))).cell? ⟨g, 2, none⟩ = some (.int .i64 (hNext h)) := World.cell?_setCell_same _ _ _ h2
  generalize hw1 : w.setCell ⟨g, 2, none⟩ (.int .i64 (hNext h)) = w1 at g0 g1 g2 ⊢
  go_quiet (fail)
  go_wp2
  go_quiet (fail)
  go_wp2
  go_ret
  exact ⟨rfl, _, by rw [hw1]; exact World.drewN_drewN _ _ _⟩
set_option maxHeartbeats 4000000 in
set_option maxRecDepth 100000 in
theorem byteM (w : World) (g : Nat) (a : Addr) (n cap : Nat) (i : Nat) (h b : Int) (h0 : w.cell? ⟨g, 0, none⟩ = some (.slice (some a) n cap)) (h1 : w.cell? ⟨g, 1, none⟩ = some (.int .i64 (i : Int))) (h2 : w.cell? ⟨g, 2, none⟩ = some (.int .i64 h))
   (f1 : w.frozen? ⟨g, 1, none⟩ = false) (f2 : w.frozen? ⟨g, 2, none⟩ = false) (hi : (i : Int) < (n : Int)) (hn : n ≤ 9223372036854775807) (hab : a.block ≠ g) (hb : w.cell? (a.add i) = some (.int .u8 b)) (hb2 : 0 ≤ b ∧ b ≤ 255) :
    Calls Try.prog 97 #[.pointer (some ⟨g, 0, none⟩)] w fun e w' => e = .returned (.int .i64 (xB h b)) ∧ ∃ k, w' = ((w.setCell ⟨g, 2, none⟩ (.int .i64 (hNext h))).drewN k).setCell ⟨g, 1, none⟩ (.int .i64 (i + 1)) := by
  have mixed := mixed
  go_enter Try.func97, Try.ntmps97
  go_wp2
  change Code.wp _ _ _ _ (w.setCell ⟨g, 2, none⟩ (.int .i64 (hNext h)))
  have g0 : (w.setCell ⟨g, 2, none⟩ (.int .i64 (hNext h))).cell? ⟨g, 0, none⟩ = some (.slice (some a) n cap) := (World.cell?_setCell_other w ⟨g, 2, none⟩ ⟨g, 0, none⟩ _ (by simp)).trans h0
  have g1 : (w.setCell ⟨g, 2, none⟩ (.int .i64 (hNext h))).cell? ⟨g, 1, none⟩ = some (.int .i64 (i : Int)) := (World.cell?_setCell_other w ⟨g, 2, none⟩ ⟨g, 1, none⟩ _ (by simp)).trans h1
  have g2 : (w.setCell ⟨g, 2, none⟩ (.int .i64 (hNext h))).cell? ⟨g, 2, none⟩ = some (.int .i64 (hNext h)) := World.cell?_setCell_same _ _ _ h2
  have g3 : (w.setCell ⟨g, 2, none⟩ (.int .i64 (hNext h))).cell? (a.add i) = some (.int .u8 b) := (World.cell?_setCell_other w ⟨g, 2, none⟩ (a.add i) _ (fun he => hab (by rw [← add_block a i, ← he]))).trans hb
  have g4 : (w.setCell ⟨g, 2, none⟩ (.int .i64 (hNext h))).frozen? ⟨g, 1, none⟩ = false := by simpa using f1
  generalize hw1 : w.setCell ⟨g, 2, none⟩ (.int .i64 (hNext h)) = w1 at g0 g1 g2 g3 g4 ⊢
  go_quiet (fail)
  go_wp2
  go_quiet (fail)
  go_wp2
  go_quiet (fail)
  go_wp2
  go_ret
  have e : RowKit.wrap64 ((i : Int) + 1) = (i : Int) + 1 := by unfold RowKit.wrap64; omega
  exact ⟨rfl, _, by rw [hw1]⟩
/-- What a cursor's call leaves. -/
theorem cur_post {w w' : World} {S : Nat → Prop} {g : Nat} {b : List UInt8} {v : Value} {i h x : Int} {T : TypeId} (hS : ∀ b, S b → b < w.heap.size ∧ b ∉ [g]) (hgl : g < w.heap.size)
    (hk : Keeps w w' [g]) (hg : w'.heap[g]? = some (.cells #[v, .int .i64 i, .int .i64 h] T (0, 0))) (hv : Rep w (fun _ => none) S [cYs false b] [v] []) :
    FPost w S [.pointer (some ⟨g, 0, none⟩)] [g] [O (.own [cYs false b, cI i, cI h])] (I x) (.returned (.int .i64 x)) w' := by
  have hgl2 : g < w'.heap.size := Nat.lt_of_lt_of_le hgl hk.size
  have hSS : ∀ b, S b → ((S b ∨ b ∈ [g] ∨ w.heap.size ≤ b) ∧ b < w'.heap.size ∧ b ∉ ([] : List Nat) ++ [g]) ∧ w'.heap[b]? = w.heap[b]? := fun b hb =>
    ⟨⟨.inl hb, Nat.lt_of_lt_of_le (hS b hb).1 hk.size, (hS b hb).2⟩, hk.block b (hS b hb).1 (hS b hb).2⟩
  refine ⟨[.int .i64 x], [], [g], rfl, rfl, hk, by simp, ?_, .v rfl .nil, ?_⟩
  · intro b hb
    simp only [List.nil_append, List.mem_singleton] at hb
    subst hb
    exact ⟨.inl (by simp), hgl2⟩
  · have h1 := hv.mono hSS (by simp) (fun _ _ h => h)
    have h2 : Rep w' (fun _ => none) _ [.own [cYs false b, cI i, cI h]] [.pointer (some ⟨g, 0, none⟩)] _ := Rep.own hg ((h1.append (.v (x := .int .i64 i) rfl (.v (x := .int .i64 h) rfl .nil)))) .nil
    have h3 := Reps.cons (s := .one) h2 .nil
    exact h3
theorem bits_255 (a : Int) : 0 ≤ bits BinOp.and IntKind.i64 a 255 ∧ bits BinOp.and IntKind.i64 a 255 ≤ 255 := by
  have h := andI_b a 255 (by omega) (by omega)
  have e : bits BinOp.and IntKind.i64 a 255 = andI a 255 := rfl
  rw [e]; exact h
theorem flat1 : ∀ (b : List UInt8), (byts b).flatten = b.map fun x => cY x
  | [] => rfl
  | x :: b => by simp only [List.map_cons, List.flatten_cons, flat1 b]; rfl
theorem cell_of3 {w : World} {g : Nat} {v0 v1 v2 : Value} {T : TypeId} (hg : w.heap[g]? = some (.cells #[v0, v1, v2] T (0, 0))) :
    w.cell? ⟨g, 0, none⟩ = some v0 ∧ w.cell? ⟨g, 1, none⟩ = some v1 ∧ w.cell? ⟨g, 2, none⟩ = some v2 ∧ w.frozen? ⟨g, 1, none⟩ = false ∧ w.frozen? ⟨g, 2, none⟩ = false := by
  simp [World.cell?, World.frozen?, hg]
theorem setCell_1 {w : World} {g : Nat} {v0 v1 v2 : Value} {T : TypeId} (hg : w.heap[g]? = some (.cells #[v0, v1, v2] T (0, 0))) (x : Value) :
    (w.setCell ⟨g, 1, none⟩ x).heap[g]? = some (.cells #[v0, x, v2] T (0, 0)) ∧ ∀ b, b ≠ g → (w.setCell ⟨g, 1, none⟩ x).heap[b]? = w.heap[b]? := by
  refine ⟨?_, fun b hb => ?_⟩
  · simp [World.setCell, Array.getElem?_modify, hg]
  · simp [World.setCell, Array.getElem?_modify, Ne.symm hb]
theorem is97 : FI 97 Try.f97 := ⟨⟨Try.f97, Try.func97, rfl, rfl, rfl, rfl⟩, rfl⟩
theorem s_l1Byte {cs : List AV} (hc : IsC cs) : ∃ cs' x, IsC cs' ∧ 0 ≤ x ∧ x ≤ 255 ∧ FO 97 [O (.own cs)] [O (.own cs')] (I x) := by
  obtain ⟨fn, hf, hb, hrs, hnt, hname⟩ := is97.ex
  have hok : FnOk Try.prog 97 := ⟨fn, _, hf, hb, hname⟩
  obtain ⟨b, i, h, rfl, hi⟩ := hc
  obtain ⟨k, rfl⟩ : ∃ k : Nat, i = k := ⟨i.toNat, by omega⟩
  have unp : ∀ {w : World} {S : Nat → Prop} {vals : List Value} {fp : List Nat}, Reps w S [O (.own [cYs false b, cI k, cI h])] vals fp →
      ∃ g T p n cap, vals = [.pointer (some ⟨g, 0, none⟩)] ∧ fp = [g] ∧ w.heap[g]? = some (.cells #[.slice p n cap, .int .i64 k, .int .i64 h] T (0, 0)) ∧ n = b.length ∧ Rep w (fun _ => none) S [cYs false b] [.slice p n cap] [] := by
    intro w S vals fp hr
    cases hr with
    | cons a t =>
      cases t
      cases a with
      | @own _ _ g cells cur T av vl fi fl hg hin t =>
        cases t
        obtain ⟨v, us, f1, f2, e1, e2, r1, r2⟩ := Rep.uncons hin
        have hf1 := r1.fp_nil rfl
        subst hf1
        obtain ⟨p, n, cap, rfl, hn⟩ := r1.sl_len
        cases r2 with
        | v _ r2 =>
          cases r2 with
          | v _ r2 =>
            cases r2
            have hcur : cur = #[.slice p n cap, .int .i64 k, .int .i64 h] := Array.toList_inj.1 (by simpa using e1)
            subst hcur
            exact ⟨g, T, p, n, cap, rfl, by rw [e2]; rfl, hg, by simpa using hn, r1⟩
  by_cases hlt : k < b.length
  · refine ⟨[cYs false b, cI ((k : Int) + 1), cI (hNext h)], xB h (b[k].toNat), ⟨b, _, _, rfl, by omega⟩, (bits_255 _).1, (bits_255 _).2, hok, fun w S vals fp hS hnd hfp hr _ => ?_⟩
    obtain ⟨g, T, p, n, cap, rfl, rfl, hg, hn, hv⟩ := unp hr
    subst hn
    obtain ⟨c0, c1, c2, z1, z2⟩ := cell_of3 hg
    have hx := b[k].toNat_lt
    have hv2 := hv
    have hfl : (byts b).flatten = b.map fun x => cY x := flat1 b
    have hk : (byts b).flatten[k]? = some (cY b[k]) := by rw [hfl]; simp [hlt]
    have hbl : (byts b).length = b.length := by simp
    rw [show cYs false b = .sl false .unk 1 (byts b) from rfl] at hv
    generalize byts b = E at hv hk hbl
    generalize hnb : b.length = N at hv hg c0
    cases hv with
    | nils _ t => simp at hbl; omega
    | emp _ _ t => simp at hbl; omega
    | @shd _ _ nf sz gg oo nn cc els cells av vl fl hnf hgS hrow hn2 hsz hpos hcap hmax hin t =>
      obtain ⟨y, g1, gc, g2, hy, -, hone, -⟩ := hin.at hk
      cases hone with
      | v _ _ =>
        have hcell := hrow.cell hy
        have hne : gg ≠ g := fun he => (hS _ hgS).2 (by simp [he])
        refine (byteM w g ⟨gg, oo, none⟩ N cap k h (b[k].toNat) c0 c1 c2 z1 z2 (by omega) (by unfold maxLen at hmax; omega) hne (by rw [Addr.add_lit]; exact hcell) (by omega)).mono ?_
        rintro e w' ⟨rfl, q, rfl⟩
        obtain ⟨s1, s2⟩ := setCell_cells hg (.int .i64 (hNext h))
        have s1' : ((w.setCell ⟨g, 2, none⟩ (.int .i64 (hNext h))).drewN q).heap[g]? = some (.cells #[.slice (some ⟨gg, oo, none⟩) N cap, .int .i64 k, .int .i64 (hNext h)] T (0, 0)) := s1
        obtain ⟨s3, s4⟩ := setCell_1 s1' (.int .i64 ((k : Int) + 1))
        refine cur_post hS (hfp g (by simp)) ⟨rfl, rfl, rfl, by simp [World.setCell, World.drewN], fun b' _ hb' => ?_⟩ s3 (hnb ▸ hv2)
        simp only [List.mem_singleton] at hb'
        rw [s4 b' hb']
        exact s2 b' hb'
  · refine ⟨[cYs false b, cI (k : Int), cI (hNext h)], xT h, ⟨b, _, _, rfl, by omega⟩, (bits_255 _).1, (bits_255 _).2, hok, fun w S vals fp hS hnd hfp hr _ => ?_⟩
    obtain ⟨g, T, p, n, cap, rfl, rfl, hg, hn, hv⟩ := unp hr
    subst hn
    obtain ⟨c0, c1, c2, z1, z2⟩ := cell_of3 hg
    refine (byteR w g p b.length cap k h c0 c1 c2 z1 z2 (by omega)).mono ?_
    rintro e w' ⟨rfl, q, rfl⟩
    obtain ⟨s1, s2⟩ := setCell_cells hg (.int .i64 (hNext h))
    refine cur_post hS (hfp g (by simp)) ⟨rfl, rfl, rfl, by simp [World.setCell, World.drewN], fun b' _ hb' => ?_⟩ s1 hv
    simp only [List.mem_singleton] at hb'
    exact s2 b' hb'
theorem draws {σ χ : Type} {P : σ → Prop} {R : σ → χ → σ → Prop} (h : ∀ s, P s → ∃ s' x, P s' ∧ R s x s') (s0 : σ) (h0 : P s0) : ∃ (C : Nat → σ) (X : Nat → χ), C 0 = s0 ∧ ∀ j, P (C j) ∧ R (C j) (X j) (C (j + 1)) := by
  have h' : ∀ s : {s // P s}, ∃ t : {s // P s} × χ, R s.1 t.2 t.1.1 := fun s => by
    obtain ⟨s', x, a, b⟩ := h s.1 s.2
    exact ⟨(⟨s', a⟩, x), b⟩
  refine ⟨fun j => (Nat.rec (motive := fun _ => {s // P s}) ⟨s0, h0⟩ (fun _ s => (Classical.choose (h' s)).1) j : {s // P s}).1, fun j => (Classical.choose (h' (Nat.rec (motive := fun _ => {s // P s}) ⟨s0, h0⟩ (fun _ s => (Classical.choose (h' s)).1) j))).2, rfl, fun j => ⟨Subtype.property _, ?_⟩⟩
  exact Classical.choose_spec (h' _)
theorem getV {α : Type} {c : α → List AV} {l : List α} {i : Int} {v : α} (h : l[i.toNat]? = some v) : (l.map c)[i.toNat]? = some (c v) := by simp [h]
theorem is59 : FI 59 Try.f59 := ⟨⟨Try.f59, Try.func59, rfl, rfl, rfl, rfl⟩, rfl⟩
set_option maxRecDepth 20000 in
set_option maxHeartbeats 16000000 in
theorem l1Below0 (cs : List AV) (n : Int) (hn : n ≤ 0) : FO 59 [O (.own cs), I n] [O (.own cs), I n] (I 0) := by
  refine fok envOk mixed is59 ⟨rfl, rfl, ?_⟩
  have f1 : decide (n ≤ 0) = true := by simpa using hn
  (repeat' ((conv => whnf); first | refine Br.tt ?_ | refine Br.ff ?_ | refine Br.pos (by assumption) ?_ | refine Br.neg (by assumption) ?_ | refine Br.bself ?_ | refine Br.dself ?_ | refine Br.iself ?_ | refine Nm.mk lenC ?_ | refine Nm.mk (wrapI (by (first | omega | (simp [inR_t, inR_f] at *; omega))) (by (first | omega | (simp [inR_t, inR_f] at *; omega)))) ?_ | refine Nm.mk (wrapQ (by (first | omega | (simp [inR_t, inR_f] at *; omega))) (by (first | omega | (simp [inR_t, inR_f] at *; omega))) (by (first | omega | (simp [inR_t, inR_f] at *; omega)))) ?_ | refine Nm.mk (tmodN (by (first | omega | (simp [inR_t, inR_f] at *; omega)))) ?_ | refine Nm.mk (szS _) ?_ | refine Nm.mk (mi_eq _ _) ?_ | refine Nm.mk (ma_eq _ _) ?_ | refine Rq.mk (by first | (simp [dOwnL, dOwn] <;> fail) | (first | omega | (simp [inR_t, inR_f] at *; omega))) ?_ | refine And.intro (orderFast (by kernel_rfl)) ?_ | refine And.intro (by kernel_rfl) ?_ ))
  exact Vs.Fin.mk (WkR.refl _) (.refl _)
set_option maxRecDepth 20000 in
set_option maxHeartbeats 16000000 in
theorem l1Below1 (cs cs1 : List AV) (n x : Int) (hn : 0 < n ∧ n ≤ 256) (hx : 0 ≤ x ∧ x ≤ 255) (k1 : FO 97 [O (.own cs)] [O (.own cs1)] (I x)) : FO 59 [O (.own cs), I n] [O (.own cs1), I n] (I (x % n)) := by
  refine fok envOk mixed is59 ⟨rfl, rfl, ?_⟩
  have f1 : decide (n ≤ 0) = false := by simp; omega
  have f2 : decide (n ≤ 256) = true := by simp; omega
  (repeat' ((conv => whnf); first | refine Br.tt ?_ | refine Br.ff ?_ | refine Br.pos (by assumption) ?_ | refine Br.neg (by assumption) ?_ | refine Br.bself ?_ | refine Br.dself ?_ | refine Br.iself ?_ | refine Nm.mk lenC ?_ | refine Nm.mk (wrapI (by (first | omega | (simp [inR_t, inR_f] at *; omega))) (by (first | omega | (simp [inR_t, inR_f] at *; omega)))) ?_ | refine Nm.mk (wrapQ (by (first | omega | (simp [inR_t, inR_f] at *; omega))) (by (first | omega | (simp [inR_t, inR_f] at *; omega))) (by (first | omega | (simp [inR_t, inR_f] at *; omega)))) ?_ | refine Nm.mk (tmodN (by (first | omega | (simp [inR_t, inR_f] at *; omega)))) ?_ | refine Nm.mk (szS _) ?_ | refine Nm.mk (mi_eq _ _) ?_ | refine Nm.mk (ma_eq _ _) ?_ | refine Rq.mk (by first | (simp [dOwnL, dOwn] <;> fail) | (first | omega | (simp [inR_t, inR_f] at *; omega))) ?_ | refine And.intro (orderFast (by kernel_rfl)) ?_ | refine And.intro (by kernel_rfl) ?_ | refine Cl.mk (k1) ?_ | refine Cl.pre (by simp only [shcLL_ints, shcLL_byts, shcLL_strs, Mani.shcs, Name.shcs, Segm.shcs]; rfl) ?_))
  exact Vs.Fin.mk (WkR.refl _) (.refl _)
set_option maxRecDepth 20000 in
set_option maxHeartbeats 16000000 in
theorem l1Below3 (cs cs1 cs2 cs3 : List AV) (n x y z : Int) (hn : 256 < n) (hx : 0 ≤ x ∧ x ≤ 255) (hy : 0 ≤ y ∧ y ≤ 255) (hz : 0 ≤ z ∧ z ≤ 255) (k1 : FO 97 [O (.own cs)] [O (.own cs1)] (I x)) (k2 : FO 97 [O (.own cs1)] [O (.own cs2)] (I y)) (k3 : FO 97 [O (.own cs2)] [O (.own cs3)] (I z)) : FO 59 [O (.own cs), I n] [O (.own cs3), I n] (I ((x * 65536 + y * 256 + z) % n)) := by
  refine fok envOk mixed is59 ⟨rfl, rfl, ?_⟩
  have f1 : decide (n ≤ 0) = false := by simp; omega
  have f2 : decide (n ≤ 256) = false := by simp; omega
  (repeat' ((conv => whnf); first | refine Br.tt ?_ | refine Br.ff ?_ | refine Br.pos (by assumption) ?_ | refine Br.neg (by assumption) ?_ | refine Br.bself ?_ | refine Br.dself ?_ | refine Br.iself ?_ | refine Nm.mk lenC ?_ | refine Nm.mk (wrapI (by (first | omega | (simp [inR_t, inR_f] at *; omega))) (by (first | omega | (simp [inR_t, inR_f] at *; omega)))) ?_ | refine Nm.mk (wrapQ (by (first | omega | (simp [inR_t, inR_f] at *; omega))) (by (first | omega | (simp [inR_t, inR_f] at *; omega))) (by (first | omega | (simp [inR_t, inR_f] at *; omega)))) ?_ | refine Nm.mk (tmodN (by (first | omega | (simp [inR_t, inR_f] at *; omega)))) ?_ | refine Nm.mk (szS _) ?_ | refine Nm.mk (mi_eq _ _) ?_ | refine Nm.mk (ma_eq _ _) ?_ | refine Rq.mk (by first | (simp [dOwnL, dOwn] <;> fail) | (first | omega | (simp [inR_t, inR_f] at *; omega))) ?_ | refine And.intro (orderFast (by kernel_rfl)) ?_ | refine And.intro (by kernel_rfl) ?_ | refine Cl.mk (k1) ?_ | refine Cl.mk (k2) ?_ | refine Cl.mk (k3) ?_ | refine Cl.pre (by simp only [shcLL_ints, shcLL_byts, shcLL_strs, Mani.shcs, Name.shcs, Segm.shcs]; rfl) ?_))
  exact Vs.Fin.mk (WkR.refl _) (.refl _)
theorem below_ok {cs : List AV} (hc : IsC cs) (n : Int) : ∃ cs' x, IsC cs' ∧ (0 < n → 0 ≤ x ∧ x < n) ∧ (n ≤ 0 → x = 0) ∧ FO 59 [O (.own cs), I n] [O (.own cs'), I n] (I x) := by
  by_cases h0 : n ≤ 0
  · exact ⟨cs, 0, hc, fun h => by omega, fun _ => rfl, l1Below0 cs n h0⟩
  obtain ⟨c1, x, i1, x0, x1, k1⟩ := s_l1Byte hc
  by_cases h1 : n ≤ 256
  · exact ⟨c1, x % n, i1, fun _ => ⟨Int.emod_nonneg _ (by omega), Int.emod_lt_of_pos _ (by omega)⟩, fun h => by omega, l1Below1 cs c1 n x (by omega) ⟨x0, x1⟩ k1⟩
  · obtain ⟨c2, y, i2, y0, y1, k2⟩ := s_l1Byte i1
    obtain ⟨c3, z, i3, z0, z1, k3⟩ := s_l1Byte i2
    exact ⟨c3, _, i3, fun _ => ⟨Int.emod_nonneg _ (by omega), Int.emod_lt_of_pos _ (by omega)⟩, fun h => by omega, l1Below3 cs c1 c2 c3 n x y z (by omega) ⟨x0, x1⟩ ⟨y0, y1⟩ ⟨z0, z1⟩ k1 k2 k3⟩
theorem is113 : FI 113 Try.f113 := ⟨⟨Try.f113, Try.func113, rfl, rfl, rfl, rfl⟩, rfl⟩
set_option maxRecDepth 20000 in
set_option maxHeartbeats 16000000 in
theorem l1Once0 (cs cs1 : List AV) (n x : Int) (k1 : FO 59 [O (.own cs), I n] [O (.own cs1), I n] (I x)) : FO 113 [O (.own cs), I n] [O (.own cs1), I n] (B (x == 0)) := by
  refine fok envOk mixed is113 ⟨rfl, rfl, ?_⟩
  (repeat' ((conv => whnf); first | refine Br.tt ?_ | refine Br.ff ?_ | refine Br.pos (by assumption) ?_ | refine Br.neg (by assumption) ?_ | refine Br.bself ?_ | refine Br.dself ?_ | refine Br.iself ?_ | refine Nm.mk lenC ?_ | refine Nm.mk (wrapI (by (first | omega | (simp [inR_t, inR_f] at *; omega))) (by (first | omega | (simp [inR_t, inR_f] at *; omega)))) ?_ | refine Nm.mk (wrapQ (by (first | omega | (simp [inR_t, inR_f] at *; omega))) (by (first | omega | (simp [inR_t, inR_f] at *; omega))) (by (first | omega | (simp [inR_t, inR_f] at *; omega)))) ?_ | refine Nm.mk (tmodN (by (first | omega | (simp [inR_t, inR_f] at *; omega)))) ?_ | refine Nm.mk (szS _) ?_ | refine Nm.mk (mi_eq _ _) ?_ | refine Nm.mk (ma_eq _ _) ?_ | refine Rq.mk (by first | (simp [dOwnL, dOwn] <;> fail) | (first | omega | (simp [inR_t, inR_f] at *; omega))) ?_ | refine And.intro (orderFast (by kernel_rfl)) ?_ | refine And.intro (by kernel_rfl) ?_ | refine Cl.mk (k1) ?_ | refine Cl.pre (by simp only [shcLL_ints, shcLL_byts, shcLL_strs, Mani.shcs, Name.shcs, Segm.shcs]; rfl) ?_))
  exact Vs.Fin.mk (WkR.refl _) (.refl _)
theorem once_ok {cs : List AV} (hc : IsC cs) (n : Int) : ∃ cs' b, IsC cs' ∧ FO 113 [O (.own cs), I n] [O (.own cs'), I n] (B b) := by
  obtain ⟨c1, x, i1, -, -, k1⟩ := below_ok hc n
  exact ⟨c1, _, i1, l1Once0 cs c1 n x k1⟩
theorem is98 : FI 98 Try.f98 := ⟨⟨Try.f98, Try.func98, rfl, rfl, rfl, rfl⟩, rfl⟩
set_option maxRecDepth 20000 in
set_option maxHeartbeats 16000000 in
theorem l1Int0 (cs cs1 : List AV) (l : List Int) (x v : Int) (hl : l.length ≤ 1048576) (hx : 0 ≤ x ∧ x < l.length) (hv : l[x.toNat]? = some v) (k1 : FO 59 [O (.own cs), I l.length] [O (.own cs1), I l.length] (I x)) : FO 98 [O (.own cs), Is false l] [O (.own cs1), Is false l] (I v) := by
  refine fok envOk mixed is98 ⟨rfl, rfl, ?_⟩
  (repeat' ((conv => whnf); first | refine Br.tt ?_ | refine Br.ff ?_ | refine Br.pos (by assumption) ?_ | refine Br.neg (by assumption) ?_ | refine Br.bself ?_ | refine Br.dself ?_ | refine Br.iself ?_ | refine Nm.mk lenC ?_ | refine Nm.mk (wrapI (by (first | omega | (simp [inR_t, inR_f] at *; omega))) (by (first | omega | (simp [inR_t, inR_f] at *; omega)))) ?_ | refine Nm.mk (wrapQ (by (first | omega | (simp [inR_t, inR_f] at *; omega))) (by (first | omega | (simp [inR_t, inR_f] at *; omega))) (by (first | omega | (simp [inR_t, inR_f] at *; omega)))) ?_ | refine Nm.mk (tmodN (by (first | omega | (simp [inR_t, inR_f] at *; omega)))) ?_ | refine Nm.mk (szS _) ?_ | refine Nm.mk (mi_eq _ _) ?_ | refine Nm.mk (ma_eq _ _) ?_ | refine Rq.mk (by first | (simp [dOwnL, dOwn] <;> fail) | (first | omega | (simp [inR_t, inR_f] at *; omega))) ?_ | refine And.intro (orderFast (by kernel_rfl)) ?_ | refine And.intro (by kernel_rfl) ?_ | refine Cl.mk (k1) ?_ | refine El.mk (getV hv) ?_ | refine Cl.pre (by simp only [shcLL_ints, shcLL_byts, shcLL_strs, Mani.shcs, Name.shcs, Segm.shcs]; rfl) ?_))
  exact Vs.Fin.mk (WkR.refl _) (.refl _)
theorem int_ok {cs : List AV} (hc : IsC cs) (l : List Int) (hl : l.length ≤ 1048576) (h0 : 0 < l.length) : ∃ cs' v, IsC cs' ∧ v ∈ l ∧ FO 98 [O (.own cs), Is false l] [O (.own cs'), Is false l] (I v) := by
  obtain ⟨c1, x, i1, hx, -, k1⟩ := below_ok hc l.length
  obtain ⟨hx0, hx1⟩ := hx (by omega)
  have hlt : x.toNat < l.length := by omega
  exact ⟨c1, l[x.toNat], i1, List.getElem_mem _, l1Int0 cs c1 l x _ hl ⟨hx0, hx1⟩ (List.getElem?_eq_getElem hlt) k1⟩
def bT (X : Nat → Int) (j : Nat) : List UInt8 := (List.range j).map fun k => UInt8.ofNat (X k).toNat
theorem bT_succ (X : Nat → Int) (j : Nat) : bT X (j + 1) = bT X j ++ [UInt8.ofNat (X j).toNat] := by simp [bT, List.range_succ]
theorem bT_len (X : Nat → Int) (j : Nat) : (bT X j).length = j := by simp [bT]
theorem wrap8d {x : Int} (h : 0 ≤ x ∧ x ≤ 255) : IntKind.wrap .u8 x = ((UInt8.ofNat x.toNat).toNat : Int) := by
  have h1 : IntKind.wrap .u8 x = x % 256 := by unfold IntKind.wrap; simp [IntKind.signed, IntKind.bits]
  rw [h1, UInt8.toNat_ofNat']
  omega
theorem is108 : FI 108 Try.f108 := ⟨⟨Try.f108, Try.func108, rfl, rfl, rfl, rfl⟩, rfl⟩
set_option maxRecDepth 20000 in
set_option maxHeartbeats 16000000 in
theorem l1Bytes0 (C : Nat → List AV) (X : Nat → Int) (n : Int) (hn : n ≤ 1048576) (hX : ∀ j, 0 ≤ X j ∧ X j ≤ 255) (hk : ∀ j, FO 97 [O (.own (C j))] [O (.own (C (j + 1)))] (I (X j))) : FO 108 [O (.own (C 0)), I n] [O (.own (C n.toNat)), I n] (Ys true (bT X n.toNat)) := by
  refine fok envOk mixed is108 ⟨rfl, rfl, ?_⟩
  refine Lp.mk [.sl 0, .ex 0, .sl 1, .sl 5, .sl 6] (fun m σ => ∃ j, j + m = n.toNat ∧ σ = [Rf 0 0, Ex 0 (O (.own (C j))), Sa 1 (I n), Sa 5 (O (.sl true .non 1 (byts (bT X j)))), Sa 6 (I j)]) (n.toNat) _ (WkS.weak _ _) ⟨0, by simp, (by first | rfl | (simp only [zlen, zsum, Nat.zero_mul, Int.add_zero, Int.sub_zero, List.nil_append, markG]; rfl))⟩ ?_
  rintro m τ ⟨j, hj, rfl⟩
  have hbl := bT_len X j
  have hXj := hX j
  refine Br.dec (fun h => ?_) (fun h => ?_)
  · (repeat' ((conv => whnf); first | refine Br.tt ?_ | refine Br.ff ?_ | refine Br.pos (by assumption) ?_ | refine Br.neg (by assumption) ?_ | refine Br.bself ?_ | refine Br.dself ?_ | refine Br.iself ?_ | refine Nm.mk lenC ?_ | refine Nm.mk (wrapI (by (first | omega | (simp [inR_t, inR_f] at *; omega))) (by (first | omega | (simp [inR_t, inR_f] at *; omega)))) ?_ | refine Nm.mk (wrapQ (by (first | omega | (simp [inR_t, inR_f] at *; omega))) (by (first | omega | (simp [inR_t, inR_f] at *; omega))) (by (first | omega | (simp [inR_t, inR_f] at *; omega)))) ?_ | refine Nm.mk (tmodN (by (first | omega | (simp [inR_t, inR_f] at *; omega)))) ?_ | refine Nm.mk (szS _) ?_ | refine Nm.mk (mi_eq _ _) ?_ | refine Nm.mk (ma_eq _ _) ?_ | refine Rq.mk (by first | (simp [dOwnL, dOwn] <;> fail) | (first | omega | (simp [inR_t, inR_f] at *; omega))) ?_ | refine And.intro (orderFast (by kernel_rfl)) ?_ | refine And.intro (by kernel_rfl) ?_ | refine Cl.mk (hk j) ?_ | refine Nm.mk (wrap8d hXj) ?_ | refine Cl.pre (by simp only [shcLL_ints, shcLL_byts, shcLL_strs, Mani.shcs, Name.shcs, Segm.shcs]; rfl) ?_))
    refine Nx.intro (m - 1) (by omega) _ (WkS.weak _ _) ⟨j + 1, by omega, ?_⟩
    (repeat' (first | exact rfl | refine consE ?_ ?_ | refine entE ?_ | refine vI ?_ | refine vS ?_ | refine vT ?_ | refine vB ?_))
    rw [bT_succ]; simp
  · obtain rfl : j = n.toNat := by omega
    (repeat' ((conv => whnf); first | refine Br.tt ?_ | refine Br.ff ?_ | refine Br.pos (by assumption) ?_ | refine Br.neg (by assumption) ?_ | refine Br.bself ?_ | refine Br.dself ?_ | refine Br.iself ?_ | refine Nm.mk lenC ?_ | refine Nm.mk (wrapI (by (first | omega | (simp [inR_t, inR_f] at *; omega))) (by (first | omega | (simp [inR_t, inR_f] at *; omega)))) ?_ | refine Nm.mk (wrapQ (by (first | omega | (simp [inR_t, inR_f] at *; omega))) (by (first | omega | (simp [inR_t, inR_f] at *; omega))) (by (first | omega | (simp [inR_t, inR_f] at *; omega)))) ?_ | refine Nm.mk (tmodN (by (first | omega | (simp [inR_t, inR_f] at *; omega)))) ?_ | refine Nm.mk (szS _) ?_ | refine Nm.mk (mi_eq _ _) ?_ | refine Nm.mk (ma_eq _ _) ?_ | refine Rq.mk (by first | (simp [dOwnL, dOwn] <;> fail) | (first | omega | (simp [inR_t, inR_f] at *; omega))) ?_ | refine And.intro (orderFast (by kernel_rfl)) ?_ | refine And.intro (by kernel_rfl) ?_ ))
    exact Vs.Fin.mk (WkR.of (.sl1 rfl .nil)) (.refl _)
theorem bytes_ok {cs : List AV} (hc : IsC cs) (n : Int) (hn : n ≤ 1048576) : ∃ cs' b, IsC cs' ∧ b.length = n.toNat ∧ FO 108 [O (.own cs), I n] [O (.own cs'), I n] (Ys true b) := by
  obtain ⟨C, X, rfl, h⟩ := draws (P := IsC) (R := fun s x s' => (0 ≤ x ∧ x ≤ 255) ∧ FO 97 [O (.own s)] [O (.own s')] (I x)) (fun s hs => by
    obtain ⟨c, x, a, b, d, e⟩ := s_l1Byte hs
    exact ⟨c, x, a, ⟨b, d⟩, e⟩) cs hc
  exact ⟨_, _, (h n.toNat).1, bT_len X _, l1Bytes0 C X n hn (fun j => (h j).2.1) (fun j => (h j).2.2)⟩
theorem is100 : FI 100 Try.f100 := ⟨⟨Try.f100, Try.func100, rfl, rfl, rfl, rfl⟩, rfl⟩
set_option maxRecDepth 20000 in
set_option maxHeartbeats 16000000 in
theorem l3Word_a (cs c1 c2 : List AV) (v : Int) (k1 : FO 113 [O (.own cs), I 10] [O (.own c1), I 10] (B true)) (k2 : FO 98 [O (.own c1), Is false [-1, 2147483647, 2147483648]] [O (.own c2), Is false [-1, 2147483647, 2147483648]] (I v)) : FO 100 [O (.own cs)] [O (.own c2)] (I v) := by
  refine fok envOk mixed is100 ⟨rfl, rfl, ?_⟩
  (repeat' ((conv => whnf); first | refine Br.tt ?_ | refine Br.ff ?_ | refine Br.pos (by assumption) ?_ | refine Br.neg (by assumption) ?_ | refine Br.bself ?_ | refine Br.dself ?_ | refine Br.iself ?_ | refine Nm.mk lenC ?_ | refine Nm.mk (wrapI (by (first | omega | (simp [inR_t, inR_f] at *; omega))) (by (first | omega | (simp [inR_t, inR_f] at *; omega)))) ?_ | refine Nm.mk (wrapQ (by (first | omega | (simp [inR_t, inR_f] at *; omega))) (by (first | omega | (simp [inR_t, inR_f] at *; omega))) (by (first | omega | (simp [inR_t, inR_f] at *; omega)))) ?_ | refine Nm.mk (tmodN (by (first | omega | (simp [inR_t, inR_f] at *; omega)))) ?_ | refine Nm.mk (szS _) ?_ | refine Nm.mk (mi_eq _ _) ?_ | refine Nm.mk (ma_eq _ _) ?_ | refine Rq.mk (by first | (simp [dOwnL, dOwn] <;> fail) | (first | omega | (simp [inR_t, inR_f] at *; omega))) ?_ | refine And.intro (orderFast (by kernel_rfl)) ?_ | refine And.intro (by kernel_rfl) ?_ | refine Cl.mk (k1) ?_ | refine Cl.eq (k2) (by simp only [shcLL, shcL, Vs.shc]; rfl) ?_ | refine Cl.pre (by simp only [shcLL_ints, shcLL_byts, shcLL_strs, Mani.shcs, Name.shcs, Segm.shcs]; rfl) ?_))
  exact Vs.Fin.mk (WkR.refl _) (.refl _)
set_option maxRecDepth 20000 in
set_option maxHeartbeats 16000000 in
theorem l3Word_b (cs c1 c2 c3 : List AV) (v : Int) (k1 : FO 113 [O (.own cs), I 10] [O (.own c1), I 10] (B false)) (k2 : FO 113 [O (.own c1), I 4] [O (.own c2), I 4] (B true)) (k3 : FO 98 [O (.own c2), Is false [0, 1, 2147483646]] [O (.own c3), Is false [0, 1, 2147483646]] (I v)) : FO 100 [O (.own cs)] [O (.own c3)] (I v) := by
  refine fok envOk mixed is100 ⟨rfl, rfl, ?_⟩
  (repeat' ((conv => whnf); first | refine Br.tt ?_ | refine Br.ff ?_ | refine Br.pos (by assumption) ?_ | refine Br.neg (by assumption) ?_ | refine Br.bself ?_ | refine Br.dself ?_ | refine Br.iself ?_ | refine Nm.mk lenC ?_ | refine Nm.mk (wrapI (by (first | omega | (simp [inR_t, inR_f] at *; omega))) (by (first | omega | (simp [inR_t, inR_f] at *; omega)))) ?_ | refine Nm.mk (wrapQ (by (first | omega | (simp [inR_t, inR_f] at *; omega))) (by (first | omega | (simp [inR_t, inR_f] at *; omega))) (by (first | omega | (simp [inR_t, inR_f] at *; omega)))) ?_ | refine Nm.mk (tmodN (by (first | omega | (simp [inR_t, inR_f] at *; omega)))) ?_ | refine Nm.mk (szS _) ?_ | refine Nm.mk (mi_eq _ _) ?_ | refine Nm.mk (ma_eq _ _) ?_ | refine Rq.mk (by first | (simp [dOwnL, dOwn] <;> fail) | (first | omega | (simp [inR_t, inR_f] at *; omega))) ?_ | refine And.intro (orderFast (by kernel_rfl)) ?_ | refine And.intro (by kernel_rfl) ?_ | refine Cl.mk (k1) ?_ | refine Cl.mk (k2) ?_ | refine Cl.eq (k3) (by simp only [shcLL, shcL, Vs.shc]; rfl) ?_ | refine Cl.pre (by simp only [shcLL_ints, shcLL_byts, shcLL_strs, Mani.shcs, Name.shcs, Segm.shcs]; rfl) ?_))
  exact Vs.Fin.mk (WkR.refl _) (.refl _)
set_option maxRecDepth 20000 in
set_option maxHeartbeats 16000000 in
theorem l3Word_c (cs c1 c2 c3 c4 : List AV) (x y : Int) (hx : 0 ≤ x ∧ x < 1000000) (hy : 0 ≤ y ∧ y < 2000) (hxy : 0 ≤ x * y ∧ x * y ≤ 2147483648) (k1 : FO 113 [O (.own cs), I 10] [O (.own c1), I 10] (B false)) (k2 : FO 113 [O (.own c1), I 4] [O (.own c2), I 4] (B false)) (k3 : FO 59 [O (.own c2), I 1000000] [O (.own c3), I 1000000] (I x)) (k4 : FO 59 [O (.own c3), I 2000] [O (.own c4), I 2000] (I y)) : FO 100 [O (.own cs)] [O (.own c4)] (I (x * y)) := by
  refine fok envOk mixed is100 ⟨rfl, rfl, ?_⟩
  (repeat' ((conv => whnf); first | refine Br.tt ?_ | refine Br.ff ?_ | refine Br.pos (by assumption) ?_ | refine Br.neg (by assumption) ?_ | refine Br.bself ?_ | refine Br.dself ?_ | refine Br.iself ?_ | refine Nm.mk lenC ?_ | refine Nm.mk (wrapI (by (first | omega | (simp [inR_t, inR_f] at *; omega))) (by (first | omega | (simp [inR_t, inR_f] at *; omega)))) ?_ | refine Nm.mk (wrapQ (by (first | omega | (simp [inR_t, inR_f] at *; omega))) (by (first | omega | (simp [inR_t, inR_f] at *; omega))) (by (first | omega | (simp [inR_t, inR_f] at *; omega)))) ?_ | refine Nm.mk (tmodN (by (first | omega | (simp [inR_t, inR_f] at *; omega)))) ?_ | refine Nm.mk (szS _) ?_ | refine Nm.mk (mi_eq _ _) ?_ | refine Nm.mk (ma_eq _ _) ?_ | refine Rq.mk (by first | (simp [dOwnL, dOwn] <;> fail) | (first | omega | (simp [inR_t, inR_f] at *; omega))) ?_ | refine And.intro (orderFast (by kernel_rfl)) ?_ | refine And.intro (by kernel_rfl) ?_ | refine Cl.mk (k1) ?_ | refine Cl.mk (k2) ?_ | refine Cl.mk (k3) ?_ | refine Cl.mk (k4) ?_ | refine Nm.mk (wrapI (by omega) (by omega)) ?_ | refine Cl.pre (by simp only [shcLL_ints, shcLL_byts, shcLL_strs, Mani.shcs, Name.shcs, Segm.shcs]; rfl) ?_))
  exact Vs.Fin.mk (WkR.refl _) (.refl _)
theorem mul_b {x y : Int} (hx : 0 ≤ x ∧ x < 1000000) (hy : 0 ≤ y ∧ y < 2000) : 0 ≤ x * y ∧ x * y ≤ 2147483648 := by
  have h1 : x * y ≤ 1000000 * 2000 := Int.mul_le_mul (by omega) (by omega) hy.1 (by omega)
  exact ⟨Int.mul_nonneg hx.1 hy.1, by omega⟩
theorem word_ok {cs : List AV} (hc : IsC cs) : ∃ cs' v, IsC cs' ∧ (-1 ≤ v ∧ v ≤ 2147483648) ∧ FO 100 [O (.own cs)] [O (.own cs')] (I v) := by
  obtain ⟨c1, b, i1, k1⟩ := once_ok hc 10
  cases b with
  | true =>
    obtain ⟨c2, v, i2, hv, k2⟩ := int_ok i1 [-1, 2147483647, 2147483648] (by decide) (by decide)
    exact ⟨c2, v, i2, by simp at hv; omega, l3Word_a cs c1 c2 v k1 k2⟩
  | false =>
    obtain ⟨c2, b, i2, k2⟩ := once_ok i1 4
    cases b with
    | true =>
      obtain ⟨c3, v, i3, hv, k3⟩ := int_ok i2 [0, 1, 2147483646] (by decide) (by decide)
      exact ⟨c3, v, i3, by simp at hv; omega, l3Word_b cs c1 c2 c3 v k1 k2 k3⟩
    | false =>
      obtain ⟨c3, x, i3, hx, -, k3⟩ := below_ok i2 1000000
      obtain ⟨c4, y, i4, hy, -, k4⟩ := below_ok i3 2000
      have hxy := mul_b (hx (by omega)) (hy (by omega))
      exact ⟨c4, x * y, i4, ⟨by omega, hxy.2⟩, l3Word_c cs c1 c2 c3 c4 x y (hx (by omega)) (hy (by omega)) hxy k1 k2 k3 k4⟩
/-! Names, drawn -/
def names6 : List ByteArray := [⟨#[97]⟩, ⟨#[98]⟩, ⟨#[110, 101, 119, 115]⟩, ⟨#[120, 45, 49]⟩, ⟨#[49]⟩, ⟨#[107, 101, 121]⟩]
theorem names6_size : ∀ s ∈ names6, s.size ≤ 8 := by decide
theorem apName_size {n : Name} {s : ByteArray} : strsSize (apName n s).parts ≤ strsSize n.parts + 1 + s.size := by
  unfold apName
  split
  · have := strs_snoc n.parts s; simp only []; omega
  · omega
def odds6 : List ByteArray := [⟨#[]⟩, ⟨#[65]⟩, ⟨#[116, 111, 111, 108, 111, 110, 103, 120, 120]⟩, ⟨#[97, 47, 98]⟩, ⟨#[32]⟩, ⟨#[101, 105, 103, 104, 116, 56, 56, 56]⟩]
theorem odds6_size : ∀ s ∈ odds6, s.size ≤ 9 := by decide
def strM : ByteArray := ⟨#[109]⟩
theorem least {P : Nat → Prop} : ∀ n, P n → ∃ k, k ≤ n ∧ P k ∧ ∀ j, j < k → ¬ P j := by
  intro n
  induction n using Nat.strongRecOn with
  | _ n ih =>
    intro h
    by_cases h2 : ∃ j, j < n ∧ P j
    · obtain ⟨j, hj, hp⟩ := h2
      obtain ⟨k, k1, k2, k3⟩ := ih j hj hp
      exact ⟨k, by omega, k2, k3⟩
    · exact ⟨n, Nat.le_refl _, h, fun j hj hp => h2 ⟨j, hj, hp⟩⟩
theorem strs_rep (l : List ByteArray) : ∀ k, strsSize (l ++ List.replicate k strM) = strsSize l + 2 * k
  | 0 => by simp
  | k + 1 => by
    rw [List.replicate_succ', ← List.append_assoc, strs_snoc, strs_rep l k]
    have : strM.size = 1 := rfl
    omega
theorem new_ok (l : List UInt8) (hl : l.length ≤ 1048576) : ∃ cs, IsC cs ∧ FO 44 [Ys false l] [Ys false l] (O (.own cs)) := ⟨_, ⟨l, 0, _, rfl, by omega⟩, s_l1New0 l hl⟩
end Go.Proofs.Ytgcnbfplihjelaa
