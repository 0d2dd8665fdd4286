/- Contracts of functions of the program: no statement of the seat is proved here. Each under the conditions that stand in it. -/
import Derived.Test.YtigkmijoefibiaaGreatEnv
import Derived.Shelf.RegionOpenPlain
import Derived.WalkKit
import Derived.Lib.Walk
import Derived.Lib.SliceRun
import Derived.Lib.AppendZerosOnto
import Derived.Test.YtigkmijoefibiaaGreatFq
import Derived.Test.YtigkmijoefibiaaGreatFd
set_option linter.all false
namespace Go.Proofs.YtigkmijoefibiaaGreat
open Go.Vs Go.Proofs
/-! What the library makes anew -/
theorem repsW {w w' : World} {S S' : Nat → Prop} {args : List Arg} {vals : List Value} {fp : List Nat} (h : Reps w S args vals fp) (hS : ∀ b, S b → S' b ∧ w'.heap[b]? = w.heap[b]?) (hfp : ∀ b ∈ fp, w'.heap[b]? = w.heap[b]?) : Reps w' S' args vals fp := by
  induction h with
  | nil => exact .nil
  | cons h t ih => exact .cons (h.mono hS (fun b hb => hfp b (by simp [hb])) (fun _ _ h => h)) (ih (fun b hb => hfp b (by simp [hb])))
theorem fresh_post {w : World} {S : Nat → Prop} {args : List Arg} {vals : List Value} {e : TypeId} {cur : Array Value} {n cap sz : Nat} {els : List (List AV)} (hn : els.length = n) (hsz : ∀ el ∈ els, el.length = sz) (hpos : 0 < sz) (hcap : n ≤ cap) (hmax : cap ≤ maxLen) (hcur : cur.size = cap * sz)
    (hin : Rep (w.drew.alloc (.cells cur e)) (fun _ => none) (fun b => S b) els.flatten (cur.toList.take (n * sz)) []) (hargs : Reps w S args vals []) (hS : ∀ b, S b → b < w.heap.size) :
    FPost w S vals [] args (O (sl true sz els)) (.returned (.slice (some ⟨w.heap.size, 0, none⟩) n cap)) (w.drew.alloc (.cells cur e)) := by
  have hold : ∀ b, b < w.heap.size → (w.drew.alloc (.cells cur e)).heap[b]? = w.heap[b]? := by
    intro b hb
    show (w.heap.push _)[b]? = _
    rw [Array.getElem?_push, if_neg (by omega)]
  have hlt : w.heap.size < (w.drew.alloc (.cells cur e)).heap.size := by
    show _ < (w.heap.push _).size
    simp
  have hSS : ∀ b, S b → ((S b ∨ b ∈ ([] : List Nat) ∨ w.heap.size ≤ b) ∧ b < (w.drew.alloc (.cells cur e)).heap.size ∧ b ∉ [w.heap.size] ++ []) := by
    intro b hb
    have := hS b hb
    exact ⟨.inl hb, by omega, by simp; omega⟩
  refine ⟨[.slice (some ⟨w.heap.size, 0, none⟩) n cap], [w.heap.size], [], rfl, rfl, ⟨rfl, rfl, rfl, by omega, fun b hb _ => hold b hb⟩, by simp, ?_, ?_, ?_⟩
  · intro b hb
    simp at hb
    subst hb
    exact ⟨.inr (Nat.le_refl _), hlt⟩
  · have := @Rep.owd (w.drew.alloc (.cells cur e)) (fun _ => none) (fun b => (S b ∨ b ∈ ([] : List Nat) ∨ w.heap.size ≤ b) ∧ b < (w.drew.alloc (.cells cur e)).heap.size ∧ b ∉ [w.heap.size] ++ []) .unk sz w.heap.size n cap els cur e [] [] [] [] (by simp) (by show (w.heap.push _)[w.heap.size]? = _; simp) hn hsz hpos hcap hmax (Nat.le_of_eq hcur.symm)
      (hin.mono (fun b hb => ⟨hSS b hb, rfl⟩) (by simp) (fun _ _ h => h)) .nil
    simpa using this
  · exact repsW hargs (fun b hb => ⟨hSS b hb, hold b (hS b hb)⟩) (by simp)
/-! Secrets -/
theorem flat_pre {d r : List (List Int)} : (d ++ r).flatten.length = d.flatten.length + r.flatten.length := by simp
def mac (k : Int) (l : List Int) : Int := digest (k :: (l ++ [k]))
theorem mac_b (k : Int) (l : List Int) : 0 ≤ mac k l ∧ mac k l < 2147483647 := digest_b _
def dsec (k : Int) (s : ByteArray) : Int := ma 1 (mac k (b2i s.data.toList))
theorem dsec_b (k : Int) (s : ByteArray) : 1 ≤ dsec k s ∧ dsec k s < 2147483647 := by
  have := mac_b k (b2i s.data.toList)
  unfold dsec ma; split <;> omega
theorem b2i_len (b : List UInt8) : (b2i b).length = b.length + 1 := by simp [b2i]
theorem dsz {s : ByteArray} : s.data.toList.length = s.size := by rw [Array.length_toList]; rfl
/-! The draws' cursor -/
def andI (a b : Int) : Int := IntKind.wrap .i64 ((BitVec.ofInt (IntKind.bits .i64) a &&& BitVec.ofInt (IntKind.bits .i64) b).toNat : Int)
theorem andI_eq (a b : Int) : IntKind.wrap .i64 ((BitVec.ofInt (IntKind.bits .i64) a &&& BitVec.ofInt (IntKind.bits .i64) b).toNat : Int) = andI a b := rfl
theorem andI_b (a b : Int) (h : 0 ≤ b) (h2 : b ≤ 9223372036854775807) : 0 ≤ andI a b ∧ andI a b ≤ b := by
  have h3 : (BitVec.ofInt 64 b).toNat = b.toNat := by rw [BitVec.toNat_ofInt]; omega
  have h4 : (BitVec.ofInt 64 a &&& BitVec.ofInt 64 b).toNat ≤ b.toNat := by rw [BitVec.toNat_and, h3]; exact Nat.and_le_right
  have h5 : andI a b = ((BitVec.ofInt 64 a &&& BitVec.ofInt 64 b).toNat : Int) := by
    show IntKind.wrap .i64 ((BitVec.ofInt 64 a &&& BitVec.ofInt 64 b).toNat : Int) = _
    exact wrapI (by omega) (by omega)
  omega
def hstep (h : Int) (c : UInt8) : Int := andI (h * 137 + c.toNat + 11) 1073741823
def hashT (n : Nat) (l : List UInt8) : Int := l.foldl hstep (192917 + n)
theorem hashT_snoc (n : Nat) (l : List UInt8) (c : UInt8) : hashT n (l ++ [c]) = hstep (hashT n l) c := by simp [hashT]
theorem fold_b : ∀ (l : List UInt8) (h : Int), 0 ≤ h ∧ h ≤ 1073741823 → 0 ≤ l.foldl hstep h ∧ l.foldl hstep h ≤ 1073741823
  | [], h, hb => hb
  | c :: l, h, hb => fold_b l _ (andI_b _ _ (by omega) (by omega))
theorem hashT_b {n : Nat} (hn : n ≤ 1048576) (l : List UInt8) : 0 ≤ hashT n l ∧ hashT n l ≤ 1073741823 := fold_b l _ (by omega)
/-- What a cursor's cells hold. -/
def IsC (cs : List AV) : Prop := ∃ (b : List UInt8) (i h : Int), cs = [cYs false b, cI i, cI h] ∧ 0 ≤ i
theorem is88 : FI 88 Tryz.f88 := ⟨⟨Tryz.f88, Tryz.func88, rfl, rfl, rfl, rfl⟩, rfl⟩
set_option maxRecDepth 20000 in
set_option maxHeartbeats 16000000 in
theorem s_l1New0 (l : List UInt8) (hl : l.length ≤ 1048576) : FO 88 [Ys false l] [Ys false l] (O (.own [cYs false l, cI 0, cI (hashT l.length (l.take 4000))])) := by
  refine fok envOk mixed is88 ⟨rfl, rfl, ?_⟩
  (repeat' ((conv => whnf); first | refine stp ?_ ))
  refine Lp.mk [.sl 0, .sl 3, .sl 4] (fun m σ => ∃ d r, l = d ++ r ∧ m = r.length ∧ d.length ≤ 4000 ∧ σ = [Sa 0 (Ys false l), Sa 3 (I (hashT l.length d)), Sa 4 (I d.length)]) (l.length) _ (WkS.weak _ _) ⟨[], l, rfl, rfl, by simp, (by first | rfl | (simp only [zlen, zsum, Nat.zero_mul, Int.add_zero, Int.sub_zero, List.nil_append, markG]; rfl))⟩ ?_
  rintro m τ ⟨d, r, hl2, rfl, hd, rfl⟩
  have hy : l.length = d.length + r.length := by rw [hl2]; simp
  have hb := hashT_b (n := l.length) hl d
  cases r with
  | nil =>
    have f1 : decide (((d.length : Nat) : Int) < ((l.length : Nat) : Int)) = false := by simp at * <;> omega
    (repeat' ((conv => whnf); first | refine stp ?_ ))
    refine Vs.Fin.mk (WkR.eq ?_) (.refl _)
    rw [show l.take 4000 = d by rw [hl2, List.append_nil, List.take_of_length_le hd]]
  | cons x r =>
    simp at hy
    have hx := x.toNat_lt
    have f1 : decide (((d.length : Nat) : Int) < ((l.length : Nat) : Int)) = true := by simp <;> omega
    by_cases h : d.length < 4000
    · have f2 : decide (((d.length : Nat) : Int) < 4000) = true := by simp; omega
      (repeat' ((conv => whnf); first | refine stp ?_ | refine Nm.mk (andI_eq _ _) ?_ | refine El.mk (getH hl2 rfl) ?_ | refine Cl.pre (by simp only [shcLL_ints, shcLL_byts, shcLL_strs, Fetc.shcs, Mani.shcs, Name.shcs, Segm.shcs]; rfl) ?_))
      refine Nx.intro r.length (by simp) _ (WkS.weak _ _) ⟨d ++ [x], r, by simp [hl2], rfl, by simp; omega, ?_⟩
      (repeat' (first | exact rfl | refine consE ?_ ?_ | refine entE ?_ | refine vI ?_ | refine vS ?_ | refine vT ?_ | refine vB ?_))
      · rw [hashT_snoc]; rfl
      · simp
    · have f2 : decide (((d.length : Nat) : Int) < 4000) = false := by simp; omega
      (repeat' ((conv => whnf); first | refine stp ?_ ))
      refine Vs.Fin.mk (WkR.eq ?_) (.refl _)
      rw [show l.take 4000 = d by rw [hl2, List.take_append, List.take_of_length_le (by omega), show 4000 - d.length = 0 by omega]; simp]
end Go.Proofs.YtigkmijoefibiaaGreat
