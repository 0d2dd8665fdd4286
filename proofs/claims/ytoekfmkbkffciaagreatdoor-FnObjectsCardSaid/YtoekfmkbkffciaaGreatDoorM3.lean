/- Contracts of functions of the program: no statement of the seat is proved here. Each under the conditions that stand in it. -/
import Derived.Test.YtoekfmkbkffciaaGreatDoorEnv
import Derived.Shelf.RegionOpenPlain
import Derived.WalkKit
import Derived.Lib.Walk
import Derived.Lib.SliceRun
import Derived.Lib.AppendZerosOnto
import Derived.Test.YtoekfmkbkffciaaGreatDoorFq
import Derived.Test.YtoekfmkbkffciaaGreatDoorFd
set_option linter.all false
namespace Go.Proofs.YtoekfmkbkffciaaGreatDoor
open Go.Vs Go.Proofs
/-! What the library makes anew -/
theorem repsW {w w' : World} {S S' : Nat → Prop} {args : List Arg} {vals : List Value} {fp : List Nat} (h : Reps w S args vals fp) (hS : ∀ b, S b → S' b ∧ w'.heap[b]? = w.heap[b]?) (hfp : ∀ b ∈ fp, w'.heap[b]? = w.heap[b]?) : Reps w' S' args vals fp := by
  induction h with
  | nil => exact .nil
  | cons h t ih => exact .cons (h.mono hS (fun b hb => hfp b (by simp [hb])) (fun _ _ h => h)) (ih (fun b hb => hfp b (by simp [hb])))
theorem fresh_post {w : World} {S : Nat → Prop} {args : List Arg} {vals : List Value} {e : TypeId} {cur : Array Value} {n cap sz : Nat} {els : List (List AV)} (hn : els.length = n) (hsz : ∀ el ∈ els, el.length = sz) (hpos : 0 < sz) (hcap : n ≤ cap) (hmax : cap ≤ maxLen) (hcur : cur.size = cap * sz)
    (hin : Rep (w.drew.alloc (.cells cur e)) (fun _ => none) (fun b => S b) els.flatten (cur.toList.take (n * sz)) []) (hargs : Reps w S args vals []) (hS : ∀ b, S b → b < w.heap.size) :
    FPost w S vals [] args (O (sl true sz els)) (.returned (.slice (some ⟨w.heap.size, 0, none⟩) n cap)) (w.drew.alloc (.cells cur e)) := by
  have hold : ∀ b, b < w.heap.size → (w.drew.alloc (.cells cur e)).heap[b]? = w.heap[b]? := by
    intro b hb
    show (w.heap.push _)[b]? = _
    rw [Array.getElem?_push, if_neg (by omega)]
  have hlt : w.heap.size < (w.drew.alloc (.cells cur e)).heap.size := by
    show _ < (w.heap.push _).size
    simp
  have hSS : ∀ b, S b → ((S b ∨ b ∈ ([] : List Nat) ∨ w.heap.size ≤ b) ∧ b < (w.drew.alloc (.cells cur e)).heap.size ∧ b ∉ [w.heap.size] ++ []) := by
    intro b hb
    have := hS b hb
    exact ⟨.inl hb, by omega, by simp; omega⟩
  refine ⟨[.slice (some ⟨w.heap.size, 0, none⟩) n cap], [w.heap.size], [], rfl, rfl, ⟨rfl, rfl, rfl, by omega, fun b hb _ => hold b hb⟩, by simp, ?_, ?_, ?_⟩
  · intro b hb
    simp at hb
    subst hb
    exact ⟨.inr (Nat.le_refl _), hlt⟩
  · have := @Rep.owd (w.drew.alloc (.cells cur e)) (fun _ => none) (fun b => (S b ∨ b ∈ ([] : List Nat) ∨ w.heap.size ≤ b) ∧ b < (w.drew.alloc (.cells cur e)).heap.size ∧ b ∉ [w.heap.size] ++ []) .unk sz w.heap.size n cap els cur e [] [] [] [] (by simp) (by show (w.heap.push _)[w.heap.size]? = _; simp) hn hsz hpos hcap hmax (Nat.le_of_eq hcur.symm)
      (hin.mono (fun b hb => ⟨hSS b hb, rfl⟩) (by simp) (fun _ _ h => h)) .nil
    simpa using this
  · exact repsW hargs (fun b hb => ⟨hSS b hb, hold b (hS b hb)⟩) (by simp)
section
open Go.Lib Go.Shelf Go.RowKit
theorem is127 : FI 127 Tryz.f127 := ⟨⟨Tryz.f127, Tryz.func127, rfl, rfl, rfl, rfl⟩, rfl⟩
set_option maxHeartbeats 4000000 in
set_option maxRecDepth 100000 in
theorem grow_c (n : Nat) (h0 : 0 < n) (h1 : n ≤ 1048576000) (w : World) :
    Calls Tryz.prog 127 #[.slice none 0 0, .int .i64 n] w fun e w' =>
      e = .returned (.slice (some ⟨w.heap.size, 0, none⟩) 0 (grownCap w n 0 3)) ∧
      w' = w.drew.alloc (.cells (Builtin.zeroCells (.int .i64 0 : Value).cells n ++ Builtin.zeroCells (.int .i64 0 : Value).cells (grownCap w n 0 3 - n)) 3) := by
  have h1' : ¬ ((n : Int) < 0) := by omega
  have h2 : (n : Int) > 0 := by omega
  have h3 : wrap64 ((n : Int) - 0) = (n : Int) := by unfold wrap64; omega
  have mixed := mixed
  have hrz : ∀ ty, (Builtin.append_ #[42, 3] ty #[.slice none 0 0, .int .i64 (n : Int)]).run Tryz.prog w =
      .ok (.slice (some ⟨w.heap.size, 0, none⟩) n (grownCap w n 0 3)) (w.drew.alloc (.cells (Builtin.zeroCells (.int .i64 0 : Value).cells n ++ Builtin.zeroCells (.int .i64 0 : Value).cells (grownCap w n 0 3 - n)) 3)) := fun ty => by
    have h := Lib.run_append_grow_zeros w 42 3 ty 3 Tryz.t3 (.int .i64 0) .i64 .i64 Tryz.underlying42 Tryz.underlying3 (by kernel_rfl) rfl none 0 0 [] (run_firstCells_none w.drew Tryz.t3.size 0 0 0) n h0 (by decide) (by omega) (by omega)
      (by show n * 8 ≤ _; omega)
      (growslice_fits (by omega) (by show (0 + n) * 8 ≤ _; omega))
    simpa only [Nat.zero_add, Array.empty_append] using h
  go_enter Tryz.func127, Tryz.ntmps127
  go_wp2_with (at_builtin; refine Lib.wpList_append_run _ rfl _ _ _ _ rfl _ _ rfl rfl _ _ (hrz _) ?_)
  all_goals (go_ret; exact ⟨rfl, rfl⟩)
set_option maxHeartbeats 4000000 in
set_option maxRecDepth 100000 in
theorem grow_0 (w : World) :
    Calls Tryz.prog 127 #[.slice none 0 0, .int .i64 0] w fun e w' => e = .returned (.slice none 0 0) ∧ w' = w := by
  have mixed := mixed
  go_enter Tryz.func127, Tryz.ntmps127
  go_wp2
  all_goals (go_ret; exact ⟨rfl, rfl⟩)
theorem zc_size (v : Value) (h : v.cells = #[v]) (n : Nat) : (Builtin.zeroCells v.cells n).size = n := by
  simp [Builtin.zeroCells, h]
theorem Grow_nil (n : Nat) (h1 : n ≤ 1048576000) : FO 127 [O (.sl false .isnil 0 []), I n] [O (.sl false .isnil 0 []), I n] (Is true []) := by
  obtain ⟨fn, hf, hb, hrs, hnt, hname⟩ := is127.ex
  refine ⟨⟨fn, _, hf, hb, hname⟩, fun w S vals fp hS hnd hfp hreps hgl => ?_⟩
  have hr2 := hreps
  cases hreps with
  | cons a1 t =>
    cases t with
    | cons a2 t =>
      cases t
      cases a2 with
      | v _ t =>
        cases t
        cases a1 with
        | nils hf t =>
          cases t
          show Calls Tryz.prog 127 #[.slice none 0 0, .int .i64 n] w _
          rcases Nat.eq_zero_or_pos n with rfl | h0
          · refine (grow_0 w).mono ?_
            rintro e w' ⟨rfl, rfl⟩
            refine ⟨[.slice none 0 0], [], [], rfl, rfl, ⟨rfl, rfl, rfl, Nat.le_refl _, fun _ _ _ => rfl⟩, by simp, by simp, .nils (by simp) .nil, ?_⟩
            exact hr2.mono (fun b hb => ⟨.inl hb, (hS b hb).1, by simp⟩)
          · have hge := grownCap_ge w n 0 3
            have hmx := grownCap_le_maxLen w n 0 3 (by unfold maxLen; omega)
            refine (grow_c n h0 h1 w).mono ?_
            rintro e w' ⟨rfl, rfl⟩
            refine fresh_post (els := []) rfl (by simp) (by decide) (Nat.zero_le _) hmx ?_ ?_ hr2 (fun b hb => (hS b hb).1)
            · rw [Array.size_append, zc_size _ rfl, zc_size _ rfl]; omega
            · simp; exact .nil
        | emp hf _ _ => simp at hf
        | shd hf _ _ _ _ _ _ _ _ _ => simp at hf
end
/-! Secrets -/
theorem flat_pre {d r : List (List Int)} : (d ++ r).flatten.length = d.flatten.length + r.flatten.length := by simp
theorem is114 : FI 114 Tryz.f114 := ⟨⟨Tryz.f114, Tryz.func114, rfl, rfl, rfl, rfl⟩, rfl⟩
set_option maxRecDepth 20000 in
set_option maxHeartbeats 16000000 in
theorem Concat_int (ls : List (List Int)) (hl : ls.length ≤ 1048576) (ht : ls.flatten.length ≤ 1048576000) : FO 114 [O (sl false 1 (ls.map fun l => [cIs false l]))] [O (sl false 1 (ls.map fun l => [cIs false l]))] (Is true ls.flatten) := by
  refine fok envOk mixed is114 ⟨rfl, rfl, ?_⟩
  refine Nm.mk lenC ?_
  refine Lp.mk [.sl 0, .sl 3, .sl 9, .sl 10, .sl 11] (fun m σ => ∃ d r, ls = d ++ r ∧ m = r.length ∧ σ = [Sa 0 (O (sl false 1 (ls.map fun l => [cIs false l]))), Sa 3 (I d.flatten.length), Sa 9 (O (sl false 1 (ls.map fun l => [cIs false l]))), Sa 10 (I ls.length), Sa 11 (I d.length)]) (ls.length) _ (WkS.weak _ _) ⟨[], ls, rfl, rfl, (by first | rfl | (simp only [zlen, zsum, Nat.zero_mul, Int.add_zero, Int.sub_zero, List.nil_append, markG]; rfl))⟩ ?_
  rintro m τ ⟨d, r, rfl, rfl, rfl⟩
  cases r with
  | cons x r =>
    simp at hl ht
    refine Br.pos (by simp; omega) ?_
    refine Rq.mk ⟨by omega, by simp; omega⟩ ?_
    refine El.mk (getA rfl) ?_
    refine Nm.mk lenC ?_
    refine Nm.mk (wrapI (by simp; omega) (by simp; omega)) ?_
    refine Br.neg (by simp; omega) ?_
    refine Nm.mk (wrapI (by omega) (by omega)) ?_
    refine Nx.intro r.length (by simp) _ (WkS.weak _ _) ⟨d ++ [x], r, by simp, rfl, ?_⟩
    (repeat' (first | exact rfl | refine consE ?_ ?_ | refine entE ?_ | refine vI ?_ | refine vS ?_ | refine vT ?_ | refine vB ?_))
    · simp
    · simp
  | nil =>
    simp only [List.append_nil] at *
    refine Br.neg (by simp) ?_
    refine Cl.mk (Grow_nil d.flatten.length ht) ?_
    refine Nm.mk lenC ?_
    refine Lp.mk [.sl 6, .sl 25, .sl 26, .sl 27] (fun m σ => ∃ a r, d = a ++ r ∧ m = r.length ∧ σ = [Sa 6 (Is true a.flatten), Sa 25 (O (sl false 1 (d.map fun l => [cIs false l]))), Sa 26 (I d.length), Sa 27 (I a.length)]) (d.length) _ (WkS.weak _ _) ⟨[], d, rfl, rfl, (by first | rfl | (simp only [zlen, zsum, Nat.zero_mul, Int.add_zero, Int.sub_zero, List.nil_append, markG]; rfl))⟩ ?_
    rintro m τ ⟨a, r, rfl, rfl, rfl⟩
    cases r with
    | nil =>
      refine Br.neg (by simp) ?_
      (repeat' ((conv => whnf); first | refine stp ?_ | refine Br.mk (fun _ => ?_) (fun _ => ?_) ))
      refine Vs.Fin.mk (WkR.eq ?_) (.refl _)
      simp
    | cons x r =>
      simp at hl ht
      refine Br.pos (by simp; omega) ?_
      refine Rq.mk ⟨by omega, by simp; omega⟩ ?_
      refine El.mk (getA rfl) ?_
      have hA : a.flatten.length + x.length ≤ 1048576000 := by simp; omega
      refine Rq.mk (by simp only [List.length_map]; omega) ?_
      (repeat' ((conv => whnf); first | refine stp ?_ ))
      refine Nx.intro r.length (by simp) _ (WkS.weak _ _) ⟨a ++ [x], r, by simp, rfl, ?_⟩
      (repeat' (first | exact rfl | refine consE ?_ ?_ | refine entE ?_ | refine vI ?_ | refine vS ?_ | refine vT ?_ | refine vB ?_))
      · simp
      · simp
def mac (k : Int) (l : List Int) : Int := digest (k :: (l ++ [k]))
theorem mac_b (k : Int) (l : List Int) : 0 ≤ mac k l ∧ mac k l < 2147483647 := digest_b _
theorem is109 : FI 109 Tryz.f109 := ⟨⟨Tryz.f109, Tryz.func109, rfl, rfl, rfl, rfl⟩, rfl⟩
set_option maxRecDepth 20000 in
set_option maxHeartbeats 16000000 in
theorem s_ComputeMAC (k : Int) (l : List Int) (hl : l.length ≤ 104857600) : FO 109 [I k, Is false l] [I k, Is false l] (I (mac k l)) := by
  refine fok envOk mixed is109 ⟨rfl, rfl, ?_⟩
  (repeat' ((conv => whnf); first | refine stp ?_ | refine Br.mk (fun _ => ?_) (fun _ => ?_) ))
  refine Cl.eq (s_Digest (k :: (l ++ [k])) (by simp; omega)) (by refine congrArg (fun z => [O (AV.sl false NF.unk 1 z)]) ?_; rw [shcLL_append, shcLL_append, shcLL_ints]; simp [ints, shcLL, shcL, Vs.shc]) ?_
  (repeat' ((conv => whnf); first | refine stp ?_ | refine Br.mk (fun _ => ?_) (fun _ => ?_) ))
  exact ⟨WkR.refl _, .refl _⟩
theorem is84 : FI 84 Tryz.f84 := ⟨⟨Tryz.f84, Tryz.func84, rfl, rfl, rfl, rfl⟩, rfl⟩
set_option maxRecDepth 20000 in
set_option maxHeartbeats 16000000 in
theorem i_ComputeMAC (k : Int) (l : List Int) (hl : l.length ≤ 104857600) : FO 84 [I k, Is false l] [I k, Is false l] (I (mac k l)) := by
  refine fok envOk mixed is84 ⟨rfl, rfl, ?_⟩
  (repeat' ((conv => whnf); first | refine stp ?_ | refine Br.mk (fun _ => ?_) (fun _ => ?_) ))
  refine Cl.eq ((Concat_int [[k], l, [k]] (by simp) (by simp; omega)).wk (args' := [(.one, [AV.sl false NF.unk 1 [[AV.sl false NF.non 1 [[cI k]]], [AV.sl false NF.unk 1 (ints l)], [AV.sl false NF.non 1 [[cI k]]]]])]) (.cons (.sl (.inl rfl) rfl (by simp) (.top (.keep (.top .nil))) .nil) .nil) (.refl _) (WkR.refl _)) (by simp only [shcLL, shcL, Vs.shc]) ?_
  rw [show ([[k], l, [k]] : List (List Int)).flatten = k :: (l ++ [k]) by simp]
  refine Rq.mk (by simp [dOwnLL, dOwnL, dOwn]) ?_
  (repeat' ((conv => whnf); first | refine stp ?_ | refine Br.mk (fun _ => ?_) (fun _ => ?_) | refine Cl.mk (i_Digest (k :: (l ++ [k])) (by simp; omega)) ?_ | refine Cl.pre (by simp only [shcLL_ints, shcLL_byts, shcLL_strs, Fetc.shcs, Mani.shcs, Name.shcs, Segm.shcs]; rfl) ?_))
  exact ⟨WkR.refl _, .refl _⟩
def dsec (k : Int) (s : ByteArray) : Int := ma 1 (mac k (b2i s.data.toList))
theorem dsec_b (k : Int) (s : ByteArray) : 1 ≤ dsec k s ∧ dsec k s < 2147483647 := by
  have := mac_b k (b2i s.data.toList)
  unfold dsec ma; split <;> omega
theorem b2i_len (b : List UInt8) : (b2i b).length = b.length + 1 := by simp [b2i]
theorem dsz {s : ByteArray} : s.data.toList.length = s.size := by rw [Array.length_toList]; rfl
/-! The draws' cursor -/
def andI (a b : Int) : Int := IntKind.wrap .i64 ((BitVec.ofInt (IntKind.bits .i64) a &&& BitVec.ofInt (IntKind.bits .i64) b).toNat : Int)
theorem andI_eq (a b : Int) : IntKind.wrap .i64 ((BitVec.ofInt (IntKind.bits .i64) a &&& BitVec.ofInt (IntKind.bits .i64) b).toNat : Int) = andI a b := rfl
theorem andI_b (a b : Int) (h : 0 ≤ b) (h2 : b ≤ 9223372036854775807) : 0 ≤ andI a b ∧ andI a b ≤ b := by
  have h3 : (BitVec.ofInt 64 b).toNat = b.toNat := by rw [BitVec.toNat_ofInt]; omega
  have h4 : (BitVec.ofInt 64 a &&& BitVec.ofInt 64 b).toNat ≤ b.toNat := by rw [BitVec.toNat_and, h3]; exact Nat.and_le_right
  have h5 : andI a b = ((BitVec.ofInt 64 a &&& BitVec.ofInt 64 b).toNat : Int) := by
    show IntKind.wrap .i64 ((BitVec.ofInt 64 a &&& BitVec.ofInt 64 b).toNat : Int) = _
    exact wrapI (by omega) (by omega)
  omega
def hstep (h : Int) (c : UInt8) : Int := andI (h * 137 + c.toNat + 11) 1073741823
def hashT (n : Nat) (l : List UInt8) : Int := l.foldl hstep (192917 + n)
theorem hashT_snoc (n : Nat) (l : List UInt8) (c : UInt8) : hashT n (l ++ [c]) = hstep (hashT n l) c := by simp [hashT]
theorem fold_b : ∀ (l : List UInt8) (h : Int), 0 ≤ h ∧ h ≤ 1073741823 → 0 ≤ l.foldl hstep h ∧ l.foldl hstep h ≤ 1073741823
  | [], h, hb => hb
  | c :: l, h, hb => fold_b l _ (andI_b _ _ (by omega) (by omega))
theorem hashT_b {n : Nat} (hn : n ≤ 1048576) (l : List UInt8) : 0 ≤ hashT n l ∧ hashT n l ≤ 1073741823 := fold_b l _ (by omega)
/-- What a cursor's cells hold. -/
def IsC (cs : List AV) : Prop := ∃ (b : List UInt8) (i h : Int), cs = [cYs false b, cI i, cI h] ∧ 0 ≤ i
theorem is20 : FI 20 Tryz.f20 := ⟨⟨Tryz.f20, Tryz.func20, rfl, rfl, rfl, rfl⟩, rfl⟩
set_option maxRecDepth 20000 in
set_option maxHeartbeats 16000000 in
theorem s_l1New0 (l : List UInt8) (hl : l.length ≤ 1048576) : FO 20 [Ys false l] [Ys false l] (O (.own [cYs false l, cI 0, cI (hashT l.length (l.take 4000))])) := by
  refine fok envOk mixed is20 ⟨rfl, rfl, ?_⟩
  (repeat' ((conv => whnf); first | refine stp ?_ ))
  refine Lp.mk [.sl 0, .sl 3, .sl 4] (fun m σ => ∃ d r, l = d ++ r ∧ m = r.length ∧ d.length ≤ 4000 ∧ σ = [Sa 0 (Ys false l), Sa 3 (I (hashT l.length d)), Sa 4 (I d.length)]) (l.length) _ (WkS.weak _ _) ⟨[], l, rfl, rfl, by simp, (by first | rfl | (simp only [zlen, zsum, Nat.zero_mul, Int.add_zero, Int.sub_zero, List.nil_append, markG]; rfl))⟩ ?_
  rintro m τ ⟨d, r, hl2, rfl, hd, rfl⟩
  have hy : l.length = d.length + r.length := by rw [hl2]; simp
  have hb := hashT_b (n := l.length) hl d
  cases r with
  | nil =>
    have f1 : decide (((d.length : Nat) : Int) < ((l.length : Nat) : Int)) = false := by simp at * <;> omega
    (repeat' ((conv => whnf); first | refine stp ?_ ))
    refine Vs.Fin.mk (WkR.eq ?_) (.refl _)
    rw [show l.take 4000 = d by rw [hl2, List.append_nil, List.take_of_length_le hd]]
  | cons x r =>
    simp at hy
    have hx := x.toNat_lt
    have f1 : decide (((d.length : Nat) : Int) < ((l.length : Nat) : Int)) = true := by simp <;> omega
    by_cases h : d.length < 4000
    · have f2 : decide (((d.length : Nat) : Int) < 4000) = true := by simp; omega
      (repeat' ((conv => whnf); first | refine stp ?_ | refine Nm.mk (andI_eq _ _) ?_ | refine El.mk (getH hl2 rfl) ?_ | refine Cl.pre (by simp only [shcLL_ints, shcLL_byts, shcLL_strs, Fetc.shcs, Mani.shcs, Name.shcs, Segm.shcs]; rfl) ?_))
      refine Nx.intro r.length (by simp) _ (WkS.weak _ _) ⟨d ++ [x], r, by simp [hl2], rfl, by simp; omega, ?_⟩
      (repeat' (first | exact rfl | refine consE ?_ ?_ | refine entE ?_ | refine vI ?_ | refine vS ?_ | refine vT ?_ | refine vB ?_))
      · rw [hashT_snoc]; rfl
      · simp
    · have f2 : decide (((d.length : Nat) : Int) < 4000) = false := by simp; omega
      (repeat' ((conv => whnf); first | refine stp ?_ ))
      refine Vs.Fin.mk (WkR.eq ?_) (.refl _)
      rw [show l.take 4000 = d by rw [hl2, List.take_append, List.take_of_length_le (by omega), show 4000 - d.length = 0 by omega]; simp]
end Go.Proofs.YtoekfmkbkffciaaGreatDoor
