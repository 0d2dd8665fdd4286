/- Contracts of functions of the program: no statement of the seat is proved here. Each under the conditions that stand in it. -/
import Derived.Test.YtgcnbfplihjelaaGreatDoorFq
import Derived.Test.YtgcnbfplihjelaaGreatDoorGw
set_option linter.all false
namespace Go.Proofs.YtgcnbfplihjelaaGreatDoor
open Go.Vs Go.Proofs
/-! Secrets -/
theorem flat_pre {d r : List (List Int)} : (d ++ r).flatten.length = d.flatten.length + r.flatten.length := by simp
theorem is171 : FI 171 Tryz.f171 := ⟨⟨Tryz.f171, Tryz.func171, rfl, rfl, rfl, rfl⟩, rfl⟩
set_option maxRecDepth 20000 in
set_option maxHeartbeats 16000000 in
theorem Concat_int (ls : List (List Int)) (hl : ls.length ≤ 1048576) (ht : ls.flatten.length ≤ 1048576000) : FO 171 [O (sl false 1 (ls.map fun l => [cIs false l]))] [O (sl false 1 (ls.map fun l => [cIs false l]))] (Is true ls.flatten) := by
  refine fok envOk mixed is171 ⟨rfl, rfl, ?_⟩
  refine Nm.mk lenC ?_
  refine Lp.mk [.sl 0, .sl 3, .sl 9, .sl 10, .sl 11] (fun m σ => ∃ d r, ls = d ++ r ∧ m = r.length ∧ σ = [Sa 0 (O (sl false 1 (ls.map fun l => [cIs false l]))), Sa 3 (I d.flatten.length), Sa 9 (O (sl false 1 (ls.map fun l => [cIs false l]))), Sa 10 (I ls.length), Sa 11 (I d.length)]) (ls.length) _ (WkS.weak _ _) ⟨[], ls, rfl, rfl, (by first | rfl | (simp only [zlen, zsum, Nat.zero_mul, Int.add_zero, Int.sub_zero, List.nil_append, markG]; rfl))⟩ ?_
  rintro m τ ⟨d, r, rfl, rfl, rfl⟩
  cases r with
  | cons x r =>
    simp at hl ht
    refine Br.pos (by simp; omega) ?_
    refine Rq.mk ⟨by omega, by simp; omega⟩ ?_
    refine El.mk (getA rfl) ?_
    refine Nm.mk lenC ?_
    refine Nm.mk (wrapI (by simp; omega) (by simp; omega)) ?_
    refine Br.neg (by simp; omega) ?_
    refine Nm.mk (wrapI (by omega) (by omega)) ?_
    refine Nx.intro r.length (by simp) _ (WkS.weak _ _) ⟨d ++ [x], r, by simp, rfl, ?_⟩
    (repeat' (first | exact rfl | refine consE ?_ ?_ | refine entE ?_ | refine vI ?_ | refine vS ?_ | refine vT ?_ | refine vB ?_))
    · simp
    · simp
  | nil =>
    simp only [List.append_nil] at *
    refine Br.neg (by simp) ?_
    refine Cl.mk (Grow_nil d.flatten.length ht) ?_
    refine Nm.mk lenC ?_
    refine Lp.mk [.sl 6, .sl 25, .sl 26, .sl 27] (fun m σ => ∃ a r, d = a ++ r ∧ m = r.length ∧ σ = [Sa 6 (Is true a.flatten), Sa 25 (O (sl false 1 (d.map fun l => [cIs false l]))), Sa 26 (I d.length), Sa 27 (I a.length)]) (d.length) _ (WkS.weak _ _) ⟨[], d, rfl, rfl, (by first | rfl | (simp only [zlen, zsum, Nat.zero_mul, Int.add_zero, Int.sub_zero, List.nil_append, markG]; rfl))⟩ ?_
    rintro m τ ⟨a, r, rfl, rfl, rfl⟩
    cases r with
    | nil =>
      refine Br.neg (by simp) ?_
      (repeat' ((conv => whnf); first | refine Br.tt ?_ | refine Br.ff ?_ | refine Br.pos (by assumption) ?_ | refine Br.neg (by assumption) ?_ | refine Br.bself ?_ | refine Br.dself ?_ | refine Br.iself ?_ | refine Br.mk (fun _ => ?_) (fun _ => ?_) | refine Nm.mk lenC ?_ | refine Nm.mk (wrapI (by (first | omega | (simp [inR_t, inR_f] at *; omega))) (by (first | omega | (simp [inR_t, inR_f] at *; omega)))) ?_ | refine Nm.mk (wrapQ (by (first | omega | (simp [inR_t, inR_f] at *; omega))) (by (first | omega | (simp [inR_t, inR_f] at *; omega))) (by (first | omega | (simp [inR_t, inR_f] at *; omega)))) ?_ | refine Nm.mk (tmodN (by (first | omega | (simp [inR_t, inR_f] at *; omega)))) ?_ | refine Nm.mk (szS _) ?_ | refine Nm.mk (mi_eq _ _) ?_ | refine Nm.mk (ma_eq _ _) ?_ | refine Rq.mk (by first | (simp [dOwnL, dOwn] <;> fail) | (first | omega | (simp [inR_t, inR_f] at *; omega))) ?_ | refine And.intro (orderFast (by kernel_rfl)) ?_ | refine And.intro (by kernel_rfl) ?_ ))
      refine Vs.Fin.mk (WkR.eq ?_) (.refl _)
      simp
    | cons x r =>
      simp at hl ht
      refine Br.pos (by simp; omega) ?_
      refine Rq.mk ⟨by omega, by simp; omega⟩ ?_
      refine El.mk (getA rfl) ?_
      have hA : a.flatten.length + x.length ≤ 1048576000 := by simp; omega
      refine Rq.mk (by simp only [List.length_map]; omega) ?_
      (repeat' ((conv => whnf); first | refine Br.tt ?_ | refine Br.ff ?_ | refine Br.pos (by assumption) ?_ | refine Br.neg (by assumption) ?_ | refine Br.bself ?_ | refine Br.dself ?_ | refine Br.iself ?_ | refine Nm.mk lenC ?_ | refine Nm.mk (wrapI (by (first | omega | (simp [inR_t, inR_f] at *; omega))) (by (first | omega | (simp [inR_t, inR_f] at *; omega)))) ?_ | refine Nm.mk (wrapQ (by (first | omega | (simp [inR_t, inR_f] at *; omega))) (by (first | omega | (simp [inR_t, inR_f] at *; omega))) (by (first | omega | (simp [inR_t, inR_f] at *; omega)))) ?_ | refine Nm.mk (tmodN (by (first | omega | (simp [inR_t, inR_f] at *; omega)))) ?_ | refine Nm.mk (szS _) ?_ | refine Nm.mk (mi_eq _ _) ?_ | refine Nm.mk (ma_eq _ _) ?_ | refine Rq.mk (by first | (simp [dOwnL, dOwn] <;> fail) | (first | omega | (simp [inR_t, inR_f] at *; omega))) ?_ | refine And.intro (orderFast (by kernel_rfl)) ?_ | refine And.intro (by kernel_rfl) ?_ ))
      refine Nx.intro r.length (by simp) _ (WkS.weak _ _) ⟨a ++ [x], r, by simp, rfl, ?_⟩
      (repeat' (first | exact rfl | refine consE ?_ ?_ | refine entE ?_ | refine vI ?_ | refine vS ?_ | refine vT ?_ | refine vB ?_))
      · simp
      · simp
def mac (k : Int) (l : List Int) : Int := digest (k :: (l ++ [k]))
theorem mac_b (k : Int) (l : List Int) : 0 ≤ mac k l ∧ mac k l < 2147483647 := digest_b _
theorem is137 : FI 137 Tryz.f137 := ⟨⟨Tryz.f137, Tryz.func137, rfl, rfl, rfl, rfl⟩, rfl⟩
set_option maxRecDepth 20000 in
set_option maxHeartbeats 16000000 in
theorem s_ComputeMAC (k : Int) (l : List Int) (hl : l.length ≤ 104857600) : FO 137 [I k, Is false l] [I k, Is false l] (I (mac k l)) := by
  refine fok envOk mixed is137 ⟨rfl, rfl, ?_⟩
  (repeat' ((conv => whnf); first | refine Br.tt ?_ | refine Br.ff ?_ | refine Br.pos (by assumption) ?_ | refine Br.neg (by assumption) ?_ | refine Br.bself ?_ | refine Br.dself ?_ | refine Br.iself ?_ | refine Br.mk (fun _ => ?_) (fun _ => ?_) | refine Nm.mk lenC ?_ | refine Nm.mk (wrapI (by (first | omega | (simp [inR_t, inR_f] at *; omega))) (by (first | omega | (simp [inR_t, inR_f] at *; omega)))) ?_ | refine Nm.mk (wrapQ (by (first | omega | (simp [inR_t, inR_f] at *; omega))) (by (first | omega | (simp [inR_t, inR_f] at *; omega))) (by (first | omega | (simp [inR_t, inR_f] at *; omega)))) ?_ | refine Nm.mk (tmodN (by (first | omega | (simp [inR_t, inR_f] at *; omega)))) ?_ | refine Nm.mk (szS _) ?_ | refine Nm.mk (mi_eq _ _) ?_ | refine Nm.mk (ma_eq _ _) ?_ | refine Rq.mk (by first | (simp [dOwnL, dOwn] <;> fail) | (first | omega | (simp [inR_t, inR_f] at *; omega))) ?_ | refine And.intro (orderFast (by kernel_rfl)) ?_ | refine And.intro (by kernel_rfl) ?_ ))
  refine Cl.eq (s_Digest (k :: (l ++ [k])) (by simp; omega)) (by refine congrArg (fun z => [O (AV.sl false NF.unk 1 z)]) ?_; rw [shcLL_append, shcLL_append, shcLL_ints]; simp [ints, shcLL, shcL, Vs.shc]) ?_
  (repeat' ((conv => whnf); first | refine Br.tt ?_ | refine Br.ff ?_ | refine Br.pos (by assumption) ?_ | refine Br.neg (by assumption) ?_ | refine Br.bself ?_ | refine Br.dself ?_ | refine Br.iself ?_ | refine Br.mk (fun _ => ?_) (fun _ => ?_) | refine Nm.mk lenC ?_ | refine Nm.mk (wrapI (by (first | omega | (simp [inR_t, inR_f] at *; omega))) (by (first | omega | (simp [inR_t, inR_f] at *; omega)))) ?_ | refine Nm.mk (wrapQ (by (first | omega | (simp [inR_t, inR_f] at *; omega))) (by (first | omega | (simp [inR_t, inR_f] at *; omega))) (by (first | omega | (simp [inR_t, inR_f] at *; omega)))) ?_ | refine Nm.mk (tmodN (by (first | omega | (simp [inR_t, inR_f] at *; omega)))) ?_ | refine Nm.mk (szS _) ?_ | refine Nm.mk (mi_eq _ _) ?_ | refine Nm.mk (ma_eq _ _) ?_ | refine Rq.mk (by first | (simp [dOwnL, dOwn] <;> fail) | (first | omega | (simp [inR_t, inR_f] at *; omega))) ?_ | refine And.intro (orderFast (by kernel_rfl)) ?_ | refine And.intro (by kernel_rfl) ?_ ))
  exact ⟨WkR.refl _, .refl _⟩
theorem is134 : FI 134 Tryz.f134 := ⟨⟨Tryz.f134, Tryz.func134, rfl, rfl, rfl, rfl⟩, rfl⟩
set_option maxRecDepth 20000 in
set_option maxHeartbeats 16000000 in
theorem i_ComputeMAC (k : Int) (l : List Int) (hl : l.length ≤ 104857600) : FO 134 [I k, Is false l] [I k, Is false l] (I (mac k l)) := by
  refine fok envOk mixed is134 ⟨rfl, rfl, ?_⟩
  (repeat' ((conv => whnf); first | refine Br.tt ?_ | refine Br.ff ?_ | refine Br.pos (by assumption) ?_ | refine Br.neg (by assumption) ?_ | refine Br.bself ?_ | refine Br.dself ?_ | refine Br.iself ?_ | refine Br.mk (fun _ => ?_) (fun _ => ?_) | refine Nm.mk lenC ?_ | refine Nm.mk (wrapI (by (first | omega | (simp [inR_t, inR_f] at *; omega))) (by (first | omega | (simp [inR_t, inR_f] at *; omega)))) ?_ | refine Nm.mk (wrapQ (by (first | omega | (simp [inR_t, inR_f] at *; omega))) (by (first | omega | (simp [inR_t, inR_f] at *; omega))) (by (first | omega | (simp [inR_t, inR_f] at *; omega)))) ?_ | refine Nm.mk (tmodN (by (first | omega | (simp [inR_t, inR_f] at *; omega)))) ?_ | refine Nm.mk (szS _) ?_ | refine Nm.mk (mi_eq _ _) ?_ | refine Nm.mk (ma_eq _ _) ?_ | refine Rq.mk (by first | (simp [dOwnL, dOwn] <;> fail) | (first | omega | (simp [inR_t, inR_f] at *; omega))) ?_ | refine And.intro (orderFast (by kernel_rfl)) ?_ | refine And.intro (by kernel_rfl) ?_ ))
  refine Cl.eq ((Concat_int [[k], l, [k]] (by simp) (by simp; omega)).wk (args' := [(.one, [AV.sl false NF.unk 1 [[AV.sl false NF.non 1 [[cI k]]], [AV.sl false NF.unk 1 (ints l)], [AV.sl false NF.non 1 [[cI k]]]]])]) (.cons (.sl (.inl rfl) rfl (by simp) (.top (.keep (.top .nil))) .nil) .nil) (.refl _) (WkR.refl _)) (by simp only [shcLL, shcL, Vs.shc]) ?_
  rw [show ([[k], l, [k]] : List (List Int)).flatten = k :: (l ++ [k]) by simp]
  refine Rq.mk (by simp [dOwnLL, dOwnL, dOwn]) ?_
  (repeat' ((conv => whnf); first | refine Br.tt ?_ | refine Br.ff ?_ | refine Br.pos (by assumption) ?_ | refine Br.neg (by assumption) ?_ | refine Br.bself ?_ | refine Br.dself ?_ | refine Br.iself ?_ | refine Br.mk (fun _ => ?_) (fun _ => ?_) | refine Nm.mk lenC ?_ | refine Nm.mk (wrapI (by (first | omega | (simp [inR_t, inR_f] at *; omega))) (by (first | omega | (simp [inR_t, inR_f] at *; omega)))) ?_ | refine Nm.mk (wrapQ (by (first | omega | (simp [inR_t, inR_f] at *; omega))) (by (first | omega | (simp [inR_t, inR_f] at *; omega))) (by (first | omega | (simp [inR_t, inR_f] at *; omega)))) ?_ | refine Nm.mk (tmodN (by (first | omega | (simp [inR_t, inR_f] at *; omega)))) ?_ | refine Nm.mk (szS _) ?_ | refine Nm.mk (mi_eq _ _) ?_ | refine Nm.mk (ma_eq _ _) ?_ | refine Rq.mk (by first | (simp [dOwnL, dOwn] <;> fail) | (first | omega | (simp [inR_t, inR_f] at *; omega))) ?_ | refine And.intro (orderFast (by kernel_rfl)) ?_ | refine And.intro (by kernel_rfl) ?_ | refine Cl.mk (i_Digest (k :: (l ++ [k])) (by simp; omega)) ?_ | refine Cl.pre (by simp only [shcLL_ints, shcLL_byts, shcLL_strs, Fetc.shcs, Mani.shcs, Name.shcs, Segm.shcs]; rfl) ?_))
  exact ⟨WkR.refl _, .refl _⟩
def dsec (k : Int) (s : ByteArray) : Int := ma 1 (mac k (b2i s.data.toList))
theorem dsec_b (k : Int) (s : ByteArray) : 1 ≤ dsec k s ∧ dsec k s < 2147483647 := by
  have := mac_b k (b2i s.data.toList)
  unfold dsec ma; split <;> omega
theorem b2i_len (b : List UInt8) : (b2i b).length = b.length + 1 := by simp [b2i]
theorem dsz {s : ByteArray} : s.data.toList.length = s.size := by rw [Array.length_toList]; rfl
theorem is80 : FI 80 Tryz.f80 := ⟨⟨Tryz.f80, Tryz.func80, rfl, rfl, rfl, rfl⟩, rfl⟩
set_option maxRecDepth 20000 in
set_option maxHeartbeats 16000000 in
theorem s_DeriveSecret (k : Int) (s : ByteArray) (hs : s.size ≤ 1048576) : FO 80 [I k, S s] [I k, S s] (I (dsec k s)) := by
  refine fok envOk mixed is80 ⟨rfl, rfl, ?_⟩
  have hz := @dsz s
  (repeat' ((conv => whnf); first | refine Br.tt ?_ | refine Br.ff ?_ | refine Br.pos (by assumption) ?_ | refine Br.neg (by assumption) ?_ | refine Br.bself ?_ | refine Br.dself ?_ | refine Br.iself ?_ | refine Br.mk (fun _ => ?_) (fun _ => ?_) | refine Nm.mk lenC ?_ | refine Nm.mk (wrapI (by (first | omega | (simp [inR_t, inR_f] at *; omega))) (by (first | omega | (simp [inR_t, inR_f] at *; omega)))) ?_ | refine Nm.mk (wrapQ (by (first | omega | (simp [inR_t, inR_f] at *; omega))) (by (first | omega | (simp [inR_t, inR_f] at *; omega))) (by (first | omega | (simp [inR_t, inR_f] at *; omega)))) ?_ | refine Nm.mk (tmodN (by (first | omega | (simp [inR_t, inR_f] at *; omega)))) ?_ | refine Nm.mk (szS _) ?_ | refine Nm.mk (mi_eq _ _) ?_ | refine Nm.mk (ma_eq _ _) ?_ | refine Rq.mk (by first | (simp [dOwnL, dOwn] <;> fail) | (first | omega | (simp [inR_t, inR_f] at *; omega))) ?_ | refine And.intro (orderFast (by kernel_rfl)) ?_ | refine And.intro (by kernel_rfl) ?_ | refine Cl.mk (s_BytesToInts s.data.toList (by omega)) ?_ | refine Cl.mk (s_ComputeMAC k (b2i s.data.toList) (by rw [b2i_len]; omega)) ?_ | refine Cl.mk (s_Max _ _) ?_ | refine Cl.pre (by simp only [shcLL_ints, shcLL_byts, shcLL_strs, Fetc.shcs, Mani.shcs, Name.shcs, Segm.shcs]; rfl) ?_))
  exact ⟨WkR.refl _, .refl _⟩
theorem is78 : FI 78 Tryz.f78 := ⟨⟨Tryz.f78, Tryz.func78, rfl, rfl, rfl, rfl⟩, rfl⟩
set_option maxRecDepth 20000 in
set_option maxHeartbeats 16000000 in
theorem i_DeriveSecret (k : Int) (s : ByteArray) (hs : s.size ≤ 1048576) : FO 78 [I k, S s] [I k, S s] (I (dsec k s)) := by
  refine fok envOk mixed is78 ⟨rfl, rfl, ?_⟩
  have hz := @dsz s
  have hb := mac_b k (b2i s.data.toList)
  have hd : dsec k s = if mac k (b2i s.data.toList) = 0 then 1 else mac k (b2i s.data.toList) := by
    unfold dsec ma; split <;> split <;> omega
  rw [hd]
  (repeat' ((conv => whnf); first | refine Br.tt ?_ | refine Br.ff ?_ | refine Br.pos (by assumption) ?_ | refine Br.neg (by assumption) ?_ | refine Br.bself ?_ | refine Br.dself ?_ | refine Br.iself ?_ | refine Br.mk (fun _ => ?_) (fun _ => ?_) | refine Nm.mk lenC ?_ | refine Nm.mk (wrapI (by (first | omega | (simp [inR_t, inR_f] at *; omega))) (by (first | omega | (simp [inR_t, inR_f] at *; omega)))) ?_ | refine Nm.mk (wrapQ (by (first | omega | (simp [inR_t, inR_f] at *; omega))) (by (first | omega | (simp [inR_t, inR_f] at *; omega))) (by (first | omega | (simp [inR_t, inR_f] at *; omega)))) ?_ | refine Nm.mk (tmodN (by (first | omega | (simp [inR_t, inR_f] at *; omega)))) ?_ | refine Nm.mk (szS _) ?_ | refine Nm.mk (mi_eq _ _) ?_ | refine Nm.mk (ma_eq _ _) ?_ | refine Rq.mk (by first | (simp [dOwnL, dOwn] <;> fail) | (first | omega | (simp [inR_t, inR_f] at *; omega))) ?_ | refine And.intro (orderFast (by kernel_rfl)) ?_ | refine And.intro (by kernel_rfl) ?_ | refine Cl.mk (i_BytesToInts s.data.toList (by omega)) ?_ | refine Cl.mk (i_ComputeMAC k (b2i s.data.toList) (by rw [b2i_len]; omega)) ?_ | refine Cl.pre (by simp only [shcLL_ints, shcLL_byts, shcLL_strs, Fetc.shcs, Mani.shcs, Name.shcs, Segm.shcs]; rfl) ?_))
  all_goals (refine Vs.Fin.mk (WkR.eq ?_) (.refl _); simp_all)
end Go.Proofs.YtgcnbfplihjelaaGreatDoor
