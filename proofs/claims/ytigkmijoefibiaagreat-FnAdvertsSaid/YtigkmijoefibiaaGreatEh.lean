/- Contracts of functions of the program: no statement of the seat is proved here. Each under the conditions that stand in it. -/
import Derived.Test.YtigkmijoefibiaaGreatEg
set_option linter.all false
namespace Go.Proofs.YtigkmijoefibiaaGreat
open Go.Vs Go.Proofs
theorem nsz_ok {n : Name} (hv : vName n = true) : strsSize n.parts ≤ 100 := by
  have h := vName_b hv
  have := strs_size_le h.2
  omega
set_option maxRecDepth 20000 in
set_option maxHeartbeats 16000000 in
theorem s_AppendNameV (b : List UInt8) (n : Name) (hb : b.length ≤ 100000) (hv : vName n = true) : FO 140 [Ys false b, A (Name.c false n)] [Ys false b, A (Name.c false n)] (Ys true (b ++ enN n)) := by
  refine fok envOk mixed is140 ⟨rfl, rfl, ?_⟩
  have hz := nsz_ok hv
  have hnl := strs_len hz
  have hV := s_ValidName n (by omega)
  rw [hv] at hV
  have hb2 := vName_b hv
  have he := evi_len n.parts.length
  (repeat' ((conv => whnf); first | refine stp ?_ | refine Cl.mk (hV) ?_ | refine Cl.eq (s_AppendVarint b n.parts.length (by omega)) (congrArg (fun z => [O (.sl false .unk 1 z), I (n.parts.length : Nat)]) (by rw [List.nil_append, shcLL_byts])) ?_ | refine Cl.pre (by simp only [shcLL_ints, shcLL_byts, shcLL_strs, Adve.shcs, Data.shcs, Fetc.shcs, Gran.shcs, Keyy.shcs, Mani.shcs, Name.shcs, Read.shcs, Rout.shcs, Segm.shcs, TEnt.shcs]; rfl) ?_))
  refine Lp.mk [.bx 3, .sl 3, .sl 5, .sl 6] (fun m σ => ∃ d r, n.parts = d ++ r ∧ m = r.length ∧ σ = [Bx 3 ((Name.c false n)), Pt 3, Sa 5 (Ys true (b ++ evi n.parts.length ++ apSs d)), Sa 6 (I d.length)]) (n.parts.length) _ (WkS.weak _ _) ⟨[], n.parts, rfl, rfl, (by first | rfl | (simp only [zlen, zsum, Nat.zero_mul, Int.add_zero, Int.sub_zero, List.nil_append, markG, List.append_nil,apSs_nil]; rfl))⟩ ?_
  rintro m τ ⟨d, r, hd, rfl, rfl⟩
  have hy : n.parts.length = d.length + r.length := by rw [hd]; simp
  have hp := apSs_len (l := d) (fun s hs => hb2.2 s (by simp [hd, hs]))
  refine Nm.mk lenC ?_
  cases r with
  | nil =>
    refine Br.neg (by simp at *; omega) ?_
    (repeat' ((conv => whnf); first | refine stp ?_ | refine Br.mk (fun _ => ?_) (fun _ => ?_) ))
    refine Vs.Fin.mk (WkR.eq ?_) (.refl _)
    simp only [List.append_nil] at hd
    rw [enN, ← hd, List.append_assoc]
  | cons x r =>
    have h8 := hb2.2 x (by simp [hd])
    have h9 := @dsz x
    simp at hy
    refine Br.pos (by simp; omega) ?_
    (repeat' ((conv => whnf); first | refine stp ?_ | refine El.mk (getH hd rfl) ?_ | refine Cl.mk (s_AppendBytes (b ++ evi n.parts.length ++ apSs d) x.data.toList (by simp only [List.length_append]; omega) (by omega)) ?_ | refine Cl.pre (by simp only [shcLL_ints, shcLL_byts, shcLL_strs, Adve.shcs, Data.shcs, Fetc.shcs, Gran.shcs, Keyy.shcs, Mani.shcs, Name.shcs, Read.shcs, Rout.shcs, Segm.shcs, TEnt.shcs]; rfl) ?_))
    refine Nx.intro r.length (by simp) _ (WkS.weak _ _) ⟨d ++ [x], r, by simp [hd], rfl, ?_⟩
    rw [len1, apSs_snoc, ← dsI, ← List.append_assoc (b ++ evi n.parts.length)]; rfl
set_option maxRecDepth 20000 in
set_option maxHeartbeats 16000000 in
theorem i_AppendNameV (b : List UInt8) (n : Name) (hb : b.length ≤ 100000) (hv : vName n = true) : FO 122 [Ys false b, A (Name.c false n)] [Ys false b, A (Name.c false n)] (Ys true (b ++ enN n)) := by
  refine fok envOk mixed is122 ⟨rfl, rfl, ?_⟩
  have hz := nsz_ok hv
  have hnl := strs_len hz
  have hV := i_ValidName n (by omega)
  rw [hv] at hV
  have hb2 := vName_b hv
  have he := evi_len n.parts.length
  (repeat' ((conv => whnf); first | refine stp ?_ | refine Cl.mk (hV) ?_ | refine Cl.mk (i_AppendVarint b n.parts.length (by omega)) ?_ | refine Cl.pre (by simp only [shcLL_ints, shcLL_byts, shcLL_strs, Adve.shcs, Data.shcs, Fetc.shcs, Gran.shcs, Keyy.shcs, Mani.shcs, Name.shcs, Read.shcs, Rout.shcs, Segm.shcs, TEnt.shcs]; rfl) ?_))
  refine Lp.mk [.sl 5, .sl 19, .sl 20, .sl 21] (fun m σ => ∃ d r, n.parts = d ++ r ∧ m = r.length ∧ σ = [Sa 5 (Ys true (b ++ evi n.parts.length ++ apSs d)), Sa 19 (O (sl false 1 (strs n.parts))), Sa 20 (I n.parts.length), Sa 21 (I d.length)]) (n.parts.length) _ (WkS.weak _ _) ⟨[], n.parts, rfl, rfl, (by first | rfl | (simp only [zlen, zsum, Nat.zero_mul, Int.add_zero, Int.sub_zero, List.nil_append, markG, List.append_nil,apSs_nil]; rfl))⟩ ?_
  rintro m τ ⟨d, r, hd, rfl, rfl⟩
  have hy : n.parts.length = d.length + r.length := by rw [hd]; simp
  have hp := apSs_len (l := d) (fun s hs => hb2.2 s (by simp [hd, hs]))
  cases r with
  | nil =>
    refine Br.neg (by simp at *; omega) ?_
    (repeat' ((conv => whnf); first | refine stp ?_ | refine Br.mk (fun _ => ?_) (fun _ => ?_) ))
    refine Vs.Fin.mk (WkR.eq ?_) (.refl _)
    simp only [List.append_nil] at hd
    rw [enN, ← hd, List.append_assoc]
  | cons x r =>
    have h8 := hb2.2 x (by simp [hd])
    have h9 := @dsz x
    simp at hy
    refine Br.pos (by simp; omega) ?_
    (repeat' ((conv => whnf); first | refine stp ?_ | refine El.mk (getH hd rfl) ?_ | refine Cl.mk (i_AppendBytes (b ++ evi n.parts.length ++ apSs d) x.data.toList (by simp only [List.length_append]; omega) (by omega)) ?_ | refine Cl.pre (by simp only [shcLL_ints, shcLL_byts, shcLL_strs, Adve.shcs, Data.shcs, Fetc.shcs, Gran.shcs, Keyy.shcs, Mani.shcs, Name.shcs, Read.shcs, Rout.shcs, Segm.shcs, TEnt.shcs]; rfl) ?_))
    refine Nx.intro r.length (by simp) _ (WkS.weak _ _) ⟨d ++ [x], r, by simp [hd], rfl, ?_⟩
    rw [len1, apSs_snoc, ← dsI, ← List.append_assoc (b ++ evi n.parts.length)]; rfl
theorem enNs_nil : enNs [] = [] := rfl
theorem enX_len (a : Adve) (h : AdB a) : (encs [a.origin, a.version, (a.nbs.length : Int)] ++ encs a.nbs ++ evi a.prefs.length).length ≤ 60 := by
  have h1 := encs_len [a.origin, a.version, (a.nbs.length : Int)]
  have h2 := encs_len a.nbs
  have h3 := evi_len a.prefs.length
  have h4 := h.nl
  simp at h1
  simp only [List.length_append]
  omega
theorem is59 : FI 59 Tryz.f59 := ⟨⟨Tryz.f59, Tryz.func59, rfl, rfl, rfl, rfl⟩, rfl⟩
set_option maxRecDepth 20000 in
set_option maxHeartbeats 16000000 in
theorem s_EncAd (a : Adve) (hz : Adve.size a ≤ 100000) : FO 59 [A (Adve.c false a)] [A (Adve.c false a)] (Ys true (encAd a)) := by
  refine fok envOk mixed is59 ⟨rfl, rfl, ?_⟩
  have hV := s_ValidAdv a (by omega)
  cases hv : vAdv a with
  | false =>
    rw [hv] at hV
    rw [show encAd a = [] by simp [encAd, hv]]
    (repeat' ((conv => whnf); first | refine stp ?_ | refine Cl.mk (hV) ?_ | refine Cl.pre (by simp only [shcLL_ints, shcLL_byts, shcLL_strs, Adve.shcs, Data.shcs, Fetc.shcs, Gran.shcs, Keyy.shcs, Mani.shcs, Name.shcs, Read.shcs, Rout.shcs, Segm.shcs, TEnt.shcs]; rfl) ?_))
    (refine Vs.Fin.mk (WkR.of ?_) (.refl _); first | exact .refl _ | exact .nils (.refl _) | exact .top (.refl _))
  | true =>
    rw [hv] at hV
    have hB := vAdv_b hv
    have hX := enX_len a hB
    have h1 := hB.nl
    have h2 := hB.pl
    have l1 := encs_len [a.origin, a.version, (a.nbs.length : Int)]
    have l2 := encs_len a.nbs
    simp at l1
    rw [show encAd a = enA a by simp [encAd, hv]]
    have h3 := s_EncodeInts [a.origin, a.version, (a.nbs.length : Int)] (by simp)
    have h4 := s_AppendVarint (encs [a.origin, a.version, (a.nbs.length : Int)] ++ encs a.nbs) a.prefs.length (by rw [List.length_append]; omega)
    have h5 : shcLL (byts (encs [a.origin, a.version, (a.nbs.length : Int)]) ++ byts (encs a.nbs)) = byts (encs [a.origin, a.version, (a.nbs.length : Int)] ++ encs a.nbs) := by rw [shcLL_append, shcLL_byts, shcLL_byts]; simp [byts]
    (repeat' ((conv => whnf); first | refine stp ?_ | refine Cl.mk (hV) ?_ | refine Cl.mk (s_EncodeInts a.nbs (by omega)) ?_ | refine Cl.eq h3 rfl ?_ | refine Rq.mk (by simp; omega) ?_ | refine Cl.eq h4 (congrArg (fun z => [O (.sl false .unk 1 z), I a.prefs.length]) h5) ?_ | refine Cl.pre (by simp only [shcLL_ints, shcLL_byts, shcLL_strs, Adve.shcs, Data.shcs, Fetc.shcs, Gran.shcs, Keyy.shcs, Mani.shcs, Name.shcs, Read.shcs, Rout.shcs, Segm.shcs, TEnt.shcs]; rfl) ?_))
    refine Lp.mk [.bx 1, .sl 1, .sl 3, .sl 4] (fun m σ => ∃ d r, a.prefs = d ++ r ∧ m = r.length ∧ σ = [Bx 1 ((Adve.c false a)), Pt 1, Sa 3 (Ys true (encs [a.origin, a.version, (a.nbs.length : Int)] ++ encs a.nbs ++ evi a.prefs.length ++ enNs d)), Sa 4 (I d.length)]) (a.prefs.length) _ (WkS.weak _ _) ⟨[], a.prefs, rfl, rfl, (by first | rfl | (simp only [zlen, zsum, Nat.zero_mul, Int.add_zero, Int.sub_zero, List.nil_append, markG, List.append_nil,enNs_nil]; rfl))⟩ ?_
    rintro m τ ⟨d, r, hd, rfl, rfl⟩
    have hy : a.prefs.length = d.length + r.length := by rw [hd]; simp
    have hp := enNs_len (l := d) (fun n hn => hB.pv n (by rw [hd]; simp [hn]))
    refine Nm.mk lenC ?_
    cases r with
    | nil =>
      refine Br.neg (by simp at *; omega) ?_
      (repeat' ((conv => whnf); first | refine stp ?_ ))
      refine Vs.Fin.mk (WkR.eq ?_) (.refl _)
      simp only [List.append_nil] at hd
      rw [enA, hd]
    | cons x r =>
      have hx := hB.pv x (by rw [hd]; simp)
      simp at hy
      refine Br.pos (by simp; omega) ?_
      (repeat' ((conv => whnf); first | refine stp ?_ | refine El.mk (getH hd rfl) ?_ | refine Cl.mk (s_AppendNameV (encs [a.origin, a.version, (a.nbs.length : Int)] ++ encs a.nbs ++ evi a.prefs.length ++ enNs d) x (by rw [List.length_append]; omega) hx) ?_ | refine Cl.pre (by simp only [shcLL_ints, shcLL_byts, shcLL_strs, Adve.shcs, Data.shcs, Fetc.shcs, Gran.shcs, Keyy.shcs, Mani.shcs, Name.shcs, Read.shcs, Rout.shcs, Segm.shcs, TEnt.shcs]; rfl) ?_))
      refine Nx.intro r.length (by simp) _ (WkS.weak _ _) ⟨d ++ [x], r, by simp [hd], rfl, ?_⟩
      rw [len1, enNs_snoc, ← List.append_assoc (encs [a.origin, a.version, (a.nbs.length : Int)] ++ encs a.nbs ++ evi a.prefs.length)]; rfl
theorem is49 : FI 49 Tryz.f49 := ⟨⟨Tryz.f49, Tryz.func49, rfl, rfl, rfl, rfl⟩, rfl⟩
set_option maxRecDepth 20000 in
set_option maxHeartbeats 16000000 in
theorem i_EncAd (a : Adve) (hz : Adve.size a ≤ 100000) : FO 49 [A (Adve.c false a)] [A (Adve.c false a)] (Ys true (encAd a)) := by
  refine fok envOk mixed is49 ⟨rfl, rfl, ?_⟩
  have hV := i_ValidAdv a (by omega)
  cases hv : vAdv a with
  | false =>
    rw [hv] at hV
    rw [show encAd a = [] by simp [encAd, hv]]
    (repeat' ((conv => whnf); first | refine stp ?_ | refine Cl.mk (hV) ?_ | refine Cl.pre (by simp only [shcLL_ints, shcLL_byts, shcLL_strs, Adve.shcs, Data.shcs, Fetc.shcs, Gran.shcs, Keyy.shcs, Mani.shcs, Name.shcs, Read.shcs, Rout.shcs, Segm.shcs, TEnt.shcs]; rfl) ?_))
    (refine Vs.Fin.mk (WkR.of ?_) (.refl _); first | exact .refl _ | exact .nils (.refl _) | exact .top (.refl _))
  | true =>
    rw [hv] at hV
    have hB := vAdv_b hv
    have hX := enX_len a hB
    have h1 := hB.nl
    have h2 := hB.pl
    have eE : encs ([a.origin, a.version, (a.nbs.length : Int)] ++ a.nbs ++ [(a.prefs.length : Int)]) = encs [a.origin, a.version, (a.nbs.length : Int)] ++ encs a.nbs ++ evi a.prefs.length := by
      rw [encs_append, encs_append, encs_one]
    have hE := i_EncodeInts ([a.origin, a.version, (a.nbs.length : Int)] ++ a.nbs ++ [(a.prefs.length : Int)]) (by simp; omega)
    rw [eE] at hE
    rw [show encAd a = enA a by simp [encAd, hv]]
    (repeat' ((conv => whnf); first | refine stp ?_ | refine Cl.mk (hV) ?_ | refine Rq.mk (by simp; omega) ?_ | refine Cl.eq hE (by simp [shcLL_append, shcLL_ints, shcLL, shcL, shc, capArgs, ints]) ?_ | refine Cl.pre (by simp only [shcLL_ints, shcLL_byts, shcLL_strs, Adve.shcs, Data.shcs, Fetc.shcs, Gran.shcs, Keyy.shcs, Mani.shcs, Name.shcs, Read.shcs, Rout.shcs, Segm.shcs, TEnt.shcs]; rfl) ?_))
    refine Lp.mk [.sl 3, .sl 27, .sl 28, .sl 29] (fun m σ => ∃ d r, a.prefs = d ++ r ∧ m = r.length ∧ σ = [Sa 3 (Ys true (encs [a.origin, a.version, (a.nbs.length : Int)] ++ encs a.nbs ++ evi a.prefs.length ++ enNs d)), Sa 27 (O (sl false 1 (a.prefs.map (Name.c false)))), Sa 28 (I a.prefs.length), Sa 29 (I d.length)]) (a.prefs.length) _ (WkS.weak _ _) ⟨[], a.prefs, rfl, rfl, (by first | rfl | (simp only [zlen, zsum, Nat.zero_mul, Int.add_zero, Int.sub_zero, List.nil_append, markG, List.append_nil,enNs_nil]; rfl))⟩ ?_
    rintro m τ ⟨d, r, hd, rfl, rfl⟩
    have hy : a.prefs.length = d.length + r.length := by rw [hd]; simp
    have hp := enNs_len (l := d) (fun n hn => hB.pv n (by rw [hd]; simp [hn]))
    cases r with
    | nil =>
      refine Br.neg (by simp at *; omega) ?_
      (repeat' ((conv => whnf); first | refine stp ?_ ))
      refine Vs.Fin.mk (WkR.eq ?_) (.refl _)
      simp only [List.append_nil] at hd
      rw [enA, hd]
    | cons x r =>
      have hx := hB.pv x (by rw [hd]; simp)
      simp at hy
      refine Br.pos (by simp; omega) ?_
      (repeat' ((conv => whnf); first | refine stp ?_ | refine El.mk (getH hd rfl) ?_ | refine Cl.mk (i_AppendNameV (encs [a.origin, a.version, (a.nbs.length : Int)] ++ encs a.nbs ++ evi a.prefs.length ++ enNs d) x (by rw [List.length_append]; omega) hx) ?_ | refine Cl.pre (by simp only [shcLL_ints, shcLL_byts, shcLL_strs, Adve.shcs, Data.shcs, Fetc.shcs, Gran.shcs, Keyy.shcs, Mani.shcs, Name.shcs, Read.shcs, Rout.shcs, Segm.shcs, TEnt.shcs]; rfl) ?_))
      refine Nx.intro r.length (by simp) _ (WkS.weak _ _) ⟨d ++ [x], r, by simp [hd], rfl, ?_⟩
      rw [len1, enNs_snoc, ← List.append_assoc (encs [a.origin, a.version, (a.nbs.length : Int)] ++ encs a.nbs ++ evi a.prefs.length)]; rfl
end Go.Proofs.YtigkmijoefibiaaGreat
