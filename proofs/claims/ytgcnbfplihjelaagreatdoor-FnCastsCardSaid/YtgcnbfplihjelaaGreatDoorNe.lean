/- Contracts of functions of the program: no statement of the seat is proved here. Each under the conditions that stand in it. -/
import Derived.Test.YtgcnbfplihjelaaGreatDoorNd
import Derived.Test.YtgcnbfplihjelaaGreatDoorWb
set_option linter.all false
namespace Go.Proofs.YtgcnbfplihjelaaGreatDoor
open Go.Vs Go.Proofs
theorem flat_lenC {G : Nat → List UInt8} {z : Nat} (h : ∀ t, (G t).length ≤ z) : ∀ k, ((List.range k).flatMap G).length ≤ z * k
  | 0 => by simp
  | k + 1 => by
    have h1 := flat_lenC h k
    have h2 := h k
    rw [List.range_succ, List.flatMap_append, List.length_append, Nat.mul_add]
    simp only [List.flatMap_cons, List.flatMap_nil, List.append_nil]
    omega
theorem flat_succC (G : Nat → List UInt8) (k : Nat) : (List.range (k + 1)).flatMap G = (List.range k).flatMap G ++ G k := by
  rw [List.range_succ, List.flatMap_append]; simp
theorem getYD {Y : Nat → Data} {X : Data} {k i : Nat} (h : i < k) : ((X :: (List.range k).map Y).map (Data.c true))[((i + 1 : Nat) : Int).toNat]? = some (Data.c true (Y i)) := by
  simp [h]
set_option maxHeartbeats 32000000
theorem is4 : FI 4 Tryz.f4 := ⟨⟨Tryz.f4, Tryz.func4, rfl, rfl, rfl, rfl⟩, rfl⟩
set_option maxRecDepth 20000 in
set_option maxHeartbeats 16000000 in
theorem ex0Casts (l : List UInt8) (hl : l.length ≤ 1048576) (L : List Keyy) (key n : Name) (b : List UInt8) (size : Int) (hL : L.length + sumN Keyy.size L ≤ 600) (hk : strsSize key.parts ≤ 54) (hn : strsSize n.parts ≤ 50) (hb : b.length ≤ 16) (k1 : FO 33 [Ys false l] [Ys false l] (PSD L key n b size)) (m : Name) (hm : strsSize m.parts ≤ 50) (k2 : FO 36 [Ys false l] [Ys false l] (A (Name.c true m))) : FO 4 [Ys false l] [Ys false l] (B true) := by
  refine fok envOk mixed is4 ⟨rfl, rfl, ?_⟩
  have hPi := i_PublishSegments L key n b size 90 (by omega) (by omega) (by omega) (by omega)
  have hPs := s_PublishSegments L key n b size 90 (by omega) (by omega) (by omega) (by omega)
  have hNi := i_ManifestName m (by omega)
  have hNs := s_ManifestName m (by omega)
  have hNl := strs_len (@apZero_sz m plan)
  generalize apZero m plan = mn at hNi hNs hNl
  generalize vName ⟨m.parts ++ [plan]⟩ = mo at hNi hNs
  have hnl := strs_len hn
  cases hok : pubB L key n b (mkMani b size) 90 with
  | false =>
    have e : pubR L key n b (mkMani b size) 90 = [] := by rw [pubR, hok]; rfl
    rw [e, hok] at hPi hPs
    (repeat' ((conv => whnf); first | refine Br.tt ?_ | refine Br.ff ?_ | refine Br.pos (by assumption) ?_ | refine Br.neg (by assumption) ?_ | refine Br.bself ?_ | refine Br.dself ?_ | refine Br.iself ?_ | refine Nm.mk lenC ?_ | refine Nm.mk (wrapI (by (first | omega | (simp [inR_t, inR_f] at *; omega))) (by (first | omega | (simp [inR_t, inR_f] at *; omega)))) ?_ | refine Nm.mk (wrapQ (by (first | omega | (simp [inR_t, inR_f] at *; omega))) (by (first | omega | (simp [inR_t, inR_f] at *; omega))) (by (first | omega | (simp [inR_t, inR_f] at *; omega)))) ?_ | refine Nm.mk (tmodN (by (first | omega | (simp [inR_t, inR_f] at *; omega)))) ?_ | refine Nm.mk (szS _) ?_ | refine Nm.mk (mi_eq _ _) ?_ | refine Nm.mk (ma_eq _ _) ?_ | refine Rq.mk (by first | (simp [dOwnL, dOwn] <;> fail) | (first | omega | (simp [inR_t, inR_f] at *; omega))) ?_ | refine And.intro (orderFast (by kernel_rfl)) ?_ | refine And.intro (by kernel_rfl) ?_ | refine Cl.mk (big_no l hl) ?_ | refine Cl.mk (k1) ?_ | refine Cl.mk (hPi) ?_ | refine Cl.mk (hPs) ?_ | refine Cl.mk (k2) ?_ | refine Cl.mk (hNi) ?_ | refine Cl.mk (hNs) ?_ | refine Cl.mk (same_Things [] (by simp) (by simp)) ?_ | refine Cl.mk (same_Name mn (by omega)) ?_ | refine Rq.mk (by simp [dOwnL, dOwn, dOwnLL]) ?_ | refine Cl.pre (by simp only [shcLL_K]; rfl) ?_ | refine Cl.pre (by simp only [shcLL_ints, shcLL_byts, shcLL_strs, Data.shcs, Fetc.shcs, Gran.shcs, Keyy.shcs, Mani.shcs, Name.shcs, Read.shcs, Rout.shcs, Segm.shcs, TEnt.shcs]; rfl) ?_))
    exact Vs.Fin.mk (WkR.refl _) (.refl _)
  | true =>
    obtain ⟨p, G, X, Y, e, hv, h8, hXc, hXz, hYz, hY, hGl, hfl⟩ := cast_facts (by omega) (by omega) hok
    rw [hok] at hPi hPs
    rw [e] at hPi hPs
    clear e
    have hD := i_DecodeManifest X.content hXz.2.1
    rw [hXc, dec_encM hv, ← hXc] at hD
    have hT := same_Things (X :: (List.range p.dig.length).map Y) (by simp; omega) (by
      intro x hx
      rcases List.mem_cons.1 hx with rfl | hx
      · exact hXz
      · obtain ⟨i, -, rfl⟩ := List.mem_map.1 hx
        exact hYz i)
    have hlen : (X :: (List.range p.dig.length).map Y).length = p.dig.length + 1 := by simp
    generalize hLL : X :: (List.range p.dig.length).map Y = LL at hPi hPs hT hlen
    have hX0 : (LL.map (Data.c true))[(0 : Int).toNat]? = some (Data.c true X) := by rw [← hLL]; rfl
    have hYi : ∀ i, i < p.dig.length → (LL.map (Data.c true))[((i + 1 : Nat) : Int).toNat]? = some (Data.c true (Y i)) := fun i hi => by rw [← hLL]; exact getYD hi
    clear hLL hXc
    (repeat' ((conv => whnf); first | refine Br.tt ?_ | refine Br.ff ?_ | refine Br.pos (by assumption) ?_ | refine Br.neg (by assumption) ?_ | refine Br.bself ?_ | refine Br.dself ?_ | refine Br.iself ?_ | refine Nm.mk lenC ?_ | refine Nm.mk (wrapI (by (first | omega | (simp [inR_t, inR_f] at *; omega))) (by (first | omega | (simp [inR_t, inR_f] at *; omega)))) ?_ | refine Nm.mk (wrapQ (by (first | omega | (simp [inR_t, inR_f] at *; omega))) (by (first | omega | (simp [inR_t, inR_f] at *; omega))) (by (first | omega | (simp [inR_t, inR_f] at *; omega)))) ?_ | refine Nm.mk (tmodN (by (first | omega | (simp [inR_t, inR_f] at *; omega)))) ?_ | refine Nm.mk (szS _) ?_ | refine Nm.mk (mi_eq _ _) ?_ | refine Nm.mk (ma_eq _ _) ?_ | refine Rq.mk (by first | (simp [dOwnL, dOwn] <;> fail) | (first | omega | (simp [inR_t, inR_f] at *; omega))) ?_ | refine And.intro (orderFast (by kernel_rfl)) ?_ | refine And.intro (by kernel_rfl) ?_ | refine Cl.mk (big_no l hl) ?_ | refine Cl.mk (k1) ?_ | refine Cl.mk (hPi) ?_ | refine Cl.mk (hPs) ?_ | refine Cl.mk (k2) ?_ | refine Cl.mk (hNi) ?_ | refine Cl.mk (hNs) ?_ | refine Cl.mk (hT) ?_ | refine Cl.mk (same_Name mn (by omega)) ?_ | refine El.mk hX0 ?_ | refine Cl.mk (hD) ?_ | refine Cl.pre (by simp only [shcLL_K]; rfl) ?_ | refine Cl.pre (by simp only [shcLL_ints, shcLL_byts, shcLL_strs, Data.shcs, Fetc.shcs, Gran.shcs, Keyy.shcs, Mani.shcs, Name.shcs, Read.shcs, Rout.shcs, Segm.shcs, TEnt.shcs]; rfl) ?_))
    refine Lp.mk [.sl 3, .bx 5, .sl 5, .sl 6, .sl 9, .bx 18, .sl 18, .sl 19, .sl 20, .sl 21] (fun m σ => ∃ i, i + m = p.dig.length ∧ σ = [Sa 3 (O (sl true 2 (L.map (Keyy.c false)))), Bx 5 (Name.c true n), Pt 5, Sa 6 (Ys true b), Sa 9 (O (sl true 5 (LL.map (Data.c true)))), Bx 18 (Mani.c true p), Pt 18, Sa 19 (B true), Sa 20 (O (.sl true .non 1 (byts ((List.range i).flatMap G)))), Sa 21 (I (i + 1 : Nat))]) (p.dig.length) _ (WkS.weak _ _) ⟨0, by simp, (by first | rfl | (simp only [zlen, zsum, Nat.zero_mul, Int.add_zero, Int.sub_zero, List.nil_append, markG]; rfl))⟩ ?_
    rintro mm τ ⟨i, hi, rfl⟩
    have hfl2 := flat_lenC (z := 16) (fun t => Nat.le_trans (hGl t) hb) i
    have hgi := hGl i
    refine Nm.mk lenC ?_
    by_cases hlt : i < p.dig.length
    · obtain ⟨y1, y2, y3, y4⟩ := hY i hlt
      have hyi := hYi i hlt
      have f1 : decide (((i + 1 : Nat) : Int) < ((LL.length : Nat) : Int)) = true := by rw [hlen]; simp; omega
      have hV0 := i_VerifySegment p i (G i) (by omega) (by omega)
      rw [y2, ← y1] at hV0
      have hV : FO 42 [A (Mani.c false p), I (((i + 1 : Nat) : Int) - 1), Ys false (Y i).content] [A (Mani.c false p), I (((i + 1 : Nat) : Int) - 1), Ys false (Y i).content] (B true) := by
        rw [show (((i + 1 : Nat) : Int) - 1) = (i : Int) by omega]; exact hV0
      have hH := i_HasPrefix (Y i).name n (by have := strs_len (hYz i).1; omega) (by omega)
      rw [y3] at hH
      have hK := i_ValidKeys L (by omega)
      have hW : FO 45 [Ks false L, A (Data.c false (Y i))] [Ks false L, A (Data.c false (Y i))] (B (verS L (Y i))) := i_VerifySignature L (Y i) (by omega) (hYz i)
      have hcl : (Y i).content.length ≤ 16 := by rw [y1]; omega
      have hfin : ∀ {X : Prop}, X → X := fun h => h
      cases hvk : vKeys L with
      | true =>
        rw [hvk] at hK
        rw [y4 hvk] at hW
        (repeat' ((conv => whnf); first | refine Br.tt ?_ | refine Br.ff ?_ | refine Br.pos (by assumption) ?_ | refine Br.neg (by assumption) ?_ | refine Br.bself ?_ | refine Br.dself ?_ | refine Br.iself ?_ | refine Nm.mk lenC ?_ | refine Nm.mk (wrapI (by (first | omega | (simp [inR_t, inR_f] at *; omega))) (by (first | omega | (simp [inR_t, inR_f] at *; omega)))) ?_ | refine Nm.mk (wrapQ (by (first | omega | (simp [inR_t, inR_f] at *; omega))) (by (first | omega | (simp [inR_t, inR_f] at *; omega))) (by (first | omega | (simp [inR_t, inR_f] at *; omega)))) ?_ | refine Nm.mk (tmodN (by (first | omega | (simp [inR_t, inR_f] at *; omega)))) ?_ | refine Nm.mk (szS _) ?_ | refine Nm.mk (mi_eq _ _) ?_ | refine Nm.mk (ma_eq _ _) ?_ | refine Rq.mk (by first | (simp [dOwnL, dOwn] <;> fail) | (first | omega | (simp [inR_t, inR_f] at *; omega))) ?_ | refine And.intro (orderFast (by kernel_rfl)) ?_ | refine And.intro (by kernel_rfl) ?_ | refine El.mk hyi ?_ | refine Cl.mk (hV) ?_ | refine Cl.mk (hH) ?_ | refine Cl.mk (hK) ?_ | refine Cl.mk (hW) ?_ | refine Rq.mk (by rw [shcLL_byts]; simp only [List.length_map]; omega) ?_ | refine Cl.pre (by simp only [shcLL_K]; rfl) ?_ | refine Cl.pre (by simp only [shcLL_ints, shcLL_byts, shcLL_strs, Data.shcs, Fetc.shcs, Gran.shcs, Keyy.shcs, Mani.shcs, Name.shcs, Read.shcs, Rout.shcs, Segm.shcs, TEnt.shcs]; rfl) ?_))
        refine Nx.intro (mm - 1) (by omega) _ (WkS.weak _ _) ⟨i + 1, by omega, ?_⟩
        (repeat' (first | exact rfl | refine consE ?_ ?_ | refine entE ?_ | refine vI ?_ | refine vS ?_ | refine vT ?_ | refine vB ?_))
        all_goals first
          | (rw [flat_succC, ← y1]; simp)
          | omega
      | false =>
        rw [hvk] at hK
        (repeat' ((conv => whnf); first | refine Br.tt ?_ | refine Br.ff ?_ | refine Br.pos (by assumption) ?_ | refine Br.neg (by assumption) ?_ | refine Br.bself ?_ | refine Br.dself ?_ | refine Br.iself ?_ | refine Nm.mk lenC ?_ | refine Nm.mk (wrapI (by (first | omega | (simp [inR_t, inR_f] at *; omega))) (by (first | omega | (simp [inR_t, inR_f] at *; omega)))) ?_ | refine Nm.mk (wrapQ (by (first | omega | (simp [inR_t, inR_f] at *; omega))) (by (first | omega | (simp [inR_t, inR_f] at *; omega))) (by (first | omega | (simp [inR_t, inR_f] at *; omega)))) ?_ | refine Nm.mk (tmodN (by (first | omega | (simp [inR_t, inR_f] at *; omega)))) ?_ | refine Nm.mk (szS _) ?_ | refine Nm.mk (mi_eq _ _) ?_ | refine Nm.mk (ma_eq _ _) ?_ | refine Rq.mk (by first | (simp [dOwnL, dOwn] <;> fail) | (first | omega | (simp [inR_t, inR_f] at *; omega))) ?_ | refine And.intro (orderFast (by kernel_rfl)) ?_ | refine And.intro (by kernel_rfl) ?_ | refine El.mk hyi ?_ | refine Cl.mk (hV) ?_ | refine Cl.mk (hH) ?_ | refine Cl.mk (hK) ?_ | refine Rq.mk (by rw [shcLL_byts]; simp only [List.length_map]; omega) ?_ | refine Cl.pre (by simp only [shcLL_K]; rfl) ?_ | refine Cl.pre (by simp only [shcLL_ints, shcLL_byts, shcLL_strs, Data.shcs, Fetc.shcs, Gran.shcs, Keyy.shcs, Mani.shcs, Name.shcs, Read.shcs, Rout.shcs, Segm.shcs, TEnt.shcs]; rfl) ?_))
        refine Nx.intro (mm - 1) (by omega) _ (WkS.weak _ _) ⟨i + 1, by omega, ?_⟩
        (repeat' (first | exact rfl | refine consE ?_ ?_ | refine entE ?_ | refine vI ?_ | refine vS ?_ | refine vT ?_ | refine vB ?_))
        all_goals first
          | (rw [flat_succC, ← y1]; simp)
          | omega
    · obtain rfl : i = p.dig.length := by omega
      have f1 : decide (((p.dig.length + 1 : Nat) : Int) < ((LL.length : Nat) : Int)) = false := by rw [hlen]; simp
      have f2 : (((LL.length : Nat) : Int) == (p.dig.length : Int) + 1) = true := by rw [hlen]; simp
      rw [hfl]
      (repeat' ((conv => whnf); first | refine Br.tt ?_ | refine Br.ff ?_ | refine Br.pos (by assumption) ?_ | refine Br.neg (by assumption) ?_ | refine Br.bself ?_ | refine Br.dself ?_ | refine Br.iself ?_ | refine Nm.mk lenC ?_ | refine Nm.mk (wrapI (by (first | omega | (simp [inR_t, inR_f] at *; omega))) (by (first | omega | (simp [inR_t, inR_f] at *; omega)))) ?_ | refine Nm.mk (wrapQ (by (first | omega | (simp [inR_t, inR_f] at *; omega))) (by (first | omega | (simp [inR_t, inR_f] at *; omega))) (by (first | omega | (simp [inR_t, inR_f] at *; omega)))) ?_ | refine Nm.mk (tmodN (by (first | omega | (simp [inR_t, inR_f] at *; omega)))) ?_ | refine Nm.mk (szS _) ?_ | refine Nm.mk (mi_eq _ _) ?_ | refine Nm.mk (ma_eq _ _) ?_ | refine Rq.mk (by first | (simp [dOwnL, dOwn] <;> fail) | (first | omega | (simp [inR_t, inR_f] at *; omega))) ?_ | refine And.intro (orderFast (by kernel_rfl)) ?_ | refine And.intro (by kernel_rfl) ?_ | refine Cl.mk (same_Bytes b (by omega)) ?_ | refine Cl.pre (by simp only [shcLL_ints, shcLL_byts, shcLL_strs, Data.shcs, Fetc.shcs, Gran.shcs, Keyy.shcs, Mani.shcs, Name.shcs, Read.shcs, Rout.shcs, Segm.shcs, TEnt.shcs]; rfl) ?_))
      refine Vs.Fin.mk (WkR.eq ?_) (.refl _)
      rw [f2]
set_option maxRecDepth 20000 in
set_option maxHeartbeats 16000000 in
theorem ex1Casts (l : List UInt8) (hl : ¬ l.length ≤ 1048576) : FO 4 [Ys false l] [Ys false l] (B true) := by
  refine fok envOk mixed is4 ⟨rfl, rfl, ?_⟩
  (repeat' ((conv => whnf); first | refine Br.tt ?_ | refine Br.ff ?_ | refine Br.pos (by assumption) ?_ | refine Br.neg (by assumption) ?_ | refine Br.bself ?_ | refine Br.dself ?_ | refine Br.iself ?_ | refine Nm.mk lenC ?_ | refine Nm.mk (wrapI (by (first | omega | (simp [inR_t, inR_f] at *; omega))) (by (first | omega | (simp [inR_t, inR_f] at *; omega)))) ?_ | refine Nm.mk (wrapQ (by (first | omega | (simp [inR_t, inR_f] at *; omega))) (by (first | omega | (simp [inR_t, inR_f] at *; omega))) (by (first | omega | (simp [inR_t, inR_f] at *; omega)))) ?_ | refine Nm.mk (tmodN (by (first | omega | (simp [inR_t, inR_f] at *; omega)))) ?_ | refine Nm.mk (szS _) ?_ | refine Nm.mk (mi_eq _ _) ?_ | refine Nm.mk (ma_eq _ _) ?_ | refine Rq.mk (by first | (simp [dOwnL, dOwn] <;> fail) | (first | omega | (simp [inR_t, inR_f] at *; omega))) ?_ | refine And.intro (orderFast (by kernel_rfl)) ?_ | refine And.intro (by kernel_rfl) ?_ | refine Cl.mk (big_yes l hl) ?_ | refine Cl.pre (by simp only [shcLL_ints, shcLL_byts, shcLL_strs, Data.shcs, Fetc.shcs, Gran.shcs, Keyy.shcs, Mani.shcs, Name.shcs, Read.shcs, Rout.shcs, Segm.shcs, TEnt.shcs]; rfl) ?_))
  exact Vs.Fin.mk (WkR.refl _) (.refl _)
theorem exCasts (l : List UInt8) : FO 4 [Ys false l] [Ys false l] (B true) := by
  by_cases hl : l.length ≤ 1048576
  · obtain ⟨L, key, n, b, size, hL, hk, hn, hb, k1⟩ := DPub_ok l hl
    obtain ⟨m, hm, k2⟩ := DMnm_ok l hl
    exact ex0Casts l hl L key n b size hL hk hn hb k1 m hm k2
  · exact ex1Casts l hl
end Go.Proofs.YtgcnbfplihjelaaGreatDoor
