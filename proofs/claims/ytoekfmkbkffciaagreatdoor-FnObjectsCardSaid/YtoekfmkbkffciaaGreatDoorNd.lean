/- Contracts of functions of the program: no statement of the seat is proved here. Each under the conditions that stand in it. -/
import Derived.Test.YtoekfmkbkffciaaGreatDoorM7
import Derived.Test.YtoekfmkbkffciaaGreatDoorM10
set_option linter.all false
namespace Go.Proofs.YtoekfmkbkffciaaGreatDoor
open Go.Vs Go.Proofs
/-! What is cast: signed, one by one -/
def verS (l : List Keyy) (x : Data) : Bool := inR (secOf l x.keyName) 1 2147483646 && (x.sig == mac (secOf l x.keyName) (sPort x))
theorem is88 : FI 88 Tryz.f88 := ⟨⟨Tryz.f88, Tryz.func88, rfl, rfl, rfl, rfl⟩, rfl⟩
set_option maxRecDepth 20000 in
set_option maxHeartbeats 16000000 in
theorem i_VerifyData (k : Int) (x : Data) (hz : x.sz) : FO 88 [I k, A (Data.c false x)] [I k, A (Data.c false x)] (B (inR k 1 2147483646 && (x.sig == mac k (sPort x)))) := by
  refine fok envOk mixed is88 ⟨rfl, rfl, ?_⟩
  have hl := sPort_len hz.2.1
  have hS := i_SignedPortion x hz
  generalize sPort x = sp at hl hS
  cases hv : inR k 1 2147483646 with
  | true =>
    have hV := i_ValidSecret k
    rw [hv] at hV
    (repeat' ((conv => whnf); first | refine stp ?_ | refine Cl.mk (hV) ?_ | refine Cl.mk (hS) ?_ | refine Cl.mk (i_ComputeMAC k sp (by omega)) ?_ | refine Cl.pre (by simp only [shcLL_ints, shcLL_byts, shcLL_strs, Data.shcs, Fetc.shcs, Gran.shcs, Keyy.shcs, Mani.shcs, Name.shcs, Read.shcs, Rout.shcs, Segm.shcs, TEnt.shcs]; rfl) ?_))
    exact Vs.Fin.mk (WkR.refl _) (.refl _)
  | false =>
    have hV := i_ValidSecret k
    rw [hv] at hV
    (repeat' ((conv => whnf); first | refine stp ?_ | refine Cl.mk (hV) ?_ | refine Cl.pre (by simp only [shcLL_ints, shcLL_byts, shcLL_strs, Data.shcs, Fetc.shcs, Gran.shcs, Keyy.shcs, Mani.shcs, Name.shcs, Read.shcs, Rout.shcs, Segm.shcs, TEnt.shcs]; rfl) ?_))
    exact Vs.Fin.mk (WkR.refl _) (.refl _)
theorem is58 : FI 58 Tryz.f58 := ⟨⟨Tryz.f58, Tryz.func58, rfl, rfl, rfl, rfl⟩, rfl⟩
set_option maxRecDepth 20000 in
set_option maxHeartbeats 16000000 in
theorem i_VerifySignature (l : List Keyy) (x : Data) (hl : l.length + sumN Keyy.size l ≤ 1048576) (hz : x.sz) : FO 58 [Ks false l, A (Data.c false x)] [Ks false l, A (Data.c false x)] (B (verS l x)) := by
  refine fok envOk mixed is58 ⟨rfl, rfl, ?_⟩
  (repeat' ((conv => whnf); first | refine stp ?_ | refine Cl.mk (i_SecretOf l x.keyName hl hz.2.2) ?_ | refine Cl.mk (i_VerifyData (secOf l x.keyName) x hz) ?_ | refine Cl.pre (by simp only [shcLL_ints, shcLL_byts, shcLL_strs, Data.shcs, Fetc.shcs, Gran.shcs, Keyy.shcs, Mani.shcs, Name.shcs, Read.shcs, Rout.shcs, Segm.shcs, TEnt.shcs]; rfl) ?_))
  exact Vs.Fin.mk (WkR.refl _) (.refl _)
theorem flat_cut3 (b : List UInt8) (s : Nat) : ∀ k, (List.range k).flatMap (cut b s) = b.take (k * s)
  | 0 => by simp
  | k + 1 => by
    rw [List.range_succ, List.flatMap_append, flat_cut3 b s k]
    simp only [List.flatMap_cons, List.flatMap_nil, List.append_nil, cut]
    rw [Nat.add_mul, Nat.one_mul, List.take_add]
theorem plan_facts3 (b : List UInt8) (size : Int) (hb : (b.length : Int) ≤ size * 8) (hs : 1 ≤ size ∧ size ≤ 60) : ∃ (p : Mani) (G : Nat → List UInt8), mkMani b size = p ∧ vMani p = true ∧ p.dig.length ≤ 8 ∧ (∀ t, t < p.dig.length → segAt b p t = G t ∧ vSeg p t (G t) = true ∧ 0 < (G t).length) ∧ (∀ t, (G t).length ≤ b.length) ∧ (List.range p.dig.length).flatMap G = b := by
  obtain ⟨s, rfl⟩ : ∃ s : Nat, size = s := ⟨size.toNat, by omega⟩
  obtain ⟨n, hn⟩ : ∃ n : Nat, cdiv b.length s = n := ⟨(cdiv b.length s).toNat, by have := cdiv_nn b.length s; omega⟩
  have hiff := fun i => cdiv_iff (a := b.length) (s := s) (by omega) (by omega) (by omega) i
  rw [hn] at hiff
  have e : mkMani b s = ⟨s, b.length, digs b s n⟩ := by
    unfold mkMani
    rw [if_pos (by simp [inR_t]; omega), hn]
    simp
  have hv : vMani ⟨s, b.length, digs b s n⟩ = true := by
    simp only [vMani, Bool.and_eq_true, decide_eq_true_eq, inR_t, digs_len, hn, List.all_eq_true]
    refine ⟨⟨⟨by omega, by omega⟩, trivial⟩, ?_⟩
    intro d hd
    obtain ⟨i, _, rfl⟩ := List.mem_map.1 hd
    have := digest_b (b2i (cut b s i))
    simp only [okDig, inR_t]; omega
  have h8 := vMani_len hv
  refine ⟨_, cut b s, e, hv, h8, ?_, ?_, ?_⟩
  · intro t ht
    rw [digs_len] at ht
    have hlt := (hiff t).1 (by omega)
    have hin : inR (t : Int) 0 (((digs b s n).length : Int) - 1) = true := by rw [digs_len, inR_t]; omega
    refine ⟨?_, ?_, ?_⟩
    · rw [segAt_yes hv rfl hin]; simp
    · simp only [vSeg, hv, hin, Bool.true_and, Bool.and_eq_true, decide_eq_true_eq]
      refine ⟨?_, ?_⟩
      · simp only [cut, List.length_take, List.length_drop, mi]
        rw [show ((t : Int) * s) = ((t * s : Nat) : Int) by rw [Int.natCast_mul]]
        split <;> omega
      · have : t < (digs b s n).length := by rw [digs_len]; exact ht
        simp [digs, ht]
    · simp only [cut, List.length_take, List.length_drop]; omega
  · intro t
    simp only [cut, List.length_take, List.length_drop]; omega
  · rw [flat_cut3, digs_len, List.take_of_length_le]
    have h1 := fun h => (hiff n).2 h
    by_cases h : n * s < b.length
    · have := h1 h; omega
    · omega
theorem secOf_mem {l : List Keyy} {n : Name} (h : secOf l n ≠ 0) : ∃ k ∈ l, secOf l n = k.secret := by
  unfold secOf at h ⊢
  cases hf : l.find? (fun k => decide (k.name = n)) with
  | none => rw [hf] at h; exact absurd rfl h
  | some k => exact ⟨k, List.mem_of_find?_eq_some hf, rfl⟩
theorem swk_yes {l : List Keyy} {key n : Name} {b : List UInt8} {till : Int} (h : swkO l key n b till = true) : swkR l key n b till = swk l key n b till ∧ (vKeys l = true → verS l (swk l key n b till) = true) := by
  refine ⟨by rw [swkR, if_pos h], fun hk => ?_⟩
  simp only [swkO, Bool.and_eq_true, Bool.not_eq_true', decide_eq_false_iff_not] at h
  obtain ⟨k, hm, e⟩ := secOf_mem h.1
  have hv := vKeys_mem hk hm
  simp only [vKey, Bool.and_eq_true] at hv
  have e2 : (swk l key n b till).keyName = key := rfl
  have e3 : (swk l key n b till).sig = mac (secOf l key) (sPort (swk l key n b till)) := rfl
  rw [verS, e2, e3, e, hv.2]
  simp
theorem cast_facts {l : List Keyy} {key n : Name} {b : List UInt8} {size till : Int} (hb : b.length ≤ 480) (hk : strsSize key.parts ≤ 1048576) (h : pubB l key n b (mkMani b size) till = true) :
    ∃ (p : Mani) (G : Nat → List UInt8) (X : Data) (Y : Nat → Data), pubR l key n b (mkMani b size) till = X :: (List.range p.dig.length).map Y ∧ vMani p = true ∧ p.dig.length ≤ 8 ∧ X.content = encs (p.seg :: p.len :: p.dig) ∧ X.sz ∧
      (∀ i, (Y i).sz) ∧ (∀ i, i < p.dig.length → (Y i).content = G i ∧ vSeg p i (G i) = true ∧ hasPre (Y i).name n = true ∧ (vKeys l = true → verS l (Y i) = true)) ∧ (∀ t, (G t).length ≤ b.length) ∧ (List.range p.dig.length).flatMap G = b := by
  have h0 := h
  simp only [pubB, pub0, Bool.and_eq_true, Bool.not_eq_true', decide_eq_false_iff_not] at h
  obtain ⟨⟨⟨h1, h2⟩, h3⟩, h4⟩ := h
  have hc : (1 ≤ size ∧ size ≤ 60) ∧ (b.length : Int) ≤ size * 8 := by
    unfold mkMani at h1
    split at h1
    · rename_i hcc
      simp only [Bool.and_eq_true, inR_t, decide_eq_true_eq] at hcc
      exact hcc
    · exact absurd rfl h1
  obtain ⟨p, G, hp, hv, h8, hG, hGl, hfl⟩ := plan_facts3 b size hc.2 hc.1
  rw [hp] at h0 h1 h3 h4 ⊢
  have hz : ∀ (m : Name) (c : List UInt8), strsSize m.parts ≤ 1048576 → c.length ≤ 1048576 → (swkR l key m c till).sz := by
    intro m c hm hcl
    unfold swkR
    split
    · exact swk_sz hk hm hcl
    · exact ⟨Nat.zero_le _, Nat.zero_le _, Nat.zero_le _⟩
  have hel := encM_len p
  have hA := @apZero_sz n plan
  obtain ⟨e0, -⟩ := swk_yes h3
  refine ⟨p, G, swkR l key (apZero n plan) (encM p) till, pubI l key n b p till, ?_, hv, h8, ?_, hz _ _ (by omega) hel, ?_, ?_, hGl, hfl⟩
  · rw [pubR, if_pos h0, pubL]
  · rw [e0]
    show encM p = _
    rw [encM, if_pos hv]
  · intro i
    have := @segN_sz n i
    have h5 := segAt_len (b := b) (p := p) (i := i) (by omega)
    exact hz _ _ (by omega) h5
  · intro i hi
    have ho := List.all_eq_true.1 h4 i (by simpa using hi)
    simp only [pubO, Bool.and_eq_true] at ho
    obtain ⟨e1, e2⟩ := swk_yes ho.2
    obtain ⟨g1, g2, -⟩ := hG i hi
    have eY : pubI l key n b p till i = swk l key (segN n i) (segAt b p i) till := e1
    refine ⟨?_, g2, ?_, ?_⟩
    · rw [eY]; exact g1
    · rw [eY]
      show hasPre (segN n i) n = true
      rw [segN, if_pos ho.1]
      exact hasPre_snoc n _
    · rw [eY]; exact e2
abbrev PSD (l : List Keyy) (key n : Name) (b : List UInt8) (size : Int) : Arg := (.tup [(false, 1), (true, 1), (true, 1), (false, 1), (false, 1), (false, 1)], [sl true 2 (l.map (Keyy.c false)), cSs false key.parts, cSs true n.parts, cYs true b, cI size, cI 90])
def bys3 : List ByteArray := [sKeyA, sKeyB, sZz]
theorem bys3_size : ∀ s ∈ bys3, s.size ≤ 9 := by decide
end Go.Proofs.YtoekfmkbkffciaaGreatDoor
