/- Contracts of functions of the program: no statement of the seat is proved here. Each under the conditions that stand in it. -/
import Derived.Test.YtigkmijoefibiaaGreatEc
import Derived.Test.YtigkmijoefibiaaGreatQp
set_option linter.all false
namespace Go.Proofs.YtigkmijoefibiaaGreat
open Go.Vs Go.Proofs
/-! Advertisements encoded -/
def enN (n : Name) : List UInt8 := evi n.parts.length ++ apSs n.parts
def enNs (l : List Name) : List UInt8 := l.flatMap enN
def enA (a : Adve) : List UInt8 := encs [a.origin, a.version, (a.nbs.length : Int)] ++ encs a.nbs ++ evi a.prefs.length ++ enNs a.prefs
def encAd (a : Adve) : List UInt8 := if vAdv a = true then enA a else []
theorem enNs_snoc (l : List Name) (x : Name) : enNs (l ++ [x]) = enNs l ++ enN x := by simp [enNs]
theorem enNs_cons (l : List Name) (x : Name) : enNs (x :: l) = enN x ++ enNs l := by simp [enNs]
theorem encs_append (l m : List Int) : encs (l ++ m) = encs l ++ encs m := by simp [encs]
theorem encs_one (x : Int) : encs [x] = evi x := by simp [encs]
theorem enN_len {n : Name} (h : vName n = true) : (enN n).length ≤ 100 := by
  have h2 := vName_b h
  have h3 := apSs_len h2.2
  have h4 := evi_len n.parts.length
  unfold enN
  simp only [List.length_append]
  omega
theorem enNs_len {l : List Name} (h : ∀ n ∈ l, vName n = true) : (enNs l).length ≤ 100 * l.length := by
  induction l with
  | nil => simp [enNs]
  | cons x l ih =>
    have h1 := ih (fun n hn => h n (by simp [hn]))
    have h2 := enN_len (h x (by simp))
    rw [enNs_cons]
    simp only [List.length_append, List.length_cons]
    omega
theorem nbsOk_len : ∀ (o : Int) (p : Option Int) (l : List Int), nbsOk o p l = true → (∀ q, p = some q → 0 ≤ q) → (l.length : Int) ≤ (match p with | none => 6 | some q => 5 - q) ∨ l = []
  | o, p, [], _, _ => .inr rfl
  | o, p, b :: r, h, hp => by
    simp only [nbsOk, okNb, Bool.and_eq_true] at h
    obtain ⟨⟨⟨h1, -⟩, h2⟩, h3⟩ := h
    have hb : 0 ≤ b ∧ b ≤ 5 := inR_t.1 h1
    have ih := nbsOk_len o (some b) r h3 (fun q hq => by cases hq; omega)
    left
    have hr : (r.length : Int) ≤ 5 - b := by
      rcases ih with ih | rfl
      · exact ih
      · simp; omega
    cases p with
    | none => simp; omega
    | some q =>
      simp at h2
      simp; omega
theorem nbsOk_in : ∀ (o : Int) (p : Option Int) (l : List Int), nbsOk o p l = true → ∀ b ∈ l, 0 ≤ b ∧ b ≤ 5
  | o, p, [], _, b, hb => by simp at hb
  | o, p, c :: r, h, b, hb => by
    simp only [nbsOk, okNb, Bool.and_eq_true] at h
    rcases List.mem_cons.1 hb with rfl | hb
    · exact inR_t.1 h.1.1.1
    · exact nbsOk_in o _ r h.2 b hb
structure AdB (a : Adve) : Prop where
  o : 0 ≤ a.origin ∧ a.origin ≤ 5
  v : 1 ≤ a.version ∧ a.version ≤ 1000
  nl : a.nbs.length ≤ 6
  nb : ∀ b ∈ a.nbs, 0 ≤ b ∧ b ≤ 5
  pl : a.prefs.length ≤ 4
  pv : ∀ n ∈ a.prefs, vName n = true
theorem vAdv_b {a : Adve} (h : vAdv a = true) : AdB a := by
  simp only [vAdv, Bool.and_eq_true, List.all_eq_true, decide_eq_true_eq] at h
  obtain ⟨⟨⟨h1, h2⟩, h3⟩, h4, h5⟩ := h
  refine ⟨inR_t.1 h1, inR_t.1 h2, ?_, nbsOk_in _ _ _ h4, h3, h5⟩
  rcases nbsOk_len _ _ _ h4 (by simp) with h | h
  · simp at h; omega
  · rw [h]; simp
/-! Read back -/
theorem rdB_enc (pre suf : List UInt8) (s : ByteArray) (h : s.size ≤ 8) : rdB (pre ++ ((evi s.size ++ s.data.toList) ++ suf)) pre.length 8 = some (s.data.toList, pre.length + (evi s.size ++ s.data.toList).length) := by
  have hd := @dsz s
  have e1 : evi (s.size : Int) = vint s.size := by rw [evi_v (by omega), Int.toNat_natCast]
  unfold rdB
  rw [List.drop_left, e1, List.append_assoc, rdV_vint 5 s.size 0 0 _ (by omega) (by omega) (by omega) (by omega)]
  simp only [Nat.zero_add, Nat.pow_zero, Nat.mul_zero, Nat.mul_one]
  rw [if_pos ⟨h, by simp only [List.length_append]; omega⟩]
  simp only [Option.some.injEq, Prod.mk.injEq, List.length_append]
  refine ⟨?_, by omega⟩
  rw [show pre ++ (vint s.size ++ (s.data.toList ++ suf)) = (pre ++ vint s.size) ++ (s.data.toList ++ suf) by simp, show pre.length + (vint s.size).length = (pre ++ vint s.size).length by simp, List.drop_left, ← hd, List.take_left]
theorem apSs_cons (x : ByteArray) (l : List ByteArray) : apSs (x :: l) = (evi x.size ++ x.data.toList) ++ apSs l := by simp [apSs]
theorem rdP_enc : ∀ (l : List ByteArray) (pre suf : List UInt8) (o : List ByteArray), (∀ s ∈ l, s.size ≤ 8) → rdP (pre ++ (apSs l ++ suf)) l.length pre.length o = some (o ++ l, pre.length + (apSs l).length)
  | [], pre, suf, o, _ => by simp [rdP, apSs]
  | x :: l, pre, suf, o, h => by
    have hb := rdB_enc pre (apSs l ++ suf) x (h x (by simp))
    have ih := rdP_enc l (pre ++ (evi x.size ++ x.data.toList)) suf (o ++ [x]) (fun s hs => h s (by simp [hs]))
    rw [apSs_cons, List.append_assoc, List.length_cons, rdP, hb]
    rw [List.append_assoc, List.length_append] at ih
    have e : (⟨x.data.toList.toArray⟩ : ByteArray) = x := by cases x; simp
    simp only [e]
    rw [ih]
    simp [Nat.add_assoc]
theorem rdNm_enc (pre suf : List UInt8) {n : Name} (h : vName n = true) : rdNm (pre ++ (enN n ++ suf)) pre.length = some (n, pre.length + (enN n).length) := by
  have h2 := vName_b h
  have e1 : evi (n.parts.length : Int) = vint n.parts.length := by rw [evi_v (by omega), Int.toNat_natCast]
  have hp := rdP_enc n.parts (pre ++ vint n.parts.length) suf [] h2.2
  unfold rdNm enN
  rw [List.drop_left, e1, List.append_assoc, rdV_vint 5 n.parts.length 0 0 _ (by omega) (by omega) (by omega) (by omega)]
  simp only [Nat.zero_add, Nat.pow_zero, Nat.mul_zero, Nat.mul_one]
  rw [if_pos h2.1]
  rw [List.append_assoc, List.length_append, List.nil_append] at hp
  rw [hp]
  simp only [List.length_append]
  rw [if_pos h, Nat.add_assoc]
theorem rdNs_enc : ∀ (l : List Name) (pre suf : List UInt8) (o : List Name), (∀ n ∈ l, vName n = true) → rdNs (pre ++ (enNs l ++ suf)) l.length pre.length o = some (o ++ l, pre.length + (enNs l).length)
  | [], pre, suf, o, _ => by simp [rdNs, enNs]
  | x :: l, pre, suf, o, h => by
    have hb := rdNm_enc pre (enNs l ++ suf) (h x (by simp))
    have ih := rdNs_enc l (pre ++ enN x) suf (o ++ [x]) (fun s hs => h s (by simp [hs]))
    rw [enNs_cons, List.append_assoc, List.length_cons, rdNs, hb]
    rw [List.append_assoc, List.length_append] at ih
    simp only
    rw [ih]
    simp [Nat.add_assoc]
theorem dec_encAd {a : Adve} (h : vAdv a = true) : decAd (enA a) = some a := by
  have hb := vAdv_b h
  obtain ⟨o, v, s, ps⟩ := a
  obtain ⟨ho, hv, hnl, hnb, hpl, hpv⟩ := hb
  simp only at ho hv hnl hnb hpl hpv
  have e1 : evi (ps.length : Int) = vint ps.length := by rw [evi_v (by omega), Int.toNat_natCast]
  have eA : enA ⟨o, v, s, ps⟩ = encs [o, v, (s.length : Int)] ++ (encs s ++ (vint ps.length ++ enNs ps)) := by
    simp only [enA, e1, List.append_assoc]
  have h1 := decA_enc [o, v, (s.length : Int)] [] (encs s ++ (vint ps.length ++ enNs ps)) [] (by intro d hd; simp at hd; omega)
  rw [List.nil_append, ← eA] at h1
  have h2 := decA_enc s (encs [o, v, (s.length : Int)]) (vint ps.length ++ enNs ps) [] (fun d hd => by have := hnb d hd; omega)
  rw [← eA] at h2
  have i1 : decI (enA ⟨o, v, s, ps⟩) 0 3 = some ([o, v, (s.length : Int)], (encs [o, v, (s.length : Int)]).length) := by
    unfold decI; rw [if_pos (by decide)]
    simpa using h1
  have i2 : decI (enA ⟨o, v, s, ps⟩) (encs [o, v, (s.length : Int)]).length (s.length : Int) = some (s, (encs [o, v, (s.length : Int)]).length + (encs s).length) := by
    unfold decI; rw [if_pos (inR_t.2 (by omega)), Int.toNat_natCast, h2]
    simp
  have i3 : rdV ((enA ⟨o, v, s, ps⟩).drop ((encs [o, v, (s.length : Int)]).length + (encs s).length)) 0 0 = some (ps.length, (vint ps.length).length) := by
    rw [eA, ← List.append_assoc, show (encs [o, v, (s.length : Int)]).length + (encs s).length = (encs [o, v, (s.length : Int)] ++ encs s).length by simp, List.drop_left, rdV_vint 5 ps.length 0 0 _ (by omega) (by omega) (by omega) (by omega)]
    simp
  have i4 := rdNs_enc ps (encs [o, v, (s.length : Int)] ++ (encs s ++ vint ps.length)) [] [] hpv
  have e4 : encs [o, v, (s.length : Int)] ++ (encs s ++ vint ps.length) ++ (enNs ps ++ []) = enA ⟨o, v, s, ps⟩ := by rw [eA]; simp
  rw [e4] at i4
  simp only [List.length_append, List.nil_append] at i4
  unfold decAd
  rw [i1]
  simp only
  rw [if_pos (by omega), i2]
  simp only
  rw [i3]
  simp only
  rw [if_pos hpl, Nat.add_assoc, i4]
  unfold fin7
  simp only
  rw [if_pos ⟨by rw [eA]; simp only [List.length_append]; omega, h⟩]
/-- A part of the bytes. -/
def Seg (b : List UInt8) (q e : Nat) (x : List UInt8) : Prop := q ≤ e ∧ (b.drop q).take (e - q) = x
theorem Seg.trans {b : List UInt8} {q e f : Nat} {x y : List UInt8} (h : Seg b q e x) (k : Seg b e f y) : Seg b q f (x ++ y) := by
  refine ⟨Nat.le_trans h.1 k.1, ?_⟩
  have h1 := h.1
  have k1 := k.1
  rw [← h.2, ← k.2, show f - q = (e - q) + (f - e) by omega, List.take_add, List.drop_drop, show q + (e - q) = e by omega]
theorem Seg.nil (b : List UInt8) (q : Nat) : Seg b q q [] := ⟨Nat.le_refl _, by simp⟩
theorem rdV_seg {b : List UInt8} {q x c : Nat} (h : rdV (b.drop q) 0 0 = some (x, c)) : Seg b q (q + c) (evi x) := by
  obtain ⟨_, y, h5, h6, _⟩ := rdV_canon _ _ _ _ _ h
  have hle := (rdV_le _ _ _ _ _ h).1
  obtain rfl : x = y := by simpa using h6
  refine ⟨by omega, ?_⟩
  rw [evi_v (by omega), Int.toNat_natCast, ← h5, Nat.sub_zero, show q + c - q = c by omega]
theorem rdB_seg {b : List UInt8} {q m e : Nat} {l : List UInt8} (h : rdB b q m = some (l, e)) : Seg b q e (evi l.length ++ l) := by
  unfold rdB at h
  split at h
  · cases h
  · rename_i x c hx
    split at h
    · rename_i h1
      simp only [Option.some.injEq, Prod.mk.injEq] at h
      obtain ⟨rfl, rfl⟩ := h
      have hl : ((b.drop (q + c)).take x).length = x := by simp; omega
      rw [hl]
      refine (rdV_seg hx).trans ⟨by omega, ?_⟩
      rw [show q + c + x - (q + c) = x by omega]
    · cases h
theorem rdP_seg {b : List UInt8} : ∀ (n q : Nat) (o l : List ByteArray) (e : Nat), rdP b n q o = some (l, e) → ∃ ds, l = o ++ ds ∧ ds.length = n ∧ Seg b q e (apSs ds)
  | 0, q, o, l, e, h => by
    simp only [rdP, Option.some.injEq, Prod.mk.injEq] at h
    obtain ⟨rfl, rfl⟩ := h
    exact ⟨[], by simp, rfl, Seg.nil _ _⟩
  | n + 1, q, o, l, e, h => by
    rw [rdP] at h
    split at h
    · cases h
    · rename_i y e1 hx
      obtain ⟨ds, h1, h2, h3⟩ := rdP_seg n e1 _ l e h
      refine ⟨⟨y.toArray⟩ :: ds, by simp [h1], by simp [h2], ?_⟩
      rw [apSs_cons]
      exact (rdB_seg hx).trans h3
theorem rdNm_seg {b : List UInt8} {q e : Nat} {n : Name} (h : rdNm b q = some (n, e)) : Seg b q e (enN n) := by
  unfold rdNm at h
  split at h
  · cases h
  · rename_i k c hx
    split at h
    · split at h
      · cases h
      · rename_i ps e1 hp
        split at h
        · simp only [Option.some.injEq, Prod.mk.injEq] at h
          obtain ⟨rfl, rfl⟩ := h
          obtain ⟨ds, h1, h2, h3⟩ := rdP_seg _ _ _ _ _ hp
          obtain rfl : ps = ds := by simpa using h1
          unfold enN
          simp only [h2]
          exact (rdV_seg hx).trans h3
        · cases h
    · cases h
theorem rdNs_seg {b : List UInt8} : ∀ (n q : Nat) (o l : List Name) (e : Nat), rdNs b n q o = some (l, e) → ∃ ds, l = o ++ ds ∧ ds.length = n ∧ Seg b q e (enNs ds)
  | 0, q, o, l, e, h => by
    simp only [rdNs, Option.some.injEq, Prod.mk.injEq] at h
    obtain ⟨rfl, rfl⟩ := h
    exact ⟨[], by simp, rfl, Seg.nil _ _⟩
  | n + 1, q, o, l, e, h => by
    rw [rdNs] at h
    split at h
    · cases h
    · rename_i y e1 hx
      obtain ⟨ds, h1, h2, h3⟩ := rdNs_seg n e1 _ l e h
      refine ⟨y :: ds, by simp [h1], by simp [h2], ?_⟩
      rw [enNs_cons]
      exact (rdNm_seg hx).trans h3
theorem decI_seg {b : List UInt8} {q e : Nat} {n : Int} {l : List Int} (h : decI b q n = some (l, e)) : Seg b q e (encs l) := by
  unfold decI at h
  split at h
  · obtain ⟨ds, h1, h2, h3⟩ := decA_canon _ _ _ _ _ h
    obtain rfl : l = ds := by simpa using h1
    exact ⟨h2, h3⟩
  · cases h
theorem enc_decAd {c : List UInt8} {a : Adve} (h : decAd c = some a) : vAdv a = true ∧ enA a = c := by
  unfold decAd at h
  split at h
  · rename_i o v n e h1
    split at h
    · split at h
      · cases h
      · rename_i s e1 h2
        split at h
        · cases h
        · rename_i k c1 h3
          split at h
          · unfold fin7 at h
            split at h
            · cases h
            · rename_i ps e2 h4
              split at h
              · rename_i h5
                cases h
                refine ⟨h5.2, ?_⟩
                obtain ⟨ds, g1, g2, g3⟩ := rdNs_seg _ _ _ _ _ h4
                obtain rfl : ps = ds := by simpa using g1
                have g4 := (((decI_seg h1).trans (decI_seg h2)).trans (rdV_seg h3)).trans g3
                have hn : (s.length : Int) = n := by
                  have he : e ≤ c.length := (decI_le (by omega) h1).2.1
                  exact (decI_le he h2).1
                have g5 := g4.2
                rw [h5.1, Nat.sub_zero, List.drop_zero, List.take_length] at g5
                rw [g5]
                simp only [enA, hn, g2]
              · cases h
          · cases h
    · cases h
  · cases h
end Go.Proofs.YtigkmijoefibiaaGreat
