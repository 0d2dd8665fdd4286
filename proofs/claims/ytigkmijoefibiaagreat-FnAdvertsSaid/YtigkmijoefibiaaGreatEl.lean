/- Contracts of functions of the program: no statement of the seat is proved here. Each under the conditions that stand in it. -/
import Derived.Test.YtigkmijoefibiaaGreatEj
import Derived.Test.YtigkmijoefibiaaGreatEk
import Derived.Test.YtigkmijoefibiaaGreatEf
import Derived.Test.YtigkmijoefibiaaGreatEh
import Derived.Test.YtigkmijoefibiaaGreatM7
import Derived.Test.YtigkmijoefibiaaGreatAf
set_option linter.all false
namespace Go.Proofs.YtigkmijoefibiaaGreat
open Go.Vs Go.Proofs
theorem same_Db (l : List Adve) (h : l.length + sumN Adve.size l ≤ 1099511627776) : FO 57 [Al l, Al l] [Al l, Al l] (B true) := by
  have := eq_Db l l h h
  rwa [decide_eq_true rfl] at this
theorem DMrg_ok (code : List UInt8) (hl : code.length ≤ 1048576) : ∃ (l : List Adve) (a : Adve), l.length + sumN Adve.size l ≤ 2000 ∧ Adve.size a ≤ 300 ∧ FO 45 [Ys false code] [Ys false code] (LAv false l a) := by
  obtain ⟨c0, i0, k0⟩ := new_ok code hl
  obtain ⟨c1, l, i1, -, hz, k1⟩ := db20_ok i0
  obtain ⟨c2, a, i2, ha, k2⟩ := any20_ok i1
  exact ⟨l, a, hz, ha, sh_LAv (DMrg0 code c0 c1 c2 l a k0 k1 k2)⟩
theorem DFnd_ok (code : List UInt8) (hl : code.length ≤ 1048576) : ∃ (l : List Adve) (k : Int), l.length + sumN Adve.size l ≤ 2000 ∧ FO 55 [Ys false code] [Ys false code] (LI2 false l k) := by
  obtain ⟨c0, i0, k0⟩ := new_ok code hl
  obtain ⟨c1, l, i1, -, hz, k1⟩ := db20_ok i0
  obtain ⟨c2, z, i2, hk, -, k2⟩ := below_ok i1 8
  exact ⟨l, z - 1, hz, sh_LI2 (DFnd0 code c0 c1 c2 l z (hk (by omega)) k0 k1 k2)⟩
theorem DEnc_ok (code : List UInt8) (hl : code.length ≤ 1048576) : ∃ (a : Adve), Adve.size a ≤ 300 ∧ FO 48 [Ys false code] [Ys false code] (A (Adve.c false a)) := by
  obtain ⟨c0, i0, k0⟩ := new_ok code hl
  obtain ⟨c1, a, i1, ha, k1⟩ := any20_ok i0
  exact ⟨a, ha, DEnc0 code c0 c1 a k0 k1⟩
theorem DEqu_ok (code : List UInt8) (hl : code.length ≤ 1048576) : ∃ (l m : List Adve), l.length + sumN Adve.size l ≤ 2000 ∧ m.length + sumN Adve.size m ≤ 2000 ∧ FO 54 [Ys false code] [Ys false code] (LL2 l m) := by
  obtain ⟨c0, i0, k0⟩ := new_ok code hl
  obtain ⟨c1, l, i1, -, hz, k1⟩ := db20_ok i0
  obtain ⟨c2, w, i2, k2⟩ := once_ok i1 2
  cases w with
  | true => exact ⟨l, l, hz, hz, sh_LL (DEqu0 code c0 c1 c2 l hz k0 k1 k2)⟩
  | false =>
    obtain ⟨c3, m, i3, -, hm, k3⟩ := db20_ok i2
    exact ⟨l, m, hz, hm, sh_LL (DEqu1 code c0 c1 c2 c3 l m hz k0 k1 k2 k3)⟩
theorem enA_len {a : Adve} (h : vAdv a = true) : (enA a).length ≤ 2000 := by
  have hB := vAdv_b h
  have h1 := enX_len a hB
  have h2 := enNs_len (l := a.prefs) hB.pv
  have h3 := hB.pl
  unfold enA
  rw [List.length_append]
  omega
theorem encAd_len {a : Adve} : (encAd a).length ≤ 2000 := by
  unfold encAd
  split
  · rename_i h; exact enA_len h
  · simp
theorem DDec_ok (code : List UInt8) (hl : code.length ≤ 1048576) : ∃ (b : List UInt8), b.length ≤ 2001 ∧ FO 50 [Ys false code] [Ys false code] (Ys false b) := by
  obtain ⟨c0, i0, k0⟩ := new_ok code hl
  obtain ⟨c1, a, i1, -, -, hz, k1⟩ := adv20_ok i0
  have he := encAd_len (a := a)
  obtain ⟨c2, b, i2, hb, k2⟩ := bent_ok i1 (encAd a) (by omega)
  exact ⟨b, by omega, DDec0 code b c0 c1 c2 a hz k0 k1 k2⟩
theorem DAdo_ok (code : List UInt8) (hl : code.length ≤ 1048576) : ∃ (n : Topo) (r : List TEnt) (v : Int), n.links.length ≤ 200 ∧ r.length + sumN TEnt.size r ≤ 300 ∧ (r = [] ∨ vTab r = true) ∧ FO 53 [Ys false code] [Ys false code] (NRV false n r v) := by
  obtain ⟨c0, i0, k0⟩ := new_ok code hl
  obtain ⟨c1, n, i1, hn, -, k1⟩ := any19_ok i0
  obtain ⟨c2, r, i2, hr, hv, k2⟩ := rows_ok i1
  obtain ⟨c3, v, i3, -, k3⟩ := int_ok i2 [1, 2, 0, 1001] (by decide) (by decide)
  exact ⟨n, r, v, hn, hr, hv, sh_NRV (DAdo0 code c0 c1 c2 c3 n r v k0 k1 k2 k3)⟩
theorem mrg_same {l : List Adve} {a : Adve} (h : (mrgA l a).2 = false) : (mrgA l a).1 = l := by
  unfold mrgA at h ⊢
  split at h
  · rename_i hv
    rw [if_pos hv]
    cases hf : l.find? (orig a.origin) with
    | none => simp only [hf] at h; cases h
    | some y =>
      simp only [hf] at h ⊢
      split at h
      · rename_i h2; rw [if_pos h2]
      · cases h
  · rename_i hv; rw [if_neg hv]
theorem vAdv_size {a : Adve} (h : vAdv a = true) : Adve.size a ≤ 1000 := by
  have hb := vAdv_b h
  have h1 := hb.nl
  have h2 := hb.pl
  have h3 := nms_size (w := a.prefs) (by rw [List.all_eq_true]; exact hb.pv)
  show a.nbs.length + (a.prefs.length + sumN Name.size a.prefs) ≤ 1000
  omega
theorem TAo_eq (o : Option Adve) : TAo o = TAs (o.getD ⟨0, 0, [], []⟩) o.isSome := by cases o <;> rfl
theorem dcu {c : List UInt8} : ∃ (u : Adve) (may : Bool), FO 51 [Ys false c] [Ys false c] (TAo (decAd c)) = FO 51 [Ys false c] [Ys false c] (TAs u may) ∧ FO 52 [Ys false c] [Ys false c] (TAo (decAd c)) = FO 52 [Ys false c] [Ys false c] (TAs u may) ∧ Adve.size u ≤ 1000 ∧ (may = true → encAd u = c) := by
  refine ⟨(decAd c).getD ⟨0, 0, [], []⟩, (decAd c).isSome, by rw [TAo_eq], by rw [TAo_eq], ?_, ?_⟩
  · cases h : decAd c with
    | none => show 0 + (0 + 0) ≤ 1000; omega
    | some u => exact vAdv_size (enc_decAd h).1
  · cases h : decAd c with
    | none => intro h; cases h
    | some u => intro _; have := enc_decAd h; simp only [Option.getD_some, encAd, this.1, if_true]; exact this.2
theorem dcb {p : Adve} : ∃ z : Adve, FO 51 [Ys false (encAd p)] [Ys false (encAd p)] (TAo (decAd (encAd p))) = FO 51 [Ys false (encAd p)] [Ys false (encAd p)] (TAs z (vAdv p)) ∧ (vAdv p = true → z = p) := by
  rw [dec_encA]
  split
  · rename_i h; exact ⟨p, by rw [h], fun _ => rfl⟩
  · rename_i h; exact ⟨⟨0, 0, [], []⟩, by rw [Bool.not_eq_true] at h; rw [h], fun h2 => absurd h2 h⟩
theorem is5 : FI 5 Tryz.f5 := ⟨⟨Tryz.f5, Tryz.func5, rfl, rfl, rfl, rfl⟩, rfl⟩
set_option maxRecDepth 20000 in
set_option maxHeartbeats 16000000 in
theorem ex0Adverts (code : List UInt8) (hl : code.length ≤ 1048576) (l : List Adve) (a p : Adve) (c : List UInt8) (n : Topo) (r : List TEnt) (v : Int) (d e f : List Adve) (k : Int) (hz : l.length + sumN Adve.size l ≤ 2000) (ha : Adve.size a ≤ 300) (hp : Adve.size p ≤ 300) (hc : c.length ≤ 2001) (hn : n.links.length ≤ 200) (hr : r.length + sumN TEnt.size r ≤ 300) (hrv : r = [] ∨ vTab r = true) (hd : d.length + sumN Adve.size d ≤ 2000) (he : e.length + sumN Adve.size e ≤ 2000) (hf : f.length + sumN Adve.size f ≤ 2000) (k1 : FO 45 [Ys false code] [Ys false code] (LAv false l a)) (k2 : FO 48 [Ys false code] [Ys false code] (A (Adve.c false p))) (k3 : FO 50 [Ys false code] [Ys false code] (Ys false c)) (k4 : FO 53 [Ys false code] [Ys false code] (NRV false n r v)) (k5 : FO 54 [Ys false code] [Ys false code] (LL2 d e)) (k6 : FO 55 [Ys false code] [Ys false code] (LI2 false f k)) : FO 5 [Ys false code] [Ys false code] (B true) := by
  refine fok envOk mixed is5 ⟨rfl, rfl, ?_⟩
  have hms := mrg_size l a
  have hT : (mrgA l a).2 = true → FO 66 [Al (mrgA l a).1] [Al (mrgA l a).1] (B true) ∧ FO 46 [Al (mrgA l a).1, A (Adve.c false a)] [Al (mrgA l a).1, A (Adve.c false a)] (AB true ((mrgA l a).1, false)) ∧ decide (findI (orig a.origin) (mrgA l a).1 0 ≥ 0) = true := fun h => by
    have h1 := i_ValidDb (mrgA l a).1 (by omega)
    rw [(mrg_form h).1] at h1
    have h2 := i_Merge (mrgA l a).1 a (by omega)
    rw [mrg_again h] at h2
    exact ⟨h1, h2, by simpa using mrg_find h⟩
  have hF : (mrgA l a).2 = false → (mrgA l a).1 = l := mrg_same
  have m1 := i_Merge l a (by omega)
  have m2 := s_MergeS l a (by omega)
  have q1 := same_Db (mrgA l a).1 (by omega)
  have q2 := i_Find (mrgA l a).1 a.origin (by omega)
  generalize mrgA l a = X at *
  obtain ⟨M, ok⟩ := X
  simp only at hms hT hF q1 q2
  have e1 : FO 49 [A (Adve.c false p)] [A (Adve.c false p)] (Ys false (encAd p)) := by
    have h := sh_resN (i_EncAd p (by omega))
    simp only [shcL, Vs.shc, shcLL_byts] at h
    exact h
  have e2 := s_EncAd p (by omega)
  have he1 := encAd_len (a := p)
  have b1 := i_DecAd (encAd p) (by omega)
  obtain ⟨z, hz1, hz2⟩ := dcb (p := p)
  rw [hz1] at b1
  have q3 := same_Bytes (encAd p) (by omega)
  have d1 := i_DecAd c (by omega)
  have d2 := s_DecAd c (by omega)
  obtain ⟨u, may, hu1, hu2, hu3, hu4⟩ := dcu (c := c)
  rw [hu1] at d1
  rw [hu2] at d2
  have q4 := same_Db [u] (by simp only [List.length_singleton, sumN]; omega)
  have q5 := i_EncAd u (by omega)
  have q6 := same_Bytes c (by omega)
  have a1 := i_AdvertisementsOf n r v (by omega) (by omega)
  have a2 := s_AdvertisementsOf n r v (by omega) (by omega)
  have hal := advs_small2 (n := n) (ver := v) hr
  have q7 := same_Db (advs n r v) (by omega)
  have q8 := i_ValidDb (advs n r v) (by omega)
  rw [advs_ok hrv] at q8
  have v1 := i_ValidAdv p (by omega)
  have v2 := s_ValidAdv p (by omega)
  have w1 := i_ValidDb l (by omega)
  have w2 := s_ValidDb l (by omega)
  have g1 := i_EqualDb d e (by omega) (by omega)
  have g2 := eq_Db d e (by omega) (by omega)
  have j1 := i_Find f k (by omega)
  have j2 := s_Find f k (by omega)
  have q9 := same_Db l (by omega)
  have q10 := same_Db [p] (by simp only [List.length_singleton, sumN]; omega)
  generalize decide (d = e) = dq at g1 g2
  generalize advs n r v = AL at a1 a2 q7 q8 hal
  generalize encAd p = ep at e1 e2 b1 q3 he1
  generalize vAdv p = vp at b1 hz2 v1 v2
  generalize vDb l = vl at w1 w2
  generalize findI (orig k) f 0 = fk at j1 j2
  (repeat' ((conv => whnf); first | refine stp ?_ | refine Cl.mk (big_no code hl) ?_ | refine Cl.mk (k1) ?_ | refine Cl.mk (m1) ?_ | refine Cl.mk (m2) ?_ | refine Cl.mk (k2) ?_ | refine Cl.mk (e1) ?_ | refine Cl.mk (k3) ?_ | refine Cl.mk (d1) ?_ | refine Cl.mk (d2) ?_ | refine Cl.mk (k4) ?_ | refine Cl.mk (k5) ?_ | refine Cl.mk (k6) ?_ | refine Cl.mk (a1) ?_ | refine Cl.mk (q1) ?_ | refine Cl.mk (e2) ?_ | refine Cl.mk (q3) ?_ | refine Cl.eq q4 (by simp only [shcLL, shcL, Vs.shc]; rfl) ?_ | refine Cl.mk (a2) ?_ | refine Cl.mk (q7) ?_ | refine Cl.mk (g1) ?_ | refine Cl.mk (g2) ?_ | refine Cl.mk (j1) ?_ | refine Cl.mk (j2) ?_ | refine Cl.mk (v1) ?_ | refine Cl.mk (v2) ?_ | refine Cl.mk (w1) ?_ | refine Cl.mk (w2) ?_ | refine Cl.pre (by simp only [shcLL_ints, shcLL_byts, shcLL_strs, Adve.shcs, Data.shcs, Fetc.shcs, Gran.shcs, Keyy.shcs, Link.shcs, Mani.shcs, Name.shcs, Read.shcs, Rout.shcs, Segm.shcs, TEnt.shcs, Topo.shcs]; rfl) ?_))
  cases may
  all_goals (try rw [hu4 rfl] at q5)
  all_goals (cases vp)
  all_goals (try obtain rfl := hz2 rfl)
  all_goals (cases ok)
  all_goals (try obtain rfl := hF rfl)
  all_goals (try obtain ⟨t1, t2, t3⟩ := hT rfl)
  all_goals (repeat' ((conv => whnf); first | refine stp ?_ | refine Cl.mk (q5) ?_ | refine Cl.mk (q6) ?_ | refine Cl.mk (b1) ?_ | refine Cl.mk (v1) ?_ | refine Cl.eq q10 (by simp only [shcLL, shcL, Vs.shc]; rfl) ?_ | refine Cl.mk (q9) ?_ | refine Cl.mk (t1) ?_ | refine Cl.mk (t2) ?_ | refine Cl.mk (q2) ?_ | refine Cl.mk (q8) ?_ | refine Cl.pre (by simp only [shcLL_ints, shcLL_byts, shcLL_strs, Adve.shcs, Data.shcs, Fetc.shcs, Gran.shcs, Keyy.shcs, Link.shcs, Mani.shcs, Name.shcs, Read.shcs, Rout.shcs, Segm.shcs, TEnt.shcs, Topo.shcs]; rfl) ?_))
  all_goals exact Vs.Fin.mk (WkR.refl _) (.refl _)
set_option maxRecDepth 20000 in
set_option maxHeartbeats 16000000 in
theorem ex1Adverts (l : List UInt8) (hl : ¬ l.length ≤ 1048576) : FO 5 [Ys false l] [Ys false l] (B true) := by
  refine fok envOk mixed is5 ⟨rfl, rfl, ?_⟩
  (repeat' ((conv => whnf); first | refine stp ?_ | refine Cl.mk (big_yes l hl) ?_ | refine Cl.pre (by simp only [shcLL_ints, shcLL_byts, shcLL_strs, Adve.shcs, Data.shcs, Fetc.shcs, Gran.shcs, Keyy.shcs, Link.shcs, Mani.shcs, Name.shcs, Read.shcs, Rout.shcs, Segm.shcs, TEnt.shcs, Topo.shcs]; rfl) ?_))
  exact Vs.Fin.mk (WkR.refl _) (.refl _)
theorem exAdverts (l : List UInt8) : FO 5 [Ys false l] [Ys false l] (B true) := by
  by_cases hl : l.length ≤ 1048576
  · obtain ⟨x, a, h1, h2, k1⟩ := DMrg_ok l hl
    obtain ⟨p, h3, k2⟩ := DEnc_ok l hl
    obtain ⟨c, h4, k3⟩ := DDec_ok l hl
    obtain ⟨n, r, v, h5, h6, h7, k4⟩ := DAdo_ok l hl
    obtain ⟨d, e, h8, h9, k5⟩ := DEqu_ok l hl
    obtain ⟨f, k, h10, k6⟩ := DFnd_ok l hl
    exact ex0Adverts l hl x a p c n r v d e f k h1 h2 h3 h4 h5 h6 h7 h8 h9 h10 k1 k2 k3 k4 k5 k6
  · exact ex1Adverts l hl
end Go.Proofs.YtigkmijoefibiaaGreat
