/- Contracts of functions of the program: no statement of the seat is proved here. Each under the conditions that stand in it. -/
import Derived.Test.YtigkmijoefibiaaGreatAc
import Derived.Test.YtigkmijoefibiaaGreatM5
import Derived.Test.YtigkmijoefibiaaGreatDk
import Derived.Test.YtigkmijoefibiaaGreatEg
set_option linter.all false
namespace Go.Proofs.YtigkmijoefibiaaGreat
open Go.Vs Go.Proofs
/-! Databases stay valid -/
theorem dbOk_iff : ∀ (l : List Adve) (p : Option Adve), dbOk p l = true ↔ (∀ x ∈ l, vAdv x = true) ∧ l.Pairwise (fun x y => x.origin < y.origin) ∧ (∀ q, p = some q → ∀ x ∈ l, q.origin < x.origin)
  | [], p => by simp [dbOk]
  | a :: l, p => by
    have ih := dbOk_iff l (some a)
    simp only [dbOk, okAd, Bool.and_eq_true, ih, List.pairwise_cons]
    constructor
    · rintro ⟨⟨h1, h2⟩, h3, h4, h5⟩
      have h6 := h5 a rfl
      refine ⟨fun x hx => ?_, ⟨h6, h4⟩, fun q hq x hx => ?_⟩
      · rcases List.mem_cons.1 hx with rfl | hx
        · exact h1
        · exact h3 x hx
      · subst hq
        have h7 : q.origin < a.origin := by simpa using h2
        rcases List.mem_cons.1 hx with rfl | hx
        · exact h7
        · have := h6 x hx; omega
    · rintro ⟨h1, ⟨h2, h3⟩, h4⟩
      refine ⟨⟨h1 a (by simp), ?_⟩, fun x hx => h1 x (by simp [hx]), h3, fun q hq x hx => ?_⟩
      · cases p with
        | none => rfl
        | some q => simpa using h4 q rfl a (by simp)
      · cases hq; exact h2 x hx
theorem vDb_iff (l : List Adve) : vDb l = true ↔ (∀ x ∈ l, vAdv x = true) ∧ l.Pairwise (fun x y => x.origin < y.origin) := by
  have := dbOk_iff l none
  simp at this
  exact this
theorem orig_iff {k : Int} {x : Adve} : orig k x = true ↔ x.origin = k := by simp [orig]
/-- What is merged: the list's lower part, the advertisement, the upper part. -/
theorem mrg_form {l : List Adve} {a : Adve} (h : (mrgA l a).2 = true) : vDb (mrgA l a).1 = true ∧ vAdv a = true ∧ ∃ d r, (mrgA l a).1 = d ++ a :: r ∧ ∀ x ∈ d, orig a.origin x = false := by
  unfold mrgA at h ⊢
  split at h
  · rename_i hv
    rw [if_pos hv]
    simp only [Bool.and_eq_true] at hv
    obtain ⟨hva, hvl⟩ := hv
    obtain ⟨hall, hsort⟩ := (vDb_iff l).1 hvl
    cases hf : l.find? (orig a.origin) with
    | none =>
      simp only [hf]
      rw [List.find?_eq_none] at hf
      have hne : ∀ x ∈ l, x.origin ≠ a.origin := fun x hx h => hf x hx (orig_iff.2 h)
      have hd : ∀ x ∈ l.takeWhile (lowA a), x.origin < a.origin := fun x hx => by
        have := List.all_takeWhile (p := lowA a) (l := l)
        rw [List.all_eq_true] at this
        simpa [lowA] using this x hx
      have hr : ∀ x ∈ l.dropWhile (lowA a), a.origin < x.origin := by
        have hs2 : (l.dropWhile (lowA a)).Pairwise (fun x y => x.origin < y.origin) := hsort.sublist (List.dropWhile_sublist _)
        intro x hx
        have hh := List.head?_dropWhile_not (lowA a) l
        cases hdw : l.dropWhile (lowA a) with
        | nil => rw [hdw] at hx; simp at hx
        | cons y t =>
          rw [hdw] at hh hx hs2
          have hy : y ∈ l := (List.dropWhile_sublist (lowA a)).subset (by rw [hdw]; simp)
          have h1 : lowA a y = false := by simpa using hh
          have h2 : ¬ y.origin < a.origin := by simpa [lowA] using h1
          have h3 := hne y hy
          rcases List.mem_cons.1 hx with rfl | hx
          · omega
          · have := (List.pairwise_cons.1 hs2).1 x hx; omega
      refine ⟨(vDb_iff _).2 ⟨fun x hx => ?_, ?_⟩, hva, _, _, rfl, fun x hx => ?_⟩
      · rcases List.mem_append.1 hx with hx | hx
        · exact hall x ((List.takeWhile_sublist _).subset hx)
        · rcases List.mem_cons.1 hx with rfl | hx
          · exact hva
          · exact hall x ((List.dropWhile_sublist _).subset hx)
      · rw [List.pairwise_append]
        refine ⟨hsort.sublist (List.takeWhile_sublist _), List.pairwise_cons.2 ⟨hr, hsort.sublist (List.dropWhile_sublist _)⟩, fun x hx y hy => ?_⟩
        have h1 := hd x hx
        rcases List.mem_cons.1 hy with rfl | hy
        · exact h1
        · have := hr y hy; omega
      · have := hd x hx
        simp [orig]; omega
    | some y =>
      simp only [hf] at h ⊢
      split at h
      · cases h
      · rename_i hver
        rw [if_neg hver]
        obtain ⟨hoy, d, r, hl, hno⟩ := List.find?_eq_some_iff_append.1 hf
        have hoy2 := orig_iff.1 hoy
        obtain ⟨e1, e2⟩ := takeW (p := fun z => !orig a.origin z) d (y :: r) (fun x hx => by simpa using hno x hx) (by simp [hoy])
        rw [← hl] at e1 e2
        rw [e1, e2]
        rw [hl] at hall hsort
        rw [List.pairwise_append, List.pairwise_cons] at hsort
        refine ⟨(vDb_iff _).2 ⟨fun x hx => ?_, ?_⟩, hva, d, r, rfl, fun x hx => by simpa using hno x hx⟩
        · rcases List.mem_append.1 hx with hx | hx
          · exact hall x (by simp [hx])
          · rcases List.mem_cons.1 hx with rfl | hx
            · exact hva
            · exact hall x (by simp at hx; simp [hx])
        · rw [List.pairwise_append, List.pairwise_cons]
          refine ⟨hsort.1, ⟨fun z hz => ?_, hsort.2.1.2⟩, fun x hx z hz => ?_⟩
          · have := hsort.2.1.1 z hz; omega
          · rcases List.mem_cons.1 hz with rfl | hz
            · have := hsort.2.2 x hx y (by simp); omega
            · exact hsort.2.2 x hx z (by simp at hz; simp [hz])
  · cases h
theorem mrg_again {l : List Adve} {a : Adve} (h : (mrgA l a).2 = true) : mrgA (mrgA l a).1 a = ((mrgA l a).1, false) := by
  obtain ⟨h1, h2, d, r, e, hd⟩ := mrg_form h
  rw [e] at h1 ⊢
  refine mrg_old (d := d) (r := r) (x := a) rfl ?_ (Int.le_refl _)
  rw [List.find?_append, List.find?_eq_none.2 (fun x hx => by simp [hd x hx])]
  simp [orig]
theorem mrg_find {l : List Adve} {a : Adve} (h : (mrgA l a).2 = true) : 0 ≤ findI (orig a.origin) (mrgA l a).1 0 := by
  obtain ⟨h1, h2, d, r, e, hd⟩ := mrg_form h
  rw [e, findI_at (by rw [List.any_eq_false]; simpa using hd) (by simp [orig])]
  omega
theorem nbsOk_of : ∀ (l : List Int) (o : Int) (p : Option Int), (∀ b ∈ l, (0 ≤ b ∧ b ≤ 5) ∧ b ≠ o) → l.Pairwise (· < ·) → (∀ q, p = some q → ∀ b ∈ l, q < b) → nbsOk o p l = true
  | [], _, _, _, _, _ => rfl
  | b :: l, o, p, h1, h2, h3 => by
    rw [List.pairwise_cons] at h2
    have ih := nbsOk_of l o (some b) (fun x hx => h1 x (by simp [hx])) h2.2 (fun q hq x hx => by cases hq; exact h2.1 x hx)
    have h4 := h1 b (by simp)
    simp only [nbsOk, okNb, ih, Bool.and_true, Bool.and_eq_true]
    refine ⟨⟨inR_t.2 h4.1, by simpa using h4.2⟩, ?_⟩
    cases p with
    | none => rfl
    | some q => simpa using h3 q rfl b (by simp)
theorem nbT_sorted (n : Topo) (a : Int) (j : Nat) : (nbT n a j).Pairwise (· < ·) := by
  unfold nbT
  rw [List.pairwise_map]
  refine (List.pairwise_lt_range.filter _).imp ?_
  intro x y h; omega
theorem lnks_lt : ∀ (l : List Link) (e : Int) (p : Option Link), lnks e p l = true → ∀ k ∈ l, k.a < k.b
  | [], _, _, _, k, hk => by simp at hk
  | x :: l, e, p, h, k, hk => by
    simp only [lnks, okLink, Bool.and_eq_true, decide_eq_true_eq] at h
    rcases List.mem_cons.1 hk with rfl | hk
    · exact h.1.1.2
    · exact lnks_lt l e _ h.2 k hk
theorem tabG_in : ∀ (l : List TEnt) (p : Option TEnt), tabG p l = true → ∀ e ∈ l, vName e.name = true
  | [], _, _, e, he => by simp at he
  | x :: l, p, h, e, he => by
    simp only [tabG, okTe, Bool.and_eq_true] at h
    rcases List.mem_cons.1 he with rfl | he
    · exact h.1.1
    · exact tabG_in l _ h.2 e he
theorem advs_ok {n : Topo} {rows : List TEnt} {ver : Int} (hr : rows = [] ∨ vTab rows = true) : vDb (advs n rows ver) = true := by
  unfold advs
  split
  · rename_i h
    simp only [Bool.and_eq_true] at h
    obtain ⟨ht, hv⟩ := h
    have hn : 1 ≤ n.nodes ∧ n.nodes ≤ 6 := by simp only [vTopo, Bool.and_eq_true] at ht; exact inR_t.1 ht.1
    have hlk : ∀ k ∈ n.links, k.a < k.b := by simp only [vTopo, Bool.and_eq_true] at ht; exact lnks_lt _ _ _ ht.2
    have hvn : ∀ e ∈ rows, vName e.name = true := by
      rcases hr with rfl | hr
      · simp
      · simp only [vTab, Bool.and_eq_true] at hr; exact tabG_in _ _ hr.1
    rw [vDb_iff]
    unfold advT
    constructor
    · intro x hx
      obtain ⟨a, ha, rfl⟩ := List.mem_map.1 hx
      rw [List.mem_range] at ha
      have hs := nsz_b n
      have hz : (nsz n : Int) = n.nodes := by rw [hs.2]; unfold ma mi; split <;> split <;> omega
      simp only [vAdv, Bool.and_eq_true]
      refine ⟨⟨⟨inR_t.2 (by show 0 ≤ (a : Int) ∧ (a : Int) ≤ 5; omega), hv |> fun h => inR_t.2 (inR_t.1 h)⟩, decide_eq_true (pT_len rows a)⟩, nbsOk_of _ _ _ (fun b hb => ?_) (nbT_sorted _ _ _) (by simp), ?_⟩
      · obtain ⟨k, hk, rfl⟩ := List.mem_map.1 hb
        rw [List.mem_filter, List.mem_range] at hk
        refine ⟨by omega, fun hka => ?_⟩
        obtain ⟨lk, h1, h2⟩ := List.any_eq_true.1 hk.2
        have h3 := hlk lk h1
        simp only [adv1] at hka
        simp [isL] at h2
        omega
      · rw [List.all_eq_true]
        intro nm hnm
        have h1 := List.mem_of_mem_take hnm
        obtain ⟨e, he, rfl⟩ := List.mem_map.1 h1
        exact hvn e (List.mem_filter.1 he).1
    · rw [List.pairwise_map]
      refine List.pairwise_lt_range.imp ?_
      intro x y h; show (x : Int) < (y : Int); omega
  · rfl
theorem dec_encA (p : Adve) : decAd (encAd p) = if vAdv p = true then some p else none := by
  unfold encAd
  split
  · rename_i h; exact dec_encAd h
  · rfl
theorem advs_small2 {n : Topo} {rows : List TEnt} {ver : Int} (hz : rows.length + sumN TEnt.size rows ≤ 300) : (advs n rows ver).length + sumN Adve.size (advs n rows ver) ≤ 2000 := by
  unfold advs
  split
  · rename_i h
    have h1 : vTopo n = true := by simp_all
    have hs2 : 1 ≤ n.nodes ∧ n.nodes ≤ 6 := by simp [vTopo, inR_t] at h1; omega
    have h2 := advT_size n rows ver n.nodes.toNat
    have h3 : n.nodes.toNat * (10 + sumN TEnt.size rows) ≤ 6 * (10 + sumN TEnt.size rows) := Nat.mul_le_mul_right _ (by omega)
    rw [advT_len]; omega
  · simp [sumN]
end Go.Proofs.YtigkmijoefibiaaGreat
