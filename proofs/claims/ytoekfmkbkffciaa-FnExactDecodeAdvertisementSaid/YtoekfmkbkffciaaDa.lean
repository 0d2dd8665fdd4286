/- Contracts of functions of the program: no statement of the seat is proved here. Each under the conditions that stand in it. -/
import Derived.Test.YtoekfmkbkffciaaFu
import Derived.Test.YtoekfmkbkffciaaFy
set_option linter.all false
namespace Go.Proofs.Ytoekfmkbkffciaa
open Go.Vs Go.Proofs
/-! Distances in a small graph: what a search by rounds finds, and that nothing else fits -/
def gI (o : List Int) (i : Nat) : Int := o.getD i (-1)
theorem gI_set (o : List Int) (i j : Nat) (v : Int) (hi : i < o.length) : gI (o.set i v) j = if i = j then v else gI o j := by
  unfold gI
  simp only [List.getD_eq_getElem?_getD, List.getElem?_set]
  split
  · simp [hi]
  · rfl
structure IsD (adj : Nat → Nat → Bool) (src : Nat → Bool) (o : List Int) : Prop where
  len : o.length = 6
  rng : ∀ v, v < 6 → -1 ≤ gI o v ∧ gI o v ≤ 6
  sr : ∀ v, v < 6 → (gI o v = 0 ↔ src v = true)
  pred : ∀ v, v < 6 → 1 ≤ gI o v → ∃ u, u < 6 ∧ adj u v = true ∧ gI o u = gI o v - 1
  nbr : ∀ u v, u < 6 → v < 6 → 0 ≤ gI o u → gI o u ≤ 5 → adj u v = true → 0 ≤ gI o v ∧ gI o v ≤ gI o u + 1
theorem IsD.le {adj : Nat → Nat → Bool} {src : Nat → Bool} {o p : List Int} (ho : IsD adj src o) (hp : IsD adj src p) : ∀ (k : Nat) (v : Nat), v < 6 → gI o v = k → 0 ≤ gI p v ∧ gI p v ≤ k
  | 0, v, hv, h => by
    have := (hp.sr v hv).2 ((ho.sr v hv).1 (by simpa using h))
    omega
  | k + 1, v, hv, h => by
    obtain ⟨u, hu, ha, he⟩ := ho.pred v hv (by omega)
    obtain ⟨h1, h2⟩ := IsD.le ho hp k u hu (by omega)
    have := ho.rng v hv
    have := hp.nbr u v hu hv h1 (by omega) ha
    omega
theorem IsD.eq {adj : Nat → Nat → Bool} {src : Nat → Bool} {o p : List Int} (ho : IsD adj src o) (hp : IsD adj src p) : o = p := by
  have key : ∀ v, v < 6 → gI o v = gI p v := by
    intro v hv
    have r1 := ho.rng v hv
    have r2 := hp.rng v hv
    by_cases h1 : 0 ≤ gI o v
    · obtain ⟨k, hk⟩ : ∃ k : Nat, gI o v = k := ⟨(gI o v).toNat, by omega⟩
      have a := IsD.le ho hp k v hv hk
      obtain ⟨j, hj⟩ : ∃ j : Nat, gI p v = j := ⟨(gI p v).toNat, by omega⟩
      have b := IsD.le hp ho j v hv hj
      omega
    · by_cases h2 : 0 ≤ gI p v
      · obtain ⟨j, hj⟩ : ∃ j : Nat, gI p v = j := ⟨(gI p v).toNat, by omega⟩
        have b := IsD.le hp ho j v hv hj
        omega
      · omega
  apply List.ext_getElem
  · rw [ho.len, hp.len]
  · intro i h1 h2
    have := key i (by rw [ho.len] at h1; exact h1)
    simpa [gI, List.getD_eq_getElem?_getD, h1, h2] using this
/-! The search by rounds -/
def stepX (adj : Nat → Nat → Bool) (s b : Nat) (o : List Int) (x : Nat) : List Int := if gI o b = (s : Int) - 1 ∧ gI o x < 0 ∧ adj b x = true then o.set x s else o
def inn (adj : Nat → Nat → Bool) (s b : Nat) (o : List Int) : Nat → List Int
  | 0 => o
  | x + 1 => stepX adj s b (inn adj s b o x) x
def mid (adj : Nat → Nat → Bool) (s : Nat) (o : List Int) : Nat → List Int
  | 0 => o
  | b + 1 => inn adj s b (mid adj s o b) 6
def rounds (adj : Nat → Nat → Bool) (o : List Int) : Nat → List Int
  | 0 => o
  | s + 1 => mid adj (s + 1) (rounds adj o s) 6
def dist0 (src : Nat → Bool) (n : Nat) : List Int := (List.range n).map fun b => if src b then 0 else -1
def dists (adj : Nat → Nat → Bool) (src : Nat → Bool) : List Int := rounds adj (dist0 src 6) 6
theorem inn_stop {adj : Nat → Nat → Bool} {s b : Nat} {o : List Int} {x : Nat} (h : gI (inn adj s b o x) b ≠ (s : Int) - 1) : ∀ k, inn adj s b o (x + k) = inn adj s b o x
  | 0 => rfl
  | k + 1 => by
    have ih := inn_stop h k
    rw [show x + (k + 1) = (x + k) + 1 by omega, inn, ih, stepX, if_neg (fun h2 => h h2.1)]
/-- Round s: who has a number below s - 1 has had its neighbors numbered. -/
structure Rd (adj : Nat → Nat → Bool) (src : Nat → Bool) (s : Int) (o : List Int) (done : Nat → Nat → Prop) : Prop where
  len : o.length = 6
  rng : ∀ v, v < 6 → -1 ≤ gI o v ∧ gI o v ≤ s
  sr : ∀ v, v < 6 → (gI o v = 0 ↔ src v = true)
  pred : ∀ v, v < 6 → 1 ≤ gI o v → ∃ u, u < 6 ∧ adj u v = true ∧ gI o u = gI o v - 1
  nbr : ∀ u v, u < 6 → v < 6 → 0 ≤ gI o u → (gI o u ≤ s - 2 ∨ (gI o u = s - 1 ∧ done u v)) → adj u v = true → 0 ≤ gI o v ∧ gI o v ≤ gI o u + 1
theorem Rd.step {adj : Nat → Nat → Bool} {src : Nat → Bool} {s b x : Nat} {o : List Int} {done : Nat → Nat → Prop} (hs : 1 ≤ s) (hb : b < 6) (hx : x < 6) (h : Rd adj src s o done) :
    Rd adj src s (stepX adj s b o x) (fun u v => done u v ∨ (u = b ∧ v = x)) := by
  unfold stepX
  split
  · rename_i hc
    have hg := fun j => gI_set o x j s (by rw [h.len]; exact hx)
    refine ⟨by rw [List.length_set]; exact h.len, ?_, ?_, ?_, ?_⟩
    · intro v hv
      rw [hg]
      have := h.rng v hv
      split <;> omega
    · intro v hv
      rw [hg]
      split
      · rename_i e; subst e
        have := h.sr x hx
        constructor
        · intro h2; omega
        · intro h2; have := this.2 h2; omega
      · exact h.sr v hv
    · intro v hv h1
      rw [hg] at h1 ⊢
      by_cases e : x = v
      · subst e
        rw [if_pos rfl]
        refine ⟨b, hb, hc.2.2, ?_⟩
        rw [hg, if_neg (by intro h2; subst h2; omega)]
        exact hc.1
      · rw [if_neg e] at h1 ⊢
        obtain ⟨u, hu, ha, he⟩ := h.pred v hv h1
        refine ⟨u, hu, ha, ?_⟩
        rw [hg, if_neg (by intro h2; subst h2; omega)]
        exact he
    · intro u v hu hv h0 hd ha
      rw [hg] at h0 hd ⊢
      rw [hg]
      by_cases e : x = u
      · subst e
        rw [if_pos rfl] at hd
        omega
      · rw [if_neg e] at h0 hd ⊢
        by_cases e2 : x = v
        · subst e2
          rw [if_pos rfl]
          rcases hd with hd | ⟨hd, -⟩
          · have := h.nbr u x hu hx h0 (.inl hd) ha
            omega
          · omega
        · rw [if_neg e2]
          rcases hd with hd | ⟨hd, hd2 | ⟨-, hd2⟩⟩
          · exact h.nbr u v hu hv h0 (.inl hd) ha
          · exact h.nbr u v hu hv h0 (.inr ⟨hd, hd2⟩) ha
          · exact absurd hd2.symm e2
  · rename_i hc
    refine ⟨h.len, h.rng, h.sr, h.pred, ?_⟩
    intro u v hu hv h0 hd ha
    rcases hd with hd | ⟨hd, hd2 | ⟨e1, e2⟩⟩
    · exact h.nbr u v hu hv h0 (.inl hd) ha
    · exact h.nbr u v hu hv h0 (.inr ⟨hd, hd2⟩) ha
    · subst e1; subst e2
      have hr := h.rng v hv
      by_cases h9 : gI o v < 0
      · exact absurd ⟨hd, h9, ha⟩ hc
      · by_cases h8 : gI o v = 0
        · omega
        · obtain ⟨w, hw, hwa, hwe⟩ := h.pred v hv (by omega)
          omega
theorem Rd.weaken {adj : Nat → Nat → Bool} {src : Nat → Bool} {s : Int} {o : List Int} {d d' : Nat → Nat → Prop} (h : Rd adj src s o d) (hd : ∀ u v, u < 6 → v < 6 → d' u v → d u v) : Rd adj src s o d' :=
  ⟨h.len, h.rng, h.sr, h.pred, fun u v hu hv h0 h1 ha => h.nbr u v hu hv h0 (h1.imp id fun h2 => ⟨h2.1, hd u v hu hv h2.2⟩) ha⟩
theorem Rd.inn {adj : Nat → Nat → Bool} {src : Nat → Bool} {s b : Nat} {o : List Int} {done : Nat → Nat → Prop} (hs : 1 ≤ s) (hb : b < 6) (h : Rd adj src s o done) :
    ∀ n, n ≤ 6 → Rd adj src s (inn adj s b o n) (fun u v => done u v ∨ (u = b ∧ v < n))
  | 0, _ => h.weaken (fun u v _ _ h2 => by rcases h2 with h2 | ⟨-, h2⟩; exact h2; omega)
  | n + 1, hn => by
    refine ((Rd.inn hs hb h n (by omega)).step hs hb (x := n) (by omega)).weaken ?_
    intro u v _ _ h2
    rcases h2 with h2 | ⟨h2, h3⟩
    · exact .inl (.inl h2)
    · by_cases e : v = n
      · exact .inr ⟨h2, e⟩
      · exact .inl (.inr ⟨h2, by omega⟩)
theorem Rd.mid {adj : Nat → Nat → Bool} {src : Nat → Bool} {s : Nat} {o : List Int} (hs : 1 ≤ s) (h : Rd adj src s o (fun _ _ => False)) :
    ∀ n, n ≤ 6 → Rd adj src s (mid adj s o n) (fun u _ => u < n)
  | 0, _ => h.weaken (fun u v _ _ h2 => by omega)
  | n + 1, hn => by
    refine ((Rd.mid hs h n (by omega)).inn hs (b := n) (by omega) 6 (by omega)).weaken ?_
    intro u v _ hv h2
    by_cases e : u = n
    · exact .inr ⟨e, hv⟩
    · exact .inl (by omega)
theorem Rd.next {adj : Nat → Nat → Bool} {src : Nat → Bool} {s : Nat} {o : List Int} (h : Rd adj src s o (fun u _ => u < 6)) : Rd adj src ((s + 1 : Nat) : Int) o (fun _ _ => False) :=
  ⟨h.len, fun v hv => by have := h.rng v hv; omega, h.sr, h.pred, fun u v hu hv h0 h1 ha => by
    rcases h1 with h1 | ⟨-, h1⟩
    · by_cases e : gI o u = (s : Int) - 1
      · exact h.nbr u v hu hv h0 (.inr ⟨e, hu⟩) ha
      · exact h.nbr u v hu hv h0 (.inl (by omega)) ha
    · exact h1.elim⟩
theorem Rd.rounds {adj : Nat → Nat → Bool} {src : Nat → Bool} {o : List Int} (h : Rd adj src 1 o (fun _ _ => False)) : ∀ n, Rd adj src ((n + 1 : Nat) : Int) (rounds adj o n) (fun _ _ => False)
  | 0 => h
  | n + 1 => ((Rd.rounds h n).mid (by omega) 6 (by omega)).next
theorem dist0_get (src : Nat → Bool) (n v : Nat) (hv : v < n) : gI (dist0 src n) v = if src v then 0 else -1 := by
  unfold gI dist0
  simp [List.getD_eq_getElem?_getD, hv]
theorem dists_is (adj : Nat → Nat → Bool) (src : Nat → Bool) : IsD adj src (dists adj src) := by
  have h0 : Rd adj src 1 (dist0 src 6) (fun _ _ => False) := by
    refine ⟨by simp [dist0], ?_, ?_, ?_, ?_⟩
    · intro v hv; rw [dist0_get src 6 v hv]; split <;> omega
    · intro v hv; rw [dist0_get src 6 v hv]; cases src v <;> simp
    · intro v hv h1; rw [dist0_get src 6 v hv] at h1; split at h1 <;> omega
    · intro u v hu hv h0 h1 ha
      rw [dist0_get src 6 u hu] at h0 h1
      rcases h1 with h1 | ⟨-, h1⟩
      · split at h1
        · omega
        · rename_i hs; rw [if_neg hs] at h0; omega
      · exact h1.elim
  have h1 : Rd adj src 7 (dists adj src) (fun _ _ => False) := h0.rounds 6
  have h2 := ((Rd.rounds h0 5).mid (by omega) 6 (by omega)).rng
  refine ⟨h1.len, h2, h1.sr, h1.pred, ?_⟩
  intro u v hu hv h2 h3 ha
  exact h1.nbr u v hu hv h2 (.inl (by omega)) ha
/-! The search by a queue -/
def cnt0 (o : List Int) : Nat := (o.filter fun x => decide (0 ≤ x)).length
theorem cnt0_le (o : List Int) : cnt0 o ≤ o.length := List.length_filter_le _ _
theorem cnt0_set : ∀ (o : List Int) (b : Nat) (v : Int), b < o.length → gI o b < 0 → 0 ≤ v → cnt0 (o.set b v) = cnt0 o + 1
  | [], b, v, h, _, _ => by simp at h
  | x :: o, 0, v, _, h1, h2 => by
    have hx : x < 0 := by simpa [gI] using h1
    have h3 : ¬ 0 ≤ x := by omega
    simp [cnt0, List.filter_cons, h2, h3]
  | x :: o, b + 1, v, h, h1, h2 => by
    have ih := cnt0_set o b v (by simpa using h) (by simpa [gI] using h1) h2
    unfold cnt0 at *
    simp only [List.set_cons_succ, List.filter_cons]
    split <;> simp_all
def wI (w : List Nat) (i : Nat) : Nat := w.getD i 0
theorem wI_snoc (w : List Nat) (b i : Nat) : wI (w ++ [b]) i = if i < w.length then wI w i else if i = w.length then b else 0 := by
  unfold wI
  simp only [List.getD_eq_getElem?_getD]
  split
  · rename_i h; rw [List.getElem?_append_left h]
  · rename_i h
    rw [List.getElem?_append_right (by omega)]
    split
    · rename_i e; subst e; simp
    · rename_i e
      rw [List.getElem?_eq_none (by simp; omega)]; rfl
structure Qu (adj : Nat → Nat → Bool) (src : Nat → Bool) (k : Nat) (o : List Int) (w : List Nat) (done : Nat → Prop) : Prop where
  len : o.length = 6
  wlen : w.length = cnt0 o
  wlt : ∀ i, i < w.length → wI w i < 6
  mem : ∀ v, v < 6 → 0 ≤ gI o v → ∃ i, i < w.length ∧ wI w i = v
  pos : ∀ i, i < w.length → 0 ≤ gI o (wI w i) ∧ gI o (wI w i) ≤ i
  mono : ∀ i j, i ≤ j → j < w.length → gI o (wI w i) ≤ gI o (wI w j)
  last : k < w.length → ∀ i, i < w.length → gI o (wI w i) ≤ gI o (wI w k) + 1
  low : ∀ v, v < 6 → -1 ≤ gI o v
  sr : ∀ v, v < 6 → (gI o v = 0 ↔ src v = true)
  pred : ∀ v, v < 6 → 1 ≤ gI o v → ∃ u, u < 6 ∧ adj u v = true ∧ gI o u = gI o v - 1
  nbr : ∀ i v, i < w.length → v < 6 → (i < k ∨ (i = k ∧ done v)) → adj (wI w i) v = true → 0 ≤ gI o v ∧ gI o v ≤ gI o (wI w i) + 1
theorem Qu.weaken {adj : Nat → Nat → Bool} {src : Nat → Bool} {k : Nat} {o : List Int} {w : List Nat} {d d' : Nat → Prop} (h : Qu adj src k o w d) (hd : ∀ v, v < 6 → d' v → d v) : Qu adj src k o w d' :=
  ⟨h.len, h.wlen, h.wlt, h.mem, h.pos, h.mono, h.last, h.low, h.sr, h.pred, fun i v hi hv h1 ha => h.nbr i v hi hv (h1.imp id fun h2 => ⟨h2.1, hd v hv h2.2⟩) ha⟩
theorem Qu.wle {adj : Nat → Nat → Bool} {src : Nat → Bool} {k : Nat} {o : List Int} {w : List Nat} {d : Nat → Prop} (h : Qu adj src k o w d) : w.length ≤ 6 := by
  have := cnt0_le o
  rw [← h.wlen, h.len] at this; exact this
theorem Qu.skip {adj : Nat → Nat → Bool} {src : Nat → Bool} {k b : Nat} {o : List Int} {w : List Nat} {d : Nat → Prop} (h : Qu adj src k o w d) (hk : k < w.length) (hb : b < 6) (hn : 0 ≤ gI o b ∨ adj (wI w k) b = false) :
    Qu adj src k o w (fun v => d v ∨ v = b) := by
  refine ⟨h.len, h.wlen, h.wlt, h.mem, h.pos, h.mono, h.last, h.low, h.sr, h.pred, ?_⟩
  intro i v hi hv h1 ha
  rcases h1 with h1 | ⟨h1, h2 | h2⟩
  · exact h.nbr i v hi hv (.inl h1) ha
  · exact h.nbr i v hi hv (.inr ⟨h1, h2⟩) ha
  · subst h1; subst h2
    rcases hn with hn | hn
    · obtain ⟨j, hj, hw⟩ := h.mem v hv hn
      have := h.last hk j hj
      rw [hw] at this
      exact ⟨hn, this⟩
    · rw [hn] at ha; simp at ha
theorem Qu.add {adj : Nat → Nat → Bool} {src : Nat → Bool} {k b : Nat} {o : List Int} {w : List Nat} {d : Nat → Prop} (h : Qu adj src k o w d) (hk : k < w.length) (hb : b < 6) (hn : gI o b < 0) (ha : adj (wI w k) b = true) :
    Qu adj src k (o.set b (gI o (wI w k) + 1)) (w ++ [b]) (fun v => d v ∨ v = b) := by
  have hp := (h.pos k hk)
  have hg := fun j => gI_set o b j (gI o (wI w k) + 1) (by rw [h.len]; exact hb)
  have hne : ∀ i, i < w.length → b ≠ wI w i := by
    intro i hi e
    have := h.pos i hi
    rw [← e] at this
    omega
  have hold : ∀ i, i < w.length → gI (o.set b (gI o (wI w k) + 1)) (wI (w ++ [b]) i) = gI o (wI w i) := by
    intro i hi
    rw [wI_snoc, if_pos hi, hg, if_neg (hne i hi)]
  have hnew : gI (o.set b (gI o (wI w k) + 1)) (wI (w ++ [b]) w.length) = gI o (wI w k) + 1 := by
    rw [wI_snoc, if_neg (by omega), if_pos rfl, hg, if_pos rfl]
  have hwn : wI (w ++ [b]) w.length = b := by rw [wI_snoc, if_neg (by omega), if_pos rfl]
  have hwo : ∀ i, i < w.length → wI (w ++ [b]) i = wI w i := fun i hi => by rw [wI_snoc, if_pos hi]
  have hlen : (w ++ [b]).length = w.length + 1 := by simp
  have hcase : ∀ i, i < (w ++ [b]).length → i < w.length ∨ i = w.length := by intro i hi; rw [hlen] at hi; omega
  refine ⟨by rw [List.length_set]; exact h.len, ?_, ?_, ?_, ?_, ?_, ?_, ?_, ?_, ?_, ?_⟩
  · rw [hlen, cnt0_set o b _ (by rw [h.len]; exact hb) hn (by omega), h.wlen]
  · intro i hi
    rcases hcase i hi with hi | rfl
    · rw [hwo i hi]; exact h.wlt i hi
    · rw [hwn]; exact hb
  · intro v hv h0
    by_cases e : b = v
    · exact ⟨w.length, by rw [hlen]; omega, by rw [hwn, e]⟩
    · rw [hg, if_neg e] at h0
      obtain ⟨i, hi, he⟩ := h.mem v hv h0
      exact ⟨i, by rw [hlen]; omega, by rw [hwo i hi, he]⟩
  · intro i hi
    rcases hcase i hi with hi | rfl
    · rw [hold i hi]; exact h.pos i hi
    · rw [hnew]; omega
  · intro i j hij hj
    rcases hcase j hj with hj | rfl
    · rw [hold i (by omega), hold j hj]; exact h.mono i j hij hj
    · rw [hnew]
      by_cases e : i = w.length
      · rw [e, hnew]; omega
      · rw [hold i (by omega)]; exact h.last hk i (by omega)
  · intro _ i hi
    rw [hold k hk]
    rcases hcase i hi with hi | rfl
    · rw [hold i hi]; exact h.last hk i hi
    · rw [hnew]; omega
  · intro v hv
    rw [hg]
    have := h.low v hv
    split <;> omega
  · intro v hv
    rw [hg]
    split
    · rename_i e; subst e
      constructor
      · intro h2; omega
      · intro h2; have := (h.sr b hv).2 h2; omega
    · exact h.sr v hv
  · intro v hv h1
    rw [hg] at h1 ⊢
    by_cases e : b = v
    · subst e
      rw [if_pos rfl]
      refine ⟨wI w k, h.wlt k hk, ha, ?_⟩
      rw [hg, if_neg (hne k hk)]; omega
    · rw [if_neg e] at h1 ⊢
      obtain ⟨u, hu, hua, hue⟩ := h.pred v hv h1
      refine ⟨u, hu, hua, ?_⟩
      rw [hg, if_neg (by intro e2; subst e2; omega)]; exact hue
  · intro i v hi hv h1 hav
    have hik : i < w.length := by rcases h1 with h1 | ⟨h1, -⟩ <;> omega
    rw [hold i hik]
    rw [hwo i hik] at hav
    rw [hg]
    by_cases e : b = v
    · subst e
      rw [if_pos rfl]
      rcases h1 with h1 | ⟨h1, h2⟩
      · have := h.nbr i b hik hv (.inl h1) hav
        omega
      · subst h1; omega
    · rw [if_neg e]
      rcases h1 with h1 | ⟨h1, h2 | h2⟩
      · exact h.nbr i v hik hv (.inl h1) hav
      · exact h.nbr i v hik hv (.inr ⟨h1, h2⟩) hav
      · exact absurd h2.symm e
theorem Qu.next {adj : Nat → Nat → Bool} {src : Nat → Bool} {k : Nat} {o : List Int} {w : List Nat} (h : Qu adj src k o w (fun v => v < 6)) (hk : k < w.length) : Qu adj src (k + 1) o w (fun _ => False) := by
  refine ⟨h.len, h.wlen, h.wlt, h.mem, h.pos, h.mono, ?_, h.low, h.sr, h.pred, ?_⟩
  · intro h1 i hi
    have h2 := h.last hk i hi
    have h3 := h.mono k (k + 1) (by omega) h1
    omega
  · intro i v hi hv h1 ha
    rcases h1 with h1 | ⟨-, h1⟩
    · by_cases e : i = k
      · exact h.nbr i v hi hv (.inr ⟨e, hv⟩) ha
      · exact h.nbr i v hi hv (.inl (by omega)) ha
    · exact h1.elim
theorem Qu.fin {adj : Nat → Nat → Bool} {src : Nat → Bool} {k : Nat} {o : List Int} {w : List Nat} {d : Nat → Prop} (h : Qu adj src k o w d) (hk : w.length ≤ k) : o = dists adj src := by
  have hw := h.wle
  refine IsD.eq ⟨h.len, ?_, h.sr, h.pred, ?_⟩ (dists_is adj src)
  · intro v hv
    refine ⟨h.low v hv, ?_⟩
    by_cases h0 : 0 ≤ gI o v
    · obtain ⟨i, hi, rfl⟩ := h.mem v hv h0
      have := h.pos i hi
      omega
    · omega
  · intro u v hu hv h0 _ ha
    obtain ⟨i, hi, rfl⟩ := h.mem u hu h0
    exact h.nbr i v hi hv (.inl (by omega)) ha
theorem Qu.start {adj : Nat → Nat → Bool} {src : Nat → Bool} {a : Nat} (ha : a < 6) (hs : ∀ v, v < 6 → (src v = true ↔ v = a)) : Qu adj src 0 ((List.replicate 6 (-1)).set a 0) [a] (fun _ => False) := by
  have hg := fun j => gI_set (List.replicate 6 (-1)) a j 0 (by simp; exact ha)
  have hr : ∀ j, gI (List.replicate 6 (-1)) j = -1 := by
    intro j; unfold gI; simp only [List.getD_eq_getElem?_getD, List.getElem?_replicate]; split <;> rfl
  have hgv : ∀ v, gI ((List.replicate 6 (-1)).set a 0) v = if a = v then 0 else -1 := by intro v; rw [hg, hr]
  refine ⟨by simp, ?_, ?_, ?_, ?_, ?_, ?_, ?_, ?_, ?_, ?_⟩
  · rw [cnt0_set _ a 0 (by simp; exact ha) (by rw [hr]; omega) (by omega)]; rfl
  · intro i hi; simp at hi; subst hi; exact ha
  · intro v hv h0
    rw [hgv] at h0
    split at h0
    · rename_i e; exact ⟨0, by simp, e⟩
    · omega
  · intro i hi; simp at hi; subst hi; rw [hgv]; simp [wI]
  · intro i j hij hj; simp at hj; subst hj; obtain rfl : i = 0 := by omega
    omega
  · intro _ i hi; simp at hi; subst hi; omega
  · intro v hv; rw [hgv]; split <;> omega
  · intro v hv
    rw [hgv, hs v hv]
    constructor
    · intro h; split at h
      · rename_i e; exact e.symm
      · omega
    · rintro rfl; simp
  · intro v hv h1; rw [hgv] at h1; split at h1 <;> omega
  · intro i v _ _ h1 _; rcases h1 with h1 | ⟨-, h1⟩
    · omega
    · exact h1.elim
theorem stepX_len {adj : Nat → Nat → Bool} {s b x : Nat} {o : List Int} : (stepX adj s b o x).length = o.length := by
  unfold stepX; split <;> simp
theorem inn_len {adj : Nat → Nat → Bool} {s b : Nat} {o : List Int} : ∀ n, (inn adj s b o n).length = o.length
  | 0 => rfl
  | n + 1 => by rw [inn, stepX_len, inn_len]
theorem mid_len {adj : Nat → Nat → Bool} {s : Nat} {o : List Int} : ∀ n, (mid adj s o n).length = o.length
  | 0 => rfl
  | n + 1 => by rw [mid, inn_len, mid_len]
theorem rounds_len {adj : Nat → Nat → Bool} {o : List Int} : ∀ n, (rounds adj o n).length = o.length
  | 0 => rfl
  | n + 1 => by rw [rounds, mid_len, rounds_len]
theorem dist0_len (src : Nat → Bool) (n : Nat) : (dist0 src n).length = n := by simp [dist0]
theorem dist0_succ (src : Nat → Bool) (n : Nat) : dist0 src (n + 1) = dist0 src n ++ [if src n then 0 else -1] := by simp [dist0, List.range_succ]
theorem dists_none {adj : Nat → Nat → Bool} {src : Nat → Bool} (h : ∀ v, v < 6 → src v = false) : List.replicate 6 (-1) = dists adj src := by
  have hr : ∀ j, gI (List.replicate 6 (-1)) j = -1 := by
    intro j; unfold gI; simp only [List.getD_eq_getElem?_getD, List.getElem?_replicate]; split <;> rfl
  refine IsD.eq ⟨by simp, ?_, ?_, ?_, ?_⟩ (dists_is adj src)
  · intro v _; rw [hr]; omega
  · intro v hv; rw [hr, h v hv]; simp
  · intro v _ h1; rw [hr] at h1; omega
  · intro u v _ _ h1 _ _; rw [hr] at h1; omega

theorem getG {o : List Int} {b : Nat} (h : b < o.length) : (ints o)[((b : Nat) : Int).toNat]? = some [cI (gI o b)] := by
  simp [ints, gI, List.getD_eq_getElem?_getD, h]
theorem setG {o : List Int} {b : Nat} {v y : Int} : (ints o).set ((b : Nat) : Int).toNat (spliceAV [cI y] 0 [cI v]) = ints (o.set b v) := by
  simp [ints, List.map_set, spliceAV]
/-! Adverts -/
def orig (k : Int) (x : Adve) : Bool := x.origin == k
def nbrA (l : List Adve) (a b : Int) : Bool := match l.find? (orig a) with
  | none => false
  | some x => hasI x.nbs b
def bidA (l : List Adve) (a b : Int) : Bool := nbrA l a b && nbrA l b a
def adjA (l : List Adve) (u v : Nat) : Bool := bidA l (u : Int) (v : Int)
def srcA (l : List Adve) (a : Int) (v : Nat) : Bool := ((v : Int) == a) && l.any (orig a)
def distL (l : List Adve) (a : Int) : List Int := dists (adjA l) (srcA l a)
theorem distL_def (l : List Adve) (a : Int) : distL l a = dists (adjA l) (srcA l a) := rfl
theorem distL_is (l : List Adve) (a : Int) : IsD (adjA l) (srcA l a) (distL l a) := dists_is _ _
abbrev Al (l : List Adve) : Arg := O (sl false 4 (l.map (Adve.c false)))
def okA (l : List Adve) (z : Nat) : Prop := l.length + sumN Adve.size l ≤ z
theorem ad_len {l : List Adve} {x : Adve} {z : Nat} (hz : l.length + sumN Adve.size l ≤ z) (h : x ∈ l) : x.nbs.length ≤ z ∧ x.prefs.length ≤ z ∧ x.prefs.length + sumN Name.size x.prefs ≤ z := by
  have := sumN_mem Adve.size h
  simp only [Adve.size] at this
  omega
theorem find_split {α : Type} {p : α → Bool} : ∀ (l : List α), (l.any p = false ∧ l.find? p = none) ∨ ∃ d x r, l = d ++ x :: r ∧ d.any p = false ∧ p x = true ∧ l.find? p = some x
  | [] => .inl ⟨rfl, rfl⟩
  | x :: l => by
    cases h : p x with
    | true => exact .inr ⟨[], x, l, rfl, rfl, h, by simp [h]⟩
    | false =>
      rcases find_split (p := p) l with ⟨h1, h2⟩ | ⟨d, y, r, rfl, h2, h3, h4⟩
      · exact .inl ⟨by simp [h, h1], by simp [h, h2]⟩
      · exact .inr ⟨x :: d, y, r, rfl, by simp [h, h2], h3, by simp [h, h4]⟩
theorem find_any {α : Type} {p : α → Bool} (l : List α) : (l.find? p).isSome = l.any p := by
  rcases find_split (p := p) l with ⟨h1, h2⟩ | ⟨d, x, r, rfl, h2, h3, h4⟩
  · rw [h1, h2]; rfl
  · rw [h4]; simp [h3]
theorem find_at {l : List Adve} {k : Int} {d r : List Adve} {x : Adve} (e : l = d ++ x :: r) (h2 : d.any (orig k) = false) (h3 : orig k x = true) : findI (orig k) l 0 = (d.length : Int) := by
  subst e; rw [findI_at h2 h3]; simp
end Go.Proofs.Ytoekfmkbkffciaa
