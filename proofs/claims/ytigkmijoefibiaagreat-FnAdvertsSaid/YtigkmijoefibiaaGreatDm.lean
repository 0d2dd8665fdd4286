/- Contracts of functions of the program: no statement of the seat is proved here. Each under the conditions that stand in it. -/
import Derived.Test.YtigkmijoefibiaaGreatDl
import Derived.Test.YtigkmijoefibiaaGreatM3
set_option linter.all false
namespace Go.Proofs.YtigkmijoefibiaaGreat
open Go.Vs Go.Proofs
/-! slices.DeleteFunc: its contract -/
section
open Go.Lib Go.Shelf Go.RowKit
def keptC {α : Type} (p : α → Bool) : List α → List Value → List Value
  | [], _ => []
  | x :: l, c => (if p x = true then [] else c.take 3) ++ keptC p l (c.drop 3)
theorem keptC_rep {α : Type} {C : α → List AV} (hC : ∀ x, (C x).length = 3) (p : α → Bool) {w : World} {β : Nat → Option Nat} {S : Nat → Prop} : ∀ {l : List α} {c : List Value} {fi : List Nat}, Rep w β S (l.map C).flatten (c.take (l.length * 3)) fi →
    ∃ fi', fi'.Sublist fi ∧ Rep w β S ((l.filter fun x => !p x).map C).flatten (keptC p l c) fi'
  | [], c, fi, h => by
    have h' : Rep w β S [] (c.take 0) fi := h
    rw [List.take_zero] at h'
    cases h'
    exact ⟨[], List.Sublist.refl _, .nil⟩
  | x :: l, c, fi, h => by
    have h' : Rep w β S (C x ++ (l.map C).flatten) (c.take ((l.length + 1) * 3)) fi := h
    rw [show (l.length + 1) * 3 = 3 + l.length * 3 by omega, List.take_add] at h'
    obtain ⟨v1, v2, f1, f2, e1, rfl, h1, h2⟩ := h'.split
    have hl1 : v1.length = 3 := by rw [← h1.length, hC]
    have hl3 : (c.take 3).length = 3 := by
      have h3 := congrArg List.length e1
      have h4 := h2.length
      have h5 : (l.map C).flatten.length = l.length * 3 := by
        have : ∀ m : List α, (m.map C).flatten.length = m.length * 3 := by
          intro m
          induction m with
          | nil => rfl
          | cons y m ih => simp [hC, ih]; omega
        exact this l
      simp only [List.length_append, List.length_take, List.length_drop] at h3 ⊢
      omega
    obtain ⟨rfl, rfl⟩ := List.append_inj e1 (hl3.trans hl1.symm)
    obtain ⟨fi', g1, g2⟩ := keptC_rep hC p h2
    cases hp : p x with
    | true =>
      refine ⟨fi', g1.trans (List.sublist_append_right _ _), ?_⟩
      simp only [keptC, hp, if_true, List.nil_append]
      rw [List.filter_cons, if_neg (by simp [hp])]
      exact g2
    | false =>
      refine ⟨f1 ++ fi', List.Sublist.append (List.Sublist.refl _) g1, ?_⟩
      simp only [keptC, hp, Bool.false_eq_true, if_false]
      rw [List.filter_cons, if_pos (by simp [hp])]
      exact h1.append g2
theorem keptC_kL {α : Type} (p : α → Bool) (kp : Nat → Bool) (c : List Value) : ∀ (l : List α) (a : Nat), (∀ t x, l[t]? = some x → kp (a + t) = !p x) → keptC p l (c.drop (a * 3)) = ((List.range' a l.length).filter kp).flatMap fun t => (c.drop (t * 3)).take 3
  | [], a, _ => rfl
  | x :: l, a, h => by
    have h0 := h 0 x rfl
    rw [Nat.add_zero] at h0
    have ih := keptC_kL p kp c l (a + 1) (fun t y ht => by
      have := h (t + 1) y (by simpa using ht)
      rw [← this]; congr 1; omega)
    rw [keptC, List.drop_drop, show a * 3 + 3 = (a + 1) * 3 by omega, ih, List.length_cons, List.range'_succ, List.filter_cons]
    cases hp : p x with
    | true => rw [h0, hp]; simp
    | false => rw [h0, hp]; simp
theorem kL_keptC {α : Type} (p : α → Bool) (kp : Nat → Bool) (c : List Value) (l : List α) (h : ∀ t x, l[t]? = some x → kp t = !p x) : kL kp c l.length = keptC p l c ∧ (kI kp l.length).length = (l.filter fun x => !p x).length := by
  have h1 := keptC_kL p kp c l 0 (fun t x ht => by rw [Nat.zero_add]; exact h t x ht)
  simp only [Nat.zero_mul, List.drop_zero] at h1
  refine ⟨by rw [h1, kL, kI, List.range_eq_range'], ?_⟩
  have : ∀ (l : List α) (a : Nat), (∀ t x, l[t]? = some x → kp (a + t) = !p x) → ((List.range' a l.length).filter kp).length = (l.filter fun x => !p x).length := by
    intro l
    induction l with
    | nil => intro a _; rfl
    | cons x l ih =>
      intro a ha
      have h0 := ha 0 x rfl
      rw [Nat.add_zero] at h0
      have := ih (a + 1) (fun t y ht => by
        have := ha (t + 1) y (by simpa using ht)
        rw [← this]; congr 1; omega)
      rw [List.length_cons, List.range'_succ, List.filter_cons, List.filter_cons, h0]
      cases p x <;> simp [this]
  rw [kI, List.range_eq_range']
  exact this l 0 (fun t x ht => by rw [Nat.zero_add]; exact h t x ht)
theorem flat_at {α : Type} {C : α → List AV} (hC : ∀ x, (C x).length = 3) {w : World} {β : Nat → Option Nat} {S : Nat → Prop} : ∀ {l : List α} {c : List Value} {fi : List Nat} {j : Nat} {x : α}, Rep w β S (l.map C).flatten c fi → l[j]? = some x →
    ∃ f, (∀ b ∈ f, b ∈ fi) ∧ Rep w β S (C x) ((c.drop (j * 3)).take 3) f
  | [], c, fi, j, x, _, hj => by simp at hj
  | y :: l, c, fi, 0, x, h, hj => by
    simp at hj; subst hj
    obtain ⟨v1, v2, f1, f2, rfl, rfl, h1, h2⟩ := (show Rep w β S (C y ++ (l.map C).flatten) c fi from h).split
    have hl1 : v1.length = 3 := by rw [← h1.length, hC]
    refine ⟨f1, fun b hb => by simp [hb], ?_⟩
    rw [Nat.zero_mul, List.drop_zero, ← hl1, List.take_left]
    exact h1
  | y :: l, c, fi, j + 1, x, h, hj => by
    obtain ⟨v1, v2, f1, f2, rfl, rfl, h1, h2⟩ := (show Rep w β S (C y ++ (l.map C).flatten) c fi from h).split
    have hl1 : v1.length = 3 := by rw [← h1.length, hC]
    obtain ⟨f, g1, g2⟩ := flat_at hC h2 (show l[j]? = some x by simpa using hj)
    refine ⟨f, fun b hb => by simp [g1 b hb], ?_⟩
    rw [show (j + 1) * 3 = v1.length + j * 3 by omega, List.drop_append, List.drop_of_length_le (by omega)]
    simpa using g2
end
theorem owd_inv {w : World} {S : Nat → Prop} {els : List (List AV)} {v : Value} {f : List Nat} (h : Rep w (fun _ => none) S [.sl true .unk 3 els] [v] f) (he : els ≠ []) :
    ∃ g n cap cur T fi, v = .slice (some ⟨g, 0, none⟩) n cap ∧ f = g :: fi ∧ w.heap[g]? = some (.cells cur T (0, 0)) ∧ els.length = n ∧ n ≤ cap ∧ cap ≤ maxLen ∧ cap * 3 ≤ cur.size ∧ Rep w (fun _ => none) S els.flatten (cur.toList.take (n * 3)) fi := by
  cases h with
  | nils _ t => exact absurd rfl he
  | @owd _ _ nf sz g n cap els cur T _ _ fi _ hnf hgc hn hsz hpos hcap hmax hcur hinr t =>
    cases t
    exact ⟨g, n, cap, cur, T, fi, rfl, by simp, hgc, hn, hcap, hmax, hcur, hinr⟩
theorem findS {α : Type} {p : α → Bool} : ∀ (l : List α), l.any p = false ∨ ∃ d x r, l = d ++ x :: r ∧ d.any p = false ∧ p x = true
  | [] => .inl rfl
  | x :: l => by
    cases h : p x with
    | true => exact .inr ⟨[], x, l, rfl, rfl, h⟩
    | false =>
      rcases findS (p := p) l with h1 | ⟨d, y, r, rfl, h2, h3⟩
      · exact .inl (by simp [h, h1])
      · exact .inr ⟨x :: d, y, r, rfl, by simp [h, h2], h3⟩
end Go.Proofs.YtigkmijoefibiaaGreat
