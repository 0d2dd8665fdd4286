/- Contracts of functions of the program: no statement of the seat is proved here. Each under the conditions that stand in it. -/
import Derived.Test.YtoekfmkbkffciaaGreatDoorM10
import Derived.Test.YtoekfmkbkffciaaGreatDoorM15
set_option linter.all false
namespace Go.Proofs.YtoekfmkbkffciaaGreatDoor
open Go.Vs Go.Proofs
/-! Fetchers that are right -/
theorem bOr_nat : ∀ a : Fin 256, ∀ j : Fin 8, bOr (a.val : Int) (bitL (j.val : Int)) = ((a.val ||| 2 ^ j.val : Nat) : Int) := by decide +kernel
theorem bClr_nat : ∀ a : Fin 256, ∀ j : Fin 8, bClr (a.val : Int) (bitL (j.val : Int)) = ((a.val &&& (255 ^^^ 2 ^ j.val) : Nat) : Int) := by decide +kernel
theorem inSt_nat : ∀ a : Fin 256, ∀ j : Fin 8, inSt (a.val : Int) (j.val : Int) = a.val.testBit j.val := by decide +kernel
theorem msk_bit : ∀ j : Fin 8, ∀ k : Fin 8, (255 ^^^ 2 ^ j.val).testBit k.val = !decide (j.val = k.val) := by decide +kernel
theorem bOr_n {a j : Nat} (ha : a < 256) (hj : j < 8) : bOr (a : Int) (bitL (j : Int)) = ((a ||| 2 ^ j : Nat) : Int) := bOr_nat ⟨a, ha⟩ ⟨j, hj⟩
theorem bClr_n {a j : Nat} (ha : a < 256) (hj : j < 8) : bClr (a : Int) (bitL (j : Int)) = ((a &&& (255 ^^^ 2 ^ j) : Nat) : Int) := bClr_nat ⟨a, ha⟩ ⟨j, hj⟩
theorem inSt_n {a j : Nat} (ha : a < 256) (hj : j < 8) : inSt (a : Int) (j : Int) = a.testBit j := inSt_nat ⟨a, ha⟩ ⟨j, hj⟩
theorem and0 {a b : Nat} (ha : a < 256) : a &&& b = 0 ↔ ∀ k, k < 8 → ¬ (a.testBit k = true ∧ b.testBit k = true) := by
  constructor
  · intro h k _ ⟨h1, h2⟩
    have := congrArg (fun z => z.testBit k) h
    simp [h1, h2] at this
  · intro h
    apply Nat.eq_of_testBit_eq
    intro k
    rw [Nat.testBit_and, Nat.zero_testBit]
    by_cases hk : k < 8
    · have := h k hk
      cases h1 : a.testBit k <;> cases h2 : b.testBit k <;> simp_all
    · have : a < 2 ^ k := Nat.lt_of_lt_of_le ha (Nat.pow_le_pow_right (n := 2) (by omega) (show 8 ≤ k by omega))
      rw [Nat.testBit_lt_two_pow this]; rfl
theorem or_bit {a j k : Nat} : (a ||| 2 ^ j).testBit k = (a.testBit k || decide (j = k)) := by
  rw [Nat.testBit_or, Nat.testBit_two_pow]
theorem clr_bit {a j k : Nat} (hj : j < 8) (hk : k < 8) : (a &&& (255 ^^^ 2 ^ j)).testBit k = (a.testBit k && !decide (j = k)) := by
  rw [Nat.testBit_and]
  exact congrArg (a.testBit k && ·) (msk_bit ⟨j, hj⟩ ⟨k, hk⟩)
/-- What the fields of a right fetcher are. -/
structure Good (p : Mani) (G : Nat → List UInt8) (f : Fetc) (r o : Nat) : Prop where
  hm : f.mani = p
  hv : vMani p = true
  hr : f.received = (r : Int)
  ho : f.outst = (o : Int)
  r1 : r < 2 ^ p.dig.length
  o1 : o < 2 ^ p.dig.length
  ap : ∀ k, k < 8 → ¬ (r.testBit k = true ∧ o.testBit k = true)
  sl : f.segs.length = p.dig.length
  sg : ∀ i s, f.segs[i]? = some s → s.content = if r.testBit i then G i else []
  w1 : 1 ≤ f.window ∧ f.window ≤ 8
  t1 : 1 ≤ f.thresh ∧ f.thresh ≤ 8
  l1 : 0 ≤ f.losses ∧ f.losses ≤ 2
theorem pow256 {m : Nat} (h : m ≤ 8) {a : Nat} (ha : a < 2 ^ m) : a < 256 := Nat.lt_of_lt_of_le ha (Nat.pow_le_pow_right (n := 2) (by omega) h)
theorem okSs_iff (p : Mani) (r : Int) : ∀ (k : Nat) (l : List Segm), okSs p r k l = true ↔ ∀ i s, l[i]? = some s → ok1 p r ((k + i : Nat) : Int) s.content = true
  | k, [] => by simp [okSs]
  | k, x :: l => by
    rw [okSs, Bool.and_eq_true, okSs_iff p r (k + 1) l]
    constructor
    · rintro ⟨h1, h2⟩ i s hi
      cases i with
      | zero => simp at hi; subst hi; exact h1
      | succ i =>
        have := h2 i s (by simpa using hi)
        rw [show k + 1 + i = k + (i + 1) by omega] at this
        exact this
    · intro h
      refine ⟨h 0 x rfl, fun i s hi => ?_⟩
      have := h (i + 1) s (by simpa using hi)
      rw [show k + (i + 1) = k + 1 + i by omega] at this
      exact this
theorem Good.valid {p : Mani} {G : Nat → List UInt8} {f : Fetc} {r o : Nat} (g : Good p G f r o) (hG : ∀ t, t < p.dig.length → vSeg p t (G t) = true ∧ 0 < (G t).length) : vFet f = true := by
  have h8 := vMani_len g.hv
  have hr := pow256 h8 g.r1
  have e : allM f.mani = ((2 ^ p.dig.length : Nat) : Int) - 1 := by rw [g.hm]; rfl
  have hok : okSs f.mani f.received 0 f.segs = true := by
    rw [okSs_iff]
    intro i s hi
    have hil : i < p.dig.length := by rw [← g.sl]; exact (List.getElem?_eq_some_iff.1 hi).1
    have hs := g.sg i s hi
    rw [Nat.zero_add, ok1, g.hr, inSt_n hr (by omega), g.hm, hs]
    cases hb : r.testBit i with
    | true => simpa using (hG i hil).1
    | false => simp
  rw [g.hm, g.hr] at hok
  simp only [vFet, Bool.and_eq_true, decide_eq_true_eq, inR_t, hok, g.hm, g.hv, g.sl, g.hr, g.ho, true_and, and_true]
  have h1 := g.r1
  have h2 := g.o1
  have e2 : allM p = ((2 ^ p.dig.length : Nat) : Int) - 1 := rfl
  have hap : r &&& o = 0 := (and0 hr).2 g.ap
  refine ⟨⟨⟨⟨⟨by omega, by omega⟩, ?_⟩, g.w1⟩, g.t1⟩, g.l1⟩
  simpa using hap
theorem Good.new {p : Mani} (hv : vMani p = true) (G : Nat → List UInt8) : Good p G (newF p) 0 0 := by
  unfold newF
  rw [if_pos hv]
  refine ⟨rfl, hv, rfl, rfl, Nat.pow_pos (by omega), Nat.pow_pos (by omega), by simp, by simp, ?_, by simp, by simp, by simp⟩
  intro i s h
  simp [List.getElem?_replicate] at h
  simp [← h.2]
theorem clr_lt {a j m : Nat} (h : a < 2 ^ m) : a &&& (255 ^^^ 2 ^ j) < 2 ^ m := Nat.lt_of_le_of_lt Nat.and_le_left h
theorem Good.lost {p : Mani} {G : Nat → List UInt8} {f : Fetc} {r o : Nat} (g : Good p G f r o) (i : Nat) (hi : i < 8) : Good p G (lostF f i) r (o &&& (255 ^^^ 2 ^ i)) := by
  have h8 := vMani_len g.hv
  have hr := pow256 h8 g.r1
  have ho := pow256 h8 g.o1
  have hl := g.l1
  have hw := g.w1
  have ht := g.t1
  have ew : IntKind.wrap .i64 (f.losses + 1) = f.losses + 1 := wrapI (by omega) (by omega)
  have hm : 1 ≤ ma 1 (f.window / 2) ∧ ma 1 (f.window / 2) ≤ 8 := by unfold ma; split <;> omega
  have hap : ∀ k, k < 8 → ¬ (r.testBit k = true ∧ (o &&& (255 ^^^ 2 ^ i)).testBit k = true) := by
    intro k hk ⟨h1, h2⟩
    rw [clr_bit hi hk] at h2
    exact g.ap k hk ⟨h1, by simp at h2; exact h2.1⟩
  unfold lostF
  rw [g.ho, inSt_n ho hi, bClr_n ho hi, ew]
  split
  · split
    · exact ⟨g.hm, g.hv, g.hr, rfl, g.r1, clr_lt g.o1, hap, g.sl, g.sg, hm, hm, by simp⟩
    · exact ⟨g.hm, g.hv, g.hr, rfl, g.r1, clr_lt g.o1, hap, g.sl, g.sg, hw, ht, by simp only []; omega⟩
  · rename_i hb
    have e : o &&& (255 ^^^ 2 ^ i) = o := by
      apply Nat.eq_of_testBit_eq
      intro k
      by_cases hk : k < 8
      · rw [clr_bit hi hk]
        by_cases h : i = k
        · subst h; simp at hb; simp [hb]
        · simp [h]
      · have : o < 2 ^ k := Nat.lt_of_lt_of_le ho (Nat.pow_le_pow_right (n := 2) (by omega) (show 8 ≤ k by omega))
        rw [Nat.testBit_and, Nat.testBit_lt_two_pow this]; rfl
    rw [e]; exact g
theorem or_lt {a j m : Nat} (h : a < 2 ^ m) (hj : j < m) : a ||| 2 ^ j < 2 ^ m := Nat.or_lt_two_pow h (Nat.pow_lt_pow_right (by omega) hj)
theorem Good.mrk {p : Mani} {G : Nat → List UInt8} {f : Fetc} {r o : Nat} (g : Good p G f r o) (i : Nat) (h : hasI (nxt f) i = true) : Good p G (mrkF f i) r (o ||| 2 ^ i) ∧ i < p.dig.length ∧ r.testBit i = false ∧ o.testBit i = false := by
  have h8 := vMani_len g.hv
  have hr := pow256 h8 g.r1
  have ho := pow256 h8 g.o1
  obtain ⟨_, h1, h2, h3, h4⟩ := nxt_nn h
  have hi : i < 8 := by omega
  rw [g.hr, inSt_n hr hi] at h3
  rw [g.ho, inSt_n ho hi] at h4
  have him : i < p.dig.length := by rw [← g.hm]; omega
  refine ⟨?_, him, h3, h4⟩
  unfold mrkF
  rw [if_pos (by rw [h, g.ho]; simp), g.ho, bOr_n ho hi]
  refine ⟨g.hm, g.hv, g.hr, rfl, g.r1, or_lt g.o1 him, ?_, g.sl, g.sg, g.w1, g.t1, g.l1⟩
  intro k hk ⟨k1, k2⟩
  rw [or_bit] at k2
  simp at k2
  rcases k2 with k2 | rfl
  · exact g.ap k hk ⟨k1, k2⟩
  · rw [h3] at k1; cases k1
theorem Good.rcv {p : Mani} {G : Nat → List UInt8} {f : Fetc} {r o : Nat} (g : Good p G f r o) (hG : ∀ t, t < p.dig.length → vSeg p t (G t) = true ∧ 0 < (G t).length) (i : Nat) (hi : i < p.dig.length) : Good p G (rcvF f i (G i)) (r ||| 2 ^ i) (if r.testBit i then o else o &&& (255 ^^^ 2 ^ i)) := by
  have h8 := vMani_len g.hv
  have hr := pow256 h8 g.r1
  have ho := pow256 h8 g.o1
  have hl := g.l1
  have hw := g.w1
  have ht := g.t1
  have hi8 : i < 8 := by omega
  have ew : IntKind.wrap .i64 (f.window + 1) = f.window + 1 := wrapI (by omega) (by omega)
  unfold rcvF
  rw [g.hr, inSt_n hr hi8, g.hm, (hG i hi).1, g.ho]
  cases hb : r.testBit i with
  | true =>
    have e : r ||| 2 ^ i = r := by
      apply Nat.eq_of_testBit_eq
      intro k
      rw [or_bit]
      by_cases h : i = k
      · subst h; simp [hb]
      · simp [h]
    simp only [Bool.true_or, if_true, e]
    exact g
  | false =>
    have c1 : decide ((r : Int) < 0) = false := by simp
    have c2 : decide ((o : Int) < 0) = false := by simp
    have c3 : decide ((i : Int) ≥ f.segs.length) = false := by rw [g.sl]; simp; omega
    rw [c1, c2, c3]
    simp only [Bool.not_true, Bool.or_self, Bool.false_eq_true, if_false, bOr_n hr hi8, bClr_n ho hi8, ew]
    refine ⟨rfl, g.hv, rfl, rfl, or_lt g.r1 hi, clr_lt g.o1, ?_, ?_, ?_, ?_, g.t1, by simp⟩
    · intro k hk ⟨k1, k2⟩
      rw [or_bit] at k1
      rw [clr_bit hi8 hk] at k2
      simp at k1 k2
      rcases k1 with k1 | rfl
      · exact g.ap k hk ⟨k1, k2.1⟩
      · exact k2.2 rfl
    · simp only [List.length_set]; exact g.sl
    · intro j s hj
      rw [or_bit]
      simp only [Int.toNat_natCast] at hj
      by_cases h : i = j
      · subst h
        rw [List.getElem?_set_self (by rw [g.sl]; exact hi)] at hj
        cases hj
        simp
      · rw [List.getElem?_set_ne h] at hj
        have := g.sg j s hj
        simp [h, this]
    · simp only []
      split
      · unfold mi; split <;> omega
      · exact hw
end Go.Proofs.YtoekfmkbkffciaaGreatDoor
