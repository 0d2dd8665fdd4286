/- Contracts of functions of the program: no statement of the seat is proved here. Each under the conditions that stand in it. -/
import Derived.Test.YtoekfmkbkffciaaGreatDoorKb
import Derived.Test.YtoekfmkbkffciaaGreatDoorFx
import Derived.Test.YtoekfmkbkffciaaGreatDoorFw
import Derived.Test.YtoekfmkbkffciaaGreatDoorFs
set_option linter.all false
namespace Go.Proofs.YtoekfmkbkffciaaGreatDoor
open Go.Vs Go.Proofs
abbrev FYs (f : Fetc) (b : List UInt8) : Arg := (.tup [(true, 9), (false, 1)], Fetc.c false f ++ [cYs false b])
theorem sh_FY {fn : Nat} {args outs : List Arg} {x : Fetc} {b : List UInt8} (h : FO fn args outs (FY x b)) : FO fn args outs (FYs x b) := by
  have := sh_res h
  rwa [show shcL (Fetc.c true x ++ [cYs true b]) = Fetc.c false x ++ [cYs false b] by simp [Fetc.c, shcL, Vs.shc, shcLL_ints, shcLL_byts, Segm.shcs]] at this
/-! A fetcher that has lost everything, and goes on -/
theorem sh_Y {f : Nat} {args outs : List Arg} {x : List UInt8} (h : FO f args outs (Ys true x)) : FO f args outs (Ys false x) := by
  have := sh_res h
  rwa [show shcL [cYs true x] = [cYs false x] by simp [shcL, Vs.shc, shcLL_byts]] at this
def mis (r : Nat) : Nat → Nat
  | 0 => 0
  | n + 1 => mis r n + if r.testBit n then 0 else 1
theorem mis_le (r : Nat) : ∀ n, mis r n ≤ n
  | 0 => Nat.le_refl _
  | n + 1 => by have := mis_le r n; unfold mis; split <;> omega
theorem mis_zero {r : Nat} : ∀ {n}, mis r n = 0 → ∀ k, k < n → r.testBit k = true
  | 0, _, k, hk => by omega
  | n + 1, h, k, hk => by
    unfold mis at h
    split at h
    · rename_i h1
      by_cases hkn : k = n
      · subst hkn; exact h1
      · exact mis_zero (n := n) (by omega) k (by omega)
    · omega
theorem mis_full {r : Nat} : ∀ {n}, (∀ k, k < n → r.testBit k = true) → mis r n = 0
  | 0, _ => rfl
  | n + 1, h => by
    unfold mis
    rw [mis_full (fun k hk => h k (by omega)), if_pos (h n (by omega))]
theorem mis_out {r i : Nat} : ∀ {n}, n ≤ i → mis (r ||| 2 ^ i) n = mis r n
  | 0, _ => rfl
  | n + 1, h => by
    unfold mis
    rw [mis_out (by omega), or_bit]
    have : decide (i = n) = false := by simp; omega
    rw [this, Bool.or_false]
theorem mis_set {r i : Nat} (hb : r.testBit i = false) : ∀ {n}, i < n → mis (r ||| 2 ^ i) n + 1 = mis r n
  | 0, h => by omega
  | n + 1, h => by
    unfold mis
    rw [or_bit]
    by_cases hin : i = n
    · subst hin
      rw [mis_out (Nat.le_refl _), hb]
      simp
    · have := mis_set hb (n := n) (by omega)
      have e : decide (i = n) = false := by simp; omega
      rw [e, Bool.or_false]
      split <;> omega
theorem full_eq {r n : Nat} (hr : r < 2 ^ n) (h : ∀ k, k < n → r.testBit k = true) : r = 2 ^ n - 1 := by
  apply Nat.eq_of_testBit_eq
  intro k
  rw [Nat.testBit_two_pow_sub_one]
  by_cases hk : k < n
  · rw [h k hk]; simp [hk]
  · have : r < 2 ^ k := Nat.lt_of_lt_of_le hr (Nat.pow_le_pow_right (n := 2) (by omega) (by omega))
    rw [Nat.testBit_lt_two_pow this]; simp [hk]
theorem zero_eq {o : Nat} (h : ∀ k, o.testBit k = false) : o = 0 := Nat.eq_of_testBit_eq fun k => by rw [h k, Nat.zero_testBit]
theorem bOr_nn {a b : Nat} (ha : a < 256) (hb : b < 256) : bOr (a : Int) (b : Int) = ((a ||| b : Nat) : Int) := by
  have h3 : ∀ n : Nat, n < 256 → (BitVec.ofInt 64 (n : Int)).toNat = n := fun n hn => by rw [BitVec.toNat_ofInt]; omega
  have h4 : (BitVec.ofInt 64 (a : Int) ||| BitVec.ofInt 64 (b : Int)).toNat = a ||| b := by rw [BitVec.toNat_or, h3 a ha, h3 b hb]
  have h5 : a ||| b < 2 ^ 8 := Nat.or_lt_two_pow (by omega) (by omega)
  show IntKind.wrap .i64 ((BitVec.ofInt 64 (a : Int) ||| BitVec.ofInt 64 (b : Int)).toNat : Int) = _
  rw [h4]
  exact wrapI (by omega) (by omega)
theorem Good.complete {p : Mani} {G : Nat → List UInt8} {f : Fetc} {r o : Nat} (g : Good p G f r o) (hG : ∀ t, t < p.dig.length → vSeg p t (G t) = true ∧ 0 < (G t).length) (h : ∀ k, k < p.dig.length → r.testBit k = true) : (vFet f && decide (f.received = allM f.mani)) = true := by
  have e := full_eq g.r1 h
  rw [g.valid hG, g.hr, g.hm]
  have h1 : 0 < 2 ^ p.dig.length := Nat.pow_pos (by omega)
  have e3 : ((r : Nat) : Int) = ((2 ^ p.dig.length : Nat) : Int) - 1 := by
    obtain ⟨z, hz⟩ : ∃ z, 2 ^ p.dig.length = z := ⟨_, rfl⟩
    rw [hz] at e h1 ⊢; omega
  rw [Bool.true_and]
  exact decide_eq_true e3
theorem room_le {f : Fetc} (h : 1 ≤ f.window) : roomF f ≤ f.window := by unfold roomF ma; split <;> omega
theorem nxt_room {f : Fetc} (h : 1 ≤ f.window) : ((nxt f).length : Int) ≤ f.window := by
  have h1 := room_le h
  unfold nxt nxtT
  simp only [List.length_map, List.length_take]
  omega
theorem Good.nxt_nil {p : Mani} {G : Nat → List UInt8} {f : Fetc} {r o : Nat} (g : Good p G f r o) (ho : o = 0) (h : nxt f = []) : ∀ k, k < p.dig.length → r.testBit k = true := by
  subst ho
  have h8 := vMani_len g.hv
  have hr := pow256 h8 g.r1
  intro k hk
  have hroom : 1 ≤ roomF f := by
    have h1 := g.w1
    have h2 : cntS f.outst 8 = 0 := by rw [g.ho]; decide
    unfold roomF ma
    rw [h2]
    split <;> omega
  cases hb : r.testBit k with
  | true => rfl
  | false =>
    exfalso
    have hmem : k ∈ fSegs f.received f.outst (min 8 f.mani.dig.length) := by
      unfold fSegs
      rw [List.mem_filter]
      refine ⟨List.mem_range.2 (by rw [g.hm]; omega), ?_⟩
      rw [g.hr, g.ho, inSt_n hr (by omega), hb, inSt_n (by decide) (by omega), Nat.zero_testBit]
      rfl
    have hz : (fSegs f.received f.outst (min 8 f.mani.dig.length)).take (roomF f).toNat = [] := by
      simpa [nxt, nxtT] using h
    rw [List.take_eq_nil_iff] at hz
    rcases hz with hz | hz
    · omega
    · rw [hz] at hmem; cases hmem
theorem Good.nxt_full {p : Mani} {G : Nat → List UInt8} {f : Fetc} {r o : Nat} (g : Good p G f r o) (h : ∀ k, k < p.dig.length → r.testBit k = true) : nxt f = [] := by
  have h8 := vMani_len g.hv
  have hr := pow256 h8 g.r1
  unfold nxt nxtT
  have : fSegs f.received f.outst (min 8 f.mani.dig.length) = [] := by
    unfold fSegs
    rw [List.filter_eq_nil_iff]
    intro k hk
    have hk := List.mem_range.1 hk
    rw [g.hm] at hk
    rw [g.hr, inSt_n hr (by omega), h k (by omega)]
    simp
  rw [this, List.take_nil]; rfl
theorem outst0 {o i : Nat} (hi : i ≤ 8) (ho : o < 256) : (o &&& (255 ^^^ 2 ^ i)) = o &&& (255 ^^^ 2 ^ i) := rfl
theorem clr_below {o o' i : Nat} (hi : i < 8) (e : o' = o &&& (255 ^^^ 2 ^ i)) (h : ∀ k, k < i → o.testBit k = false) : ∀ k, k < i + 1 → o'.testBit k = false := by
  intro k hk
  rw [e, clr_bit hi (by omega)]
  by_cases hik : i = k
  · simp [hik]
  · rw [h k (by omega)]; rfl
theorem all_clear {o : Nat} (ho : o < 256) (h : ∀ k, k < 8 → o.testBit k = false) : o = 0 := by
  apply zero_eq
  intro k
  by_cases hk : k < 8
  · exact h k hk
  · have : o < 2 ^ k := Nat.lt_of_lt_of_le (show o < 2 ^ 8 by omega) (Nat.pow_le_pow_right (n := 2) (by omega) (by omega))
    exact Nat.testBit_lt_two_pow this
theorem sub_or {r r' : Nat} (h : ∀ k, r.testBit k = true → r'.testBit k = true) : r ||| r' = r' := by
  apply Nat.eq_of_testBit_eq
  intro k
  rw [Nat.testBit_or]
  cases hb : r.testBit k with
  | false => rfl
  | true => rw [h k hb]; rfl
theorem own_clr {i : Nat} (hi : i < 8) : (0 ||| 2 ^ i) &&& (255 ^^^ 2 ^ i) = 0 := by
  have : ∀ j : Fin 8, (0 ||| 2 ^ j.val) &&& (255 ^^^ 2 ^ j.val) = 0 := by decide
  exact this ⟨i, hi⟩
theorem Good.next {p : Mani} {G : Nat → List UInt8} {f : Fetc} {r : Nat} (g : Good p G f r 0) (hG : ∀ t, t < p.dig.length → vSeg p t (G t) = true ∧ 0 < (G t).length) {i : Int} {l : List Int} (h : nxt f = i :: l) : ∃ k : Nat, i = (k : Int) ∧ k < p.dig.length ∧ r.testBit k = false ∧ Good p G (mrkF f i) r (0 ||| 2 ^ k) ∧ Good p G (rcvF (mrkF f i) i (G k)) (r ||| 2 ^ k) 0 := by
  have h8 := vMani_len g.hv
  have hh := nxt_head h
  obtain ⟨h1, -⟩ := nxt_nn hh
  obtain ⟨k, rfl⟩ : ∃ k : Nat, i = k := ⟨i.toNat, by omega⟩
  obtain ⟨g1, hk, hb, -⟩ := g.mrk k hh
  have g2 := g1.rcv hG k hk
  rw [hb] at g2
  simp only [Bool.false_eq_true, if_false] at g2
  rw [own_clr (by omega)] at g2
  exact ⟨k, rfl, hk, hb, g1, g2⟩
set_option maxHeartbeats 32000000
end Go.Proofs.YtoekfmkbkffciaaGreatDoor
