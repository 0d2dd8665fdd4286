/- Contracts of functions of the program: no statement of the seat is proved here. Each under the conditions that stand in it. -/
import Derived.Test.YtoekfmkbkffciaaFl
set_option linter.all false
namespace Go.Proofs.Ytoekfmkbkffciaa
open Go.Vs Go.Proofs
def okCh (x : Int) : Bool := inR x 97 122 || inR x 48 57 || decide (x = 45)
def vPart (s : ByteArray) : Bool := inR s.size 1 8 && s.data.toList.all fun c => okCh c.toNat
def vName (n : Name) : Bool := n.parts.all vPart && decide (n.parts.length ≤ 6)
theorem strs_len {l : List ByteArray} {k : Nat} (h : strsSize l ≤ k) : l.length ≤ k := by unfold strsSize at h; omega
theorem strs_mem {l : List ByteArray} {k : Nat} (h : strsSize l ≤ k) {s : ByteArray} (hs : s ∈ l) : s.size ≤ k := by
  have := sumN_mem ByteArray.size hs
  unfold strsSize at h; omega
theorem strs_snoc (l : List ByteArray) (s : ByteArray) : strsSize (l ++ [s]) = strsSize l + 1 + s.size := by
  simp [strsSize, sumN_snoc]; omega
theorem is37 : FI 37 Try.f37 := ⟨⟨Try.f37, Try.func37, rfl, rfl, rfl, rfl⟩, rfl⟩
set_option maxRecDepth 20000 in
set_option maxHeartbeats 16000000 in
theorem s_ValidPart (s : ByteArray) (hs : s.size ≤ 1099511627776) : FO 37 [S s] [S s] (B (vPart s)) := by
  refine fok envOk mixed is37 ⟨rfl, rfl, ?_⟩
  (repeat' ((conv => whnf); first | refine stp ?_ | refine Br.mk (fun _ => ?_) (fun _ => ?_) | refine Cl.mk (s_l1In _ _ _) ?_ | refine Cl.pre (by simp only [shcLL_ints, shcLL_byts, shcLL_strs, Mani.shcs, Name.shcs, Segm.shcs]; rfl) ?_))
  · all_goals (try (refine Vs.Fin.mk (WkR.eq ?_) (.refl _); first | rfl | (simp_all [vPart]; done) | (simp_all [vPart]; omega) | grind | grind [vPart]))
  refine Lp.mk [.sl 0, .sl 3] (fun m σ => ∃ d r, s.data.toList = d ++ r ∧ m = r.length ∧ d.all (fun c => okCh c.toNat) = true ∧ σ = [Sa 0 (S s), Sa 3 (I d.length)]) (s.data.toList.length) _ (WkS.weak _ _) ⟨[], s.data.toList, rfl, rfl, rfl, (by first | rfl | (simp only [zlen, zsum, Nat.zero_mul, Int.add_zero, Int.sub_zero, List.nil_append, markG]; rfl))⟩ ?_
  rintro m τ ⟨d, r, hd, rfl, hok, rfl⟩
  have hz0 : s.data.size = d.length + r.length := by have := congrArg List.length hd; simpa using this
  have hz : s.size = d.length + r.length := hz0
  clear hz0
  refine Nm.mk (szS _) ?_
  cases r with
  | nil =>
    refine Br.neg (by simp at *; omega) ?_
    (repeat' ((conv => whnf); first | refine stp ?_ | refine Br.mk (fun _ => ?_) (fun _ => ?_) ))
    all_goals (try (refine Vs.Fin.mk (WkR.eq ?_) (.refl _); first | rfl | (simp_all [vPart]; done) | (simp_all [vPart]; omega) | grind | grind [vPart]))
  | cons c r =>
    simp at hz
    refine Br.pos (by simp; omega) ?_
    refine Rq.mk ⟨by omega, by omega⟩ ?_
    refine Nm.mk (getT hd rfl) ?_
    have hc := c.toNat_lt
    (repeat' ((conv => whnf); first | refine stp ?_ | refine Br.mk (fun _ => ?_) (fun _ => ?_) | refine Cl.mk (s_l1In _ _ _) ?_ | refine Cl.pre (by simp only [shcLL_ints, shcLL_byts, shcLL_strs, Mani.shcs, Name.shcs, Segm.shcs]; rfl) ?_))
    all_goals first
      | (refine Nx.intro r.length (by simp) _ (WkS.weak _ _) ⟨d ++ [c], r, by simp [hd], rfl, by simp_all [okCh], ?_⟩; rw [len1]; rfl)
      | (refine Vs.Fin.mk (WkR.eq ?_) (.refl _); simp_all [vPart, okCh])
theorem is41 : FI 41 Try.f41 := ⟨⟨Try.f41, Try.func41, rfl, rfl, rfl, rfl⟩, rfl⟩
set_option maxRecDepth 20000 in
set_option maxHeartbeats 16000000 in
theorem i_ValidPart (s : ByteArray) (hs : s.size ≤ 1099511627776) : FO 41 [S s] [S s] (B (vPart s)) := by
  refine fok envOk mixed is41 ⟨rfl, rfl, ?_⟩
  refine Nm.mk (szS _) ?_
  refine Lp.mk [.sl 0, .sl 6, .sl 7] (fun m σ => ∃ d r, s.data.toList = d ++ r ∧ m = r.length ∧ d.all (fun c => okCh c.toNat) = true ∧ σ = [Sa 0 (S s), Sa 6 (I s.size), Sa 7 (I d.length)]) (s.data.toList.length) _ (WkS.weak _ _) ⟨[], s.data.toList, rfl, rfl, rfl, (by first | rfl | (simp only [zlen, zsum, Nat.zero_mul, Int.add_zero, Int.sub_zero, List.nil_append, markG]; rfl))⟩ ?_
  rintro m τ ⟨d, r, hd, rfl, hok, rfl⟩
  have hz0 : s.data.size = d.length + r.length := by have := congrArg List.length hd; simpa using this
  have hz : s.size = d.length + r.length := hz0
  clear hz0
  cases r with
  | nil =>
    refine Br.neg (by simp at *; omega) ?_
    (repeat' ((conv => whnf); first | refine stp ?_ | refine Br.mk (fun _ => ?_) (fun _ => ?_) | refine Cl.mk (i_InRange _ _ _) ?_ | refine Cl.pre (by simp only [shcLL_ints, shcLL_byts, shcLL_strs, Mani.shcs, Name.shcs, Segm.shcs]; rfl) ?_))
    all_goals (try (refine Vs.Fin.mk (WkR.eq ?_) (.refl _); first | rfl | (simp_all [vPart]; done) | (simp_all [vPart]; omega) | grind | grind [vPart]))
  | cons c r =>
    simp at hz
    refine Br.pos (by simp; omega) ?_
    refine Rq.mk ⟨by omega, by omega⟩ ?_
    refine Nm.mk (getT hd rfl) ?_
    have hc := c.toNat_lt
    (repeat' ((conv => whnf); first | refine stp ?_ | refine Br.mk (fun _ => ?_) (fun _ => ?_) ))
    all_goals first
      | (refine Nx.intro r.length (by simp) _ (WkS.weak _ _) ⟨d ++ [c], r, by simp [hd], rfl, by simp_all [okCh, inR], ?_⟩; rw [len1]; rfl)
      | (refine Vs.Fin.mk (WkR.eq ?_) (.refl _); first | (simp_all [vPart, okCh, inR]; done) | (simp_all [vPart, okCh, inR]; omega))
theorem is27 : FI 27 Try.f27 := ⟨⟨Try.f27, Try.func27, rfl, rfl, rfl, rfl⟩, rfl⟩
set_option maxRecDepth 20000 in
set_option maxHeartbeats 16000000 in
theorem s_ValidName (n : Name) (hz : strsSize n.parts ≤ 1099511627776) : FO 27 [A (Name.c false n)] [A (Name.c false n)] (B (vName n)) := by
  refine fok envOk mixed is27 ⟨rfl, rfl, ?_⟩
  have hl := strs_len hz
  refine Lp.mk [.bx 1, .sl 1, .sl 3] (fun m σ => ∃ d r, n.parts = d ++ r ∧ m = r.length ∧ d.all vPart = true ∧ σ = [Bx 1 ((Name.c false n)), Pt 1, Sa 3 (I d.length)]) (n.parts.length) _ (WkS.weak _ _) ⟨[], n.parts, rfl, rfl, rfl, (by first | rfl | (simp only [zlen, zsum, Nat.zero_mul, Int.add_zero, Int.sub_zero, List.nil_append, markG]; rfl))⟩ ?_
  rintro m τ ⟨d, r, hd, rfl, hok, rfl⟩
  have hy : n.parts.length = d.length + r.length := by rw [hd]; simp
  refine Nm.mk lenC ?_
  cases r with
  | nil =>
    refine Br.neg (by simp at *; omega) ?_
    (repeat' ((conv => whnf); first | refine stp ?_ | refine Br.mk (fun _ => ?_) (fun _ => ?_) ))
    all_goals (try (refine Vs.Fin.mk (WkR.eq ?_) (.refl _); first | rfl | (simp_all [vName]; done) | (simp_all [vName]; omega) | grind | grind [vName]))
  | cons x r =>
    simp at hy
    refine Br.pos (by simp; omega) ?_
    refine Rq.mk ⟨by omega, by simp; omega⟩ ?_
    refine El.mk (getH hd rfl) ?_
    refine Cl.mk (s_ValidPart x (strs_mem hz (by simp [hd]))) ?_
    (repeat' ((conv => whnf); first | refine stp ?_ | refine Br.mk (fun _ => ?_) (fun _ => ?_) ))
    all_goals first
      | (refine Nx.intro r.length (by simp) _ (WkS.weak _ _) ⟨d ++ [x], r, by simp [hd], rfl, by simp_all, ?_⟩; rw [len1]; rfl)
      | (refine Vs.Fin.mk (WkR.eq ?_) (.refl _); simp_all [vName])
theorem is40 : FI 40 Try.f40 := ⟨⟨Try.f40, Try.func40, rfl, rfl, rfl, rfl⟩, rfl⟩
set_option maxRecDepth 20000 in
set_option maxHeartbeats 16000000 in
theorem i_ValidName_1 (s : ByteArray) (hs : s.size ≤ 1099511627776) : FO 40 [S s] [S s] (B (!vPart s)) := by
  refine fok envOk mixed is40 ⟨rfl, rfl, ?_⟩
  (repeat' ((conv => whnf); first | refine stp ?_ | refine Br.mk (fun _ => ?_) (fun _ => ?_) | refine Cl.mk (i_ValidPart s hs) ?_ | refine Cl.pre (by simp only [shcLL_ints, shcLL_byts, shcLL_strs, Mani.shcs, Name.shcs, Segm.shcs]; rfl) ?_))
  all_goals (try (refine Vs.Fin.mk (WkR.eq ?_) (.refl _); first | rfl | (simp_all []; done) | (simp_all []; omega) | grind | grind []))
theorem is31 : FI 31 Try.f31 := ⟨⟨Try.f31, Try.func31, rfl, rfl, rfl, rfl⟩, rfl⟩
set_option maxRecDepth 20000 in
set_option maxHeartbeats 16000000 in
theorem i_ValidName (n : Name) (hz : strsSize n.parts ≤ 1099511627776) : FO 31 [A (Name.c false n)] [A (Name.c false n)] (B (vName n)) := by
  refine fok envOk mixed is31 ⟨rfl, rfl, ?_⟩
  have hl := strs_len hz
  (repeat' ((conv => whnf); first | refine stp ?_ | refine Br.mk (fun _ => ?_) (fun _ => ?_) | refine Cl.mk (ContainsFunc_string (by omega) (fun x hx => i_ValidName_1 x (strs_mem hz hx))) ?_ | refine Cl.pre (by simp only [shcLL_ints, shcLL_byts, shcLL_strs, Mani.shcs, Name.shcs, Segm.shcs]; rfl) ?_))
  all_goals (refine Vs.Fin.mk (WkR.eq ?_) (.refl _); simp_all [vName, List.all_eq_not_any_not]; try omega)
/-- A name and a bool. -/
abbrev NB (n : Name) (b : Bool) : Arg := (.tup [(true, 1), (false, 1)], [cSs true n.parts, cB b])
def apName (n : Name) (s : ByteArray) : Name := if vName ⟨n.parts ++ [s]⟩ then ⟨n.parts ++ [s]⟩ else n
def apZero (n : Name) (s : ByteArray) : Name := if vName ⟨n.parts ++ [s]⟩ then ⟨n.parts ++ [s]⟩ else ⟨[]⟩
def plan : ByteArray := ⟨#[112, 108, 97, 110]⟩
theorem apZero_size {n : Name} {s : ByteArray} (h : strsSize n.parts ≤ 1048576) (hs : s.size ≤ 1048576) : Name.size (apZero n s) ≤ 1048576000 := by
  have := strs_snoc n.parts s
  unfold apZero
  split
  · simp only [Name.size]; omega
  · simp [Name.size, strsSize, sumN]
end Go.Proofs.Ytoekfmkbkffciaa
