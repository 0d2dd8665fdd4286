/- Contracts of functions of the program: no statement of the seat is proved here. Each under the conditions that stand in it. -/
import Derived.Test.YtoekfmkbkffciaaGreatDoorFl
set_option linter.all false
namespace Go.Proofs.YtoekfmkbkffciaaGreatDoor
open Go.Vs Go.Proofs
def okCh (x : Int) : Bool := inR x 97 122 || inR x 48 57 || decide (x = 45)
def vPart (s : ByteArray) : Bool := inR s.size 1 8 && s.data.toList.all fun c => okCh c.toNat
def vName (n : Name) : Bool := n.parts.all vPart && decide (n.parts.length ≤ 6)
theorem strs_len {l : List ByteArray} {k : Nat} (h : strsSize l ≤ k) : l.length ≤ k := by unfold strsSize at h; omega
theorem strs_mem {l : List ByteArray} {k : Nat} (h : strsSize l ≤ k) {s : ByteArray} (hs : s ∈ l) : s.size ≤ k := by
  have := sumN_mem ByteArray.size hs
  unfold strsSize at h; omega
theorem strs_snoc (l : List ByteArray) (s : ByteArray) : strsSize (l ++ [s]) = strsSize l + 1 + s.size := by
  simp [strsSize, sumN_snoc]; omega
theorem is107 : FI 107 Tryz.f107 := ⟨⟨Tryz.f107, Tryz.func107, rfl, rfl, rfl, rfl⟩, rfl⟩
set_option maxRecDepth 20000 in
set_option maxHeartbeats 16000000 in
theorem s_ValidPart (s : ByteArray) (hs : s.size ≤ 1099511627776) : FO 107 [S s] [S s] (B (vPart s)) := by
  refine fok envOk mixed is107 ⟨rfl, rfl, ?_⟩
  (repeat' ((conv => whnf); first | refine stp ?_ | refine Br.mk (fun _ => ?_) (fun _ => ?_) | refine Cl.mk (s_l1In _ _ _) ?_ | refine Cl.pre (by simp only [shcLL_ints, shcLL_byts, shcLL_strs, Mani.shcs, Name.shcs, Segm.shcs]; rfl) ?_))
  · all_goals (try (refine Vs.Fin.mk (WkR.eq ?_) (.refl _); first | rfl | (simp_all [vPart]; done) | (simp_all [vPart]; omega) | grind | grind [vPart]))
  refine Lp.mk [.sl 0, .sl 3] (fun m σ => ∃ d r, s.data.toList = d ++ r ∧ m = r.length ∧ d.all (fun c => okCh c.toNat) = true ∧ σ = [Sa 0 (S s), Sa 3 (I d.length)]) (s.data.toList.length) _ (WkS.weak _ _) ⟨[], s.data.toList, rfl, rfl, rfl, (by first | rfl | (simp only [zlen, zsum, Nat.zero_mul, Int.add_zero, Int.sub_zero, List.nil_append, markG]; rfl))⟩ ?_
  rintro m τ ⟨d, r, hd, rfl, hok, rfl⟩
  have hz0 : s.data.size = d.length + r.length := by have := congrArg List.length hd; simpa using this
  have hz : s.size = d.length + r.length := hz0
  clear hz0
  refine Nm.mk (szS _) ?_
  cases r with
  | nil =>
    refine Br.neg (by simp at *; omega) ?_
    (repeat' ((conv => whnf); first | refine stp ?_ | refine Br.mk (fun _ => ?_) (fun _ => ?_) ))
    all_goals (try (refine Vs.Fin.mk (WkR.eq ?_) (.refl _); first | rfl | (simp_all [vPart]; done) | (simp_all [vPart]; omega) | grind | grind [vPart]))
  | cons c r =>
    simp at hz
    refine Br.pos (by simp; omega) ?_
    refine Rq.mk ⟨by omega, by omega⟩ ?_
    refine Nm.mk (getT hd rfl) ?_
    have hc := c.toNat_lt
    (repeat' ((conv => whnf); first | refine stp ?_ | refine Br.mk (fun _ => ?_) (fun _ => ?_) | refine Cl.mk (s_l1In _ _ _) ?_ | refine Cl.pre (by simp only [shcLL_ints, shcLL_byts, shcLL_strs, Mani.shcs, Name.shcs, Segm.shcs]; rfl) ?_))
    all_goals first
      | (refine Nx.intro r.length (by simp) _ (WkS.weak _ _) ⟨d ++ [c], r, by simp [hd], rfl, by simp_all [okCh], ?_⟩; rw [len1]; rfl)
      | (refine Vs.Fin.mk (WkR.eq ?_) (.refl _); simp_all [vPart, okCh])
theorem is100 : FI 100 Tryz.f100 := ⟨⟨Tryz.f100, Tryz.func100, rfl, rfl, rfl, rfl⟩, rfl⟩
set_option maxRecDepth 20000 in
set_option maxHeartbeats 16000000 in
theorem i_ValidPart (s : ByteArray) (hs : s.size ≤ 1099511627776) : FO 100 [S s] [S s] (B (vPart s)) := by
  refine fok envOk mixed is100 ⟨rfl, rfl, ?_⟩
  refine Nm.mk (szS _) ?_
  refine Lp.mk [.sl 0, .sl 6, .sl 7] (fun m σ => ∃ d r, s.data.toList = d ++ r ∧ m = r.length ∧ d.all (fun c => okCh c.toNat) = true ∧ σ = [Sa 0 (S s), Sa 6 (I s.size), Sa 7 (I d.length)]) (s.data.toList.length) _ (WkS.weak _ _) ⟨[], s.data.toList, rfl, rfl, rfl, (by first | rfl | (simp only [zlen, zsum, Nat.zero_mul, Int.add_zero, Int.sub_zero, List.nil_append, markG]; rfl))⟩ ?_
  rintro m τ ⟨d, r, hd, rfl, hok, rfl⟩
  have hz0 : s.data.size = d.length + r.length := by have := congrArg List.length hd; simpa using this
  have hz : s.size = d.length + r.length := hz0
  clear hz0
  cases r with
  | nil =>
    refine Br.neg (by simp at *; omega) ?_
    (repeat' ((conv => whnf); first | refine stp ?_ | refine Br.mk (fun _ => ?_) (fun _ => ?_) | refine Cl.mk (i_InRange _ _ _) ?_ | refine Cl.pre (by simp only [shcLL_ints, shcLL_byts, shcLL_strs, Mani.shcs, Name.shcs, Segm.shcs]; rfl) ?_))
    all_goals (try (refine Vs.Fin.mk (WkR.eq ?_) (.refl _); first | rfl | (simp_all [vPart]; done) | (simp_all [vPart]; omega) | grind | grind [vPart]))
  | cons c r =>
    simp at hz
    refine Br.pos (by simp; omega) ?_
    refine Rq.mk ⟨by omega, by omega⟩ ?_
    refine Nm.mk (getT hd rfl) ?_
    have hc := c.toNat_lt
    (repeat' ((conv => whnf); first | refine stp ?_ | refine Br.mk (fun _ => ?_) (fun _ => ?_) ))
    all_goals first
      | (refine Nx.intro r.length (by simp) _ (WkS.weak _ _) ⟨d ++ [c], r, by simp [hd], rfl, by simp_all [okCh, inR], ?_⟩; rw [len1]; rfl)
      | (refine Vs.Fin.mk (WkR.eq ?_) (.refl _); first | (simp_all [vPart, okCh, inR]; done) | (simp_all [vPart, okCh, inR]; omega))
theorem is75 : FI 75 Tryz.f75 := ⟨⟨Tryz.f75, Tryz.func75, rfl, rfl, rfl, rfl⟩, rfl⟩
set_option maxRecDepth 20000 in
set_option maxHeartbeats 16000000 in
theorem s_ValidName (n : Name) (hz : strsSize n.parts ≤ 1099511627776) : FO 75 [A (Name.c false n)] [A (Name.c false n)] (B (vName n)) := by
  refine fok envOk mixed is75 ⟨rfl, rfl, ?_⟩
  have hl := strs_len hz
  refine Lp.mk [.bx 1, .sl 1, .sl 3] (fun m σ => ∃ d r, n.parts = d ++ r ∧ m = r.length ∧ d.all vPart = true ∧ σ = [Bx 1 ((Name.c false n)), Pt 1, Sa 3 (I d.length)]) (n.parts.length) _ (WkS.weak _ _) ⟨[], n.parts, rfl, rfl, rfl, (by first | rfl | (simp only [zlen, zsum, Nat.zero_mul, Int.add_zero, Int.sub_zero, List.nil_append, markG]; rfl))⟩ ?_
  rintro m τ ⟨d, r, hd, rfl, hok, rfl⟩
  have hy : n.parts.length = d.length + r.length := by rw [hd]; simp
  refine Nm.mk lenC ?_
  cases r with
  | nil =>
    refine Br.neg (by simp at *; omega) ?_
    (repeat' ((conv => whnf); first | refine stp ?_ | refine Br.mk (fun _ => ?_) (fun _ => ?_) ))
    all_goals (try (refine Vs.Fin.mk (WkR.eq ?_) (.refl _); first | rfl | (simp_all [vName]; done) | (simp_all [vName]; omega) | grind | grind [vName]))
  | cons x r =>
    simp at hy
    refine Br.pos (by simp; omega) ?_
    refine Rq.mk ⟨by omega, by simp; omega⟩ ?_
    refine El.mk (getH hd rfl) ?_
    refine Cl.mk (s_ValidPart x (strs_mem hz (by simp [hd]))) ?_
    (repeat' ((conv => whnf); first | refine stp ?_ | refine Br.mk (fun _ => ?_) (fun _ => ?_) ))
    all_goals first
      | (refine Nx.intro r.length (by simp) _ (WkS.weak _ _) ⟨d ++ [x], r, by simp [hd], rfl, by simp_all, ?_⟩; rw [len1]; rfl)
      | (refine Vs.Fin.mk (WkR.eq ?_) (.refl _); simp_all [vName])
theorem is99 : FI 99 Tryz.f99 := ⟨⟨Tryz.f99, Tryz.func99, rfl, rfl, rfl, rfl⟩, rfl⟩
set_option maxRecDepth 20000 in
set_option maxHeartbeats 16000000 in
theorem i_ValidName_1 (s : ByteArray) (hs : s.size ≤ 1099511627776) : FO 99 [S s] [S s] (B (!vPart s)) := by
  refine fok envOk mixed is99 ⟨rfl, rfl, ?_⟩
  (repeat' ((conv => whnf); first | refine stp ?_ | refine Br.mk (fun _ => ?_) (fun _ => ?_) | refine Cl.mk (i_ValidPart s hs) ?_ | refine Cl.pre (by simp only [shcLL_ints, shcLL_byts, shcLL_strs, Mani.shcs, Name.shcs, Segm.shcs]; rfl) ?_))
  all_goals (try (refine Vs.Fin.mk (WkR.eq ?_) (.refl _); first | rfl | (simp_all []; done) | (simp_all []; omega) | grind | grind []))
theorem is63 : FI 63 Tryz.f63 := ⟨⟨Tryz.f63, Tryz.func63, rfl, rfl, rfl, rfl⟩, rfl⟩
set_option maxRecDepth 20000 in
set_option maxHeartbeats 16000000 in
theorem i_ValidName (n : Name) (hz : strsSize n.parts ≤ 1099511627776) : FO 63 [A (Name.c false n)] [A (Name.c false n)] (B (vName n)) := by
  refine fok envOk mixed is63 ⟨rfl, rfl, ?_⟩
  have hl := strs_len hz
  (repeat' ((conv => whnf); first | refine stp ?_ | refine Br.mk (fun _ => ?_) (fun _ => ?_) | refine Cl.mk (ContainsFunc_string (by omega) (fun x hx => i_ValidName_1 x (strs_mem hz hx))) ?_ | refine Cl.pre (by simp only [shcLL_ints, shcLL_byts, shcLL_strs, Mani.shcs, Name.shcs, Segm.shcs]; rfl) ?_))
  all_goals (refine Vs.Fin.mk (WkR.eq ?_) (.refl _); simp_all [vName, List.all_eq_not_any_not]; try omega)
theorem is76 : FI 76 Tryz.f76 := ⟨⟨Tryz.f76, Tryz.func76, rfl, rfl, rfl, rfl⟩, rfl⟩
set_option maxRecDepth 20000 in
set_option maxHeartbeats 16000000 in
theorem s_l4Copy (n : Name) (hz : strsSize n.parts ≤ 1048576000) : FO 76 [A (Name.c false n)] [A (Name.c false n)] (A (Name.c true n)) := by
  refine fok envOk mixed is76 ⟨rfl, rfl, ?_⟩
  have hl := strs_len hz
  (repeat' ((conv => whnf); first | refine stp ?_ | refine Br.mk (fun _ => ?_) (fun _ => ?_) ))
  refine ⟨WkR.of (.sl1 ?_ .nil), .refl _⟩
  simp
theorem is60 : FI 60 Tryz.f60 := ⟨⟨Tryz.f60, Tryz.func60, rfl, rfl, rfl, rfl⟩, rfl⟩
set_option maxRecDepth 20000 in
set_option maxHeartbeats 16000000 in
theorem i_copyName (n : Name) (hz : n.parts.length ≤ 1048576) : FO 60 [A (Name.c false n)] [A (Name.c false n)] (A (Name.c true n)) := by
  refine fok envOk mixed is60 ⟨rfl, rfl, ?_⟩
  (repeat' ((conv => whnf); first | refine stp ?_ | refine Br.mk (fun _ => ?_) (fun _ => ?_) | refine Cl.mk (Clone_string n.parts hz) ?_ | refine Cl.pre (by simp only [shcLL_ints, shcLL_byts, shcLL_strs, Mani.shcs, Name.shcs, Segm.shcs]; rfl) ?_))
  exact ⟨WkR.refl _, .refl _⟩
/-- A name and a bool. -/
abbrev NB (n : Name) (b : Bool) : Arg := (.tup [(true, 1), (false, 1)], [cSs true n.parts, cB b])
def apName (n : Name) (s : ByteArray) : Name := if vName ⟨n.parts ++ [s]⟩ then ⟨n.parts ++ [s]⟩ else n
theorem is49 : FI 49 Tryz.f49 := ⟨⟨Tryz.f49, Tryz.func49, rfl, rfl, rfl, rfl⟩, rfl⟩
set_option maxRecDepth 20000 in
set_option maxHeartbeats 16000000 in
theorem s_AppendPart (n : Name) (s : ByteArray) (hz : strsSize n.parts ≤ 1048576) (hs : s.size ≤ 1048576) : FO 49 [A (Name.c false n), S s] [A (Name.c false n), S s] (NB (apName n s) (vName ⟨n.parts ++ [s]⟩)) := by
  refine fok envOk mixed is49 ⟨rfl, rfl, ?_⟩
  have hl := strs_len hz
  have hz2 := strs_snoc n.parts s
  (repeat' ((conv => whnf); first | refine stp ?_ ))
  refine Cl.eq (s_ValidName ⟨n.parts ++ [s]⟩ (by rw [hz2]; omega)) (by simp [shcLL_append, shcLL, shcL, shc, capArgs]) ?_
  (repeat' ((conv => whnf); first | refine stp ?_ | refine Br.mk (fun _ => ?_) (fun _ => ?_) | refine Cl.mk (s_l4Copy n (by omega)) ?_ | refine Cl.pre (by simp only [shcLL_ints, shcLL_byts, shcLL_strs, Mani.shcs, Name.shcs, Segm.shcs]; rfl) ?_))
  all_goals (refine ⟨?_, .refl _⟩; simp_all [apName]; first | exact WkR.of (.sl1 (by simp) (.keep .nil)) | exact WkR.refl _)
theorem is81 : FI 81 Tryz.f81 := ⟨⟨Tryz.f81, Tryz.func81, rfl, rfl, rfl, rfl⟩, rfl⟩
set_option maxRecDepth 20000 in
set_option maxHeartbeats 16000000 in
theorem i_AppendPart (n : Name) (s : ByteArray) (hz : strsSize n.parts ≤ 1048576) (hs : s.size ≤ 1048576) : FO 81 [A (Name.c false n), S s] [A (Name.c false n), S s] (NB (apName n s) (vName ⟨n.parts ++ [s]⟩)) := by
  refine fok envOk mixed is81 ⟨rfl, rfl, ?_⟩
  have hl := strs_len hz
  have hz2 := strs_snoc n.parts s
  (repeat' ((conv => whnf); first | refine stp ?_ | refine Cl.mk (Clone_string n.parts (by omega)) ?_ | refine Cl.pre (by simp only [shcLL_ints, shcLL_byts, shcLL_strs, Mani.shcs, Name.shcs, Segm.shcs]; rfl) ?_))
  refine Cl.eq (i_ValidName ⟨n.parts ++ [s]⟩ (by rw [hz2]; omega)) (by simp [shcLL_append, shcLL, shcL, shc, capArgs]) ?_
  (repeat' ((conv => whnf); first | refine stp ?_ | refine Br.mk (fun _ => ?_) (fun _ => ?_) | refine Cl.mk (i_copyName n (by omega)) ?_ | refine Cl.pre (by simp only [shcLL_ints, shcLL_byts, shcLL_strs, Mani.shcs, Name.shcs, Segm.shcs]; rfl) ?_))
  all_goals (refine ⟨?_, .refl _⟩; simp_all [apName]; first | exact WkR.of (.sl1 (by simp) (.keep .nil)) | exact WkR.refl _)
def apZero (n : Name) (s : ByteArray) : Name := if vName ⟨n.parts ++ [s]⟩ then ⟨n.parts ++ [s]⟩ else ⟨[]⟩
theorem is53 : FI 53 Tryz.f53 := ⟨⟨Tryz.f53, Tryz.func53, rfl, rfl, rfl, rfl⟩, rfl⟩
set_option maxRecDepth 20000 in
set_option maxHeartbeats 16000000 in
theorem i_appended (n : Name) (s : ByteArray) (hz : strsSize n.parts ≤ 1048576) (hs : s.size ≤ 1048576) : FO 53 [A (Name.c false n), S s] [A (Name.c false n), S s] (NB (apZero n s) (vName ⟨n.parts ++ [s]⟩)) := by
  refine fok envOk mixed is53 ⟨rfl, rfl, ?_⟩
  (repeat' ((conv => whnf); first | refine stp ?_ | refine Br.mk (fun _ => ?_) (fun _ => ?_) | refine Cl.mk (i_AppendPart n s hz hs) ?_ | refine Cl.pre (by simp only [shcLL_ints, shcLL_byts, shcLL_strs, Mani.shcs, Name.shcs, Segm.shcs]; rfl) ?_))
  all_goals (refine ⟨?_, .refl _⟩; simp_all [apName, apZero]; first | exact WkR.refl _ | exact WkR.of (.nils (.keep .nil)) | exact WkR.of (.sl1 (by simp) (.keep .nil)))
def plan : ByteArray := ⟨#[112, 108, 97, 110]⟩
theorem is26 : FI 26 Tryz.f26 := ⟨⟨Tryz.f26, Tryz.func26, rfl, rfl, rfl, rfl⟩, rfl⟩
set_option maxRecDepth 20000 in
set_option maxHeartbeats 16000000 in
theorem i_ManifestName (n : Name) (hz : strsSize n.parts ≤ 1048576) : FO 26 [A (Name.c false n)] [A (Name.c false n)] (NB (apZero n plan) (vName ⟨n.parts ++ [plan]⟩)) := by
  refine fok envOk mixed is26 ⟨rfl, rfl, ?_⟩
  (repeat' ((conv => whnf); first | refine stp ?_ | refine Br.mk (fun _ => ?_) (fun _ => ?_) | refine Cl.mk (i_appended n plan hz (by decide)) ?_ | refine Cl.pre (by simp only [shcLL_ints, shcLL_byts, shcLL_strs, Mani.shcs, Name.shcs, Segm.shcs]; rfl) ?_))
  all_goals exact ⟨WkR.refl _, .refl _⟩
theorem apZero_size {n : Name} {s : ByteArray} (h : strsSize n.parts ≤ 1048576) (hs : s.size ≤ 1048576) : Name.size (apZero n s) ≤ 1048576000 := by
  have := strs_snoc n.parts s
  unfold apZero
  split
  · simp only [Name.size]; omega
  · simp [Name.size, strsSize, sumN]
end Go.Proofs.YtoekfmkbkffciaaGreatDoor
