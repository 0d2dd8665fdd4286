/- Contracts of functions of the program: no statement of the seat is proved here. Each under the conditions that stand in it. -/
import Derived.Test.YtgcnbfplihjelaaFl
set_option linter.all false
namespace Go.Proofs.Ytgcnbfplihjelaa
open Go.Vs Go.Proofs
def okCh (x : Int) : Bool := inR x 97 122 || inR x 48 57 || decide (x = 45)
def vPart (s : ByteArray) : Bool := inR s.size 1 8 && s.data.toList.all fun c => okCh c.toNat
def vName (n : Name) : Bool := n.parts.all vPart && decide (n.parts.length ≤ 6)
theorem strs_len {l : List ByteArray} {k : Nat} (h : strsSize l ≤ k) : l.length ≤ k := by unfold strsSize at h; omega
theorem strs_mem {l : List ByteArray} {k : Nat} (h : strsSize l ≤ k) {s : ByteArray} (hs : s ∈ l) : s.size ≤ k := by
  have := sumN_mem ByteArray.size hs
  unfold strsSize at h; omega
theorem strs_snoc (l : List ByteArray) (s : ByteArray) : strsSize (l ++ [s]) = strsSize l + 1 + s.size := by
  simp [strsSize, sumN_snoc]; omega
theorem is74 : FI 74 Try.f74 := ⟨⟨Try.f74, Try.func74, rfl, rfl, rfl, rfl⟩, rfl⟩
set_option maxRecDepth 20000 in
set_option maxHeartbeats 16000000 in
theorem s_l4Copy (n : Name) (hz : strsSize n.parts ≤ 1048576000) : FO 74 [A (Name.c false n)] [A (Name.c false n)] (A (Name.c true n)) := by
  refine fok envOk mixed is74 ⟨rfl, rfl, ?_⟩
  have hl := strs_len hz
  (repeat' ((conv => whnf); first | refine Br.tt ?_ | refine Br.ff ?_ | refine Br.pos (by assumption) ?_ | refine Br.neg (by assumption) ?_ | refine Br.bself ?_ | refine Br.dself ?_ | refine Br.iself ?_ | refine Br.mk (fun _ => ?_) (fun _ => ?_) | refine Nm.mk lenC ?_ | refine Nm.mk (wrapI (by (first | omega | (simp [inR_t, inR_f] at *; omega))) (by (first | omega | (simp [inR_t, inR_f] at *; omega)))) ?_ | refine Nm.mk (wrapQ (by (first | omega | (simp [inR_t, inR_f] at *; omega))) (by (first | omega | (simp [inR_t, inR_f] at *; omega))) (by (first | omega | (simp [inR_t, inR_f] at *; omega)))) ?_ | refine Nm.mk (tmodN (by (first | omega | (simp [inR_t, inR_f] at *; omega)))) ?_ | refine Nm.mk (szS _) ?_ | refine Nm.mk (mi_eq _ _) ?_ | refine Nm.mk (ma_eq _ _) ?_ | refine Rq.mk (by first | (simp [dOwnL, dOwn] <;> fail) | (first | omega | (simp [inR_t, inR_f] at *; omega))) ?_ | refine And.intro (orderFast (by kernel_rfl)) ?_ | refine And.intro (by kernel_rfl) ?_ ))
  refine ⟨WkR.of (.sl1 ?_ .nil), .refl _⟩
  simp
theorem is105 : FI 105 Try.f105 := ⟨⟨Try.f105, Try.func105, rfl, rfl, rfl, rfl⟩, rfl⟩
set_option maxRecDepth 20000 in
set_option maxHeartbeats 16000000 in
theorem i_copyName (n : Name) (hz : n.parts.length ≤ 1048576) : FO 105 [A (Name.c false n)] [A (Name.c false n)] (A (Name.c true n)) := by
  refine fok envOk mixed is105 ⟨rfl, rfl, ?_⟩
  (repeat' ((conv => whnf); first | refine Br.tt ?_ | refine Br.ff ?_ | refine Br.pos (by assumption) ?_ | refine Br.neg (by assumption) ?_ | refine Br.bself ?_ | refine Br.dself ?_ | refine Br.iself ?_ | refine Br.mk (fun _ => ?_) (fun _ => ?_) | refine Nm.mk lenC ?_ | refine Nm.mk (wrapI (by (first | omega | (simp [inR_t, inR_f] at *; omega))) (by (first | omega | (simp [inR_t, inR_f] at *; omega)))) ?_ | refine Nm.mk (wrapQ (by (first | omega | (simp [inR_t, inR_f] at *; omega))) (by (first | omega | (simp [inR_t, inR_f] at *; omega))) (by (first | omega | (simp [inR_t, inR_f] at *; omega)))) ?_ | refine Nm.mk (tmodN (by (first | omega | (simp [inR_t, inR_f] at *; omega)))) ?_ | refine Nm.mk (szS _) ?_ | refine Nm.mk (mi_eq _ _) ?_ | refine Nm.mk (ma_eq _ _) ?_ | refine Rq.mk (by first | (simp [dOwnL, dOwn] <;> fail) | (first | omega | (simp [inR_t, inR_f] at *; omega))) ?_ | refine And.intro (orderFast (by kernel_rfl)) ?_ | refine And.intro (by kernel_rfl) ?_ | refine Cl.mk (Clone_string n.parts hz) ?_ | refine Cl.pre (by simp only [shcLL_ints, shcLL_byts, shcLL_strs, Mani.shcs, Name.shcs, Segm.shcs]; rfl) ?_))
  exact ⟨WkR.refl _, .refl _⟩
/-- A name and a bool. -/
abbrev NB (n : Name) (b : Bool) : Arg := (.tup [(true, 1), (false, 1)], [cSs true n.parts, cB b])
def apName (n : Name) (s : ByteArray) : Name := if vName ⟨n.parts ++ [s]⟩ then ⟨n.parts ++ [s]⟩ else n
def apZero (n : Name) (s : ByteArray) : Name := if vName ⟨n.parts ++ [s]⟩ then ⟨n.parts ++ [s]⟩ else ⟨[]⟩
def plan : ByteArray := ⟨#[112, 108, 97, 110]⟩
theorem apZero_size {n : Name} {s : ByteArray} (h : strsSize n.parts ≤ 1048576) (hs : s.size ≤ 1048576) : Name.size (apZero n s) ≤ 1048576000 := by
  have := strs_snoc n.parts s
  unfold apZero
  split
  · simp only [Name.size]; omega
  · simp [Name.size, strsSize, sumN]
end Go.Proofs.Ytgcnbfplihjelaa
