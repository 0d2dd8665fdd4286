/- Contracts of functions of the program: no statement of the seat is proved here. Each under the conditions that stand in it. -/
import Derived.Test.YtoekfmkbkffciaaFa
set_option linter.all false
namespace Go.Proofs.Ytoekfmkbkffciaa
open Go.Vs Go.Proofs
def sumN {α : Type} (f : α → Nat) : List α → Nat
  | [] => 0
  | x :: l => f x + sumN f l
theorem sumN_append {α : Type} (f : α → Nat) (l m : List α) : sumN f (l ++ m) = sumN f l + sumN f m := by
  induction l with
  | nil => simp [sumN]
  | cons x l ih => simp [sumN, ih]; omega
theorem sumN_snoc {α : Type} (f : α → Nat) (l : List α) (x : α) : sumN f (l ++ [x]) = sumN f l + f x := by
  rw [sumN_append]; rfl
theorem sumN_one {α : Type} (l : List α) : sumN (fun _ => 1) l = l.length := by
  induction l with
  | nil => rfl
  | cons x l ih => simp [sumN, ih]; omega
theorem sumN_mem {α : Type} (f : α → Nat) {l : List α} {x : α} (h : x ∈ l) : f x ≤ sumN f l := by
  induction l with
  | nil => simp at h
  | cons y l ih =>
    simp only [sumN]
    rcases List.mem_cons.1 h with rfl | h
    · omega
    · have := ih h; omega
theorem zlen {α : Type} : ((([] : List α).length : Nat) : Int) = 0 := rfl
theorem zsum {α : Type} {f : α → Nat} : ((sumN f [] : Nat) : Int) = 0 := rfl
/-- Each cell marked with the next number. -/
def markG {α : Type} (mk : α → Int → α) (cnt : α → Nat) : List α → Int → List α
  | [], _ => []
  | x :: l, k => mk x k :: markG mk cnt l (k + cnt x)
theorem markG_length {α : Type} (mk : α → Int → α) (cnt : α → Nat) (l : List α) (k : Int) : (markG mk cnt l k).length = l.length := by
  induction l generalizing k with
  | nil => rfl
  | cons x l ih => simp [markG, ih]
theorem markG_append {α : Type} (mk : α → Int → α) (cnt : α → Nat) (d r : List α) (k : Int) : markG mk cnt (d ++ r) k = markG mk cnt d k ++ markG mk cnt r (k + sumN cnt d) := by
  induction d generalizing k with
  | nil => simp [markG, sumN]
  | cons x d ih => simp [markG, sumN, ih]; congr 1; omega
theorem markG_snoc {α : Type} (mk : α → Int → α) (cnt : α → Nat) (d : List α) (x : α) (k : Int) : markG mk cnt (d ++ [x]) k = markG mk cnt d k ++ [mk x (k + sumN cnt d)] := by
  rw [markG_append]; rfl
def mkI (_ : Int) (k : Int) : Int := k
def mkY (_ : UInt8) (k : Int) : UInt8 := UInt8.ofNat (k % 256).toNat
theorem mkY_nat (x : UInt8) (k : Int) : ((mkY x k).toNat : Int) = IntKind.wrap .u8 k := by
  have h : IntKind.wrap .u8 k = k % 256 := by
    unfold IntKind.wrap
    simp [IntKind.signed, IntKind.bits]
  rw [h, mkY, UInt8.toNat_ofNat']
  omega
def one1 {α : Type} (_ : α) : Nat := 1
theorem sumN_one1 {α : Type} (l : List α) : sumN one1 l = l.length := sumN_one l
theorem setB {α : Type} {c : α → List AV} {a r : List α} {x : α} {i : Nat} {z : List AV} (hi : i = a.length) : ((a ++ x :: r).map c).set i z = a.map c ++ z :: r.map c := by
  subst hi; simp [List.set_append]
theorem getM {α : Type} {c : α → List AV} {l r : List α} {x : α} {mk : α → Int → α} {cnt : α → Nat} {k i : Int} (hi : i = (l.length : Nat)) : ((markG mk cnt (l ++ x :: r) k).map c)[i.toNat]? = some (c (mk x (k + sumN cnt l))) := by
  subst hi
  rw [markG_append]
  simp only [markG]
  exact getA (by simp [markG_length])
/-- The text of a number. -/
def mtext : Nat → ByteArray
  | 0 => ByteArray.empty
  | n + 1 => mtext ((n + 1) / 10) ++ ⟨#[UInt8.ofNat (48 + (n + 1) % 10)]⟩
def mtextS (k : Int) : ByteArray := if k ≤ 0 then ⟨#[109, 48]⟩ else ⟨#[109]⟩ ++ mtext k.toNat
def mkS (_ : ByteArray) (k : Int) : ByteArray := mtextS k
theorem mtext_step {n : Nat} (h : 0 < n) : mtext n = mtext (n / 10) ++ ⟨#[UInt8.ofNat (48 + n % 10)]⟩ := by
  cases n with
  | zero => omega
  | succ n => rw [mtext]
theorem mtext_d (m : Nat) : IntKind.wrap .u8 (48 + (m : Int) % 10) = ((48 + m % 10 : Nat) : Int) := by
  unfold IntKind.wrap
  simp [IntKind.signed, IntKind.bits]
  omega
def strsSize (l : List ByteArray) : Nat := l.length + sumN ByteArray.size l
def strsFit (l : List ByteArray) : Prop := l.length ≤ 9223372036854775807 ∧ ∀ s ∈ l, s.size ≤ 9223372036854775807
theorem mtext_one (m : Nat) : (⟨(bytesOf [[.v (.int .u8 ((48 + m % 10 : Nat) : Int))]]).toArray⟩ : ByteArray) = ⟨#[UInt8.ofNat (48 + m % 10)]⟩ := rfl
theorem i64max : IntKind.i64.max = 9223372036854775807 := by decide
theorem szA_lt {n : Nat} {x : Int} (h : x < n) : szA n x = -1 := if_neg (by omega)
theorem szA_le {n : Nat} {x : Int} (h : (n : Int) ≤ x) : szA n x = x - n := if_pos h
theorem eqS {x y : ByteArray} (h : (!(x.toList == y.toList)) = false) : x = y := by
  have h2 : x.toList = y.toList := by simpa using h
  rw [Go.ByteArray.toList_eq, Go.ByteArray.toList_eq] at h2
  exact Go.WideShapes.bytes_inj h2

theorem is19 : FI 19 Try.f19 := ⟨⟨Try.f19, Try.func19, rfl, rfl, rfl, rfl⟩, rfl⟩
set_option maxRecDepth 20000 in
set_option maxHeartbeats 16000000 in
theorem eqIntS (a b : List Int) (ha : a.length ≤ 1099511627776) : FO 19 [Is false a, Is false b] [Is false a, Is false b] (B (decide (a = b))) := by
  refine fok envOk mixed is19 ⟨rfl, rfl, ?_⟩
  refine Nm.mk lenC ?_
  refine Nm.mk lenC ?_
  (conv => whnf)
  refine Br.mk (fun h => ?_) (fun h => ?_)
  · have hne : a ≠ b := by rintro rfl; simp at h
    (repeat' ((conv => whnf); first | refine stp ?_ | refine Br.mk (fun _ => ?_) (fun _ => ?_) ))
    all_goals (try (refine Vs.Fin.mk (WkR.eq ?_) (.refl _); first | rfl | (simp_all [hne]; done) | (simp_all [hne]; omega) | grind | grind [hne]))
  have hl : a.length = b.length := by simp at h; omega
  refine Lp.mk [.sl 0, .sl 1, .sl 5] (fun m σ => ∃ d r e s, a = d ++ r ∧ b = e ++ s ∧ m = r.length ∧ d = e ∧ σ = [Sa 0 (Is false a), Sa 1 (Is false b), Sa 5 (I d.length)]) a.length _ (WkS.weak _ _) ⟨[], a, [], b, rfl, rfl, rfl, rfl, rfl⟩ ?_
  rintro m τ ⟨d, r, e, s, rfl, rfl, rfl, rfl, rfl⟩
  refine Nm.mk lenC ?_
  cases r with
  | nil =>
    obtain rfl : s = [] := by cases s <;> simp_all
    refine Br.neg (by simp) ?_
    (repeat' ((conv => whnf); first | refine stp ?_ | refine Br.mk (fun _ => ?_) (fun _ => ?_) ))
    all_goals (try (refine Vs.Fin.mk (WkR.eq ?_) (.refl _); first | rfl | (simp_all []; done) | (simp_all []; omega) | grind | grind []))
  | cons x r =>
    obtain ⟨y, s, rfl⟩ : ∃ y s', s = y :: s' := by cases s <;> simp_all
    refine Br.pos (by simp; omega) ?_
    refine Rq.mk ⟨by omega, by simp; omega⟩ ?_
    refine El.mk (getA rfl) ?_
    refine Rq.mk ⟨by omega, by simp; omega⟩ ?_
    refine El.mk (getA rfl) ?_
    (conv => whnf)
    refine And.intro (by kernel_rfl) ?_
    (conv => whnf)
    refine Br.mk (fun h => ?_) (fun h => ?_)
    · have hne : x ≠ y := by rintro rfl; simp at h
      (repeat' ((conv => whnf); first | refine stp ?_ | refine Br.mk (fun _ => ?_) (fun _ => ?_) ))
      all_goals (try (refine Vs.Fin.mk (WkR.eq ?_) (.refl _); first | rfl | (simp_all [hne]; done) | (simp_all [hne]; omega) | grind | grind [hne]))
    · obtain rfl : x = y := by simpa using h
      refine Nm.mk (wrapI (by omega) (by simp at ha; omega)) ?_
      refine Nx.intro r.length (by simp) _ (WkS.weak _ _) ⟨d ++ [x], r, d ++ [x], s, by simp, by simp, rfl, rfl, ?_⟩
      rw [len1]; rfl
theorem is21 : FI 21 Try.f21 := ⟨⟨Try.f21, Try.func21, rfl, rfl, rfl, rfl⟩, rfl⟩
set_option maxRecDepth 20000 in
set_option maxHeartbeats 16000000 in
theorem markIntS (l : List Int) (k : Int) (hk : 0 ≤ k) (hb : k + l.length ≤ 4611686018427387904) : FO 21 [Is true l, I k] [Is true (markG mkI one1 l k), I k] (I (k + l.length)) := by
  refine fok envOk mixed is21 ⟨rfl, rfl, ?_⟩
  refine Lp.mk [.sl 0, .ex 0, .sl 1, .sl 5] (fun m σ => ∃ d r, l = d ++ r ∧ m = r.length ∧ σ = [Rf 0 0, Ex 0 (Is true (markG mkI one1 d k ++ r)), Sa 1 (I (k + d.length)), Sa 5 (I d.length)]) (l.length) _ (WkS.weak _ _) ⟨[], l, rfl, rfl, (by first | rfl | (simp only [zlen, zsum, Nat.zero_mul, Int.add_zero, Int.sub_zero, List.nil_append, markG]; rfl))⟩ ?_
  rintro m τ ⟨d, r, rfl, rfl, rfl⟩
  refine Nm.mk lenC ?_
  cases r with
  | nil =>
    refine Br.neg (by simp [markG_length]) ?_
    (repeat' ((conv => whnf); first | refine stp ?_ | refine Br.mk (fun _ => ?_) (fun _ => ?_) ))
    simp only [List.append_nil]
    exact ⟨WkR.refl _, .refl _⟩
  | cons x r =>
    simp at hb
    refine Br.pos (by simp [markG_length]; omega) ?_
    refine Rq.mk ⟨by omega, by simp [markG_length]; omega⟩ ?_
    refine El.mk (getA (by simp [markG_length])) ?_
    refine Nm.mk (wrapI (by omega) (by omega)) ?_
    refine Nm.mk (wrapI (by omega) (by omega)) ?_
    refine Nx.intro r.length (by simp) _ (WkS.weak _ _) ⟨d ++ [x], r, by simp, rfl, ?_⟩
    (repeat' (first | exact rfl | refine consE ?_ ?_ | refine entE ?_ | refine vI ?_ | refine vS ?_ | refine vT ?_ | refine vB ?_))
    · rw [setB (by simp [markG_length])]
      simp [markG_snoc, sumN_one1, mkI, spliceAV]
    · simp; omega
    · simp
theorem is23 : FI 23 Try.f23 := ⟨⟨Try.f23, Try.func23, rfl, rfl, rfl, rfl⟩, rfl⟩
set_option maxRecDepth 20000 in
set_option maxHeartbeats 16000000 in
theorem heldIntS (l : List Int) (k : Int) (hk : 0 ≤ k) (hb : k + l.length ≤ 4611686018427387904) : FO 23 [Is false (markG mkI one1 l k), I k] [Is false (markG mkI one1 l k), I k] (I (k + l.length)) := by
  refine fok envOk mixed is23 ⟨rfl, rfl, ?_⟩
  refine Lp.mk [.sl 0, .sl 1, .sl 5] (fun m σ => ∃ d r, l = d ++ r ∧ m = r.length ∧ σ = [Sa 0 (Is false (markG mkI one1 l k)), Sa 1 (I (k + d.length)), Sa 5 (I d.length)]) (l.length) _ (WkS.weak _ _) ⟨[], l, rfl, rfl, (by first | rfl | (simp only [zlen, zsum, Nat.zero_mul, Int.add_zero, Int.sub_zero, List.nil_append, markG]; rfl))⟩ ?_
  rintro m τ ⟨d, r, rfl, rfl, rfl⟩
  refine Nm.mk lenC ?_
  cases r with
  | nil =>
    refine Br.neg (by simp [markG_length]) ?_
    (repeat' ((conv => whnf); first | refine stp ?_ | refine Br.mk (fun _ => ?_) (fun _ => ?_) ))
    simp only [List.append_nil]
    exact ⟨WkR.refl _, .refl _⟩
  | cons x r =>
    simp at hb
    refine Br.pos (by simp [markG_length]; omega) ?_
    refine Rq.mk ⟨by omega, by simp [markG_length]; omega⟩ ?_
    refine El.mk (getM (l := d) (mk := mkI) (cnt := one1) (x := x) rfl) ?_
    (conv => whnf)
    refine Br.neg (by simp [mkI, sumN_one1]) ?_
    refine Nm.mk (wrapI (by omega) (by omega)) ?_
    refine Nm.mk (wrapI (by omega) (by omega)) ?_
    refine Nx.intro r.length (by simp) _ (WkS.weak _ _) ⟨d ++ [x], r, by simp, rfl, ?_⟩
    (repeat' (first | exact rfl | refine consE ?_ ?_ | refine entE ?_ | refine vI ?_ | refine vS ?_ | refine vT ?_ | refine vB ?_))
    · simp; omega
    · simp
theorem is5 : FI 5 Try.f5 := ⟨⟨Try.f5, Try.func5, rfl, rfl, rfl, rfl⟩, rfl⟩
set_option maxRecDepth 20000 in
set_option maxHeartbeats 16000000 in
theorem toByteS (l : List UInt8) (hl : l.length ≤ 1048576) : FO 5 [Ys false l] [Ys false l] (Ys true l) := by
  refine fok envOk mixed is5 ⟨rfl, rfl, ?_⟩
  refine Nm.mk lenC ?_
  refine Rq.mk ⟨rfl, by omega, by omega, by simp; omega⟩ ?_
  refine Lp.mk [.sl 0, .sl 3, .sl 4] (fun m σ => ∃ d r, l = d ++ r ∧ m = r.length ∧ σ = [Sa 0 (Ys false l), Sa 3 (O (.sl true .non 1 (byts d ++ List.replicate m [.v (.int .u8 0)]))), Sa 4 (I d.length)]) (l.length) _ (WkS.weak _ _) ⟨[], l, rfl, rfl, (by first | rfl | (simp only [zlen, zsum, Nat.zero_mul, Int.add_zero, Int.sub_zero, List.nil_append, markG]; rfl))⟩ ?_
  rintro m τ ⟨d, r, rfl, rfl, rfl⟩
  refine Nm.mk lenC ?_
  cases r with
  | nil =>
    refine Br.neg (by simp) ?_
    refine ⟨rfl, WkR.of (.sl1 ?_ .nil), .refl _⟩
    simp
  | cons x r =>
    refine Br.pos (by simp; omega) ?_
    refine Rq.mk ⟨by omega, by simp; omega⟩ ?_
    refine El.mk (getA rfl) ?_
    refine Rq.mk ⟨by omega, by simp; omega⟩ ?_
    refine El.mk (m := [.v (.int .u8 0)]) (by simp) ?_
    refine Nm.mk (wrapI (by omega) (by simp at hl; omega)) ?_
    refine Nx.intro r.length (by simp) _ (WkS.weak _ _) ⟨d ++ [x], r, by simp, rfl, ?_⟩
    rw [len1, ← setA]; rfl
theorem is8 : FI 8 Try.f8 := ⟨⟨Try.f8, Try.func8, rfl, rfl, rfl, rfl⟩, rfl⟩
set_option maxRecDepth 20000 in
set_option maxHeartbeats 16000000 in
theorem eqByteS (a b : List UInt8) (ha : a.length ≤ 1099511627776) : FO 8 [Ys false a, Ys false b] [Ys false a, Ys false b] (B (decide (a = b))) := by
  refine fok envOk mixed is8 ⟨rfl, rfl, ?_⟩
  refine Nm.mk lenC ?_
  refine Nm.mk lenC ?_
  (conv => whnf)
  refine Br.mk (fun h => ?_) (fun h => ?_)
  · have hne : a ≠ b := by rintro rfl; simp at h
    (repeat' ((conv => whnf); first | refine stp ?_ | refine Br.mk (fun _ => ?_) (fun _ => ?_) ))
    all_goals (try (refine Vs.Fin.mk (WkR.eq ?_) (.refl _); first | rfl | (simp_all [hne]; done) | (simp_all [hne]; omega) | grind | grind [hne]))
  have hl : a.length = b.length := by simp at h; omega
  refine Lp.mk [.sl 0, .sl 1, .sl 5] (fun m σ => ∃ d r e s, a = d ++ r ∧ b = e ++ s ∧ m = r.length ∧ d = e ∧ σ = [Sa 0 (Ys false a), Sa 1 (Ys false b), Sa 5 (I d.length)]) a.length _ (WkS.weak _ _) ⟨[], a, [], b, rfl, rfl, rfl, rfl, rfl⟩ ?_
  rintro m τ ⟨d, r, e, s, rfl, rfl, rfl, rfl, rfl⟩
  refine Nm.mk lenC ?_
  cases r with
  | nil =>
    obtain rfl : s = [] := by cases s <;> simp_all
    refine Br.neg (by simp) ?_
    (repeat' ((conv => whnf); first | refine stp ?_ | refine Br.mk (fun _ => ?_) (fun _ => ?_) ))
    all_goals (try (refine Vs.Fin.mk (WkR.eq ?_) (.refl _); first | rfl | (simp_all []; done) | (simp_all []; omega) | grind | grind []))
  | cons x r =>
    obtain ⟨y, s, rfl⟩ : ∃ y s', s = y :: s' := by cases s <;> simp_all
    refine Br.pos (by simp; omega) ?_
    refine Rq.mk ⟨by omega, by simp; omega⟩ ?_
    refine El.mk (getA rfl) ?_
    refine Rq.mk ⟨by omega, by simp; omega⟩ ?_
    refine El.mk (getA rfl) ?_
    (conv => whnf)
    refine And.intro (by kernel_rfl) ?_
    (conv => whnf)
    refine Br.mk (fun h => ?_) (fun h => ?_)
    · have hne : x ≠ y := by rintro rfl; simp at h
      (repeat' ((conv => whnf); first | refine stp ?_ | refine Br.mk (fun _ => ?_) (fun _ => ?_) ))
      all_goals (try (refine Vs.Fin.mk (WkR.eq ?_) (.refl _); first | rfl | (simp_all [hne]; done) | (simp_all [hne]; omega) | grind | grind [hne]))
    · obtain rfl : x = y := UInt8.toNat_inj.1 (by simp at h; omega)
      refine Nm.mk (wrapI (by omega) (by simp at ha; omega)) ?_
      refine Nx.intro r.length (by simp) _ (WkS.weak _ _) ⟨d ++ [x], r, d ++ [x], s, by simp, by simp, rfl, rfl, ?_⟩
      rw [len1]; rfl
theorem is9 : FI 9 Try.f9 := ⟨⟨Try.f9, Try.func9, rfl, rfl, rfl, rfl⟩, rfl⟩
set_option maxRecDepth 20000 in
set_option maxHeartbeats 16000000 in
theorem markByteS (l : List UInt8) (k : Int) (hk : 0 ≤ k) (hb : k + l.length ≤ 4611686018427387904) : FO 9 [Ys true l, I k] [Ys true (markG mkY one1 l k), I k] (I (k + l.length)) := by
  refine fok envOk mixed is9 ⟨rfl, rfl, ?_⟩
  refine Lp.mk [.sl 0, .ex 0, .sl 1, .sl 5] (fun m σ => ∃ d r, l = d ++ r ∧ m = r.length ∧ σ = [Rf 0 0, Ex 0 (Ys true (markG mkY one1 d k ++ r)), Sa 1 (I (k + d.length)), Sa 5 (I d.length)]) (l.length) _ (WkS.weak _ _) ⟨[], l, rfl, rfl, (by first | rfl | (simp only [zlen, zsum, Nat.zero_mul, Int.add_zero, Int.sub_zero, List.nil_append, markG]; rfl))⟩ ?_
  rintro m τ ⟨d, r, rfl, rfl, rfl⟩
  refine Nm.mk lenC ?_
  cases r with
  | nil =>
    refine Br.neg (by simp [markG_length]) ?_
    (repeat' ((conv => whnf); first | refine stp ?_ | refine Br.mk (fun _ => ?_) (fun _ => ?_) ))
    simp only [List.append_nil]
    exact ⟨WkR.refl _, .refl _⟩
  | cons x r =>
    simp at hb
    refine Br.pos (by simp [markG_length]; omega) ?_
    refine Nm.mk (mkY_nat x _).symm ?_
    refine Rq.mk ⟨by omega, by simp [markG_length]; omega⟩ ?_
    refine El.mk (getA (by simp [markG_length])) ?_
    refine Nm.mk (wrapI (by omega) (by omega)) ?_
    refine Nm.mk (wrapI (by omega) (by omega)) ?_
    refine Nx.intro r.length (by simp) _ (WkS.weak _ _) ⟨d ++ [x], r, by simp, rfl, ?_⟩
    (repeat' (first | exact rfl | refine consE ?_ ?_ | refine entE ?_ | refine vI ?_ | refine vS ?_ | refine vT ?_ | refine vB ?_))
    · rw [setB (by simp [markG_length])]
      simp [markG_snoc, sumN_one1, spliceAV]
    · simp; omega
    · simp
theorem is44 : FI 44 Try.f44 := ⟨⟨Try.f44, Try.func44, rfl, rfl, rfl, rfl⟩, rfl⟩
set_option maxRecDepth 20000 in
set_option maxHeartbeats 16000000 in
theorem markText (k : Int) (h0 : 0 ≤ k) (hb : k ≤ 4611686018427387904) : FO 44 [I k] [I k] (S (mtextS k)) := by
  refine fok envOk mixed is44 ⟨rfl, rfl, ?_⟩
  refine Br.dec (fun h => ?_) (fun h => ?_)
  · (repeat' ((conv => whnf); first | refine stp ?_ | refine Br.mk (fun _ => ?_) (fun _ => ?_) ))
    refine Vs.Fin.mk (WkR.eq ?_) (.refl _)
    simp [mtextS, h]
  obtain ⟨n, rfl⟩ : ∃ n : Nat, k = n := ⟨k.toNat, by omega⟩
  refine Lp.mk [.sl 0, .sl 3] (fun m σ => ∃ j s, m = j ∧ mtext n = mtext j ++ s ∧ j + s.size ≤ n ∧ σ = [Sa 0 (I j), Sa 3 (S s)]) (n) _ (WkS.weak _ _) ⟨n, ByteArray.empty, rfl, by simp, by simp [ByteArray.size_empty], (by first | rfl | (simp only [zlen, zsum, Nat.zero_mul, Int.add_zero, Int.sub_zero, List.nil_append, markG]; rfl))⟩ ?_
  rintro m τ ⟨j, s, rfl, h1, h2, rfl⟩
  refine Br.dec (fun h => ?_) (fun h => ?_)
  · refine Rq.mk (by decide) ?_
    refine Nm.mk (tmodN (by omega)) ?_
    refine Nm.mk (wrapI (by omega) (by omega)) ?_
    refine Nm.mk (mtext_d m) ?_
    refine Rq.mk (by simp [shcLL, shcL, shc]) ?_
    refine Rq.mk (by rw [i64max]; change ((1 + s.size : Nat) : Int) ≤ 9223372036854775807; omega) ?_
    refine Rq.mk (by decide) ?_
    refine Nm.mk (wrapQ (by omega) (by omega) (by omega)) ?_
    refine Nx.intro (m / 10) (by omega) _ (WkS.weak _ _) ⟨m / 10, ⟨#[UInt8.ofNat (48 + m % 10)]⟩ ++ s, rfl, ?_, ?_, ?_⟩
    · rw [h1, mtext_step (by omega), ByteArray.append_assoc]
    · rw [ByteArray.size_append]; change m / 10 + (1 + s.size) ≤ n; omega
    · rfl
  · refine Rq.mk (by rw [i64max]; change ((1 + s.size : Nat) : Int) ≤ 9223372036854775807; omega) ?_
    refine ⟨rfl, WkR.eq ?_, .refl _⟩
    have : m = 0 := by omega
    subst this
    rw [mtextS, if_neg (by omega)]
    simp [h1, mtext]
theorem is43 : FI 43 Try.f43 := ⟨⟨Try.f43, Try.func43, rfl, rfl, rfl, rfl⟩, rfl⟩
set_option maxRecDepth 20000 in
set_option maxHeartbeats 16000000 in
theorem eqStringS (a b : List ByteArray) (ha : a.length ≤ 1099511627776) : FO 43 [Ss false a, Ss false b] [Ss false a, Ss false b] (B (decide (a = b))) := by
  refine fok envOk mixed is43 ⟨rfl, rfl, ?_⟩
  refine Nm.mk lenC ?_
  refine Nm.mk lenC ?_
  (conv => whnf)
  refine Br.mk (fun h => ?_) (fun h => ?_)
  · have hne : a ≠ b := by rintro rfl; simp at h
    (repeat' ((conv => whnf); first | refine stp ?_ | refine Br.mk (fun _ => ?_) (fun _ => ?_) ))
    all_goals (try (refine Vs.Fin.mk (WkR.eq ?_) (.refl _); first | rfl | (simp_all [hne]; done) | (simp_all [hne]; omega) | grind | grind [hne]))
  have hl : a.length = b.length := by simp at h; omega
  refine Lp.mk [.sl 0, .sl 1, .sl 5] (fun m σ => ∃ d r e s, a = d ++ r ∧ b = e ++ s ∧ m = r.length ∧ d = e ∧ σ = [Sa 0 (Ss false a), Sa 1 (Ss false b), Sa 5 (I d.length)]) a.length _ (WkS.weak _ _) ⟨[], a, [], b, rfl, rfl, rfl, rfl, rfl⟩ ?_
  rintro m τ ⟨d, r, e, s, rfl, rfl, rfl, rfl, rfl⟩
  refine Nm.mk lenC ?_
  cases r with
  | nil =>
    obtain rfl : s = [] := by cases s <;> simp_all
    refine Br.neg (by simp) ?_
    (repeat' ((conv => whnf); first | refine stp ?_ | refine Br.mk (fun _ => ?_) (fun _ => ?_) ))
    all_goals (try (refine Vs.Fin.mk (WkR.eq ?_) (.refl _); first | rfl | (simp_all []; done) | (simp_all []; omega) | grind | grind []))
  | cons x r =>
    obtain ⟨y, s, rfl⟩ : ∃ y s', s = y :: s' := by cases s <;> simp_all
    refine Br.pos (by simp; omega) ?_
    refine Rq.mk ⟨by omega, by simp; omega⟩ ?_
    refine El.mk (getA rfl) ?_
    refine Rq.mk ⟨by omega, by simp; omega⟩ ?_
    refine El.mk (getA rfl) ?_
    (conv => whnf)
    refine And.intro (by kernel_rfl) ?_
    (conv => whnf)
    refine Br.mk (fun h => ?_) (fun h => ?_)
    · have hne : x ≠ y := by rintro rfl; simp at h
      (repeat' ((conv => whnf); first | refine stp ?_ | refine Br.mk (fun _ => ?_) (fun _ => ?_) ))
      all_goals (try (refine Vs.Fin.mk (WkR.eq ?_) (.refl _); first | rfl | (simp_all [hne]; done) | (simp_all [hne]; omega) | grind | grind [hne]))
    · obtain rfl : x = y := eqS h
      refine Nm.mk (wrapI (by omega) (by simp at ha; omega)) ?_
      refine Nx.intro r.length (by simp) _ (WkS.weak _ _) ⟨d ++ [x], r, d ++ [x], s, by simp, by simp, rfl, rfl, ?_⟩
      rw [len1]; rfl
theorem is35 : FI 35 Try.f35 := ⟨⟨Try.f35, Try.func35, rfl, rfl, rfl, rfl⟩, rfl⟩
set_option maxRecDepth 20000 in
set_option maxHeartbeats 16000000 in
theorem markStringS (l : List ByteArray) (k : Int) (hk : 0 ≤ k) (hb : k + l.length ≤ 4611686018427387904) : FO 35 [Ss true l, I k] [Ss true (markG mkS one1 l k), I k] (I (k + l.length)) := by
  refine fok envOk mixed is35 ⟨rfl, rfl, ?_⟩
  refine Lp.mk [.sl 0, .ex 0, .sl 1, .sl 5] (fun m σ => ∃ d r, l = d ++ r ∧ m = r.length ∧ σ = [Rf 0 0, Ex 0 (Ss true (markG mkS one1 d k ++ r)), Sa 1 (I (k + d.length)), Sa 5 (I d.length)]) (l.length) _ (WkS.weak _ _) ⟨[], l, rfl, rfl, (by first | rfl | (simp only [zlen, zsum, Nat.zero_mul, Int.add_zero, Int.sub_zero, List.nil_append, markG]; rfl))⟩ ?_
  rintro m τ ⟨d, r, rfl, rfl, rfl⟩
  refine Nm.mk lenC ?_
  cases r with
  | nil =>
    refine Br.neg (by simp [markG_length]) ?_
    (repeat' ((conv => whnf); first | refine stp ?_ | refine Br.mk (fun _ => ?_) (fun _ => ?_) ))
    simp only [List.append_nil]
    exact ⟨WkR.refl _, .refl _⟩
  | cons x r =>
    simp at hb
    refine Br.pos (by simp [markG_length]; omega) ?_
    refine Cl.mk (markText _ (by omega) (by omega)) ?_
    refine Rq.mk ⟨by omega, by simp [markG_length]; omega⟩ ?_
    refine El.mk (getA (by simp [markG_length])) ?_
    refine Nm.mk (wrapI (by omega) (by omega)) ?_
    refine Nm.mk (wrapI (by omega) (by omega)) ?_
    refine Nx.intro r.length (by simp) _ (WkS.weak _ _) ⟨d ++ [x], r, by simp, rfl, ?_⟩
    (repeat' (first | exact rfl | refine consE ?_ ?_ | refine entE ?_ | refine vI ?_ | refine vS ?_ | refine vT ?_ | refine vB ?_))
    · rw [setB (by simp [markG_length])]
      simp [markG_snoc, sumN_one1, mkS, spliceAV]
    · simp; omega
    · simp
theorem is36 : FI 36 Try.f36 := ⟨⟨Try.f36, Try.func36, rfl, rfl, rfl, rfl⟩, rfl⟩
set_option maxRecDepth 20000 in
set_option maxHeartbeats 16000000 in
theorem heldStringS (l : List ByteArray) (k : Int) (hk : 0 ≤ k) (hb : k + l.length ≤ 4611686018427387904) : FO 36 [Ss false (markG mkS one1 l k), I k] [Ss false (markG mkS one1 l k), I k] (I (k + l.length)) := by
  refine fok envOk mixed is36 ⟨rfl, rfl, ?_⟩
  refine Lp.mk [.sl 0, .sl 1, .sl 5] (fun m σ => ∃ d r, l = d ++ r ∧ m = r.length ∧ σ = [Sa 0 (Ss false (markG mkS one1 l k)), Sa 1 (I (k + d.length)), Sa 5 (I d.length)]) (l.length) _ (WkS.weak _ _) ⟨[], l, rfl, rfl, (by first | rfl | (simp only [zlen, zsum, Nat.zero_mul, Int.add_zero, Int.sub_zero, List.nil_append, markG]; rfl))⟩ ?_
  rintro m τ ⟨d, r, rfl, rfl, rfl⟩
  refine Nm.mk lenC ?_
  cases r with
  | nil =>
    refine Br.neg (by simp [markG_length]) ?_
    (repeat' ((conv => whnf); first | refine stp ?_ | refine Br.mk (fun _ => ?_) (fun _ => ?_) ))
    simp only [List.append_nil]
    exact ⟨WkR.refl _, .refl _⟩
  | cons x r =>
    simp at hb
    refine Br.pos (by simp [markG_length]; omega) ?_
    refine Rq.mk ⟨by omega, by simp [markG_length]; omega⟩ ?_
    refine El.mk (getM (l := d) (mk := mkS) (cnt := one1) (x := x) rfl) ?_
    refine Cl.mk (markText _ (by omega) (by omega)) ?_
    refine And.intro (by kernel_rfl) ?_
    (conv => whnf)
    refine Br.neg (by simp [mkS, sumN_one1]) ?_
    refine Nm.mk (wrapI (by omega) (by omega)) ?_
    refine Nm.mk (wrapI (by omega) (by omega)) ?_
    refine Nx.intro r.length (by simp) _ (WkS.weak _ _) ⟨d ++ [x], r, by simp, rfl, ?_⟩
    (repeat' (first | exact rfl | refine consE ?_ ?_ | refine entE ?_ | refine vI ?_ | refine vS ?_ | refine vT ?_ | refine vB ?_))
    · simp; omega
    · simp
end Go.Proofs.Ytoekfmkbkffciaa
