/- Contracts of functions of the program: no statement of the seat is proved here. Each under the conditions that stand in it. -/
import Derived.Test.YtoekfmkbkffciaaGreatDoorFn
import Derived.Test.YtoekfmkbkffciaaGreatDoorM3
import Derived.Test.YtoekfmkbkffciaaGreatDoorM16
set_option linter.all false
namespace Go.Proofs.YtoekfmkbkffciaaGreatDoor
open Go.Vs Go.Proofs
/-! Names, read from texts -/
def ba (l : List UInt8) : ByteArray := ⟨l.toArray⟩
theorem ba_size (l : List UInt8) : (ba l).size = l.length := by simp [ba, ByteArray.size]
def spl (c : UInt8) : List UInt8 → List UInt8 → List ByteArray
  | cur, [] => [ba cur]
  | cur, x :: r => if x = c then ba cur :: spl c [] r else spl c (cur ++ [x]) r
theorem spl_len (c : UInt8) : ∀ (r cur : List UInt8), 0 < (spl c cur r).length ∧ (spl c cur r).length ≤ r.length + 1
  | [], cur => by simp [spl]
  | x :: r, cur => by
    unfold spl
    split
    · have := spl_len c r []; simp; omega
    · have := spl_len c r (cur ++ [x]); simp; omega
theorem ext_ba {s : ByteArray} {pre cur r : List UInt8} (h : s.data.toList = pre ++ cur ++ r) : s.extract ((pre.length : Nat) : Int).toNat ((pre.length + cur.length : Nat) : Int).toNat = ba cur := by
  have h1 : (s.extract pre.length (pre.length + cur.length)).data = cur.toArray := by
    rw [ByteArray.data_extract]
    apply Array.toList_inj.1
    rw [Array.toList_extract, h]
    simp
  show s.extract pre.length (pre.length + cur.length) = ba cur
  cases hh : s.extract pre.length (pre.length + cur.length) with
  | mk d => rw [hh] at h1; simp only at h1; rw [h1]; rfl
theorem u8eq {x c : UInt8} : (((x.toNat : Nat) : Int) == ((c.toNat : Nat) : Int)) = decide (x = c) := by
  by_cases h : x = c
  · simp [h]
  · have : ¬ x.toNat = c.toNat := fun h' => h (UInt8.toNat_inj.1 h')
    rw [decide_eq_false h, beq_eq_false_iff_ne]
    omega
theorem is71 : FI 71 Tryz.f71 := ⟨⟨Tryz.f71, Tryz.func71, rfl, rfl, rfl, rfl⟩, rfl⟩
set_option maxRecDepth 20000 in
set_option maxHeartbeats 16000000 in
theorem s_l4Split (s : ByteArray) (c : UInt8) (hs : s.size ≤ 1048576) : FO 71 [S s, O (cY c)] [S s, O (cY c)] (Ss true (spl c [] s.data.toList)) := by
  refine fok envOk mixed is71 ⟨rfl, rfl, ?_⟩
  have hsz := @dsz s
  have hT := (spl_len c s.data.toList []).2
  (repeat' ((conv => whnf); first | refine stp ?_ ))
  refine Lp.mk [.sl 0, .sl 1, .sl 5, .sl 6, .sl 7] (fun m σ => ∃ (out : List ByteArray) (f k : Nat), ((∃ pre cur r : List UInt8, s.data.toList = pre ++ cur ++ r ∧ k = pre.length + cur.length ∧ f = pre.length ∧ out ++ spl c cur r = spl c [] s.data.toList ∧ m = r.length + 1) ∨ (k = s.size + 1 ∧ out = spl c [] s.data.toList ∧ m = 0)) ∧ σ = [Sa 0 (S s), Sa 1 (O (cY c)), Sa 5 (O (.sl true .non 1 (strs out))), Sa 6 (I f), Sa 7 (I k)]) (s.size + 1) _ (WkS.weak _ _) ⟨[], 0, 0, .inl ⟨[], [], s.data.toList, rfl, rfl, rfl, rfl, by rw [hsz]⟩, (by first | rfl | (simp only [zlen, zsum, Nat.zero_mul, Int.add_zero, Int.sub_zero, List.nil_append, markG]; rfl))⟩ ?_
  rintro m τ ⟨out, f, k, hinv, rfl⟩
  rcases hinv with ⟨pre, cur, r, h1, rfl, rfl, h4, rfl⟩ | ⟨rfl, rfl, rfl⟩
  · have hl := congrArg List.length h1
    simp only [List.length_append] at hl
    have ho := congrArg List.length h4
    simp only [List.length_append] at ho
    have hx := ext_ba h1
    have f1 : decide (((pre.length + cur.length : Nat) : Int) ≤ ((s.size : Nat) : Int)) = true := by simp; omega
    cases r with
    | nil =>
      have f2 : (((pre.length + cur.length : Nat) : Int) == ((s.size : Nat) : Int)) = true := by simp at hl ⊢; omega
      (repeat' ((conv => whnf); first | refine stp ?_ | refine Rq.mk (by simp; omega) ?_ | refine Cl.pre (by simp only [shcLL_ints, shcLL_byts, shcLL_strs, Fetc.shcs, Mani.shcs, Name.shcs, Segm.shcs]; rfl) ?_))
      refine Nx.intro 0 (by simp) _ (WkS.weak _ _) ⟨out ++ [ba cur], s.size + 1, s.size + 1, .inr ⟨rfl, by rw [← h4]; simp [spl], rfl⟩, ?_⟩
      simp only [List.length_nil, Nat.add_zero] at hl
      rw [hx]
      (repeat' (first | exact rfl | refine consE ?_ ?_ | refine entE ?_ | refine vI ?_ | refine vS ?_ | refine vT ?_ | refine vB ?_))
      all_goals first | omega | simp
    | cons x r =>
      simp only [List.length_cons] at hl
      have f2 : (((pre.length + cur.length : Nat) : Int) == ((s.size : Nat) : Int)) = false := by simp; omega
      have hg : (((s.data.toList.getD ((pre.length + cur.length : Nat) : Int).toNat 0).toNat : Nat) : Int) = (x.toNat : Int) := getT (d := pre ++ cur) (r := r) h1 (by simp)
      have hu := @u8eq x c
      by_cases hxc : x = c
      · rw [decide_eq_true hxc] at hu
        (repeat' ((conv => whnf); first | refine stp ?_ | refine Nm.mk hg ?_ | refine Rq.mk (by simp; omega) ?_ | refine Cl.pre (by simp only [shcLL_ints, shcLL_byts, shcLL_strs, Fetc.shcs, Mani.shcs, Name.shcs, Segm.shcs]; rfl) ?_))
        refine Nx.intro (r.length + 1) (by simp) _ (WkS.weak _ _) ⟨out ++ [ba cur], pre.length + cur.length + 1, pre.length + cur.length + 1, .inl ⟨pre ++ cur ++ [x], [], r, by simp [h1], by simp; omega, by simp; omega, by rw [← h4]; simp [spl, hxc], rfl⟩, ?_⟩
        rw [hx]
        (repeat' (first | exact rfl | refine consE ?_ ?_ | refine entE ?_ | refine vI ?_ | refine vS ?_ | refine vT ?_ | refine vB ?_))
        all_goals first | omega | simp
      · rw [decide_eq_false hxc] at hu
        (repeat' ((conv => whnf); first | refine stp ?_ | refine Nm.mk hg ?_ | refine Cl.pre (by simp only [shcLL_ints, shcLL_byts, shcLL_strs, Fetc.shcs, Mani.shcs, Name.shcs, Segm.shcs]; rfl) ?_))
        refine Nx.intro (r.length + 1) (by simp) _ (WkS.weak _ _) ⟨out, pre.length, pre.length + cur.length + 1, .inl ⟨pre, cur ++ [x], r, by simp [h1], by simp; omega, rfl, by rw [← h4]; simp [spl, hxc], rfl⟩, ?_⟩
        (repeat' (first | exact rfl | refine consE ?_ ?_ | refine entE ?_ | refine vI ?_ | refine vS ?_ | refine vT ?_ | refine vB ?_))
  · have f1 : decide (((s.size + 1 : Nat) : Int) ≤ ((s.size : Nat) : Int)) = false := by simp; omega
    (repeat' ((conv => whnf); first | refine stp ?_ ))
    exact Vs.Fin.mk (WkR.of (.sl1 rfl .nil)) (.refl _)
def emp : ByteArray := ⟨#[]⟩
def slash : ByteArray := ⟨#[47]⟩
/-- The name that a text says; none: the empty one. -/
def pN (s : ByteArray) : Name :=
  if s = slash then ⟨[]⟩ else match spl 47 [] s.data.toList with
  | [] => ⟨[]⟩
  | [_] => ⟨[]⟩
  | x :: y :: l => if x = emp ∧ vName ⟨y :: l⟩ = true then ⟨y :: l⟩ else ⟨[]⟩
def pO (s : ByteArray) : Bool :=
  decide (s = slash) || match spl 47 [] s.data.toList with
  | [] => false
  | [_] => false
  | x :: y :: l => decide (x = emp ∧ vName ⟨y :: l⟩ = true)
theorem vName_bound {n : Name} (h : vName n = true) : strsSize n.parts ≤ 54 := by
  simp [vName] at h
  have key : ∀ l : List ByteArray, (∀ s ∈ l, s.size ≤ 8) → strsSize l ≤ 9 * l.length := by
    intro l
    induction l with
    | nil => intro _; exact Nat.zero_le _
    | cons x l ih =>
      intro hl
      have h1 := hl x (by simp)
      have h2 := ih (fun s hs => hl s (by simp [hs]))
      simp only [strsSize, sumN, List.length_cons] at h2 ⊢
      omega
  have := key n.parts (fun s hs => by have := h.1 s hs; simp [vPart, inR_t] at this; omega)
  omega
theorem sE {a b : ByteArray} : (a.toList == b.toList) = decide (a = b) := by
  rw [Go.ByteArray.toList_eq, Go.ByteArray.toList_eq]
  by_cases h : a = b
  · simp [h]
  · have : ¬ a.data.toList = b.data.toList := fun h' => h (by
      cases a; cases b
      simp only [Array.toList_inj] at h'
      rw [h'])
    rw [decide_eq_false h, beq_eq_false_iff_ne]
    exact this
abbrev NBs (n : Name) (b : Bool) : Arg := (.tup [(true, 1), (false, 1)], [cSs false n.parts, cB b])
theorem nbs_nil (b : Bool) : WkR (.tup [(true, 1), (false, 1)], [AV.sl true .isnil 0 [], cB b]) (NBs ⟨[]⟩ b) := ⟨rfl, .inr (.nils (.refl _))⟩
theorem spl_sz (c : UInt8) : ∀ (r cur : List UInt8), strsSize (spl c cur r) ≤ 2 * r.length + cur.length + 1
  | [], cur => by simp [spl, strsSize, sumN, ba_size]; omega
  | x :: r, cur => by
    unfold spl
    split
    · have := spl_sz c r []
      simp only [strsSize, sumN, ba_size, List.length_cons, List.length_nil] at *
      omega
    · have := spl_sz c r (cur ++ [x])
      simp only [List.length_append, List.length_cons, List.length_nil] at *
      omega
theorem tail_strs (x : ByteArray) (T : List ByteArray) : ((shcLL (strs (x :: T))).take ((strs (x :: T)).length : Int).toNat).drop (1 : Int).toNat = strs T := by
  rw [shcLL_strs, Int.toNat_natCast, List.take_length]; rfl
theorem is70 : FI 70 Tryz.f70 := ⟨⟨Tryz.f70, Tryz.func70, rfl, rfl, rfl, rfl⟩, rfl⟩
set_option maxRecDepth 20000 in
set_option maxHeartbeats 16000000 in
theorem s_ParseName (s : ByteArray) (hs : s.size ≤ 1048576) : FO 70 [S s] [S s] (NBs (pN s) (pO s)) := by
  refine fok envOk mixed is70 ⟨rfl, rfl, ?_⟩
  have hS := s_l4Split s 47 hs
  have hsz := @dsz s
  have hT := spl_len 47 s.data.toList []
  have hZ := spl_sz 47 s.data.toList []
  have hEq := @sE s slash
  by_cases h : s = slash
  · rw [decide_eq_true h] at hEq
    have e : pN s = ⟨[]⟩ ∧ pO s = true := by simp [pN, pO, h]
    rw [e.1, e.2]
    (repeat' ((conv => whnf); first | refine stp ?_ ))
    exact Vs.Fin.mk (nbs_nil _) (.refl _)
  · rw [decide_eq_false h] at hEq
    have e1 : pN s = (match spl 47 [] s.data.toList with | [] => ⟨[]⟩ | [_] => ⟨[]⟩ | x :: y :: l => if x = emp ∧ vName ⟨y :: l⟩ = true then ⟨y :: l⟩ else ⟨[]⟩) := by rw [pN, if_neg h]
    have e2 : pO s = (match spl 47 [] s.data.toList with | [] => false | [_] => false | x :: y :: l => decide (x = emp ∧ vName ⟨y :: l⟩ = true)) := by rw [pO, decide_eq_false h, Bool.false_or]
    rw [e1, e2]
    generalize spl 47 [] s.data.toList = T at hS hT hZ
    cases T with
    | nil => simp at hT
    | cons x l =>
      cases l with
      | nil =>
        have f1 : decide ((1 : Int) < 2) = true := by simp
        have hlen : (((shcLL (strs [x])).length : Nat) : Int) = 1 := by rw [shcLL_strs]; rfl
        (repeat' ((conv => whnf); first | refine stp ?_ | refine Cl.mk (hS) ?_ | refine Rq.mk (by simp) ?_ | refine Nm.mk hlen ?_ | refine Cl.pre (by simp only [shcLL_ints, shcLL_byts, shcLL_strs, Fetc.shcs, Mani.shcs, Name.shcs, Segm.shcs]; rfl) ?_))
        exact Vs.Fin.mk (nbs_nil _) (.refl _)
      | cons y l =>
        have hsy : strsSize (y :: l) ≤ 3145728 := by
          simp only [strsSize, sumN, List.length_cons, List.length_nil] at hZ ⊢
          simp at hT
          omega
        have hln := strs_len hsy
        have f1 : decide ((((x :: y :: l).length : Nat) : Int) < 2) = false := by simp; omega
        have hx := @sE x emp
        have hlen : (((shcLL (strs (x :: y :: l))).length : Nat) : Int) = (((x :: y :: l).length : Nat) : Int) := by rw [shcLL_strs]; simp
        by_cases hxe : x = emp
        · rw [decide_eq_true hxe] at hx
          have hx2 : (!(x.toList == emp.toList)) = false := by rw [hx]; rfl
          have hV := s_ValidName ⟨y :: l⟩ (Nat.le_trans hsy (by omega))
          cases hv : vName ⟨y :: l⟩ with
          | true =>
            rw [hv] at hV
            have e3 : (x = emp ∧ vName ⟨y :: l⟩ = true) := ⟨hxe, hv⟩
            simp only []
            rw [if_pos e3, decide_eq_true e3]
            (repeat' ((conv => whnf); first | refine stp ?_ | refine Cl.mk (hS) ?_ | refine Rq.mk (by simp; omega) ?_ | refine Nm.mk hlen ?_ | refine El.mk (m := [cS x]) rfl ?_ | refine Cl.eq hV (by rw [tail_strs]) ?_ | refine Cl.pre (by simp only [shcLL_ints, shcLL_byts, shcLL_strs, Fetc.shcs, Mani.shcs, Name.shcs, Segm.shcs]; rfl) ?_))
            refine Vs.Fin.mk (WkR.eq ?_) (.refl _)
            rw [tail_strs]; rfl
          | false =>
            rw [hv] at hV
            simp only []
            rw [if_neg (by rw [hv]; simp), decide_eq_false (by rw [hv]; simp)]
            (repeat' ((conv => whnf); first | refine stp ?_ | refine Cl.mk (hS) ?_ | refine Rq.mk (by simp; omega) ?_ | refine Nm.mk hlen ?_ | refine El.mk (m := [cS x]) rfl ?_ | refine Cl.eq hV (by rw [tail_strs]) ?_ | refine Cl.pre (by simp only [shcLL_ints, shcLL_byts, shcLL_strs, Fetc.shcs, Mani.shcs, Name.shcs, Segm.shcs]; rfl) ?_))
            exact Vs.Fin.mk (nbs_nil _) (.refl _)
        · rw [decide_eq_false hxe] at hx
          have hx2 : (!(x.toList == emp.toList)) = true := by rw [hx]; rfl
          simp only []
          rw [if_neg (fun h => hxe h.1), decide_eq_false (fun h => hxe h.1)]
          (repeat' ((conv => whnf); first | refine stp ?_ | refine Cl.mk (hS) ?_ | refine Rq.mk (by simp; omega) ?_ | refine Nm.mk hlen ?_ | refine El.mk (m := [cS x]) rfl ?_ | refine Cl.pre (by simp only [shcLL_ints, shcLL_byts, shcLL_strs, Fetc.shcs, Mani.shcs, Name.shcs, Segm.shcs]; rfl) ?_))
          exact Vs.Fin.mk (nbs_nil _) (.refl _)
theorem pN_sz (s : ByteArray) : strsSize (pN s).parts ≤ 54 := by
  unfold pN
  split
  · exact Nat.zero_le _
  · split
    · exact Nat.zero_le _
    · exact Nat.zero_le _
    · split
      · rename_i h
        have h2 := vName_bound h.2
        exact h2
      · exact Nat.zero_le _
theorem is44 : FI 44 Tryz.f44 := ⟨⟨Tryz.f44, Tryz.func44, rfl, rfl, rfl, rfl⟩, rfl⟩
set_option maxRecDepth 20000 in
set_option maxHeartbeats 16000000 in
theorem s_l4Of (s : ByteArray) (hs : s.size ≤ 1048576) : FO 44 [S s] [S s] (A (Name.c false (pN s))) := by
  refine fok envOk mixed is44 ⟨rfl, rfl, ?_⟩
  (repeat' ((conv => whnf); first | refine stp ?_ | refine Cl.mk (s_ParseName s hs) ?_ | refine Cl.pre (by simp only [shcLL_ints, shcLL_byts, shcLL_strs, Fetc.shcs, Mani.shcs, Name.shcs, Segm.shcs]; rfl) ?_))
  exact Vs.Fin.mk (WkR.refl _) (.refl _)
/-! Name patterns and rules, as the reference reads them -/
def sSt : ByteArray := ⟨#[42]⟩
def sSs : ByteArray := ⟨#[42, 42]⟩
def sLt : ByteArray := ⟨#[60]⟩
def isVar (s : ByteArray) : Bool := decide (s.size = 2) && ((((s.data.toList.getD 0 0).toNat : Nat) : Int) == 63 && inR ((s.data.toList.getD 1 0).toNat : Int) 97 122)
theorem chr_is (s : ByteArray) (i : Nat) : ∃ c : Int, c = (((s.data.toList.getD i 0).toNat : Nat) : Int) ∧ 0 ≤ c ∧ c ≤ 255 := ⟨_, rfl, by omega, by have := (s.data.toList.getD i 0).toNat_lt; omega⟩
def okP (x : ByteArray) (last : Bool) : Bool := vPart x || decide (x = sSt) || isVar x || (decide (x = sSs) && last)
def okPs : List ByteArray → Bool
  | [] => true
  | x :: r => okP x r.isEmpty && okPs r
def vPat (p : List ByteArray) : Bool := okPs p && decide (p.length ≤ 6)
def rlP (d : List ByteArray) (s : ByteArray) : Bool := !isVar s || d.any fun y => decide (y = s)
def vRul (d k : List ByteArray) : Bool := vPat d && vPat k && k.all (rlP d)
theorem beSt {x : ByteArray} : (x.toList == ByteArray.toList ⟨#[42]⟩) = decide (x = sSt) := sE
theorem beSs {x : ByteArray} : (x.toList == ByteArray.toList ⟨#[42, 42]⟩) = decide (x = sSs) := sE
theorem is14 : FI 14 Tryz.f14 := ⟨⟨Tryz.f14, Tryz.func14, rfl, rfl, rfl, rfl⟩, rfl⟩
set_option maxRecDepth 20000 in
set_option maxHeartbeats 16000000 in
theorem at_ok (l : List UInt8) (i : Int) (hl : l.length ≤ 1048576) (hi : 0 ≤ i ∧ i ≤ 1048576) : FO 14 [Ys false l, I i] [Ys false l, I i] (I (if h : i.toNat < l.length then ((l[i.toNat]'h).toNat : Int) else (i * 31 + l.length * 7) % 256)) := by
  refine fok envOk mixed is14 ⟨rfl, rfl, ?_⟩
  refine Nm.mk lenC ?_
  by_cases h : i.toNat < l.length
  · have f1 : decide (i < (l.length : Int)) = true := by simp; omega
    have hg : (byts l)[i.toNat]? = some [cY (l[i.toNat]'h)] := by simp [byts, h]
    have hb := (l[i.toNat]'h).toNat_lt
    (repeat' ((conv => whnf); first | refine stp ?_ | refine El.mk hg ?_ | refine Cl.pre (by simp only [shcLL_ints, shcLL_byts, shcLL_strs, Fetc.shcs, Mani.shcs, Name.shcs, Segm.shcs]; rfl) ?_))
    refine Vs.Fin.mk (WkR.eq ?_) (.refl _)
    rw [dif_pos h]
  · have f1 : decide (i < (l.length : Int)) = false := by simp; omega
    (repeat' ((conv => whnf); first | refine stp ?_ ))
    refine Vs.Fin.mk (WkR.eq ?_) (.refl _)
    rw [dif_neg h]
theorem is103 : FI 103 Tryz.f103 := ⟨⟨Tryz.f103, Tryz.func103, rfl, rfl, rfl, rfl⟩, rfl⟩
set_option maxRecDepth 20000 in
set_option maxHeartbeats 16000000 in
theorem s_l5Letter (s : ByteArray) (hs : s.size ≤ 1099511627776) : FO 103 [S s] [S s] (B (isVar s)) := by
  refine fok envOk mixed is103 ⟨rfl, rfl, ?_⟩
  obtain ⟨c0, h0, h1, h2⟩ := chr_is s 0
  obtain ⟨c1, h3, h4, h5⟩ := chr_is s 1
  have e : isVar s = (decide (s.size = 2) && (c0 == 63 && inR c1 97 122)) := by rw [isVar, ← h0, ← h3]
  rw [e]
  clear e
  (repeat' ((conv => whnf); first | refine stp ?_ | refine Br.mk (fun _ => ?_) (fun _ => ?_) | refine Nm.mk h0.symm ?_ | refine Nm.mk h3.symm ?_ | refine Cl.mk (s_l1In _ _ _) ?_ | refine Cl.pre (by simp only [shcLL_ints, shcLL_byts, shcLL_strs, Fetc.shcs, Mani.shcs, Name.shcs, Segm.shcs]; rfl) ?_))
  all_goals (refine Vs.Fin.mk (WkR.eq ?_) (.refl _); clear h0 h3; simp_all [inR] <;> omega)
theorem is142 : FI 142 Tryz.f142 := ⟨⟨Tryz.f142, Tryz.func142, rfl, rfl, rfl, rfl⟩, rfl⟩
set_option maxRecDepth 20000 in
set_option maxHeartbeats 16000000 in
theorem i_isVar (s : ByteArray) (hs : s.size ≤ 1099511627776) : FO 142 [S s] [S s] (B (isVar s)) := by
  refine fok envOk mixed is142 ⟨rfl, rfl, ?_⟩
  obtain ⟨c0, h0, h1, h2⟩ := chr_is s 0
  obtain ⟨c1, h3, h4, h5⟩ := chr_is s 1
  have e : isVar s = (decide (s.size = 2) && (c0 == 63 && inR c1 97 122)) := by rw [isVar, ← h0, ← h3]
  rw [e]
  clear e
  (repeat' ((conv => whnf); first | refine stp ?_ | refine Br.mk (fun _ => ?_) (fun _ => ?_) | refine Nm.mk h0.symm ?_ | refine Nm.mk h3.symm ?_ | refine Cl.pre (by simp only [shcLL_ints, shcLL_byts, shcLL_strs, Fetc.shcs, Mani.shcs, Name.shcs, Segm.shcs]; rfl) ?_))
  all_goals (refine Vs.Fin.mk (WkR.eq ?_) (.refl _); clear h0 h3; simp_all [inR] <;> omega)
theorem is102 : FI 102 Tryz.f102 := ⟨⟨Tryz.f102, Tryz.func102, rfl, rfl, rfl, rfl⟩, rfl⟩
set_option maxRecDepth 20000 in
set_option maxHeartbeats 16000000 in
theorem s_ValidPattern (p : List ByteArray) (hz : strsSize p ≤ 109951162777) : FO 102 [A [cSs false p]] [A [cSs false p]] (B (vPat p)) := by
  refine fok envOk mixed is102 ⟨rfl, rfl, ?_⟩
  have hl := strs_len hz
  refine Lp.mk [.bx 1, .sl 1, .sl 3] (fun m σ => ∃ d r, p = d ++ r ∧ m = r.length ∧ okPs p = okPs r ∧ σ = [Bx 1 ([cSs false p]), Pt 1, Sa 3 (I d.length)]) (p.length) _ (WkS.weak _ _) ⟨[], p, rfl, rfl, rfl, (by first | rfl | (simp only [zlen, zsum, Nat.zero_mul, Int.add_zero, Int.sub_zero, List.nil_append, markG]; rfl))⟩ ?_
  rintro m τ ⟨d, r, rfl, rfl, hok, rfl⟩
  refine Nm.mk lenC ?_
  cases r with
  | nil =>
    refine Br.neg (by simp) ?_
    (repeat' ((conv => whnf); first | refine stp ?_ | refine Br.mk (fun _ => ?_) (fun _ => ?_) ))
    refine Vs.Fin.mk (WkR.eq ?_) (.refl _)
    simp_all [vPat, okPs]
    omega
  | cons x r =>
    have hx := strs_mem hz (s := x) (by simp)
    simp at hl
    have hlast : decide ((d.length : Int) < ((d ++ x :: r).length : Int) - 1) = !r.isEmpty := by
      cases r <;> simp <;> omega
    refine Br.pos (by simp; omega) ?_
    (repeat' ((conv => whnf); first | refine stp ?_ | refine Br.mk (fun _ => ?_) (fun _ => ?_) | refine El.mk (getA rfl) ?_ | refine Cl.mk (s_ValidPart x (by omega)) ?_ | refine Cl.mk (s_l5Letter x (by omega)) ?_ | refine Cl.pre (by simp only [shcLL_ints, shcLL_byts, shcLL_strs, Fetc.shcs, Mani.shcs, Name.shcs, Segm.shcs]; rfl) ?_))
    all_goals (try simp only [beSt, beSs] at *)
    all_goals first
      | (refine Vs.Fin.mk (WkR.eq ?_) (.refl _); simp_all [vPat, okPs, okP]; done)
      | (refine Nx.intro r.length (by simp) _ (WkS.weak _ _) ⟨d ++ [x], r, by simp, rfl, by simp_all [okPs, okP], ?_⟩; rw [len1]; rfl)
end Go.Proofs.YtoekfmkbkffciaaGreatDoor
