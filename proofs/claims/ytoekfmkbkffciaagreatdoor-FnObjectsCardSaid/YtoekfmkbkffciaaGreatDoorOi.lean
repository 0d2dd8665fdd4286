/- Contracts of functions of the program: no statement of the seat is proved here. Each under the conditions that stand in it. -/
import Derived.Test.YtoekfmkbkffciaaGreatDoorOh
set_option linter.all false
namespace Go.Proofs.YtoekfmkbkffciaaGreatDoor
open Go.Vs Go.Proofs
theorem mt_len : ∀ (p s : List ByteArray) (o : List Bnd) {w : List Bnd}, mt p s o = some w → w.length ≤ o.length + p.length
  | [], [], o, w, h => by rw [mt.eq_def] at h; simp at h; rw [h]; simp
  | [], _ :: _, o, w, h => by rw [mt.eq_def] at h; simp at h
  | x :: r, s, o, w, h => by
    by_cases k1 : x = sSs
    · rw [mt_ss r s o k1] at h; cases h; simp
    cases s with
    | nil => rw [mt_nil r o k1] at h; cases h
    | cons v s =>
      by_cases k2 : x = sSt
      · rw [mt_st r s o k1 k2] at h
        have := mt_len r s o h
        simp; omega
      cases k3 : isVar x with
      | false =>
        rw [mt_pl r s o k1 k2 k3] at h
        split at h
        · have := mt_len r s o h
          simp; omega
        · cases h
      | true =>
        cases k4 : o.find? (fun b => decide (b.lt = x)) with
        | none =>
          rw [mt_new r s o k1 k2 k3 k4] at h
          have := mt_len r s _ h
          simp at this ⊢; omega
        | some b =>
          rw [mt_old r s o k1 k2 k3 k4] at h
          split at h
          · have := mt_len r s o h
            simp; omega
          · cases h
theorem matchR_len (p : List ByteArray) (n : Name) (l : List Bnd) : (matchR p n l).1.length ≤ l.length + 6 := by
  unfold matchR
  split
  · rename_i hc
    have h6 : p.length ≤ 6 := by simp [vPat] at hc; exact hc.1.2
    cases h : mt p n.parts l with
    | none => simp [mtR]
    | some w => have := mt_len p n.parts l h; simp only [mtR]; omega
  · simp
def rulOk (r : Rul) (n key : Name) : Bool := vRul r.dat r.key && ((matchR r.dat n []).2 && (matchR r.key key (matchR r.dat n []).1).2)
theorem dOwn_LBb (r : List Bnd × Bool) : dOwnL (LBb r).2 := by
  simp only [dOwnL, dOwn, and_true, true_and]
  exact ⟨.inl trivial, dOwnLL_of (fun _ => by simp [dOwnL, dOwn]) _⟩
theorem is120 : FI 120 Tryz.f120 := ⟨⟨Tryz.f120, Tryz.func120, rfl, rfl, rfl, rfl⟩, rfl⟩
set_option maxRecDepth 20000 in
set_option maxHeartbeats 16000000 in
theorem i_RuleAllows (r : Rul) (n key : Name) (h1 : strsSize r.dat ≤ 1048576) (h2 : strsSize r.key ≤ 1048576) (hn : strsSize n.parts ≤ 1048576) (hk : strsSize key.parts ≤ 1048576) : FO 120 [A (Rul.c false r), A (Name.c false n), A (Name.c false key)] [A (Rul.c false r), A (Name.c false n), A (Name.c false key)] (B (rulOk r n key)) := by
  refine fok envOk mixed is120 ⟨rfl, rfl, ?_⟩
  have hM := (i_Match r.dat n [] h1 hn (by simp)).wk (args' := [A [cSs false r.dat], A (Name.c false n), O (.sl false .isnil 0 [])]) (.cons (.refl _) (.cons (.refl _) (.cons (.nils .nil) .nil))) (.refl _) (WkR.refl _)
  have hl := matchR_len r.dat n []
  unfold rulOk
  have hV := i_ValidRule r.dat r.key h1 h2
  generalize vRul r.dat r.key = v at hV
  generalize matchR r.dat n [] = w at hM hl
  obtain ⟨o, b⟩ := w
  have hN := i_Match r.key key o h2 hk (by simp at hl; omega)
  generalize matchR r.key key o = w2 at hN
  obtain ⟨o2, b2⟩ := w2
  cases v <;> cases b <;> cases b2
  all_goals
    (repeat' ((conv => whnf); first | refine stp ?_ | refine Cl.mk (hM) ?_ | refine Cl.pre (by simp only [shcLL_B]; rfl) ?_ | refine Cl.mk (hN) ?_ | refine Rq.mk (dOwn_LBb _) ?_ | refine Cl.mk (hV) ?_ | refine Cl.pre (by simp only [shcLL_ints, shcLL_byts, shcLL_strs, Bnd.shcs, Data.shcs, Fetc.shcs, Gran.shcs, Keyy.shcs, Mani.shcs, Name.shcs, Read.shcs, Rout.shcs, Rul.shcs, Segm.shcs, TEnt.shcs, Tru.shcs]; rfl) ?_))
    exact Vs.Fin.mk (WkR.refl _) (.refl _)
theorem is119 : FI 119 Tryz.f119 := ⟨⟨Tryz.f119, Tryz.func119, rfl, rfl, rfl, rfl⟩, rfl⟩
set_option maxRecDepth 20000 in
set_option maxHeartbeats 16000000 in
theorem i_First_1 (r : Rul) (n key : Name) (h1 : strsSize r.dat ≤ 1048576) (h2 : strsSize r.key ≤ 1048576) (hn : strsSize n.parts ≤ 1048576) (hk : strsSize key.parts ≤ 1048576) : FO 119 [A (Rul.c false r), O (.cp (Name.c false n) 0), O (.cp (Name.c false key) 0)] [A (Rul.c false r), O (.cp (Name.c false n) 0), O (.cp (Name.c false key) 0)] (B (rulOk r n key)) := by
  refine fok envOk mixed is119 ⟨rfl, rfl, ?_⟩
  (repeat' ((conv => whnf); first | refine stp ?_ | refine Cl.mk (i_RuleAllows r n key h1 h2 hn hk) ?_ | refine Cl.pre (by simp only [shcLL_ints, shcLL_byts, shcLL_strs, Bnd.shcs, Data.shcs, Fetc.shcs, Gran.shcs, Keyy.shcs, Mani.shcs, Name.shcs, Read.shcs, Rout.shcs, Rul.shcs, Segm.shcs, TEnt.shcs, Tru.shcs]; rfl) ?_))
  exact Vs.Fin.mk (WkR.refl _) (.refl _)
theorem is89 : FI 89 Tryz.f89 := ⟨⟨Tryz.f89, Tryz.func89, rfl, rfl, rfl, rfl⟩, rfl⟩
set_option maxRecDepth 20000 in
set_option maxHeartbeats 16000000 in
theorem i_First (l : List Rul) (n key : Name) (hl : l.length ≤ 1000) (hz : ∀ r ∈ l, strsSize r.dat ≤ 1048576 ∧ strsSize r.key ≤ 1048576) (hn : strsSize n.parts ≤ 1048576) (hk : strsSize key.parts ≤ 1048576) : FO 89 [O (sl false 2 (l.map (Rul.c false))), A (Name.c false n), A (Name.c false key)] [O (sl false 2 (l.map (Rul.c false))), A (Name.c false n), A (Name.c false key)] (I (findI (fun r => rulOk r n key) l 0)) := by
  refine fok envOk mixed is89 ⟨rfl, rfl, ?_⟩
  (repeat' ((conv => whnf); first | refine stp ?_ | refine Cl.mk (IndexFunc_Rul2 (l := l) (by omega) (p := fun r => rulOk r n key) (fun r hr => i_First_1 r n key (hz r hr).1 (hz r hr).2 hn hk)) ?_ | refine Rq.mk (by simp [dOwnL, dOwn]) ?_ | refine Cl.pre (by simp only [shcLL_ints, shcLL_byts, shcLL_strs, Bnd.shcs, Data.shcs, Fetc.shcs, Gran.shcs, Keyy.shcs, Mani.shcs, Name.shcs, Read.shcs, Rout.shcs, Rul.shcs, Segm.shcs, TEnt.shcs, Tru.shcs]; rfl) ?_))
  exact Vs.Fin.mk (WkR.refl _) (.refl _)
theorem is59 : FI 59 Tryz.f59 := ⟨⟨Tryz.f59, Tryz.func59, rfl, rfl, rfl, rfl⟩, rfl⟩
set_option maxRecDepth 20000 in
set_option maxHeartbeats 16000000 in
theorem i_Allowed (l : List Rul) (n key : Name) (hl : l.length ≤ 1000) (hz : ∀ r ∈ l, strsSize r.dat ≤ 1048576 ∧ strsSize r.key ≤ 1048576) (hn : strsSize n.parts ≤ 1048576) (hk : strsSize key.parts ≤ 1048576) : FO 59 [O (sl false 2 (l.map (Rul.c false))), A (Name.c false n), A (Name.c false key)] [O (sl false 2 (l.map (Rul.c false))), A (Name.c false n), A (Name.c false key)] (B (l.any fun r => rulOk r n key)) := by
  refine fok envOk mixed is59 ⟨rfl, rfl, ?_⟩
  (repeat' ((conv => whnf); first | refine stp ?_ | refine Cl.mk (i_First l n key hl hz hn hk) ?_ | refine Cl.pre (by simp only [shcLL_ints, shcLL_byts, shcLL_strs, Bnd.shcs, Data.shcs, Fetc.shcs, Gran.shcs, Keyy.shcs, Mani.shcs, Name.shcs, Read.shcs, Rout.shcs, Rul.shcs, Segm.shcs, TEnt.shcs, Tru.shcs]; rfl) ?_))
  refine Vs.Fin.mk (WkR.eq ?_) (.refl _)
  rw [← findI_ge l 0 (by omega)]
end Go.Proofs.YtoekfmkbkffciaaGreatDoor
