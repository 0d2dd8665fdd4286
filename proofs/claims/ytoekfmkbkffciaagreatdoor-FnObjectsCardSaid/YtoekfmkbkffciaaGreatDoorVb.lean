/- A layer of symbolic stepping over values, proved sound against the model: no statement of the seat is proved here. No condition. -/
import Derived.Test.YtoekfmkbkffciaaGreatDoorVa
import Derived.Laws.Strings2
import Derived.Laws.Slices
import Derived.Laws.Small
import Derived.Laws.IdiomStrings
import Derived.Laws.BytesArg
import Derived.Laws.MakeOwn
import Derived.Great.BuildSlice
import Derived.Deep.LoopGhost
set_option linter.all false
namespace Go.Vs

variable {C : Ctx} {σ : St} {a : Act} {w : World} {W : Wit} {P : Program} {cr : CallR} {Γ : Env}

theorem Rep.oneCells {S : Nat → Prop} {β : Nat → Option Nat} : ∀ {as : List AV} {vs : List Value} {f : List Nat}, Rep w β S as vs f → ∀ v ∈ vs, v.oneCell' = true
  | [], vs, f, h => by cases h; simp
  | b :: as, vs, f, h => by
    obtain ⟨v, us, f1, f2, rfl, rfl, h1, h2⟩ := Rep.uncons h
    intro u hu
    rcases List.mem_cons.1 hu with rfl | hu
    · exact h1.oneCell
    · exact Rep.oneCells h2 u hu

theorem Held.oneCell {ts : List TV} {vs : List Value} {f : List Nat} (h : Held C σ W w ts vs f) : ∀ v ∈ vs, v.oneCell' = true := h.rep.oneCells

theorem Held.split {tvs ts : List TV} {cv vs : List Value} {fb f : List Nat} {off n : Nat} (hb : Held C σ W w tvs cv fb) (h : Held C σ W w ts vs f) (hn : ts.length = n) (hfit : off + n ≤ tvs.length) :
    ∃ f1 fm f2, fb = f1 ++ (fm ++ f2) ∧ Held C σ W w (spliceTV tvs off ts) (cv.take off ++ vs ++ cv.drop (off + vs.length)) (f1 ++ f ++ f2) := by
  obtain ⟨f1, fr, hf1, hr1, hr2⟩ := hb.rep.take off
  obtain ⟨fm, f2, hf2, hr3, hr4⟩ := hr2.take n
  have hvl : vs.length = n := by have := h.rep.length; simp at this; omega
  have hcl : tvs.length = cv.length := by have := hb.rep.length; simpa using this
  refine ⟨f1, fm, f2, by rw [hf1, hf2], ?_, ?_⟩
  · have := (hr1.append h.rep).append hr4
    rw [List.drop_drop, List.drop_drop] at this
    unfold spliceTV
    rw [List.map_append, List.map_append, List.map_take, List.map_drop, hn, hvl]
    exact this
  · intro c t z ht hz
    unfold spliceTV at ht
    by_cases h1 : c < off
    · rw [List.append_assoc, List.getElem?_append_left (by simp; omega), List.getElem?_take, if_pos h1] at ht
      rw [List.append_assoc, List.getElem?_append_left (by simp; omega), List.getElem?_take, if_pos h1] at hz
      exact hb.refs c t z ht hz
    · by_cases h2 : c < off + n
      · rw [List.append_assoc, List.getElem?_append_right (by simp; omega), List.getElem?_append_left (by simp; omega)] at ht
        rw [List.append_assoc, List.getElem?_append_right (by simp; omega), List.getElem?_append_left (by simp; omega)] at hz
        have e1 : (tvs.take off).length = off := by simp; omega
        have e2 : (cv.take off).length = off := by simp; omega
        rw [e1] at ht
        rw [e2] at hz
        exact h.refs _ t z ht hz
      · rw [List.getElem?_append_right (by simp; omega), List.getElem?_drop] at ht
        rw [List.getElem?_append_right (by simp; omega), List.getElem?_drop] at hz
        have e1 : off + ts.length + (c - (tvs.take off ++ ts).length) = c := by simp; omega
        have e2 : off + vs.length + (c - (cv.take off ++ vs).length) = c := by simp; omega
        rw [e1] at ht
        rw [e2] at hz
        exact hb.refs c t z ht hz

theorem SR.heldAll (h : SR C σ a w W) {r : Rs} {v : Nat × Nat} {s : Shape} {tvs : List TV} (hr : σ.get r = (v, some (s, tvs))) : Held C σ W w tvs (W.cv r) (W.fp r) :=
  ⟨h.rep r v s tvs hr, h.refs r v s tvs hr⟩

theorem setCv {r : Rs} {c : Nat} {z : Value} (hu : (W.cv r)[c]? = some z) : (W.cv r).set c z = W.cv r := set_self hu

/-- A cell's content goes into the hand. -/
theorem SR.takeCell (h : SR C σ a w W) {r : Rs} {v : Nat × Nat} {s : Shape} {tvs : List TV} {c : Nat} {b : AV} {u : Value} (hr : σ.get r = (v, some (s, tvs))) (ha : tvs[c]? = some (.val b))
    (hu : (W.cv r)[c]? = some u) (h1 : u.oneCell' = true) :
    ∃ W' f, SR C (σ.put r (cUp v, some (s, tvs.set c (.val .any)))) a w W' ∧ Mv C w σ W (σ.put r (cUp v, some (s, tvs.set c (.val .any)))) W' ∧ W'.hand = f ++ W.hand ∧
      Rep w W'.β (Sh C (σ.put r (cUp v, some (s, tvs.set c (.val .any)))) W' w) [b] [u] f ∧ (∀ x ∈ f, x ∈ W.fp r) ∧ f.Nodup := by
  have hlv : live σ r := ⟨v, s, tvs, hr⟩
  have hrep := h.rep r v s tvs hr
  have hat : (tvs.map own)[c]? = some b := by simp [ha, own]
  obtain ⟨u', f1, fc, f2, hu', hf, hone, ht1, ht2⟩ := hrep.at hat
  rw [hu] at hu'; cases hu'
  have hnd := h.nd r hlv
  rw [hf] at hnd
  obtain ⟨hn1, hn2, hn3⟩ := nodup_mid hnd
  have hc : c < (tvs.map own).length := (List.getElem?_eq_some_iff.1 hat).1
  have hset := Rep.set hc hrep.length ht1 (Rep.any (x := u) h1 .nil) ht2
  rw [setCv hu] at hset
  have hmap : (tvs.map own).set c .any = (tvs.set c (.val .any)).map own := by rw [List.map_set]; rfl
  rw [hmap] at hset
  simp only [List.append_nil] at hset
  have hheld : Held C σ W w (tvs.set c (.val .any)) (W.cv r) (f1 ++ f2) := by
    refine ⟨hset, fun c' t' z' ht hz => ?_⟩
    rw [List.getElem?_set] at ht
    split at ht
    · split at ht
      · cases ht; trivial
      · cases ht
    · exact h.refs r v s tvs hr c' t' z' ht hz
  have hsub : ∀ x, x ∈ fc → x ∈ W.fp r := fun x hx => by rw [hf]; simp [hx]
  have hsub2 : ∀ x, x ∈ f1 ++ f2 → x ∈ W.fp r := fun x hx => by rw [hf]; simp at hx ⊢; rcases hx with hx | hx <;> simp [hx]
  have hnh : (fc ++ W.hand).Nodup := by
    rw [List.nodup_append]
    refine ⟨hn2, h.hnd, fun x hx y hy he => ?_⟩
    subst he
    exact (h.hdis x hy).1 r hlv (hsub x hx)
  obtain ⟨h5, h6⟩ := h.turn hr (by simp) hheld (f := f1 ++ f2) (hand' := fc ++ W.hand) (by
      rintro x (hx | hx)
      · exact .inl (hsub2 x hx)
      · rcases List.mem_append.1 hx with hx | hx
        · exact .inl (hsub x hx)
        · exact .inr hx) hn1 hnh (by
      intro x hx hx2
      rcases List.mem_append.1 hx2 with hx2 | hx2
      · exact hn3 x hx hx2
      · exact (h.hdis x hx2).1 r hlv (hsub2 x hx))
  exact ⟨_, fc, h5, h6, rfl, h6.rep hone, hsub, hn2⟩

/-- Out of the hand, into a cell that holds nothing. -/
theorem SR.giveCell0 (h : SR C σ a w W) {r : Rs} {v : Nat × Nat} {s : Shape} {tvs : List TV} {c : Nat} {b : AV} {u : Value} {f hand' : List Nat} (hr : σ.get r = (v, some (s, tvs))) (hat : (tvs.map own)[c]? = some .any)
    (hu : (W.cv r)[c]? = some u) (hrep : Rep w W.β (Sh C σ W w) [b] [u] f) (hf : ∀ x ∈ f, x ∈ W.hand) (hnd : f.Nodup) (hh : ∀ x ∈ hand', x ∈ W.hand) (hnh : hand'.Nodup) (hdj : ∀ x ∈ f, x ∉ hand') :
    ∃ W', SR C (σ.put r (cUp v, some (s, tvs.set c (.val b)))) a w W' ∧ Mv C w σ W (σ.put r (cUp v, some (s, tvs.set c (.val b)))) W' ∧ W'.hand = hand' := by
  have hlv : live σ r := ⟨v, s, tvs, hr⟩
  have hrp := h.rep r v s tvs hr
  obtain ⟨u', f1, fc, f2, hu', hff, hone, ht1, ht2⟩ := hrp.at hat
  rw [hu] at hu'; cases hu'
  have hfc : fc = [] := hone.fp_nil rfl
  subst hfc
  simp only [List.append_nil] at hff
  have hn1 := h.nd r hlv
  rw [hff] at hn1
  have hc : c < (tvs.map own).length := (List.getElem?_eq_some_iff.1 hat).1
  have hset := Rep.set hc hrp.length ht1 hrep ht2
  rw [setCv hu] at hset
  have hmap : (tvs.map own).set c b = (tvs.set c (.val b)).map own := by rw [List.map_set]; rfl
  rw [hmap] at hset
  have hheld : Held C σ W w (tvs.set c (.val b)) (W.cv r) (f1 ++ f ++ f2) := by
    refine ⟨hset, fun c' t' z' ht hz => ?_⟩
    rw [List.getElem?_set] at ht
    split at ht
    · split at ht
      · cases ht; trivial
      · cases ht
    · exact h.refs r v s tvs hr c' t' z' ht hz
  have hsub : ∀ x, x ∈ f1 ∨ x ∈ f2 → x ∈ W.fp r := fun x hx => by rw [hff]; simpa using hx
  have hnh2 : ∀ x, x ∈ W.hand → x ∉ W.fp r := fun x hx => (h.hdis x hx).1 r hlv
  obtain ⟨h5, h6⟩ := h.turn hr (by simp) hheld (f := f1 ++ f ++ f2) (hand' := hand') (by
      rintro x (hx | hx)
      · simp only [List.mem_append] at hx
        rcases hx with (hx | hx) | hx
        · exact .inl (hsub x (.inl hx))
        · exact .inr (hf x hx)
        · exact .inl (hsub x (.inr hx))
      · exact .inr (hh x hx)) (by
      simp only [List.nodup_append, List.mem_append] at hn1 ⊢
      refine ⟨⟨hn1.1, hnd, fun x hx y hy he => ?_⟩, hn1.2.1, fun x hx y hy he => ?_⟩
      · subst he; exact hnh2 x (hf x hy) (hsub x (.inl hx))
      · subst he
        rcases hx with hx | hx
        · exact hn1.2.2 x hx x hy rfl
        · exact hnh2 x (hf x hx) (hsub x (.inr hy))) hnh (by
      intro x hx hx2
      simp only [List.mem_append] at hx
      rcases hx with (hx | hx) | hx
      · exact hnh2 x (hh x hx2) (hsub x (.inl hx))
      · exact hdj x hx hx2
      · exact hnh2 x (hh x hx2) (hsub x (.inr hx)))
  exact ⟨_, h5, h6, rfl⟩

theorem SR.giveCell (h : SR C σ a w W) {r : Rs} {v : Nat × Nat} {s : Shape} {tvs : List TV} {c : Nat} {b : AV} {u : Value} {f hand' : List Nat} (hr : σ.get r = (v, some (s, tvs))) (ha : tvs[c]? = some (.val .any))
    (hu : (W.cv r)[c]? = some u) (hrep : Rep w W.β (Sh C σ W w) [b] [u] f) (hf : ∀ x ∈ f, x ∈ W.hand) (hnd : f.Nodup) (hh : ∀ x ∈ hand', x ∈ W.hand) (hnh : hand'.Nodup) (hdj : ∀ x ∈ f, x ∉ hand') :
    ∃ W', SR C (σ.put r (cUp v, some (s, tvs.set c (.val b)))) a w W' ∧ Mv C w σ W (σ.put r (cUp v, some (s, tvs.set c (.val b)))) W' ∧ W'.hand = hand' :=
  h.giveCell0 hr (by simp [ha, own]) hu hrep hf hnd hh hnh hdj

/-- The run at the leaf. -/
theorem navSet_leaf {f : AV → Pr AV} {al0 : AV} {x : Value} {S : Nat → Prop} : ∀ (p : Path) {β : Nat → Option Nat} {a0 a' : AV} {u : Value} {fc : List Nat} {σ' : St} {l : Log},
    (navSet a0 p f).run P cr σ = some (a', σ', l) → Rep w β S [a0] [u] fc → NavAt w a0 u p al0 x → fc.Nodup →
    ∃ β' fl al' σ1 l1, (f al0).run P cr σ = some (al', σ1, l1) ∧ Rep w β' S [al0] [x] fl ∧ fl.Nodup ∧ ∀ b ∈ fl, b ∈ fc
  | [], β, a0, a', u, fc, σ', l, hr, hrep, hn, hnd => by
    obtain ⟨rfl, rfl⟩ := hn
    exact ⟨β, fc, a', σ', l, (show (f a0).run P cr σ = _ by cases a0 <;> exact hr), hrep, hnd, fun _ h => h⟩
  | (i, k) :: p, β, a0, a', u, fc, σ', l, hr, hrep, hn, hnd => by
    obtain ⟨nf, sz, els, g, n, cap, cur, e, el, a1, y, rfl, rfl, hg, hi, hk, hy, hrest⟩ := hn
    obtain ⟨el', hel, h1⟩ := elt_run (show (Pr.elt els[i]? _).run P cr σ = _ from hr)
    rw [hi] at hel; cases hel
    rw [hk] at h1
    simp only at h1
    obtain ⟨a1', σ1, l1, l2, h2, h3, rfl⟩ := run_bind_some (show (navSet a1 p f >>= fun a' => Pr.ret (AV.sl true nf sz (els.set i (el.set k a')))).run P cr σ = _ from h1)
    cases hrep with
    | owd hnf hg2 hn2 hsz hpos hcap hmax hcur hin t =>
      rename_i fi fp
      cases t
      rw [hg] at hg2; cases hg2
      have hkl : k < sz := by rw [← hsz el (List.mem_of_getElem? hi)]; exact (List.getElem?_eq_some_iff.1 hk).1
      have hflat := flat_get hkl hk els i hsz hi
      obtain ⟨y', f1, fcc, f2, hy', hff, hone, ht1, ht2⟩ := hin.at hflat
      have hil : i < els.length := (List.getElem?_eq_some_iff.1 hi).1
      have hm : i * sz + k < els.length * sz := by
        have : (i + 1) * sz ≤ els.length * sz := Nat.mul_le_mul_right _ hil
        rw [Nat.add_mul] at this; omega
      have hyy : (cur.toList.take (n * sz))[i * sz + k]? = some y := by
        rw [List.getElem?_take, if_pos (by rw [← hn2]; exact hm)]
        simpa using hy
      rw [hyy] at hy'; cases hy'
      simp only [List.append_nil] at hnd ⊢
      rw [List.nodup_cons, hff] at hnd
      obtain ⟨hn12, hncc, hdcc⟩ := nodup_mid hnd.2
      obtain ⟨β', fl, al', σ2, l3, k1, k2, k3, k4⟩ := navSet_leaf p h2 hone hrest hncc
      exact ⟨β', fl, al', σ2, l3, k1, k2, k3, fun b hb => by rw [hff]; simp [k4 b hb]⟩

theorem Rep.noβs {S : Nat → Prop} {β : Nat → Option Nat} : ∀ {as : List AV} {vs : List Value} {f : List Nat}, Rep w β S as vs f → okCells as = true → Rep w (fun _ => none) S as vs f
  | [], vs, f, h, _ => by cases h; exact .nil
  | b :: as, vs, f, h, ho => by
    simp only [okCells, Bool.and_eq_true] at ho
    obtain ⟨v, us, f1, f2, rfl, rfl, h1, h2⟩ := Rep.uncons h
    exact Rep.cons (h1.noβ (by cases b <;> simp_all [okCell, isPtr]) _) (Rep.noβs h2 ho.2)

theorem op_store (hΓ : EnvOk P Γ) {o : Oper} {T : TypeId} {x y : Operand} (ho : o.op = .store T x y) : OpOk P Γ o := by
  intro C HT σ a w W cr σ' l next Q h hh hd hr hn
  simp only [opPr, ho] at hr
  cases hdst : o.dst with
  | some d => rw [hdst] at hr; exact (fail_run hr).elim
  | none =>
    rw [hdst] at hr
    obtain ⟨i, hi, h1⟩ := withTy_run hr
    obtain ⟨t, σ1, l1, l2, h2, h3, rfl⟩ := run_bind_some h1
    obtain ⟨rfl, ht⟩ := rdOne_ok h h2
    obtain ⟨⟨s, tvs⟩, σ2, l3, l4, h4, h5, rfl⟩ := run_bind_some h3
    obtain ⟨rfl, vs, hy, hv, hs⟩ := rdOp_ok h h4
    obtain ⟨ts, σ3, l5, l6, h6, h7, rfl⟩ := run_bind_some h5
    obtain ⟨W1, f, k1, k2, ⟨f', k3, k4⟩, k5, k6, k7⟩ := takes_ok h hv h6
    rw [hh, List.append_nil] at k3
    obtain ⟨hm1, h8⟩ := chk_run h7
    have hone := k6.oneCell
    have ht1 := k2.tv1 ht
    have hlen : ts.length = vs.length := by have := k6.rep.length; simpa using this
    have hcells : (a.eval y).cells.toList = vs := by
      rw [hy]
      refine shVal_cells hm1 ?_ hone
      rw [← hlen, k7]
      exact hs
    have hput : a.put none undef = a := rfl
    cases t with
    | val b =>
      cases b with
      | bp b off =>
        obtain ⟨l', h9, rfl⟩ := get_run (show (Pr.get (.bx b) _).run P cr σ3 = _ from h8)
        cases hg : σ3.get (.bx b) with
        | mk ver o2 => cases o2 with
          | none => rw [hg] at h9; exact (fail_run h9).elim
          | some z =>
            obtain ⟨s0, t0⟩ := z
            rw [hg] at h9
            obtain ⟨hfit, h10⟩ := chk_run h9
            obtain ⟨hnl, h11⟩ := chk_run h10
            obtain ⟨l7, h12, rfl⟩ := put_run h11
            obtain ⟨_, rfl, _⟩ := ret_run h12
            have hfit1 : off + i.size ≤ t0.length := by simpa using hfit
            have hnl1 : ts.length = i.size := by simpa using hnl
            generalize hzx : a.eval x = zx at ht1
            cases ht1 with
            | bp hb tl =>
              rename_i g
              obtain ⟨g', TT, hb', hheap⟩ := k1.box b ver s0 t0 hg
              rw [hb] at hb'; cases hb'
              have hheld := k1.heldAll hg
              have hlv : live σ3 (.bx b) := ⟨ver, s0, t0, hg⟩
              obtain ⟨f1, fm, f2, hfe, hsp⟩ := hheld.split k6 hnl1 hfit1
              have hcvl : t0.length = (W1.cv (.bx b)).length := by have := hheld.rep.length; simpa using this
              have hnd0 := k1.nd _ hlv
              rw [hfe] at hnd0
              have hfh : ∀ b' ∈ f, b' ∈ W1.hand := fun b' hb' => by rw [k3]; exact (k4 b').1 hb'
              have hdis : ∀ b' ∈ f, b' ∉ W1.fp (.bx b) := fun b' hb' => (k1.hdis b' (hfh b' hb')).1 _ hlv
              have hst := run_storeAt_cells (P := P) (hΓ T i hi) (g := g) (o := off) (x := a.eval y) hcells (by rw [← hlen]; exact hnl1) hheap (by simp; omega) hone
              have hfin := SR.storeBox k1 hg (x := hUp ver) (by simp [hUp]) (tvs := spliceTV t0 off ts) (vs := (W1.cv (.bx b)).take off ++ vs ++ (W1.cv (.bx b)).drop (off + vs.length)) (f := f1 ++ f ++ f2) (hand' := [])
                (w' := w.setRow g ((W1.cv (.bx b)).take off ++ vs ++ (W1.cv (.bx b)).drop (off + vs.length)).toArray) (by
                  intro g2 T2 hg2 _
                  rw [hb] at hg2; cases hg2; rfl) hsp.rep (by
                  rintro b' (hb' | hb')
                  · simp only [List.mem_append] at hb'
                    rcases hb' with (hb' | hb') | hb'
                    · exact .inl (by rw [hfe]; simp [hb'])
                    · exact .inr (hfh b' hb')
                    · exact .inl (by rw [hfe]; simp [hb'])
                  · simp at hb') (by
                  simp only [List.nodup_append, List.mem_append] at hnd0 ⊢
                  refine ⟨⟨hnd0.1, k5, fun b1 hb1 b2 hb2 he => ?_⟩, hnd0.2.1.2.1, fun b1 hb1 b2 hb2 he => ?_⟩
                  · subst he; exact hdis b1 hb2 (by rw [hfe]; simp [hb1])
                  · subst he
                    rcases hb1 with hb1 | hb1
                    · exact hnd0.2.2 b1 hb1 b1 (.inr hb2) rfl
                    · exact hdis b1 hb1 (by rw [hfe]; simp [hb2])) (by simp) (by simp) hsp.refs
              refine wp_noval (w' := w.setRow g ((W1.cv (.bx b)).take off ++ vs ++ (W1.cv (.bx b)).drop (off + vs.length)).toArray) ?_ ?_
              · simp only [List.toList_toArray] at hst
                simp [execOp, ho, hzx, hst]
              · rw [hdst]
                exact hn _ _ _ hfin rfl rfl
      | _ => exact (fail_run (show (Pr.fail : Pr Unit).run P cr σ3 = _ from h8)).elim
    | ref r c ver p => exact (fail_run (show (Pr.fail : Pr Unit).run P cr σ3 = _ from h8)).elim
    | eref r c ver p sz j k =>
      obtain ⟨hz0, h8⟩ := chk_run (show (chk (Nat.blt 0 sz) _).run P cr σ3 = _ from h8)
      have hz0 : 0 < sz := by simpa using hz0
      obtain ⟨avs, σ4, l7, l8, h9, h10, rfl⟩ := run_bind_some (show (vals ts >>= _).run P cr σ3 = _ from h8)
      obtain ⟨rfl, hts, havs⟩ := vals_ok k6 h9
      obtain ⟨hck, h11⟩ := chk_run h10
      simp only [Bool.and_eq_true] at hck
      obtain ⟨hnl, hok⟩ := hck
      have hnl1 : avs.length = i.size := by simpa using hnl
      obtain ⟨l9, h12, rfl⟩ := get_run h11
      obtain ⟨g, n, cap, hzx, hloc⟩ := ht1
      rw [erv_pos hz0] at hzx
      cases hg : σ4.get r with
      | mk v o2 => cases o2 with
        | none => rw [hg] at h12; exact (fail_run h12).elim
        | some z =>
          obtain ⟨s0, t0⟩ := z
          rw [hg] at h12
          simp only at h12
          cases hvo : verOk v ver p with
          | false => rw [hvo] at h12; exact (fail_run h12).elim
          | true =>
            rw [hvo] at h12
            simp only at h12
            split at h12
            · rename_i a0 ha
              obtain ⟨a', σ5, l10, l11, h13, h14, rfl⟩ := run_bind_some h12
              obtain ⟨l12, h15, rfl⟩ := put_run h14
              obtain ⟨_, rfl, _⟩ := ret_run h15
              obtain ⟨u, hu, hcase⟩ := hloc.2 v s0 t0 hg hvo
              have hnavat : ∃ al, NavAt w a0 u p al (.slice (some ⟨g, 0, none⟩) n cap) := by
                rcases hcase with ⟨rfl, hyu⟩ | ⟨hp, a1, al, ha1, hn'⟩
                · exact ⟨a0, rfl, hyu.symm⟩
                · rw [ha] at ha1; cases ha1; exact ⟨al, hn'⟩
              obtain ⟨al, hnavat⟩ := hnavat
              have hone1 : u.oneCell' = true := by
                cases p with
                | nil => obtain ⟨_, rfl⟩ := hnavat; rfl
                | cons q p => obtain ⟨_, _, _, _, _, _, _, _, _, _, _, _, rfl, _⟩ := hnavat; rfl
              obtain ⟨WA, fc, q1, q2, q3, q4, q5, q6⟩ := k1.takeCell hg ha hu hone1
              have hfh : ∀ b' ∈ f, b' ∈ W1.hand := fun b' hb' => by rw [k3]; exact (k4 b').1 hb'
              have hlv : live σ4 r := ⟨v, s0, t0, hg⟩
              have hfd : ∀ b' ∈ f, b' ∉ fc := fun b' hb' hb2 => (k1.hdis b' (hfh b' hb')).1 r hlv (q5 b' hb2)
              have havsA := q2.rep havs
              generalize hσA : σ4.put r (cUp v, some (s0, t0.set c (.val .any))) = σA at q1 q2 q4 havsA
              obtain ⟨β', fl, al', σ6, l13, m1, m2, m3, m4⟩ := navSet_leaf p h13 q4 hnavat q6
              have hnoSh : ∀ b ∈ fc, ¬ Sh C σA WA w b := fun b hb hs => hs.2.2 (.inr (.inr (by rw [q3]; simp [hb])))
              obtain ⟨-, hgl, cur, e, hgc, hfit, -⟩ := storeEl_ok (S := Sh C σA WA w) (S' := Sh C σA WA w) (fun _ h => h) (fun hs => by
                  cases al with
                  | sl o nl s els =>
                    cases o with
                    | false => exact (fail_run (show (Pr.fail : Pr AV).run P cr σ4 = _ from m1)).elim
                    | true =>
                      cases m2 with
                      | owd hnf hg hn hsz hpos hcap hmax hcur hin t => exact hnoSh g (m4 g (by simp)) hs
                  | _ => exact (fail_run (show (Pr.fail : Pr AV).run P cr σ4 = _ from m1)).elim) m1 m2 m3 (havsA.noβs hok) k5 (fun b hb hb2 => hfd b hb (m4 b hb2))
              have hgfc : g ∈ fc := m4 g hgl
              generalize hw' : w.setRow g (cur.toList.take (j * sz + k) ++ vs ++ cur.toList.drop (j * sz + k + vs.length)).toArray = w'
              have hother : ∀ b, b ≠ g → w'.heap[b]? = w.heap[b]? := fun b hb => by rw [← hw']; exact setRow_other w g b _ hb
              have hkeeps : Keeps w w' WA.hand := by
                rw [← hw']
                exact ⟨rfl, rfl, rfl, by rw [setRow_size]; exact Nat.le_refl _, fun b _ hb => setRow_other w g b _ (fun he => hb (by rw [he, q3]; simp [hgfc]))⟩
              have hsize : w'.heap.size = w.heap.size := by rw [← hw']; exact setRow_size _ _ _
              obtain ⟨r1, r2, r3⟩ := q1.world hkeeps q1.hnd (fun b hb => ⟨.inl hb, by rw [hsize]; exact (q1.hrng b hb).2⟩)
              obtain ⟨hσ5, -, f2, n1, n2, n3⟩ := navLift (P := P) (cr := cr) (w := w) (w' := w') (S := Sh C σA WA w) (S' := Sh C σA { WA with hand := WA.hand } w') (M := fun b => b = g) (N := fun _ => True) (fa := f) r2
                p h13 q4 hnavat q6 hfd (fun b _ hb => ⟨trivial, hother b hb⟩) (fun {β'' fl'' σ7 l14 al''} hrun hrl hnl hsl => by
                  obtain ⟨e1, e2, cur', ee, e3, e4, e5⟩ := storeEl_ok (S := Sh C σA WA w) (S' := Sh C σA { WA with hand := WA.hand } w') (fun b hb => (r2 b hb).1) (hnoSh g hgfc) hrun hrl hnl (havsA.noβs hok) k5 (fun b hb hb2 => hfd b hb (hsl b hb2))
                  rw [hgc] at e3; cases e3
                  rw [hw'] at e5
                  obtain ⟨fx, e6, e7, e8⟩ := e5
                  exact ⟨e1, fun b hb => by rw [hb]; exact e2, fx, e6, e7, fun b hb => ⟨e8 b hb, trivial⟩⟩)
              have hgetA : σA.get r = (cUp v, some (s0, t0.set c (.val .any))) := by rw [← hσA, St.get_put_same]
              have hcl : c < t0.length := (List.getElem?_eq_some_iff.1 ha).1
              obtain ⟨WF, x1, -, x3⟩ := r1.giveCell (c := c) (u := u) (b := a') (f := f2) (hand' := []) hgetA (by rw [List.getElem?_set]; simp [hcl]) (by rw [show ({ WA with hand := WA.hand } : Wit) = WA from rfl, q2.cv]; exact hu) n1 (by
                intro b hb
                show b ∈ WA.hand
                rw [q3]
                rcases (n3 b hb).1 with h | h
                · simp [h]
                · simp [hfh b h]) n2 (by simp) (by simp) (by simp)
              have hfin : SR C (σ4.put r (cUp (cUp v), some (s0, t0.set c (.val a')))) a w' WF := by
                refine x1.congr fun r' => ?_
                rw [← hσA]
                simp only [St.get_put, List.set_set]
                split <;> rfl
              have hst := run_storeAt_cells (P := P) (hΓ T i hi) (g := g) (o := j * sz + k) (x := a.eval y) hcells (by rw [← hlen, hts, valTVs_length]; exact hnl1) hgc hfit hone
              rw [hw'] at hst
              refine wp_noval (w' := w') ?_ ?_
              · simp [execOp, ho, hzx, hst]
              · rw [hdst]
                rw [hσ5] at hn
                exact hn _ _ _ hfin x3 rfl
            · exact (fail_run h12).elim

end Go.Vs

namespace Go.Vs

variable {C : Ctx} {σ : St} {a : Act} {w : World} {W : Wit} {P : Program} {cr : CallR} {Γ : Env}

theorem withElem_run {α : Type} {t : TypeId} {k : TyI → Pr α} {x : α} {τ : St} {l : Log} (h : (withElem Γ t k).run P cr σ = some (x, τ, l)) :
    ∃ i e j, Γ.find t = some i ∧ i.kind = .slice e ∧ Γ.find e = some j ∧ (k j).run P cr σ = some (x, τ, l) := by
  obtain ⟨i, hi, h1⟩ := withTy_run h
  cases hk : i.kind with
  | slice e =>
    rw [hk] at h1
    obtain ⟨j, hj, h2⟩ := withTy_run h1
    exact ⟨i, e, j, hi, hk, hj, h2⟩
  | _ => rw [hk] at h1; exact (fail_run h1).elim

theorem TyOk.under {t : TypeId} {i : TyI} (h : TyOk P t i) : ∃ d, P.underlying t = some d ∧ KindOk P d i.kind := by
  obtain ⟨info, d, z, h1, h2, h3, h4, h5, h6, h7⟩ := h.ex
  exact ⟨d, h2, h7⟩

theorem TyOk.info {t : TypeId} {i : TyI} (h : TyOk P t i) : ∃ info z, P.info? t = some info ∧ info.size = i.size ∧ info.bytes = i.bytes ∧ info.zero = some z ∧ z.cells.toList = i.zero := by
  obtain ⟨info, d, z, h1, h2, h3, h4, h5, h6, h7⟩ := h.ex
  exact ⟨info, z, h1, h3, h4, h5, h6⟩

theorem TyOk.slice {t e : TypeId} {i : TyI} (h : TyOk P t i) (hk : i.kind = .slice e) : P.underlying t = some (.slice e) := by
  obtain ⟨d, hd, hkk⟩ := h.under
  rw [hk] at hkk
  rw [hd, hkk]

theorem TyOk.string {t : TypeId} {i : TyI} (h : TyOk P t i) (hk : i.kind = .string) : P.underlying t = some .string := by
  obtain ⟨d, hd, hkk⟩ := h.under
  rw [hk] at hkk
  rw [hd, hkk]

theorem TyOk.int {t : TypeId} {i : TyI} {k : IntKind} (h : TyOk P t i) (hk : i.kind = .int k) : P.underlying t = some (.int k) := by
  obtain ⟨d, hd, hkk⟩ := h.under
  rw [hk] at hkk
  rw [hd, hkk]

theorem fieldOf_run {α : Type} {t : TypeId} {f : Nat} {k : Nat → Nat → Bool → Pr α} {x : α} {τ : St} {l : Log} (h : (fieldOf Γ t f k).run P cr σ = some (x, τ, l)) :
    ∃ i fs o n g, Γ.find t = some i ∧ i.kind = .struct fs ∧ fs[f]? = some (o, n, g) ∧ (k o n g).run P cr σ = some (x, τ, l) := by
  obtain ⟨i, hi, h1⟩ := withTy_run h
  cases hk : i.kind with
  | struct fs =>
    rw [hk] at h1
    simp only at h1
    cases hf : fs[f]? with
    | none => rw [hf] at h1; exact (fail_run h1).elim
    | some y =>
      obtain ⟨o, n, g⟩ := y
      rw [hf] at h1
      exact ⟨i, fs, o, n, g, hi, hk, hf, h1⟩
  | _ => rw [hk] at h1; exact (fail_run h1).elim

theorem run_fieldAt_struct {T : TypeId} {i : TyI} (h : TyOk P T i) {fs : List (Nat × Nat × Bool)} (hk : i.kind = .struct fs) {f o n : Nat} {g : Bool} (hf : fs[f]? = some (o, n, g)) (hn : 0 < n) (b off : Nat) :
    (Instr.fieldAt T (.pointer (some ⟨b, off, none⟩)) f).run P w = .ok (.pointer (some ⟨b, off + o, none⟩)) w := by
  obtain ⟨d, hd, hkk⟩ := h.under
  rw [hk] at hkk
  obtain ⟨fields, rfl, -, hfs⟩ := hkk
  obtain ⟨fd, info, d', h1, h2, h3, h4, h5, h6⟩ := hfs f o n g hf
  have : info.size ≠ 0 := by omega
  simp [Instr.fieldAt, run_underlying hd, h1, Instr.sureAddr, fieldPlace, sizeOf, typeInfo, h3, this, h2, Addr.add_lit]

theorem op_fieldAddr (hΓ : EnvOk P Γ) {o : Oper} {T : TypeId} {x : Operand} {f : Nat} (ho : o.op = .fieldAddr T x f) : OpOk P Γ o := by
  intro C HT σ a w W cr σ' l next Q h hh hd hr hn
  simp only [opPr, ho] at hr
  obtain ⟨i, fs, off, n, g, hi, hk, hf, h1⟩ := fieldOf_run hr
  obtain ⟨hn0, h2⟩ := chk_run h1
  have hn1 : 0 < n := by simpa using hn0
  obtain ⟨t, σ1, l1, l2, h3, h4, rfl⟩ := run_bind_some h2
  obtain ⟨rfl, ht⟩ := rdOne_ok h h3
  have key : ∀ (b p : Nat) (t' : TV), a.eval x = .pointer (some ⟨b, p, none⟩) → (setSl o.dst .one [t']).run P cr σ1 = some ((), σ', l2) → TV1 C σ1 W w t' (.pointer (some ⟨b, p + off, none⟩)) → o.wp P a w next Q := by
    intro b p t' hx hs ht'
    obtain ⟨W', h5, h6⟩ := setSl_view h hh hd (s := .one) (tvs := [t']) (vs := [.pointer (some ⟨b, p + off, none⟩)]) ⟨ht', trivial⟩ rfl hs
    refine wp_value (v := .pointer (some ⟨b, p + off, none⟩)) (w' := w) ?_ (hn _ _ W' h5 h6 (put_size _ _ _))
    simp [execOp, ho, hx, run_fieldAt_struct (hΓ T i hi) hk hf hn1]
  generalize hz : a.eval x = z at ht
  split at h4
  · rename_i b k
    cases ht with
    | bp hb t => exact key _ _ _ hz h4 (.bp hb .nil)
  · rename_i s els j c
    cases ht with
    | ep hg hrow hsz hi hin t =>
      refine key _ _ _ hz h4 ?_
      rename_i g1 o1 cs1
      have := Rep.ep (w := w) (β := W.β) (S := Sh C σ1 W w) (c := c + off) hg hrow hsz hi hin .nil
      rw [← Nat.add_assoc] at this
      exact this
  · rename_i cells k
    cases ht with
    | cp hg hrow hin t =>
      refine key _ _ _ hz h4 ?_
      have := Rep.cp (w := w) (β := W.β) (S := Sh C σ1 W w) (off := k + off) hg hrow hin .nil
      rw [← Nat.add_assoc] at this
      exact this
  · rename_i r c ver p s j k
    obtain ⟨hs0, h4⟩ := chk_run (show (chk (Nat.blt 0 s) _).run P cr σ1 = _ from h4)
    have hs0 : 0 < s := by simpa using hs0
    obtain ⟨g1, n1, cap, rfl, hl⟩ := ht
    rw [erv_pos hs0] at hz
    refine key _ _ _ hz h4 ⟨g1, n1, cap, ?_, hl⟩
    rw [erv_pos hs0]
    simp [Nat.add_assoc]
  · exact (fail_run h4).elim

theorem run_isAgg_of {t : TypeId} {d : TypeDesc} (h : P.underlying t = some d) : (isAgg t).run P w = .ok (isAggD d) w := by
  cases d <;> simp [isAgg, run_underlying h, isAggD]

theorem one_of_len {α : Type} {l : List α} (h : l.length = 1) : ∃ x, l = [x] := by
  match l, h with
  | [x], _ => exact ⟨x, rfl⟩

theorem op_field (hΓ : EnvOk P Γ) {o : Oper} {T : TypeId} {x : Operand} {f : Nat} (ho : o.op = .field T x f) : OpOk P Γ o := by
  intro C HT σ a w W cr σ' l next Q h hh hd hr hn
  simp only [opPr, ho] at hr
  obtain ⟨i, fs, off, n, g, hi, hk, hf, h1⟩ := fieldOf_run hr
  obtain ⟨⟨s, tvs⟩, σ1, l1, l2, h3, h4, rfl⟩ := run_bind_some h1
  obtain ⟨rfl, vs, hx, hv, hs⟩ := rdOp_ok h h3
  cases s with
  | agg =>
    obtain ⟨hc, h5⟩ := chk_run h4
    simp only [Bool.and_eq_true, Bool.or_eq_true] at hc
    obtain ⟨hc1, hc2⟩ := hc
    have hc1' : (sliceTV tvs off n).length = n := by simpa using hc1
    have hv2 : View C σ1 W w (sliceTV tvs off n) ((vs.drop off).take n) := (hv.drop off).take n
    have hvl : ((vs.drop off).take n).length = n := by rw [← hv2.length]; exact hc1'
    obtain ⟨W', h6, h7⟩ := setSl_view h hh hd hv2 (s := aggShape g) (by
      cases g with
      | true => trivial
      | false =>
        show _ = 1
        rw [hc1']
        rcases hc2 with h | h
        · cases h
        · simpa using h) h5
    refine wp_value (v := shVal (aggShape g) ((vs.drop off).take n)) (w' := w) ?_ (hn _ _ W' h6 h7 (put_size _ _ _))
    obtain ⟨d, hd', hkk⟩ := (hΓ T i hi).under
    rw [hk] at hkk
    obtain ⟨fields, rfl, -, hfs⟩ := hkk
    obtain ⟨fd, info, d', k1, k2, k3, k4, k5, k6⟩ := hfs f off n g hf
    cases g with
    | true =>
      simp [execOp, ho, hx, Instr.field, run_underlying hd', k1, shVal, asAgg, part, run_isAgg_of k5, ← k6, sizeOf, typeInfo, k3, aggShape, k2, k4]
    | false =>
      have hn1 : n = 1 := by
        rcases hc2 with h | h
        · cases h
        · simpa using h
      subst hn1
      obtain ⟨v, hv1⟩ := one_of_len hvl
      have hv3 : vs[off]? = some v := by
        have := congrArg (fun l => l[0]?) hv1
        simpa using this
      simp [execOp, ho, hx, Instr.field, run_underlying hd', k1, shVal, asAgg, part, run_isAgg_of k5, ← k6, aggShape, k2, hv1, hv3]
  | _ => exact (fail_run h4).elim

theorem tup_go {i : Nat} : ∀ {l : List (Bool × Nat)} {o o' n : Nat} {g : Bool} {vs : List Value}, tupAt l i o = some (o', n, g) → (∀ g k, (g, k) ∈ l → g = false → k = 1) → ((vs.drop o').take n).length = n →
    (shVal.go l (vs.drop o))[i]? = some (shVal (aggShape g) ((vs.drop o').take n)) ∧ (g = false → n = 1) := by
  induction i with
  | zero =>
    intro l o o' n g vs ht hl hlen
    match l, ht with
    | (g0, n0) :: l, ht =>
      simp only [tupAt, Option.some.injEq, Prod.mk.injEq] at ht
      obtain ⟨rfl, rfl, rfl⟩ := ht
      cases g0 with
      | true => simp [shVal.go, aggShape, shVal]
      | false =>
        have h1 := hl false n0 (by simp) rfl
        subst h1
        obtain ⟨v, hv⟩ := one_of_len hlen
        rw [hv]
        have hv3 : (vs.drop o).head? = some v := by
          have := congrArg (fun l => l[0]?) hv
          simpa using this
        simp [shVal.go, aggShape, shVal, List.headD_eq_head?_getD, hv3]
  | succ i ih =>
    intro l o o' n g vs ht hl hlen
    match l, ht with
    | (g0, n0) :: l, ht =>
      simp only [tupAt] at ht
      have := ih ht (fun g k hg => hl g k (by simp [hg])) hlen
      rw [← List.drop_drop] at this
      cases g0 with
      | true => simpa [shVal.go] using this
      | false =>
        have h1 := hl false n0 (by simp) rfl
        subst h1
        simpa [shVal.go] using this

theorem op_extract {o : Oper} {x : Operand} {i : Nat} (ho : o.op = .extract x i) : OpOk P Γ o := by
  intro C HT σ a w W cr σ' l next Q h hh hd hr hn
  simp only [opPr, ho] at hr
  obtain ⟨⟨s, tvs⟩, σ1, l1, l2, h3, h4, rfl⟩ := run_bind_some hr
  obtain ⟨rfl, vs, hx, hv, hs⟩ := rdOp_ok h h3
  cases s with
  | tup ls =>
    simp only at h4
    cases ht : tupAt ls i 0 with
    | none => rw [ht] at h4; exact (fail_run h4).elim
    | some y =>
      obtain ⟨off, n, g⟩ := y
      rw [ht] at h4
      obtain ⟨hc1, h5⟩ := chk_run h4
      have hc1' : (sliceTV tvs off n).length = n := by simpa using hc1
      have hv2 : View C σ1 W w (sliceTV tvs off n) ((vs.drop off).take n) := (hv.drop off).take n
      have hvl : ((vs.drop off).take n).length = n := by rw [← hv2.length]; exact hc1'
      obtain ⟨k1, k2⟩ := tup_go ht hs.2 hvl
      rw [List.drop_zero] at k1
      obtain ⟨W', h6, h7⟩ := setSl_view h hh hd hv2 (s := aggShape g) (by
        cases g with
        | true => trivial
        | false => show _ = 1; rw [hc1']; exact k2 rfl) h5
      refine wp_value (v := shVal (aggShape g) ((vs.drop off).take n)) (w' := w) ?_ (hn _ _ W' h6 h7 (put_size _ _ _))
      simp [execOp, ho, hx, Instr.extract, shVal, k1]
  | _ => exact (fail_run h4).elim

theorem run_indexAt_in {T e : TypeId} (hT : P.underlying T = some (.slice e)) {sz : Nat} (hs : (sizeOf e).run P w = .ok sz w) (g off len cap : Nat) (k : IntKind) (i : Int) (h0 : 0 ≤ i) (h1 : i < len) :
    (Instr.indexAt T (.slice (some ⟨g, off, none⟩) len cap) (.int k i)).run P w = .ok (.pointer (some ⟨g, off + i.toNat * sz, none⟩)) w := by
  have : 0 ≤ i ∧ i < (len : Int) := ⟨h0, h1⟩
  simp [Instr.indexAt, run_underlying hT, asIntOf, this, hs, Addr.add_lit]

theorem Loc.fresh {r : Rs} {c : Nat} {v ver : Nat × Nat} {s : Shape} {tvs : List TV} {y : Value} (hl : Loc w σ W r c ver [] y) (hg : σ.get r = (v, some (s, tvs))) (hv : verOk v ver [] = true) : Loc w σ W r c v [] y := by
  refine ⟨?_, fun v' s' tvs' hg' _ => ?_⟩
  · unfold VerB
    rw [hg]
    exact .inr ⟨rfl, Nat.le_refl _⟩
  · rw [hg] at hg'
    cases hg'
    exact hl.2 v s tvs hg hv

theorem freshVer_run {r : Rs} {c : Nat} {ver : Nat × Nat} {p : Path} {b : AV} {y : Value} {σ1 τ : St} {l0 l : Log} {k : Nat × Nat → Pr Unit} (h7 : (content r c ver p).run P cr σ = some (b, σ1, l0)) (hl : Loc w σ W r c ver p y)
    (h : (freshVer r ver p k).run P cr σ = some ((), τ, l)) : ∃ ver' l', Loc w σ W r c ver' p y ∧ (k ver').run P cr σ = some ((), τ, l') := by
  cases p with
  | nil =>
    obtain ⟨v, s, tvs, a0, l', hg, hv, _⟩ := content_run h7
    obtain ⟨l2, h2, _⟩ := get_run (show (Pr.get r fun z => k z.1).run P cr σ = _ from h)
    rw [hg] at h2
    exact ⟨v, l2, hl.fresh hg hv, h2⟩
  | cons x p => exact ⟨ver, l, hl, h⟩

theorem op_indexAddr (hΓ : EnvOk P Γ) {o : Oper} {T : TypeId} {x y : Operand} (ho : o.op = .indexAddr T x y) : OpOk P Γ o := by
  intro C HT σ a w W cr σ' l next Q h hh hd hr hn
  simp only [opPr, ho] at hr
  obtain ⟨i, e, j, hi, hk, hj, h1⟩ := withElem_run hr
  obtain ⟨t, σ1, l1, l2, h3, h4, rfl⟩ := run_bind_some h1
  obtain ⟨rfl, ht⟩ := rdOne_ok h h3
  obtain ⟨⟨ki, ix⟩, σ2, l3, l4, h5, h6, rfl⟩ := run_bind_some h4
  obtain ⟨rfl, hy⟩ := rdInt_ok h h5
  have hT := (hΓ T i hi).slice hk
  have hse := (hΓ e j hj).sizeOf w
  have key : ∀ (g off n cap : Nat) (t' : TV) (lx : Log), a.eval x = .slice (some ⟨g, off, none⟩) n cap → 0 ≤ ix → ix < n → (setSl o.dst .one [t']).run P cr σ2 = some ((), σ', lx) →
      TV1 C σ2 W w t' (.pointer (some ⟨g, off + ix.toNat * j.size, none⟩)) → o.wp P a w next Q := by
    intro g off n cap t' lx hx h0 h1 hs ht'
    obtain ⟨W', h5, h6⟩ := setSl_view h hh hd (s := .one) (tvs := [t']) (vs := [.pointer (some ⟨g, off + ix.toNat * j.size, none⟩)]) ⟨ht', trivial⟩ rfl hs
    refine wp_value (v := .pointer (some ⟨g, off + ix.toNat * j.size, none⟩)) (w' := w) ?_ (hn _ _ W' h5 h6 (put_size _ _ _))
    simp [execOp, ho, hx, hy, run_indexAt_in hT hse g off n cap ki ix h0 h1]
  generalize hz : a.eval x = z at ht
  have hshd : ∀ {n : NF} {s : Nat} {els : List (List AV)} {z : Value} {f : List Nat} {β : Nat → Option Nat} {lx : Log}, a.eval x = z → Rep w β (Sh C σ2 W w) [.sl false n s els] [z] f →
      (chk (szOk n s j.size) (.req (0 ≤ ix ∧ ix < els.length) (setSl o.dst .one [.val (.ep s els ix.toNat 0)]))).run P cr σ2 = some ((), σ', lx) → o.wp P a w next Q := by
    intro n s els z f β lx hz hrep hrun
    obtain ⟨hc, h8⟩ := chk_run hrun
    obtain ⟨hb, h9⟩ := req_run h8
    cases hrep with
    | nils hnf t => simp at hb; omega
    | emp hnf hc t => simp at hb; omega
    | shd hnf hg hrow hn hsz hpos hcap hmax hin t =>
      have hs := szOk_eq hc hnf
      subst hs
      refine key _ _ _ _ _ _ hz hb.1 (by rw [← hn]; exact hb.2) h9 ?_
      have := Rep.ep (w := w) (β := W.β) (S := Sh C σ2 W w) (i := ix.toNat) (c := 0) hg hrow hsz (by omega) hin .nil
      show Rep _ _ _ _ _ _
      simpa using this
  simp only at h6
  split at h6
  · exact hshd hz ht h6
  · rename_i r c ver p
    obtain ⟨b, σ3, l5, l6, h7, h8, rfl⟩ := run_bind_some h6
    obtain ⟨rfl, β', f, hb1, hb2, hf, hlv, hrep⟩ := content_ok h h7 ht.2
    split at h8
    · rename_i n s els
      obtain ⟨hc, h9⟩ := chk_run h8
      simp only [Bool.and_eq_true] at hc
      obtain ⟨hc, hs0⟩ := hc
      obtain ⟨hb, h10⟩ := req_run h9
      cases hrep with
      | nils hnf t => simp at hb; omega
      | owd hnf hg hnn hsz hpos hcap hmax hcur hin t =>
        rename_i gg nn ccap ccur ee ffi ffp
        have hb2 : ix < (nn : Int) := by rw [← hnn]; exact hb.2
        have hs := szOk_eq hc hnf
        subst hs
        obtain ⟨ver', l11, hloc', h11⟩ := freshVer_run h7 ht.2 h10
        obtain ⟨W', h5, h6⟩ := setSl_view h hh hd (s := .one) (tvs := [.eref r c ver' p j.size ix.toNat 0]) (vs := [.pointer (some ⟨_, 0 + ix.toNat * j.size, none⟩)]) ⟨⟨_, _, _, by rw [erv_pos hpos]; simp; rfl, hloc'⟩, trivial⟩ rfl h11
        refine wp_value (v := .pointer (some ⟨_, 0 + ix.toNat * j.size, none⟩)) (w' := w) ?_ (hn _ _ W' h5 h6 (put_size _ _ _))
        simp [execOp, ho, hz, hy, run_indexAt_in hT hse gg 0 nn ccap ki ix hb.1 hb2]
    · rename_i n s els
      exact hshd hz hrep h8
    · exact (fail_run h8).elim
  · exact (fail_run h6).elim

theorem op_index (hΓ : EnvOk P Γ) {o : Oper} {T : TypeId} {x y : Operand} (ho : o.op = .index T x y) : OpOk P Γ o := by
  intro C HT σ a w W cr σ' l next Q h hh hd hr hn
  simp only [opPr, ho] at hr
  obtain ⟨i, hi, h1⟩ := withTy_run hr
  cases hk : i.kind with
  | string =>
    rw [hk] at h1
    obtain ⟨b, σ1, l1, l2, h3, h4, rfl⟩ := run_bind_some h1
    obtain ⟨rfl, hx, hsc⟩ := rdV_ok h h3
    obtain ⟨⟨ki, ix⟩, σ2, l3, l4, h5, h6, rfl⟩ := run_bind_some h4
    obtain ⟨rfl, hy⟩ := rdInt_ok h h5
    simp only at h6
    cases b with
    | string s =>
      simp only at h6
      obtain ⟨hb, h7⟩ := req_run h6
      have h8 := nm_run h7
      have hlt : ix.toNat < s.size := by omega
      have he : (s.data.toList.getD ix.toNat 0) = s[ix.toNat]'hlt := by
        rw [List.getD_eq_getElem?_getD, List.getElem?_eq_getElem (by simpa using hlt)]
        rfl
      refine wp_value (v := .int .u8 (s.data.toList.getD ix.toNat 0).toNat) (w' := w) ?_ (setV_val h hh hd rfl h8 hn)
      rw [he]
      have := run_index_string (P := P) w T s ki ix ((hΓ T i hi).string hk)
      rw [dif_pos hb] at this
      simp [execOp, ho, hx, hy, this]
    | _ => exact (fail_run h6).elim
  | _ => rw [hk] at h1; exact (fail_run h1).elim

theorem capsOf_ok (h : SR C σ a w W) {xs : List Operand} : ∀ {tvs : List TV} {σ' : St} {l : Log}, (capsOf xs).run P cr σ = some (tvs, σ', l) → σ' = σ ∧ View C σ W w tvs (xs.map a.eval) := by
  induction xs with
  | nil =>
    intro tvs σ' l hr
    obtain ⟨rfl, rfl, _⟩ := ret_run (show (Pr.ret []).run P cr σ = _ from hr)
    exact ⟨rfl, trivial⟩
  | cons x xs ih =>
    intro tvs σ' l hr
    obtain ⟨t, σ1, l1, l2, h1, h2, rfl⟩ := run_bind_some (show (rdOne x >>= fun t => capsOf xs >>= fun r => Pr.ret (t :: r)).run P cr σ = _ from hr)
    obtain ⟨e1, ht⟩ := rdOne_ok h h1
    subst e1
    obtain ⟨ts, σ2, l3, l4, h3, h4, rfl⟩ := run_bind_some h2
    obtain ⟨e2, hv⟩ := ih h3
    subst e2
    obtain ⟨rfl, rfl, _⟩ := ret_run h4
    exact ⟨rfl, ht, hv⟩

theorem op_makeFunc {o : Oper} {f : FuncId} {first caps : Array Operand} (ho : o.op = .makeFunc (.func f) first caps) : OpOk P Γ o := by
  intro C HT σ a w W cr σ' l next Q h hh hd hr hn
  simp only [opPr, ho] at hr
  split at hr
  · rename_i hf
    obtain ⟨tvs, σ1, l1, l2, h1, h2, rfl⟩ := run_bind_some hr
    obtain ⟨rfl, hv⟩ := capsOf_ok h h1
    obtain ⟨as, σ2, l3, l4, h3, h4, rfl⟩ := run_bind_some h2
    obtain ⟨rfl, _, hrep⟩ := vals_ok (Held.of_view hv) h3
    obtain ⟨W', h5, h6⟩ := setSl_view h hh hd (s := .one) (tvs := [.val (.clo f as)]) (vs := [.func (.func f) #[] (caps.toList.map a.eval).toArray]) ⟨Rep.clo hrep .nil, trivial⟩ rfl h4
    refine wp_value (v := .func (.func f) #[] (caps.toList.map a.eval).toArray) (w' := w) ?_ (hn _ _ W' h5 h6 (put_size _ _ _))
    have hfe : first = #[] := by
      apply Array.toList_inj.1; simpa using hf
    have hce : (List.map a.eval caps.toList).toArray = Array.map a.eval caps := by
      apply Array.toList_inj.1; simp
    simp [execOp, ho, Instr.makeFunc, hfe, hce]
  · exact (fail_run hr).elim

end Go.Vs

namespace Go.Vs

variable {C : Ctx} {σ : St} {a : Act} {w : World} {W : Wit} {P : Program} {cr : CallR} {Γ : Env}

theorem arr1 {α : Type} {xs : Array α} {x : α} (h : xs.toList = [x]) : xs = #[x] := Array.toList_inj.1 (by simpa using h)
theorem arr2 {α : Type} {xs : Array α} {x y : α} (h : xs.toList = [x, y]) : xs = #[x, y] := Array.toList_inj.1 (by simpa using h)

theorem run_len_any_slice {t ty e : TypeId} (h : P.underlying t = some (.slice e)) (b : Option Addr) (n c : Nat) : (Builtin.len_ #[t] ty #[.slice b n c]).run P w = .ok (goInt n) w := by
  simp [Builtin.len_, run_underlying h]

theorem Rep.sl_len {S : Nat → Prop} {β : Nat → Option Nat} {o : Bool} {n : NF} {s : Nat} {els : List (List AV)} {z : Value} {f : List Nat} (h : Rep w β S [.sl o n s els] [z] f) : ∃ b m c, z = .slice b m c ∧ m = els.length := by
  cases h with
  | nils hnf t => exact ⟨none, 0, 0, rfl, rfl⟩
  | emp hnf hc t => exact ⟨_, _, _, rfl, rfl⟩
  | shd hnf hg hrow hn hsz hpos hcap hmax hin t => exact ⟨_, _, _, rfl, hn.symm⟩
  | owd hnf hg hn hsz hpos hcap hmax hcur hin t => exact ⟨_, _, _, rfl, hn.symm⟩

theorem op_len (hΓ : EnvOk P Γ) {o : Oper} {c : Call} {T : TypeId} {x : Operand} (ho : o.op = .call c) (hc : c.callee = .builtin .len) (ha : c.args.toList = [x]) (ht : c.argTypes.toList = [T])
    {C : Ctx} {σ : St} {a : Act} {w : World} {W : Wit} {cr : CallR} {σ' : St} {l : Log} {next : Act → World → Prop} {Q : Exit → Act → World → Prop}
    (h : SR C σ a w W) (hh : W.hand = []) (hd : ∀ t, o.dst = some t → t < a.tmps.size) (hr : (lenPr Γ T x o.dst).run P cr σ = some ((), σ', l))
    (hn : ∀ a' w' W', SR C σ' a' w' W' → W'.hand = [] → a'.tmps.size = a.tmps.size → next a' w') : o.wp P a w next Q := by
  obtain ⟨i, hi, h1⟩ := withTy_run hr
  have key : ∀ (n : Nat) (lx : Log), ((Builtin.len_ #[T] o.type #[a.eval x]).run P w = .ok (goInt n) w) → ((Pr.nm (n : Int) fun m => setV o.dst (.int .i64 m))).run P cr σ = some ((), σ', lx) → o.wp P a w next Q := by
    intro n lx hl hrun
    have h5 := nm_run hrun
    refine wp_value (v := .int .i64 n) (w' := w) ?_ (setV_val h hh hd rfl h5 hn)
    simp [execOp, ho, resolve, hc, arr1 ha, arr1 ht, invoke, builtin, hl, goInt]
  cases hk : i.kind with
  | string =>
    rw [hk] at h1
    obtain ⟨y, σ1, l1, l2, h3, h4, rfl⟩ := run_bind_some h1
    obtain ⟨rfl, hx, _⟩ := rdV_ok h h3
    cases y with
    | string s =>
      refine key _ _ ?_ h4
      rw [hx]
      exact run_len_string w T o.type s ((hΓ T i hi).string hk)
    | _ => exact (fail_run h4).elim
  | slice e =>
    rw [hk] at h1
    obtain ⟨t, σ1, l1, l2, h3, h4, rfl⟩ := run_bind_some h1
    obtain ⟨rfl, htv⟩ := rdOne_ok h h3
    have hu := (hΓ T i hi).slice hk
    simp only at h4
    split at h4
    · obtain ⟨b, m, c, he, hm⟩ := Rep.sl_len htv
      refine key _ _ ?_ h4
      rw [he, run_len_any_slice hu, hm]
    · obtain ⟨b, σ3, l5, l6, h7, h8, rfl⟩ := run_bind_some h4
      obtain ⟨rfl, β', f, hb1, hb2, hf, hlv, hrep⟩ := content_ok h h7 htv.2
      split at h8
      · obtain ⟨b, m, c, he, hm⟩ := hrep.sl_len
        refine key _ _ ?_ h8
        rw [he, run_len_any_slice hu, hm]
      · exact (fail_run h8).elim
    · exact (fail_run h4).elim
  | _ =>
    rw [hk] at h1
    exact (fail_run h1).elim

theorem op_min {o : Oper} {c : Call} {b : Builtin} (ho : o.op = .call c) (hb : b = .min ∨ b = .max) (hc : c.callee = .builtin b)
    {C : Ctx} {σ : St} {a : Act} {w : World} {W : Wit} {cr : CallR} {σ' : St} {l : Log} {next : Act → World → Prop} {Q : Exit → Act → World → Prop}
    (h : SR C σ a w W) (hh : W.hand = []) (hd : ∀ t, o.dst = some t → t < a.tmps.size) (hr : (minPr b c.args.toList o.dst).run P cr σ = some ((), σ', l))
    (hn : ∀ a' w' W', SR C σ' a' w' W' → W'.hand = [] → a'.tmps.size = a.tmps.size → next a' w') : o.wp P a w next Q := by
  unfold minPr at hr
  split at hr
  · rename_i x y ha
    obtain ⟨⟨k, u⟩, σ1, l1, l2, h1, h2, rfl⟩ := run_bind_some hr
    obtain ⟨rfl, hx⟩ := rdInt_ok h h1
    obtain ⟨⟨k', v⟩, σ2, l3, l4, h3, h4, rfl⟩ := run_bind_some h2
    obtain ⟨rfl, hy⟩ := rdInt_ok h h3
    rcases hb with rfl | rfl
    · have h5 := nm_run (show (Pr.nm _ fun m => setV o.dst (.int k m)).run P cr σ2 = _ from h4)
      refine wp_value (v := .int k (if v < u then v else u)) (w' := w) ?_ (setV_val h hh hd rfl h5 hn)
      simp [execOp, ho, resolve, hc, arr2 ha, invoke, builtin, hx, hy, Builtin.min_, Builtin.min2]
    · have h5 := nm_run (show (Pr.nm _ fun m => setV o.dst (.int k m)).run P cr σ2 = _ from h4)
      refine wp_value (v := .int k (if v > u then v else u)) (w' := w) ?_ (setV_val h hh hd rfl h5 hn)
      simp [execOp, ho, resolve, hc, arr2 ha, invoke, builtin, hx, hy, Builtin.max_, Builtin.max2]
  · exact (fail_run hr).elim

theorem Wr.lt (h : SR C σ a w W) {b : Nat} (hb : Wr σ W b) : b < w.heap.size := by
  rcases hb with ⟨r, hr, hb⟩ | ⟨x, hx⟩ | hb
  · obtain ⟨v, s, tvs, hg⟩ := hr
    exact (h.rep r v s tvs hg).fp_lt b hb
  · obtain ⟨v, s, tvs, hg⟩ := h.boxl x b hx
    obtain ⟨g', T, h1, h2⟩ := h.box x v s tvs hg
    rw [hx] at h1; cases h1
    exact (Array.getElem?_eq_some_iff.1 h2).1
  · exact (h.hrng b hb).2

/-- A new block that nobody owns may be shared. -/
theorem SR.fresh (h : SR C σ a w W) {w' : World} {W' : Wit} (hW : ∀ b, Wr σ W' b → Wr σ W b) {b : Nat} (hb : w.heap.size ≤ b) (hb2 : b < w'.heap.size) : Sh C σ W' w' b :=
  ⟨.inr (.inl (Nat.le_trans h.keep.size hb)), hb2, fun hw => by have := Wr.lt h (hW b hw); omega⟩

theorem Rep.scalars {S : Nat → Prop} {β : Nat → Option Nat} : ∀ {vs : List Value}, (∀ v ∈ vs, scalar v = true) → Rep w β S (vs.map .v) vs []
  | [], _ => .nil
  | x :: xs, h => .v (h x (by simp)) (Rep.scalars fun u hu => h u (by simp [hu]))

theorem keeps_alloc (w : World) (o : Obj) (fp : List Nat) : Keeps w (w.drew.alloc o) fp :=
  ⟨rfl, rfl, rfl, by show w.heap.size ≤ (w.heap.push o).size; simp, fun b hb _ => by
    show (w.heap.push o)[b]? = _
    rw [Array.getElem?_push]; simp; omega⟩

theorem keeps_alloc' (w : World) (o : Obj) (fp : List Nat) : Keeps w (w.alloc o) fp :=
  ⟨rfl, rfl, rfl, by show w.heap.size ≤ (w.heap.push o).size; simp, fun b hb _ => by
    show (w.heap.push o)[b]? = _
    rw [Array.getElem?_push]; simp; omega⟩

theorem alloc_get (w : World) (o : Obj) : (w.drew.alloc o).heap[w.heap.size]? = some o := by
  show (w.heap.push o)[w.heap.size]? = _
  simp

theorem alloc_get' (w : World) (o : Obj) : (w.alloc o).heap[w.heap.size]? = some o := by
  show (w.heap.push o)[w.heap.size]? = _
  simp

theorem alloc_size (w : World) (o : Obj) : (w.drew.alloc o).heap.size = w.heap.size + 1 := by
  show (w.heap.push o).size = _
  simp

theorem alloc_size' (w : World) (o : Obj) : (w.alloc o).heap.size = w.heap.size + 1 := by
  show (w.heap.push o).size = _
  simp

theorem bytes_xs : ∀ (els : List (List AV)), (∀ el ∈ els, ∃ n, el = [.v (.int .u8 n)]) → ∃ xs : List Int, els = xs.map (fun n => [.v (.int .u8 n)]) ∧ els.flatten = (xs.map (fun n => Value.int .u8 n)).map .v ∧ bytesOf els = xs.map fun n => UInt8.ofNat n.toNat
  | [], _ => ⟨[], rfl, rfl, rfl⟩
  | el :: els, h => by
    obtain ⟨n, rfl⟩ := h el (by simp)
    obtain ⟨xs, h1, h2, h3⟩ := bytes_xs els fun e he => h e (by simp [he])
    refine ⟨n :: xs, by simp [h1], by simp [h2], ?_⟩
    unfold bytesOf at *
    simp [h3]

theorem Rep.scalars_inv {S : Nat → Prop} {β : Nat → Option Nat} : ∀ {vs us : List Value} {f : List Nat}, Rep w β S (vs.map .v) us f → us = vs
  | [], us, f, h => by cases h; rfl
  | x :: xs, us, f, h => by
    obtain ⟨u, us', f1, f2, rfl, rfl, h1, h2⟩ := Rep.uncons h
    rw [Rep.scalars_inv h2]
    cases h1; rfl

theorem op_convert (hΓ : EnvOk P Γ) {o : Oper} {T S : TypeId} {x : Operand} (ho : o.op = .convert S T x) : OpOk P Γ o := by
  intro C HT σ a w W cr σ' l next Q h hh hd hr hn
  simp only [opPr, ho] at hr
  obtain ⟨i, hi, h1⟩ := withTy_run hr
  obtain ⟨i', hi', h2⟩ := withTy_run h1
  obtain ⟨ds, hs, hks⟩ := (hΓ S i' hi').under
  cases hk : i.kind with
  | int k =>
    rw [hk] at h2
    obtain ⟨⟨k', n⟩, σ1, l1, l2, h3, h4, rfl⟩ := run_bind_some h2
    obtain ⟨rfl, hx⟩ := rdInt_ok h h3
    have h5 := nm_run h4
    refine wp_value (v := .int k (k.wrap n)) (w' := w) ?_ (setV_val h hh hd rfl h5 hn)
    simp [execOp, ho, hx, convert, run_underlying hs, run_underlying ((hΓ T i hi).int hk), Conv.intToInt]
  | slice e =>
    rw [hk] at h2
    obtain ⟨j, hj, h3⟩ := withTy_run h2
    split at h3
    · rename_i hkj hki
      obtain ⟨y, σ1, l1, l2, h4, h5, rfl⟩ := run_bind_some h3
      obtain ⟨rfl, hx, hsc⟩ := rdV_ok h h4
      cases y with
      | string s =>
        obtain ⟨hle, h6⟩ := req_run h5
        have hT := (hΓ T i hi).slice hk
        have hE := (hΓ e j hj).int hkj
        have hS := (hΓ S i' hi').string hki
        have hrun := run_bytes_of_string (P := P) w S T e s hS hT hE
        generalize hcap : grownCap w s.size 0 e = cap at hrun
        have hge : s.size ≤ cap := by rw [← hcap]; exact grownCap_ge _ _ _ _
        have hmx : cap ≤ maxLen := by rw [← hcap]; exact grownCap_le_maxLen _ _ _ _ (by simp [maxLen]; omega)
        generalize hob : Obj.cells (bytesRow s cap) e ((bytesRow s cap).size, (bytesRow s cap).size + 1) = ob at hrun
        obtain ⟨k1, k2, k3⟩ := h.world (hand' := []) (keeps_alloc w ob W.hand) (by simp) (by simp)
        have hsh : Sh C σ1 { W with hand := [] } (w.drew.alloc ob) w.heap.size := h.fresh (fun b hb => by
          rcases hb with h | h | h
          · exact .inl h
          · exact .inr (.inl h)
          · simp at h) (Nat.le_refl _) (by rw [alloc_size]; omega)
        have hrep : Rep (w.drew.alloc ob) W.β (Sh C σ1 { W with hand := [] } (w.drew.alloc ob)) [.sl false .non 1 (byteEls s)] [.slice (some ⟨w.heap.size, 0, none⟩) s.size cap] [] := by
          by_cases h0 : s.size = 0
          · have : byteEls s = [] := by
              unfold byteEls
              have : s.data.toList = [] := by
                apply List.eq_nil_of_length_eq_zero
                simpa using h0
              rw [this]; rfl
            rw [this, h0]
            exact .emp (by simp) hmx .nil
          · have hflat : (byteEls s).flatten = (s.data.toList.map fun b => Value.int .u8 (b.toNat : Int)).map .v := by
              unfold byteEls
              generalize s.data.toList = L
              induction L with
              | nil => rfl
              | cons b L ih => simp only [List.map_cons, List.flatten_cons, ih]; rfl
            refine Rep.shd (cs := s.data.toList.map fun b => Value.int .u8 (b.toNat : Int)) (by simp) hsh ⟨bytesRow s cap, e, _, by rw [alloc_get, ← hob], ?_⟩ ?_ ?_ (by omega) hge hmx ?_ .nil
            · simp [bytesRow]
            · simp [byteEls]
            · intro el hel
              unfold byteEls at hel
              simp only [List.mem_map] at hel
              obtain ⟨b, _, rfl⟩ := hel
              rfl
            · rw [hflat]
              refine Rep.scalars fun v hv => ?_
              simp only [List.mem_map] at hv
              obtain ⟨b, _, rfl⟩ := hv
              rfl
        obtain ⟨W', h7, h8⟩ := setSl_view k1 rfl hd (s := .one) (tvs := [.val (.sl false .non 1 (byteEls s))]) (vs := [.slice (some ⟨w.heap.size, 0, none⟩) s.size cap]) ⟨hrep, trivial⟩ rfl h6
        refine wp_value (v := .slice (some ⟨w.heap.size, 0, none⟩) s.size cap) (w' := w.drew.alloc ob) ?_ (hn _ _ W' h7 h8 (put_size _ _ _))
        simp [execOp, ho, hx, hrun]
      | _ => exact (fail_run h5).elim
    · exact (fail_run h3).elim
  | string =>
    rw [hk] at h2
    have hT := (hΓ T i hi).string hk
    simp only at h2
    split at h2
    · rename_i e hki
      obtain ⟨j, hj, h3⟩ := withTy_run h2
      split at h3
      · rename_i hkj
        have hE := (hΓ e j hj).int hkj
        have hS := (hΓ S i' hi').slice hki
        obtain ⟨t, σ1, l1, l2, h4, h5, rfl⟩ := run_bind_some h3
        obtain ⟨rfl, ht⟩ := rdOne_ok h h4
        obtain ⟨b, σ2, l3, l4, h6, h7, rfl⟩ := run_bind_some h5
        obtain ⟨rfl, hptr, hrep⟩ := share_ok h ht h6 W.β
        clear hptr
        split at h7
        · rename_i o1 n1 s1 els
          obtain ⟨hall, h8⟩ := req_run h7
          obtain ⟨xs, hx1, hx2, hx3⟩ := bytes_xs els hall
          refine wp_value (v := .string ⟨(bytesOf els).toArray⟩) (w' := w) ?_ (setV_val h hh hd rfl h8 hn)
          generalize hz : a.eval x = z at hrep
          have hgoal : ∀ r, (convert S T z).run P w = .ok (.string r) w → r = ⟨(bytesOf els).toArray⟩ → (execOp a.eval o).run P w = .ok (.value (.string ⟨(bytesOf els).toArray⟩)) w := by
            intro r h1 h2
            subst h2
            simp [execOp, ho, hz, h1]
          cases hrep with
          | nils hnf t =>
            refine hgoal _ (run_convert_bytes_nil (P := P) w S e hS hE 0 0 T hT) ?_
            simp [bytesOf]; rfl
          | emp hnf hc t =>
            rename_i ad cap
            have hl : (loadCells ad 0).run P w = .ok #[] w := run_loadCells_list (P := P) w ad [] (by simp)
            have := run_convert_bytes_string (P := P) w S T e (some ad) 0 cap hS hE hT
            rw [run_bytesToString w ad 0 cap [] (by simpa using hl)] at this
            refine hgoal _ this ?_
            simp [bytesOf]; rfl
          | shd hnf hg hrow hn hsz hpos hcap hmax hin t =>
            rename_i g of nn cap cs
            rw [hx2] at hin
            have := Rep.scalars_inv hin
            subst this
            have hlen : xs.length = nn := by rw [← hn, hx1]; simp
            have := run_convert_bytes_arg (P := P) w S e hS hE g of nn cap xs hlen (fun k hk' => by
              refine hrow.cell (j := k) ?_
              rw [List.getElem?_map, List.getElem?_eq_getElem (by omega)]
              simp [List.getD, List.getElem?_eq_getElem (show k < xs.length by omega)]) T hT
            refine hgoal _ this ?_
            rw [hx3]
            rfl
        · exact (fail_run h7).elim
      · exact (fail_run h3).elim
    · obtain ⟨y, σ1, l1, l2, h4, h5, rfl⟩ := run_bind_some h2
      obtain ⟨rfl, hx, hsc⟩ := rdV_ok h h4
      cases y with
      | string s =>
        refine wp_value (v := .string s) (w' := w) ?_ (setV_val h hh hd rfl h5 hn)
        simp [execOp, ho, hx, convert, run_underlying hs, run_underlying hT]
      | _ => exact (fail_run h5).elim
    · exact (fail_run h2).elim
  | _ => rw [hk] at h2; exact (fail_run h2).elim

end Go.Vs

namespace Go.Vs

variable {C : Ctx} {σ : St} {a : Act} {w : World} {W : Wit} {P : Program} {cr : CallR} {Γ : Env}

theorem optInt_ok (h : SR C σ a w W) {x : Option Operand} {d n : Int} {σ' : St} {l : Log} (hr : (optInt x d).run P cr σ = some (n, σ', l)) :
    σ' = σ ∧ ((x = none ∧ n = d) ∨ ∃ y k, x = some y ∧ a.eval y = .int k n) := by
  cases x with
  | none =>
    obtain ⟨rfl, rfl, _⟩ := ret_run (show (Pr.ret d).run P cr σ = _ from hr)
    exact ⟨rfl, .inl ⟨rfl, rfl⟩⟩
  | some x =>
    obtain ⟨⟨k, m⟩, σ1, l1, l2, h1, h2, rfl⟩ := run_bind_some (show (rdInt x >>= fun p => Pr.ret p.2).run P cr σ = _ from hr)
    obtain ⟨rfl, hx⟩ := rdInt_ok h h1
    obtain ⟨rfl, rfl, _⟩ := ret_run h2
    exact ⟨rfl, .inr ⟨x, k, rfl, hx⟩⟩

theorem run_bounds {b : Bool} {len cap : Nat} {lo hi : Option Operand} {l h : Int} (hl : (lo = none ∧ l = 0) ∨ ∃ y k, lo = some y ∧ a.eval y = .int k l) (hh : (hi = none ∧ h = len) ∨ ∃ y k, hi = some y ∧ a.eval y = .int k h)
    (h0 : 0 ≤ l) (h1 : l ≤ h) (h2 : h ≤ cap) : (Instr.sliceBounds b len cap (lo.map a.eval) (hi.map a.eval) none).run P w = .ok (l.toNat, h.toNat, cap) w := by
  have h4 : 0 ≤ h ∧ h ≤ (cap : Int) := ⟨by omega, h2⟩
  have h5 : 0 ≤ l ∧ l ≤ ((h.toNat : Nat) : Int) := ⟨h0, by omega⟩
  rcases hl with ⟨rfl, rfl⟩ | ⟨y, k, rfl, hy⟩ <;> rcases hh with ⟨rfl, rfl⟩ | ⟨y', k', rfl, hy'⟩
  · simp [Instr.sliceBounds]
  · simp [Instr.sliceBounds, Instr.sliceBound, asIntOf, hy', h4]
  · simp only [Int.toNat_natCast] at h5
    simp [Instr.sliceBounds, Instr.sliceBound, asIntOf, hy, h5]
  · simp [Instr.sliceBounds, Instr.sliceBound, asIntOf, hy, hy', h4, h5]
    intro hc
    omega

theorem run_sliceAt_gen {T e : TypeId} {sz : Nat} (hT : P.underlying T = some (.slice e)) (hsz : (sizeOf e).run P w = .ok sz w) {p : Option Addr} {len cap : Nat} {lo hi mx : Option Value} {l h m : Nat}
    (hb : (Instr.sliceBounds true len cap lo hi mx).run P w = .ok (l, h, m) w) :
    (Instr.sliceAt T (.slice p len cap) lo hi mx).run P w = .ok (.slice (if m = l then p else p.map (·.add (l * sz))) (h - l) (m - l)) w := by
  simp [Instr.sliceAt, Instr.slice, run_underlying hT, hb, hsz]

theorem flatten_take' {sz : Nat} : ∀ {els : List (List AV)} (k : Nat), (∀ el ∈ els, el.length = sz) → (els.take k).flatten = els.flatten.take (k * sz)
  | [], k, _ => by simp
  | el :: els, 0, _ => by simp
  | el :: els, k + 1, h => by
    have h0 := h el (by simp)
    have := flatten_take' (els := els) k fun e he => h e (by simp [he])
    simp only [List.take_succ_cons, List.flatten_cons, this]
    rw [List.take_append, List.take_of_length_le (l := el) (by rw [h0, Nat.add_mul]; omega)]
    congr 2
    rw [h0, Nat.add_mul]; omega

theorem flatten_drop' {sz : Nat} : ∀ {els : List (List AV)} (k : Nat), (∀ el ∈ els, el.length = sz) → (els.drop k).flatten = els.flatten.drop (k * sz)
  | [], k, _ => by simp
  | el :: els, 0, _ => by simp
  | el :: els, k + 1, h => by
    have h0 := h el (by simp)
    have := flatten_drop' (els := els) k fun e he => h e (by simp [he])
    simp only [List.drop_succ_cons, List.flatten_cons, this]
    rw [List.drop_append, List.drop_eq_nil_of_le (as := el) (by rw [h0, Nat.add_mul]; omega)]
    simp only [List.nil_append]
    congr 1
    rw [h0, Nat.add_mul]; omega

theorem Row.sub {g o : Nat} {cs : List Value} (h : Row w g o cs) (k n : Nat) : Row w g (o + k) ((cs.drop k).take n) := by
  obtain ⟨cur, e, fz, hg, hc⟩ := h
  refine ⟨cur, e, fz, hg, ?_⟩
  apply List.ext_getElem?
  intro j
  rw [List.getElem?_take, List.getElem?_drop, List.getElem?_take, List.getElem?_drop]
  by_cases hj : j < ((cs.drop k).take n).length
  · have hj2 : j < n := by simp at hj; omega
    have hj3 : k + j < cs.length := by simp at hj; omega
    rw [if_pos hj, if_pos hj2]
    have := congrArg (fun l => l[k + j]?) hc
    simp only [List.getElem?_take, List.getElem?_drop, if_pos hj3] at this
    rw [← this, Nat.add_assoc]
  · rw [if_neg hj]
    by_cases hj2 : j < n
    · rw [if_pos hj2, List.getElem?_eq_none]
      simp at hj ⊢; omega
    · rw [if_neg hj2]

/-- A shared slice, sliced. -/
theorem slice_shared {S : Nat → Prop} {β : Nat → Option Nat} {n : NF} {s : Nat} {els : List (List AV)} {z : Value} (hrep : Rep w β S [.sl false n s els] [z] []) {T e : TypeId} {sz : Nat} (hT : P.underlying T = some (.slice e))
    (hsz : (sizeOf e).run P w = .ok sz w) (hok : szOk n s sz = true) {lo hi : Option Operand} {l h : Int} (hl : (lo = none ∧ l = 0) ∨ ∃ y k, lo = some y ∧ a.eval y = .int k l)
    (hh : (hi = none ∧ h = els.length) ∨ ∃ y k, hi = some y ∧ a.eval y = .int k h) (h0 : 0 ≤ l) (h1 : l ≤ h) (h2 : h ≤ els.length) :
    ∃ z', (Instr.sliceAt T z (lo.map a.eval) (hi.map a.eval) none).run P w = .ok z' w ∧ Rep w β S [.sl false n s ((els.take h.toNat).drop l.toNat)] [z'] [] := by
  cases hrep with
  | nils hnf t =>
    simp only [List.length_nil] at h2 hh
    have hl0 : l.toNat = 0 := by omega
    have hh0 : h.toNat = 0 := by omega
    have hb := run_bounds (P := P) (w := w) (b := true) (len := 0) (cap := 0) hl hh h0 h1 h2
    refine ⟨.slice none 0 0, ?_, ?_⟩
    · rw [run_sliceAt_gen hT hsz hb]; simp [hl0, hh0]
    · simp; exact .nils hnf .nil
  | emp hnf hc t =>
    rename_i ad cap
    simp only [List.length_nil] at h2 hh
    have hl0 : l.toNat = 0 := by omega
    have hh0 : h.toNat = 0 := by omega
    have hb := run_bounds (P := P) (w := w) (b := true) (len := 0) (cap := cap) hl hh h0 h1 (by omega)
    refine ⟨.slice (some (if cap = 0 then ad else ad.add 0)) 0 cap, ?_, ?_⟩
    · rw [run_sliceAt_gen hT hsz hb, hl0, hh0]
      by_cases hc0 : cap = 0
      · simp [hc0]
      · simp [hc0]
    · simp; exact .emp hnf hc .nil
  | shd hnf hg hrow hn hszs hpos hcap hmax hin t =>
    rename_i g of nn cap cs
    have hs : s = sz := szOk_eq hok hnf
    subst hs
    have hlen : nn = els.length := hn.symm
    subst hlen
    have hb := run_bounds (P := P) (w := w) (b := true) (len := els.length) (cap := cap) hl hh h0 h1 (by omega)
    have hlc : l.toNat ≤ cap := by omega
    by_cases hlh : l.toNat = h.toNat
    · refine ⟨.slice (some (if cap = l.toNat then ⟨g, of, none⟩ else ⟨g, of + l.toNat * s, none⟩)) 0 (cap - l.toNat), ?_, ?_⟩
      · rw [run_sliceAt_gen hT hsz hb]
        by_cases hc0 : cap = l.toNat
        · simp [hc0, hlh]
        · rw [hlh] at hc0
          simp [hc0, hlh, Addr.add_lit]
      · have : (els.take h.toNat).drop l.toNat = [] := by
          apply List.drop_eq_nil_of_le
          simp; omega
        rw [this]
        exact .emp hnf (by omega) .nil
    · have hc0 : cap ≠ l.toNat := by omega
      refine ⟨.slice (some ⟨g, of + l.toNat * s, none⟩) (h.toNat - l.toNat) (cap - l.toNat), ?_, ?_⟩
      · rw [run_sliceAt_gen hT hsz hb]; simp [hc0, Addr.add_lit]
      · have hflat : ((els.take h.toNat).drop l.toNat).flatten = (els.flatten.drop (l.toNat * s)).take ((h.toNat - l.toNat) * s) := by
          rw [flatten_drop' _ (fun el hel => hszs el (List.mem_of_mem_take hel)), flatten_take' _ hszs, List.drop_take, Nat.sub_mul]
        refine Rep.shd (cs := (cs.drop (l.toNat * s)).take ((h.toNat - l.toNat) * s)) hnf hg (hrow.sub _ _) ?_ (fun el hel => hszs el (List.mem_of_mem_take (List.mem_of_mem_drop hel))) hpos (by omega) (by omega) ?_ .nil
        · simp; omega
        · rw [hflat]
          exact hin.sub _ _

theorem run_bounds3 {len cap : Nat} {lo : Option Operand} {y' y'' : Operand} {k' k'' : IntKind} {l h m : Int} (hl : (lo = none ∧ l = 0) ∨ ∃ y k, lo = some y ∧ a.eval y = .int k l) (hy' : a.eval y' = .int k' h) (hy'' : a.eval y'' = .int k'' m)
    (h0 : 0 ≤ l) (h1 : l ≤ h) (h2 : h ≤ m) (h3 : m ≤ cap) : (Instr.sliceBounds true len cap (lo.map a.eval) (some (a.eval y')) (some (a.eval y''))).run P w = .ok (l.toNat, h.toNat, m.toNat) w := by
  have e1 : 0 ≤ m ∧ m ≤ (cap : Int) := ⟨by omega, h3⟩
  have e2 : 0 ≤ h ∧ h ≤ ((m.toNat : Nat) : Int) := ⟨by omega, by omega⟩
  have e3 : 0 ≤ l ∧ l ≤ ((h.toNat : Nat) : Int) := ⟨h0, by omega⟩
  have s1 : (Instr.sliceBound (.int k'' m) cap .slice3Acap).run P w = .ok m.toNat w := by
    simp only [Instr.sliceBound, asIntOf]; simp [e1]
  have s2 : (Instr.sliceBound (.int k' h) m.toNat .slice3B).run P w = .ok h.toNat w := by
    simp only [Instr.sliceBound, asIntOf]; simp only [pure_bind]; rw [if_pos e2]; rfl
  rcases hl with ⟨rfl, rfl⟩ | ⟨y, k, rfl, hy⟩
  · simp [Instr.sliceBounds, hy', hy'', s1, s2]
  · have s3 : (Instr.sliceBound (.int k l) h.toNat .slice3C).run P w = .ok l.toNat w := by
      simp only [Instr.sliceBound, asIntOf]; simp only [pure_bind]; rw [if_pos e3]; rfl
    simp [Instr.sliceBounds, hy, hy', hy'', s1, s2, s3]

/-- A shared slice, sliced with three indexes. -/
theorem slice_shared3 {S : Nat → Prop} {β : Nat → Option Nat} {n : NF} {s : Nat} {els : List (List AV)} {z : Value} (hrep : Rep w β S [.sl false n s els] [z] []) {T e : TypeId} {sz : Nat} (hT : P.underlying T = some (.slice e))
    (hsz : (sizeOf e).run P w = .ok sz w) (hok : szOk n s sz = true) {lo : Option Operand} {y' y'' : Operand} {k' k'' : IntKind} {l h m : Int} (hl : (lo = none ∧ l = 0) ∨ ∃ y k, lo = some y ∧ a.eval y = .int k l)
    (hy' : a.eval y' = .int k' h) (hy'' : a.eval y'' = .int k'' m) (h0 : 0 ≤ l) (h1 : l ≤ h) (h2 : h ≤ m) (h3 : m ≤ els.length) :
    ∃ z', (Instr.sliceAt T z (lo.map a.eval) (some (a.eval y')) (some (a.eval y''))).run P w = .ok z' w ∧ Rep w β S [.sl false n s ((els.take h.toNat).drop l.toNat)] [z'] [] := by
  cases hrep with
  | nils hnf t =>
    simp only [List.length_nil] at h3
    have hl0 : l.toNat = 0 := by omega
    have hh0 : h.toNat = 0 := by omega
    have hm0 : m.toNat = 0 := by omega
    have hb := run_bounds3 (P := P) (w := w) (len := 0) (cap := 0) hl hy' hy'' h0 h1 h2 (by simpa using h3)
    refine ⟨.slice none 0 0, ?_, ?_⟩
    · rw [run_sliceAt_gen hT hsz hb]; simp [hl0, hh0, hm0]
    · simp; exact .nils hnf .nil
  | emp hnf hc t =>
    rename_i ad cap
    simp only [List.length_nil] at h3
    have hl0 : l.toNat = 0 := by omega
    have hh0 : h.toNat = 0 := by omega
    have hm0 : m.toNat = 0 := by omega
    have hb := run_bounds3 (P := P) (w := w) (len := 0) (cap := cap) hl hy' hy'' h0 h1 h2 (by omega)
    refine ⟨.slice (some ad) 0 0, ?_, ?_⟩
    · rw [run_sliceAt_gen hT hsz hb, hl0, hh0, hm0]; simp
    · simp; exact .emp hnf (by simp) .nil
  | shd hnf hg hrow hn hszs hpos hcap hmax hin t =>
    rename_i g of nn cap cs
    have hs : s = sz := szOk_eq hok hnf
    subst hs
    have hlen : nn = els.length := hn.symm
    subst hlen
    have hb := run_bounds3 (P := P) (w := w) (len := els.length) (cap := cap) hl hy' hy'' h0 h1 h2 (by omega)
    by_cases hlh : l.toNat = h.toNat
    · refine ⟨.slice (some (if m.toNat = l.toNat then ⟨g, of, none⟩ else ⟨g, of + l.toNat * s, none⟩)) 0 (m.toNat - l.toNat), ?_, ?_⟩
      · rw [run_sliceAt_gen hT hsz hb]
        by_cases hc0 : m.toNat = l.toNat
        · simp [hc0, hlh]
        · rw [hlh] at hc0
          simp [hc0, hlh, Addr.add_lit]
      · have : (els.take h.toNat).drop l.toNat = [] := by
          apply List.drop_eq_nil_of_le
          simp; omega
        rw [this]
        exact .emp hnf (by omega) .nil
    · have hc0 : m.toNat ≠ l.toNat := by omega
      refine ⟨.slice (some ⟨g, of + l.toNat * s, none⟩) (h.toNat - l.toNat) (m.toNat - l.toNat), ?_, ?_⟩
      · rw [run_sliceAt_gen hT hsz hb]; simp [hc0, Addr.add_lit]
      · have hflat : ((els.take h.toNat).drop l.toNat).flatten = (els.flatten.drop (l.toNat * s)).take ((h.toNat - l.toNat) * s) := by
          rw [flatten_drop' _ (fun el hel => hszs el (List.mem_of_mem_take hel)), flatten_take' _ hszs, List.drop_take, Nat.sub_mul]
        refine Rep.shd (cs := (cs.drop (l.toNat * s)).take ((h.toNat - l.toNat) * s)) hnf hg (hrow.sub _ _) ?_ (fun el hel => hszs el (List.mem_of_mem_take (List.mem_of_mem_drop hel))) hpos (by omega) (by omega) ?_ .nil
        · simp; omega
        · rw [hflat]
          exact hin.sub _ _

theorem op_slice3 (hΓ : EnvOk P Γ) {o : Oper} {T : TypeId} {x : Operand} {lo hi : Option Operand} {mx : Operand} (ho : o.op = .slice T x lo hi (some mx)) : OpOk P Γ o := by
  intro C HT σ a w W cr σ' l next Q h hh hd hr hn
  simp only [opPr, ho] at hr
  obtain ⟨i, hi', h1⟩ := withTy_run hr
  obtain ⟨t, σ1, l1, l2, h2, h3, rfl⟩ := run_bind_some h1
  obtain ⟨rfl, ht⟩ := rdOne_ok h h2
  generalize hz : a.eval x = z at ht
  split at h3
  · rename_i e n s els y' y'' hk hmx
    cases hmx
    obtain ⟨j, hj, h4⟩ := withTy_run h3
    obtain ⟨lv, σ2, l3, l4, h5, h6, rfl⟩ := run_bind_some h4
    obtain ⟨rfl, hl⟩ := optInt_ok h h5
    obtain ⟨⟨k', hv⟩, σ3, l5, l6, h7, h8, rfl⟩ := run_bind_some h6
    obtain ⟨rfl, hhv⟩ := rdInt_ok h h7
    obtain ⟨⟨k'', mv⟩, σ4, l7, l8, h7', h8', rfl⟩ := run_bind_some h8
    obtain ⟨rfl, hmv⟩ := rdInt_ok h h7'
    obtain ⟨hok, h9⟩ := chk_run h8'
    obtain ⟨⟨b0, b1, b2, b3⟩, h10⟩ := req_run h9
    obtain ⟨z', hz', hrep'⟩ := slice_shared3 (P := P) ht ((hΓ T i hi').slice hk) ((hΓ e j hj).sizeOf w) hok hl hhv hmv b0 b1 b2 b3
    obtain ⟨W', k1, k2⟩ := setSl_view h hh hd (s := .one) (tvs := [.val (.sl false n s ((els.take hv.toNat).drop lv.toNat))]) (vs := [z']) ⟨hrep', trivial⟩ rfl h10
    refine wp_value (v := z') (w' := w) ?_ (hn _ _ W' k1 k2 (put_size _ _ _))
    simp [execOp, ho, hz, hz']
  · rename_i e r c ver y' y'' hk hmx
    cases hmx
    obtain ⟨j, hj, h4⟩ := withTy_run h3
    obtain ⟨b, σ3, l5, l6, h7, h8, rfl⟩ := run_bind_some h4
    obtain ⟨rfl, β', f, hb1, hb2, hf, hlv, hrep⟩ := content_ok h h7 ht.2
    split at h8
    · rename_i n s els
      obtain ⟨lv, σ2, l3, l4, h5, h6, rfl⟩ := run_bind_some h8
      obtain ⟨rfl, hl⟩ := optInt_ok h h5
      obtain ⟨⟨k', hv⟩, σ3, l7, l8, h9, h10, rfl⟩ := run_bind_some h6
      obtain ⟨rfl, hhv⟩ := rdInt_ok h h9
      obtain ⟨⟨k'', mv⟩, σ4, l9, l10, h11, h12, rfl⟩ := run_bind_some h10
      obtain ⟨rfl, hmv⟩ := rdInt_ok h h11
      obtain ⟨hok, h13⟩ := chk_run h12
      obtain ⟨⟨rfl, b1, b2, b3, b4⟩, h14⟩ := req_run h13
      obtain ⟨ver', l11, hloc', h15⟩ := freshVer_run h7 ht.2 h14
      cases hrep with
      | nils hnf t => simp at b4
      | owd hnf hg hnn hsz hpos hcap hmax hcur hin t =>
        rename_i gg nn ccap ccur ee ffi ffp
        have hs := szOk_eq hok hnf
        subst hs
        simp only at b1 b2 b3 b4
        have hbd := run_bounds3 (P := P) (w := w) (len := nn) (cap := ccap) hl hhv hmv (by omega) b1 b2 (by omega)
        obtain ⟨W', k1, k2⟩ := setSl_view h hh hd (s := .one) (tvs := [.eref r c ver' [] 0 hv.toNat mv.toNat]) (vs := [.slice (some ⟨gg, 0, none⟩) hv.toNat mv.toNat]) ⟨⟨_, _, _, rfl, hloc'⟩, trivial⟩ rfl h15
        refine wp_value (v := .slice (some ⟨gg, 0, none⟩) hv.toNat mv.toNat) (w' := w) ?_ (hn _ _ W' k1 k2 (put_size _ _ _))
        have he := run_sliceAt_gen (P := P) ((hΓ T i hi').slice hk) ((hΓ e j hj).sizeOf w) (p := some ⟨gg, 0, none⟩) hbd
        simp only [Int.toNat_zero, Nat.zero_mul, Nat.sub_zero, Option.map_some, Addr.add_lit, Nat.add_zero, ite_self] at he
        simp [execOp, ho, hz, he]
    · exact (fail_run h8).elim
  · exact (fail_run h3).elim

theorem op_slice (hΓ : EnvOk P Γ) {o : Oper} {T : TypeId} {x : Operand} {lo hi : Option Operand} (ho : o.op = .slice T x lo hi none) : OpOk P Γ o := by
  intro C HT σ a w W cr σ' l next Q h hh hd hr hn
  simp only [opPr, ho] at hr
  obtain ⟨i, hi', h1⟩ := withTy_run hr
  obtain ⟨t, σ1, l1, l2, h2, h3, rfl⟩ := run_bind_some h1
  obtain ⟨rfl, ht⟩ := rdOne_ok h h2
  generalize hz : a.eval x = z at ht
  split at h3
  · rename_i s hk
    obtain ⟨lv, σ2, l3, l4, h4, h5, rfl⟩ := run_bind_some h3
    obtain ⟨rfl, hl⟩ := optInt_ok h h4
    obtain ⟨hv, σ3, l5, l6, h6, h7, rfl⟩ := run_bind_some h5
    obtain ⟨rfl, hhv⟩ := optInt_ok h h6
    obtain ⟨⟨b0, b1, b2⟩, h8⟩ := req_run h7
    have hb := run_bounds (P := P) (w := w) (b := false) (len := s.size) (cap := s.size) hl hhv b0 b1 b2
    refine wp_value (v := .string (s.extract lv.toNat hv.toNat)) (w' := w) ?_ (setV_val h hh hd rfl h8 hn)
    cases ht
    simp [execOp, ho, hz, Instr.sliceAt, Instr.slice, run_underlying ((hΓ T i hi').string hk), hb]
  · rename_i e n s els hk
    obtain ⟨j, hj, h4⟩ := withTy_run h3
    obtain ⟨lv, σ2, l3, l4, h5, h6, rfl⟩ := run_bind_some h4
    obtain ⟨rfl, hl⟩ := optInt_ok h h5
    obtain ⟨hv, σ3, l5, l6, h7, h8, rfl⟩ := run_bind_some h6
    obtain ⟨rfl, hhv⟩ := optInt_ok h h7
    obtain ⟨hok, h9⟩ := chk_run h8
    obtain ⟨⟨b0, b1, b2⟩, h10⟩ := req_run h9
    obtain ⟨z', hz', hrep'⟩ := slice_shared (P := P) ht ((hΓ T i hi').slice hk) ((hΓ e j hj).sizeOf w) hok hl hhv b0 b1 b2
    obtain ⟨W', k1, k2⟩ := setSl_view h hh hd (s := .one) (tvs := [.val (.sl false n s ((els.take hv.toNat).drop lv.toNat))]) (vs := [z']) ⟨hrep', trivial⟩ rfl h10
    refine wp_value (v := z') (w' := w) ?_ (hn _ _ W' k1 k2 (put_size _ _ _))
    simp [execOp, ho, hz, hz']
  · rename_i e r c ver hk
    split at h3
    · exact (fail_run h3).elim
    · obtain ⟨j, hj, h4⟩ := withTy_run h3
      obtain ⟨l3, h5, rfl⟩ := get_run h4
      cases hg : σ1.get r with
      | mk v o2 => cases o2 with
        | none => rw [hg] at h5; exact (fail_run h5).elim
        | some y =>
          obtain ⟨s0, t0⟩ := y
          rw [hg] at h5
          simp only at h5
          cases hvo : verOk v ver [] with
          | false => rw [hvo] at h5; exact (fail_run h5).elim
          | true =>
            rw [hvo] at h5
            simp only at h5
            split at h5
            · rename_i n s els ha
              obtain ⟨l4, h6, rfl⟩ := put_run h5
              obtain ⟨u, hu, hcase⟩ := ht.2.2 v s0 t0 hg hvo
              have huz : z = u := by
                rcases hcase with ⟨_, h⟩ | ⟨h, _⟩
                · exact h
                · exact absurd rfl h
              subst huz
              obtain ⟨WA, fc, q1, q2, q3, q4, q5, q6⟩ := h.takeCell hg ha hu ht.1
              rw [hh, List.append_nil] at q3
              obtain ⟨r1, r2, r3⟩ := q1.world (hand' := []) (Keeps.refl w WA.hand) (by simp) (by simp)
              have hfcSh : ∀ b ∈ fc, Sh C (σ1.put r (cUp v, some (s0, t0.set c (.val .any)))) { WA with hand := [] } w b := by
                intro b hb
                have hbh : b ∈ WA.hand := by rw [q3]; exact hb
                obtain ⟨e1, e2⟩ := q1.hrng b hbh
                refine ⟨.inr e1, e2, ?_⟩
                rintro (⟨r', hr', hb'⟩ | ⟨x', hx'⟩ | hb')
                · exact (q1.hdis b hbh).1 r' hr' hb'
                · exact (q1.hdis b hbh).2 x' hx'
                · simp at hb'
              have hshc := q4.shc (S' := Sh C (σ1.put r (cUp v, some (s0, t0.set c (.val .any)))) { WA with hand := [] } w) (fun b hb => (r2 b hb).1) hfcSh
              have hcl : c < t0.length := (List.getElem?_eq_some_iff.1 ha).1
              obtain ⟨WB, x1, x2, x3⟩ := r1.giveCell (c := c) (u := z) (b := .sl false n s (shcLL els)) (f := []) (hand' := []) (St.get_put_same _ _ _) (by rw [List.getElem?_set]; simp [hcl]) (by
                show (WA.cv r)[c]? = some z
                rw [q2.cv]; exact hu) hshc (by simp) (by simp) (by simp) (by simp) (by simp)
              have hfin : SR C (σ1.put r (cUp (cUp v), some (s0, t0.set c (.val (.sl false n s (shcLL els)))))) a w WB := by
                refine x1.congr fun r' => ?_
                simp only [St.get_put, List.set_set]
                split <;> rfl
              have hrepB : Rep w WB.β (Sh C (σ1.put r (cUp (cUp v), some (s0, t0.set c (.val (.sl false n s (shcLL els)))))) WB w) [.sl false n s (shcLL els)] [z] [] := by
                have hgB := hfin.rep r (cUp (cUp v)) s0 _ (St.get_put_same _ _ _)
                obtain ⟨u', f1, fc', f2, hu', _, hone, _⟩ := hgB.at (c := c) (a := .sl false n s (shcLL els)) (by simp [hcl, own])
                rw [x2.cv] at hu'
                have : (WA.cv r)[c]? = some u' := hu'
                rw [q2.cv, hu] at this
                cases this
                rw [hone.fp_nil rfl] at hone
                exact hone
              generalize hσB : σ1.put r (cUp (cUp v), some (s0, t0.set c (.val (.sl false n s (shcLL els))))) = σB at h6 hfin hrepB
              obtain ⟨lv, σ2, l5, l6, h7, h8, rfl⟩ := run_bind_some h6
              obtain ⟨rfl, hl⟩ := optInt_ok hfin h7
              obtain ⟨hv, σ3, l7, l8, h9, h10, rfl⟩ := run_bind_some h8
              obtain ⟨rfl, hhv⟩ := optInt_ok hfin h9
              obtain ⟨hok, h11⟩ := chk_run h10
              obtain ⟨⟨b0, b1, b2⟩, h12⟩ := req_run h11
              have hlen : (shcLL els).length = els.length := shcLL_length els
              rw [← hlen] at hhv b2
              obtain ⟨z', hz', hrep'⟩ := slice_shared (P := P) hrepB ((hΓ T i hi').slice hk) ((hΓ e j hj).sizeOf w) hok hl hhv b0 b1 b2
              obtain ⟨W', k1, k2⟩ := setSl_view hfin x3 hd (s := .one) (tvs := [.val (.sl false n s (((shcLL els).take hv.toNat).drop lv.toNat))]) (vs := [z']) ⟨hrep', trivial⟩ rfl h12
              refine wp_value (v := z') (w' := w) ?_ (hn _ _ W' k1 k2 (put_size _ _ _))
              simp [execOp, ho, hz, hz']
            · exact (fail_run h5).elim
  · exact (fail_run h3).elim

end Go.Vs

namespace Go.Vs

variable {C : Ctx} {σ : St} {a : Act} {w : World} {W : Wit} {P : Program} {cr : CallR} {Γ : Env}

theorem okCells_get {as : List AV} (h : okCells as = true) {c : Nat} {b : AV} (hb : as[c]? = some b) : okCell b = true := by
  induction as generalizing c with
  | nil => simp at hb
  | cons b0 l ih =>
    simp only [okCells, Bool.and_eq_true] at h
    cases c with
    | zero => simp at hb; subst hb; exact h.1
    | succ c => simp at hb; exact ih h.2 hb

/-- A new slice is laid into a slot. -/
theorem SR.setNew (h : SR C σ a w W) {nf : NF} (hnf : nf ≠ .isnil) {d : Option Tmp} (hd : ∀ t, d = some t → t < a.tmps.size) {w' : World} {cur : Array Value} {e : TypeId} (hob : w'.heap[w.heap.size]? = some (.cells cur e (0, 0)))
    (hkeep : ∀ fp, Keeps w w' fp) {els : List (List AV)} {sz n cap : Nat} {cs : List Value} {fi : List Nat} (hin : Rep w (fun _ => none) (Sh C σ W w) els.flatten cs fi) (hcs : cur.toList.take (n * sz) = cs)
    (hn : els.length = n) (hsz : ∀ el ∈ els, el.length = sz) (hpos : 0 < sz) (hcap : n ≤ cap) (hmax : cap ≤ maxLen) (hcur : cur.size = cap * sz) (hf : ∀ b ∈ fi, b ∈ W.hand) (hnd : fi.Nodup)
    {σ' : St} {l : Log} {u : Unit} (hr : (setSl d .one [.val (.sl true nf sz els)]).run P cr σ = some (u, σ', l)) :
    ∃ W', SR C σ' (a.put d (.slice (some ⟨w.heap.size, 0, none⟩) n cap)) w' W' ∧ W'.hand = [] := by
  have hfl := hin.fp_lt
  have hlt : w.heap.size < w'.heap.size := (Array.getElem?_eq_some_iff.1 hob).1
  have hnotin : w.heap.size ∉ fi := fun hb => by have := hfl _ hb; omega
  obtain ⟨k1, k2, k3⟩ := h.world (hand' := w.heap.size :: fi) (hkeep W.hand) (List.nodup_cons.2 ⟨hnotin, hnd⟩) (by
    intro b hb
    rcases List.mem_cons.1 hb with rfl | hb
    · exact ⟨.inr (Nat.le_refl _), hlt⟩
    · exact ⟨.inl (hf b hb), Nat.lt_trans (hfl b hb) hlt⟩)
  have hin' := hin.mono (β' := fun _ => none) k2 (fun b hb => (hkeep []).block b (hfl b hb) (by simp)) (fun _ _ h => h)
  subst hcs
  have hrep := Rep.owd (β := W.β) hnf hob hn hsz hpos hcap hmax (Nat.le_of_eq hcur.symm) hin' .nil
  rw [List.append_nil] at hrep
  obtain ⟨W', h1, h2⟩ := setSl_ok (cr := cr) (P := P) k1 (d := d) (s := .one) (tvs := [.val (.sl true nf sz els)]) (vs := [.slice (some ⟨w.heap.size, 0, none⟩) n cap]) (f := w.heap.size :: fi) (hand' := []) hd
    ⟨hrep, fun c t z ht _ => valTVs_refs [.sl true nf sz els] c t z ht⟩ rfl (fun _ hb => hb) (by simp) (List.nodup_cons.2 ⟨hnotin, hnd⟩) (by simp) (by simp) hr
  exact ⟨W', h1, h2⟩

/-- A new box, owned by a slot. -/
theorem SR.setNewOwn (h : SR C σ a w W) {d : Option Tmp} (hd : ∀ t, d = some t → t < a.tmps.size) {w' : World} {cur : Array Value} {e : TypeId} (hob : w'.heap[w.heap.size]? = some (.cells cur e (0, 0)))
    (hkeep : ∀ fp, Keeps w w' fp) {as : List AV} {fi : List Nat} (hin : Rep w (fun _ => none) (Sh C σ W w) as cur.toList fi) (hf : ∀ b ∈ fi, b ∈ W.hand) (hnd : fi.Nodup)
    {σ' : St} {l : Log} {u : Unit} (hr : (setSl d .one [.val (.own as)]).run P cr σ = some (u, σ', l)) :
    ∃ W', SR C σ' (a.put d (.pointer (some ⟨w.heap.size, 0, none⟩))) w' W' ∧ W'.hand = [] := by
  have hfl := hin.fp_lt
  have hlt : w.heap.size < w'.heap.size := (Array.getElem?_eq_some_iff.1 hob).1
  have hnotin : w.heap.size ∉ fi := fun hb => by have := hfl _ hb; omega
  obtain ⟨k1, k2, k3⟩ := h.world (hand' := w.heap.size :: fi) (hkeep W.hand) (List.nodup_cons.2 ⟨hnotin, hnd⟩) (by
    intro b hb
    rcases List.mem_cons.1 hb with rfl | hb
    · exact ⟨.inr (Nat.le_refl _), hlt⟩
    · exact ⟨.inl (hf b hb), Nat.lt_trans (hfl b hb) hlt⟩)
  have hin' := hin.mono (β' := fun _ => none) k2 (fun b hb => (hkeep []).block b (hfl b hb) (by simp)) (fun _ _ h => h)
  have hrep := Rep.own (β := W.β) hob hin' .nil
  rw [List.append_nil] at hrep
  obtain ⟨W', h1, h2⟩ := setSl_ok (cr := cr) (P := P) k1 (d := d) (s := .one) (tvs := [.val (.own as)]) (vs := [.pointer (some ⟨w.heap.size, 0, none⟩)]) (f := w.heap.size :: fi) (hand' := []) hd
    ⟨hrep, fun c t z ht _ => valTVs_refs [.own as] c t z ht⟩ rfl (fun _ hb => hb) (by simp) (List.nodup_cons.2 ⟨hnotin, hnd⟩) (by simp) (by simp) hr
  exact ⟨W', h1, h2⟩

theorem constTVs_ok {l : List Value} : ∀ {tvs : List TV}, constTVs l = some tvs → View C σ W w tvs l := by
  induction l with
  | nil => intro tvs h; simp [constTVs] at h; subst h; trivial
  | cons x l ih =>
    intro tvs h
    simp only [constTVs] at h
    cases h1 : constTV x with
    | none => simp [h1] at h
    | some t =>
      cases h2 : constTVs l with
      | none => simp [h1, h2] at h
      | some ts =>
        simp only [h1, h2, Option.some.injEq] at h
        subst h
        exact ⟨constTV_ok h1, ih h2⟩

theorem made_flat {z : Array Value} {sz : Nat} (hz : z.size = sz) (n : Nat) : (madeCells z (n * sz)).toList = (List.replicate n z.toList).flatten := by
  apply List.ext_getElem?
  intro k
  by_cases hk : k < n * sz
  · have hs : 0 < sz := Nat.pos_of_ne_zero fun h => by simp [h] at hk
    have hm : k % sz < sz := Nat.mod_lt _ hs
    have hd : k / sz < n := (Nat.div_lt_iff_lt_mul hs).2 hk
    have h1 : (madeCells z (n * sz)).toList[k]? = some (z[k % sz]'(by omega)) := by
      have hlt : k < (madeCells z (n * sz)).toList.length := by simp [size_madeCells]; exact hk
      rw [List.getElem?_eq_getElem hlt]
      simp [madeCells, hz, getElem!_pos z (k % sz) (by omega)]
    rw [h1]
    have h2 : ∀ (m q : Nat), q < m * sz → (List.replicate m z.toList).flatten[q]? = some (z[q % sz]'(by rw [hz]; exact Nat.mod_lt _ hs)) := by
      intro m
      induction m with
      | zero => intro q hq; simp at hq
      | succ m ih =>
        intro q hq
        rw [List.replicate_succ, List.flatten_cons]
        by_cases h3 : q < sz
        · rw [List.getElem?_append_left (by simp; omega)]
          have : q % sz = q := Nat.mod_eq_of_lt h3
          simp [this]
        · rw [List.getElem?_append_right (by simp; omega)]
          have h4 : q - z.toList.length = q - sz := by simp [hz]
          rw [h4, ih (q - sz) (by rw [Nat.add_mul] at hq; omega)]
          have : (q - sz) % sz = q % sz := by
            conv => rhs; rw [← Nat.sub_add_cancel (Nat.le_of_not_lt h3), Nat.add_mod_right]
          simp [this]
    rw [h2 n k hk]
  · rw [List.getElem?_eq_none (by simp [size_madeCells]; omega), List.getElem?_eq_none]
    simp [hz]; omega

theorem Rep.replicate {S : Nat → Prop} {β : Nat → Option Nat} {as : List AV} {vs : List Value} (h : Rep w β S as vs []) : ∀ n, Rep w β S (List.replicate n as).flatten (List.replicate n vs).flatten []
  | 0 => .nil
  | n + 1 => by
    have := h.append (Rep.replicate h n)
    simpa [List.replicate_succ] using this

theorem op_makeSlice (hΓ : EnvOk P Γ) {o : Oper} {T : TypeId} {x y : Operand} (ho : o.op = .makeSlice T x y) : OpOk P Γ o := by
  intro C HT σ a w W cr σ' l next Q h hh hd hr hn
  simp only [opPr, ho] at hr
  obtain ⟨i, e, j, hi, hk, hj, h1⟩ := withElem_run hr
  obtain ⟨hpos0, h2⟩ := chk_run h1
  have hpos : 0 < j.size := by simpa using hpos0
  obtain ⟨⟨k, n⟩, σ1, l1, l2, h3, h4, rfl⟩ := run_bind_some h2
  obtain ⟨rfl, hx⟩ := rdInt_ok h h3
  obtain ⟨⟨k', m⟩, σ2, l3, l4, h5, h6, rfl⟩ := run_bind_some h4
  obtain ⟨rfl, hy⟩ := rdInt_ok h h5
  simp only at h6
  cases hz : constTVs j.zero with
  | none => rw [hz] at h6; exact (fail_run h6).elim
  | some tvs =>
    rw [hz] at h6
    obtain ⟨za, σ3, l5, l6, h7, h8, rfl⟩ := run_bind_some h6
    obtain ⟨rfl, -, hrep⟩ := vals_ok (Held.of_view (constTVs_ok (C := C) (W := W) (w := w) hz)) h7
    obtain ⟨hck, h9⟩ := chk_run h8
    simp only [Bool.and_eq_true] at hck
    obtain ⟨hlen0, hok⟩ := hck
    obtain ⟨⟨rfl, b0, b1, b2⟩, h10⟩ := req_run h9
    have hlen : za.length = j.size := by simpa using hlen0
    obtain ⟨info, z, q1, q2, q3, q4, q5⟩ := (hΓ e j hj).info
    have hzs : z.cells.size = j.size := by
      have := hrep.length
      rw [hlen, ← q5] at this
      simpa using this.symm
    have hrun := run_make (P := P) w T e info z ((hΓ T i hi).slice hk) q1 q4 k k' n n b0 (Int.le_refl _) (by rw [q3, Int.mul_comm]; exact b2) (by omega)
    rw [q2] at hrun
    obtain ⟨W', h11, h12⟩ := h.setNew (P := P) (cr := cr) (nf := .non) (by simp) hd (w' := w.alloc (.cells (madeCells z.cells (n.toNat * j.size)) e)) (alloc_get' w _) (keeps_alloc' w _) (els := List.replicate n.toNat za) (sz := j.size) (n := n.toNat) (cap := n.toNat)
      (cs := (List.replicate n.toNat z.cells.toList).flatten) (fi := []) (by rw [q5]; exact (hrep.noβs hok).replicate _) (by
        rw [made_flat hzs]
        apply List.take_of_length_le
        simp [hzs]) (by simp) (by
        intro el hel
        rw [List.eq_of_mem_replicate hel]; exact hlen) hpos (Nat.le_refl _) (by simp only [maxLen]; omega) (size_madeCells _ _) (by simp) (by simp) h10
    refine wp_value (v := .slice (some ⟨w.heap.size, 0, none⟩) n.toNat n.toNat) (w' := w.alloc (.cells (madeCells z.cells (n.toNat * j.size)) e)) ?_ (hn _ _ W' h11 h12 (put_size _ _ _))
    simp [execOp, ho, hx, hy, hrun]

theorem newBox_ok (h : SR C σ a w W) {d : Tmp} (hd : d < a.tmps.size) {T : TypeId} {ts : List TV} {vs : List Value} {f : List Nat} (hheld : Held C σ W w ts vs f) (hf : ∀ b ∈ f, b ∈ W.hand) (hnd : f.Nodup)
    {σ' : St} {l : Log} {u : Unit} (hr : (newBox d ts).run P cr σ = some (u, σ', l)) :
    ∃ W', SR C σ' (a.put (some d) (.pointer (some ⟨w.heap.size, 0, none⟩))) (w.alloc (.cells vs.toArray T)) W' ∧ W'.hand = [] := by
  obtain ⟨l1, h1, rfl⟩ := get_run (show (Pr.get (.bx d) _).run P cr σ = _ from hr)
  cases hg : σ.get (.bx d) with
  | mk v o => cases o with
    | some z => rw [hg] at h1; exact (fail_run h1).elim
    | none =>
      rw [hg] at h1
      obtain ⟨l2, h2, rfl⟩ := put_run h1
      have hfl := hheld.rep.fp_lt
      have hnotin : w.heap.size ∉ f := fun hb => by have := hfl _ hb; omega
      have hdead : ¬ live σ (.bx d) := by
        rintro ⟨v', s, tvs, h3⟩
        rw [hg] at h3; cases h3
      obtain ⟨k1, k2, k3⟩ := h.world (w' := w.alloc (.cells vs.toArray T)) (hand' := w.heap.size :: f) (keeps_alloc' w _ W.hand) (List.nodup_cons.2 ⟨hnotin, hnd⟩) (by
        intro b hb
        rw [alloc_size']
        rcases List.mem_cons.1 hb with rfl | hb
        · exact ⟨.inr (Nat.le_refl _), by omega⟩
        · exact ⟨.inl (hf b hb), by have := hfl b hb; omega⟩)
      have hrep := hheld.rep.mono (β' := W.β) k2 (fun b hb => (keeps_alloc' w (.cells vs.toArray T) []).block b (hfl b hb) (by simp)) (fun _ _ h => h)
      have hbox := k1.newBox (d := d) (g := w.heap.size) (x := hUp v) (tvs := ts) (vs := vs) (f := f) (hand' := []) hdead (by rw [hg]; simp [hUp]) (alloc_get' w _) (by simp) h.keep.size hrep (by
        rintro b (hb | hb)
        · exact ⟨by simp [hb], fun he => hnotin (he ▸ hb)⟩
        · simp at hb) hnd (by simp) (by simp) (fun c t z ht hz => k3 _ _ (hheld.refs c t z ht hz))
      obtain ⟨W', h3, h4⟩ := setSl_ok (P := P) (cr := cr) hbox (d := some d) (s := .one) (tvs := [.val (.bp d 0)]) (vs := [.pointer (some ⟨w.heap.size, 0, none⟩)]) (f := []) (hand' := []) (fun t ht => by cases ht; exact hd)
        ⟨.bp (by simp) .nil, fun c t z ht _ => valTVs_refs [.bp d 0] c t z ht⟩ rfl (by simp) (by simp) (by simp) (by simp) (by simp) h2
      exact ⟨W', h3, h4⟩

theorem op_alloc (hΓ : EnvOk P Γ) {o : Oper} {T : TypeId} (ho : o.op = .alloc T) : OpOk P Γ o := by
  intro C HT σ a w W cr σ' l next Q h hh hd hr hn
  simp only [opPr, ho] at hr
  obtain ⟨i, hi, h1⟩ := withTy_run hr
  split at h1
  · rename_i zt d hz hdst
    have hheld := Held.of_view (constTVs_ok (C := C) (σ := σ) (W := W) (w := w) hz)
    obtain ⟨info, z, q1, q2, q3, q4, q5⟩ := (hΓ T i hi).info
    obtain ⟨W', h2, h3⟩ := newBox_ok h (hd d hdst) (T := T) hheld (by simp) (by simp) h1
    refine wp_value (v := .pointer (some ⟨w.heap.size, 0, none⟩)) (w' := w.alloc (.cells i.zero.toArray T)) ?_ (by rw [hdst]; exact hn _ _ W' h2 h3 (put_size _ _ _))
    have hzc : z.cells = i.zero.toArray := by rw [← q5]
    simp [execOp, ho, Instr.alloc, zeroValue, typeInfo, q1, q4, newVar, newRow, hzc]
  · exact (fail_run h1).elim

theorem op_box {o : Oper} {T : TypeId} {x : Operand} (ho : o.op = .box T x) : OpOk P Γ o := by
  intro C HT σ a w W cr σ' l next Q h hh hd hr hn
  simp only [opPr, ho] at hr
  obtain ⟨i, hi, h1⟩ := withTy_run hr
  cases hdst : o.dst with
  | none => rw [hdst] at h1; exact (fail_run h1).elim
  | some d =>
    rw [hdst] at h1
    obtain ⟨⟨s, tvs⟩, σ1, l1, l2, h2, h3, rfl⟩ := run_bind_some h1
    obtain ⟨rfl, vs, hx, hv, hs⟩ := rdOp_ok h h2
    obtain ⟨ts, σ2, l3, l4, h4, h5, rfl⟩ := run_bind_some h3
    obtain ⟨W1, f, k1, k2, ⟨f', k3, k4⟩, k5, k6, k7⟩ := takes_ok h hv h4
    rw [hh, List.append_nil] at k3
    obtain ⟨hck, h6⟩ := chk_run h5
    simp only [Bool.and_eq_true] at hck
    obtain ⟨hck1, hck2⟩ := hck
    have hone := k6.oneCell
    have hlen : ts.length = vs.length := by have := k6.rep.length; simpa using this
    have hcells : (a.eval x).cells.toList = vs := by
      rw [hx]
      refine shVal_cells hck2 ?_ hone
      rw [← hlen, k7]
      exact hs
    have hcc : (a.eval x).cells = vs.toArray := by rw [← hcells]
    cases hesc : hasNat Γ.esc T with
    | false =>
      rw [hesc] at h6
      obtain ⟨W', h7, h8⟩ := newBox_ok k1 (hd d hdst) (T := T) k6 (fun b hb => by rw [k3]; exact (k4 b).1 hb) k5 h6
      refine wp_value (v := .pointer (some ⟨w.heap.size, 0, none⟩)) (w' := w.alloc (.cells vs.toArray T)) ?_ (by rw [hdst]; exact hn _ _ W' h7 h8 (put_size _ _ _))
      simp [execOp, ho, Instr.box, newVar, newRow, hcc]
    | true =>
      rw [hesc] at h6
      obtain ⟨as, σ3, l5, l6, h7, h8, rfl⟩ := run_bind_some (show (vals ts >>= fun as => chk (okCells as) (setSl (some d) .one [.val (.own as)])).run P cr σ2 = _ from h6)
      obtain ⟨rfl, -, hrep⟩ := vals_ok k6 h7
      obtain ⟨hok, h9⟩ := chk_run h8
      obtain ⟨W', h10, h11⟩ := k1.setNewOwn (cur := vs.toArray) (fun t ht => by cases ht; exact hd d hdst) (w' := w.alloc (.cells vs.toArray T)) (alloc_get' w _) (keeps_alloc' w _) (by simpa using hrep.noβs hok) (fun b hb => by rw [k3]; exact (k4 b).1 hb) k5 h9
      refine wp_value (v := .pointer (some ⟨w.heap.size, 0, none⟩)) (w' := w.alloc (.cells vs.toArray T)) ?_ (by rw [hdst]; exact hn _ _ W' h10 h11 (put_size _ _ _))
      simp [execOp, ho, Instr.box, newVar, newRow, hcc]

end Go.Vs

namespace Go.Vs

variable {C : Ctx} {σ : St} {a : Act} {w : World} {W : Wit} {P : Program} {cr : CallR} {Γ : Env}

theorem places_of {P : Program} : ∀ (l : List Field) (fs : List (Nat × Nat × Bool)), fs.length = l.length → (∀ (i o n : Nat) (g : Bool), fs[i]? = some (o, n, g) → ∃ (f : Field) (info : TypeInfo), l[i]? = some f ∧ f.offset = o ∧ P.info? f.type = some info ∧ info.size = n) →
    l.mapM (fun f => (P.info? f.type).map fun i => (f.offset, i.size)) = some (fs.map fun x => (x.1, x.2.1))
  | [], [], _, _ => rfl
  | [], _ :: _, h, _ => by simp at h
  | _ :: _, [], h, _ => by simp at h
  | f :: l, (o, n, g) :: fs, h, hp => by
    obtain ⟨f', info, h1, h2, h3, h4⟩ := hp 0 o n g rfl
    simp at h1; subst h1
    have := places_of l fs (by simpa using h) fun i o n g hi => by simpa using hp (i + 1) o n g (by simpa using hi)
    simp [List.mapM_cons, h3, this, h2, h4]

/-- One part is laid: the cells from 'off' on are the part's. -/
theorem fold_splice (off : Nat) (l : List Value) (cs : Array Value) (h : off + l.length ≤ cs.size) :
    (l.zipIdx.foldl (fun cs (x : Value × Nat) => cs.setIfInBounds (off + x.2) x.1) cs) = (cs.toList.take off ++ l ++ cs.toList.drop (off + l.length)).toArray := by
  obtain ⟨h1, h2⟩ := Great.foldl_set off l 0 cs
  apply Array.ext_getElem?
  intro k
  rw [h2 k]
  simp only [Nat.add_zero]
  by_cases hk : off ≤ k ∧ k < off + l.length ∧ k < cs.size
  · rw [if_pos hk]
    simp only [List.getElem?_toArray, List.append_assoc]
    rw [List.getElem?_append_right (by simp; omega), List.getElem?_append_left (by simp; omega)]
    have : (List.take off cs.toList).length = off := by simp; omega
    rw [this]
  · rw [if_neg hk]
    simp only [List.getElem?_toArray]
    by_cases h3 : k < off
    · rw [List.append_assoc, List.getElem?_append_left (by simp; omega), List.getElem?_take, if_pos h3]
      simp
    · rw [List.getElem?_append_right (by simp; omega), List.getElem?_drop]
      have : off + l.length + (k - (List.take off cs.toList ++ l).length) = k := by simp; omega
      rw [this]
      simp

theorem View.splice {tvs ts : List TV} {vs us : List Value} {off : Nat} (h : View C σ W w tvs vs) (h2 : View C σ W w ts us) (hfit : off + ts.length ≤ tvs.length) :
    View C σ W w (spliceTV tvs off ts) (vs.take off ++ us ++ vs.drop (off + us.length)) := by
  have hl := h.length
  have hl2 := h2.length
  refine View.of_get (by simp [spliceTV, hl, hl2]) fun c t z ht hz => ?_
  unfold spliceTV at ht
  by_cases h3 : c < off
  · rw [List.append_assoc, List.getElem?_append_left (by simp; omega), List.getElem?_take, if_pos h3] at ht
    rw [List.append_assoc, List.getElem?_append_left (by simp; omega), List.getElem?_take, if_pos h3] at hz
    obtain ⟨z', hz', h4⟩ := h.get ht
    rw [hz] at hz'; cases hz'; exact h4
  · by_cases h4 : c < off + ts.length
    · rw [List.append_assoc, List.getElem?_append_right (by simp; omega), List.getElem?_append_left (by simp; omega)] at ht
      rw [List.append_assoc, List.getElem?_append_right (by simp; omega), List.getElem?_append_left (by simp; omega)] at hz
      have e1 : (tvs.take off).length = off := by simp; omega
      have e2 : (vs.take off).length = off := by simp; omega
      rw [e1] at ht
      rw [e2] at hz
      obtain ⟨z', hz', h5⟩ := h2.get ht
      rw [hz] at hz'; cases hz'; exact h5
    · rw [List.getElem?_append_right (by simp; omega), List.getElem?_drop] at ht
      rw [List.getElem?_append_right (by simp; omega), List.getElem?_drop] at hz
      have e1 : off + ts.length + (c - (tvs.take off ++ ts).length) = c := by simp; omega
      have e2 : off + us.length + (c - (vs.take off ++ us).length) = c := by simp; omega
      rw [e1] at ht
      rw [e2] at hz
      obtain ⟨z', hz', h5⟩ := h.get ht
      rw [hz] at hz'; cases hz'; exact h5

theorem View.oneCell {tvs : List TV} {vs : List Value} (h : View C σ W w tvs vs) : ∀ v ∈ vs, v.oneCell' = true :=
  (Held.of_view h).oneCell

theorem buildFill_ok (h : SR C σ a w W) {fs : List (Nat × Nat × Bool)} {pl : List (Nat × Nat)} (hpl : pl = fs.map fun x => (x.1, x.2.1)) : ∀ {parts : List (Nat × Operand)} {cells cells' : List TV} {vs : List Value} {σ' : St} {l : Log},
    View C σ W w cells vs → (buildFill fs cells parts).run P cr σ = some (cells', σ', l) →
    σ' = σ ∧ ∃ vs', Instr.fill (pl[·]?) vs.toArray (parts.map fun x => (x.1, a.eval x.2)) = some vs'.toArray ∧ View C σ W w cells' vs' := by
  intro parts
  induction parts with
  | nil =>
    intro cells cells' vs σ' l hv hr
    obtain ⟨rfl, rfl, _⟩ := ret_run (show (Pr.ret cells).run P cr σ = _ from hr)
    exact ⟨rfl, vs, rfl, hv⟩
  | cons p parts ih =>
    intro cells cells' vs σ' l hv hr
    obtain ⟨i, x⟩ := p
    unfold buildFill at hr
    cases hf : fs[i]? with
    | none => rw [hf] at hr; exact (fail_run hr).elim
    | some y =>
      obtain ⟨o, n, g⟩ := y
      rw [hf] at hr
      obtain ⟨⟨sh, tvs⟩, σ1, l1, l2, h1, h2, rfl⟩ := run_bind_some hr
      obtain ⟨e1, us, hx, hvx, hs⟩ := rdOp_ok h h1
      subst e1
      obtain ⟨hck, h3⟩ := chk_run h2
      simp only [Bool.and_eq_true] at hck
      obtain ⟨hn0, hnt⟩ := hck
      obtain ⟨hfit0, h4⟩ := chk_run h3
      have hn1 : tvs.length = n := by simpa using hn0
      have hfit : o + n ≤ cells.length := by simpa using hfit0
      have hul := hvx.length
      have hvl := hv.length
      obtain ⟨e2, vs', h5, h6⟩ := ih (hv.splice (off := o) hvx (by omega)) h4
      refine ⟨e2, vs', ?_, h6⟩
      have hcells : (a.eval x).cells = us.toArray := by
        have : (a.eval x).cells.toList = us := by
          rw [hx]
          exact shVal_cells hnt (by rw [← hul]; exact hs) hvx.oneCell
        rw [← this]
      simp only [List.map_cons]
      unfold Instr.fill
      have hpi : pl[i]? = some (o, n) := by rw [hpl, List.getElem?_map, hf]; rfl
      simp only [hpi, hcells, List.size_toArray]
      rw [if_neg (by simp; omega), ← h5]
      congr 1
      have := fold_splice o us vs.toArray (by simp; omega)
      simp only [List.toList_toArray] at this
      rw [← this, ← Array.foldl_toList, Array.toList_zipIdx]

theorem op_build (hΓ : EnvOk P Γ) {o : Oper} {T : TypeId} {parts : Array (Nat × Operand)} (ho : o.op = .build T parts) : OpOk P Γ o := by
  intro C HT σ a w W cr σ' l next Q h hh hd hr hn
  simp only [opPr, ho] at hr
  obtain ⟨i, hi, h1⟩ := withTy_run hr
  cases hk : i.kind with
  | struct fs =>
    rw [hk] at h1
    simp only at h1
    cases hz : constTVs i.zero with
    | none => rw [hz] at h1; exact (fail_run h1).elim
    | some zt =>
      rw [hz] at h1
      obtain ⟨cells, σ1, l1, l2, h2, h3, rfl⟩ := run_bind_some h1
      obtain ⟨info, d, z, q1, q2, q3, q4, q5, q6, q7⟩ := (hΓ T i hi).ex
      rw [hk] at q7
      obtain ⟨fields, rfl, hlen, hfs⟩ := q7
      have hpl := places_of (P := P) fields.toList fs (by simpa using hlen) fun i o n g hi => by
        obtain ⟨f, info, d', k1, k2, k3, k4, _, _⟩ := hfs i o n g hi
        exact ⟨f, info, by simpa using k1, k2, k3, k4⟩
      obtain ⟨rfl, vs, h4, h5⟩ := buildFill_ok h rfl (constTVs_ok (C := C) (W := W) (w := w) hz) h2
      obtain ⟨W', h6, h7⟩ := setSl_view h hh hd h5 (s := .agg) trivial h3
      refine wp_value (v := .agg vs.toArray) (w' := w) ?_ (hn _ _ W' h6 h7 (put_size _ _ _))
      have hzc : z.cells = i.zero.toArray := by rw [← q6]
      have hb := run_build (P := P) w T (parts.map fun x => (x.1, a.eval x.2)) vs.toArray (by
        unfold Program.built
        simp only [q1, q2, q5, hpl, hzc]
        rw [Array.toList_map, ← h4]
        congr 1
        funext x
        simp)
      simp [execOp, ho, hb]
  | _ => rw [hk] at h1; exact (fail_run h1).elim

theorem partsFrom_ok {size : Nat} {parts : List (Nat × Operand)} : ∀ {i0 : Nat} {σ : St} {W : Wit} {els : List (List AV)} {σ' : St} {l : Log}, SR C σ a w W → (partsFrom size i0 parts).run P cr σ = some (els, σ', l) →
    ∃ W' f, SR C σ' a w W' ∧ Mv C w σ W σ' W' ∧ (∃ f', W'.hand = f' ++ W.hand ∧ ∀ b, b ∈ f ↔ b ∈ f') ∧ f.Nodup ∧ els.length = parts.length ∧ (∀ el ∈ els, el.length = size) ∧
      Rep w (fun _ => none) (Sh C σ' W' w) els.flatten ((parts.map fun x => a.eval x.2).flatMap fun v => v.cells.toList) f ∧
      (∀ v ∈ parts.map (fun x => a.eval x.2), v.cells.size = size) ∧
      (parts.map fun x => (x.1, a.eval x.2)) = (((parts.map fun x => a.eval x.2).zipIdx i0).map fun x => (x.2, x.1)) := by
  induction parts with
  | nil =>
    intro i0 σ W els σ' l h hr
    obtain ⟨rfl, rfl, _⟩ := ret_run (show (Pr.ret []).run P cr σ = _ from hr)
    exact ⟨W, [], h, .refl _ _ _ _, ⟨[], rfl, by simp⟩, by simp, rfl, by simp, .nil, by simp, rfl⟩
  | cons p parts ih =>
    intro i0 σ W els σ' l h hr
    obtain ⟨j, x⟩ := p
    obtain ⟨hj, h1⟩ := chk_run (show (chk (Nat.beq i0 j) _).run P cr σ = _ from hr)
    have hj1 : i0 = j := by simpa using hj
    subst hj1
    obtain ⟨⟨sh, tvs⟩, σ1, l1, l2, h2, h3, rfl⟩ := run_bind_some h1
    obtain ⟨rfl, us, hx, hvx, hs⟩ := rdOp_ok h h2
    obtain ⟨ts, σ2, l3, l4, h4, h5, rfl⟩ := run_bind_some h3
    obtain ⟨W1, f1, k1, k2, ⟨f1', k3, k4⟩, k5, k6, k7⟩ := takes_ok h hvx h4
    obtain ⟨as, σ3, l5, l6, h6, h7, rfl⟩ := run_bind_some h5
    obtain ⟨rfl, hts, hrep⟩ := vals_ok k6 h6
    obtain ⟨hck, h8⟩ := chk_run h7
    simp only [Bool.and_eq_true] at hck
    obtain ⟨⟨hsz0, hok⟩, hnt⟩ := hck
    have hsz : as.length = size := by simpa using hsz0
    obtain ⟨rest, σ4, l7, l8, h9, h10, rfl⟩ := run_bind_some h8
    obtain ⟨rfl, rfl, _⟩ := ret_run h10
    obtain ⟨W2, f2, m1, m2, ⟨f2', m3, m4⟩, m5, m6, m7, m8, m9, m10⟩ := ih k1 h9
    have hone := hrep.oneCells
    have hlen := hrep.length
    have hcells : (a.eval x).cells.toList = us := by
      rw [hx]
      refine shVal_cells hnt ?_ hone
      rw [← hlen, hsz]
      rw [← k7, hts, valTVs_length, hsz] at hs
      exact hs
    have hn := m1.hnd
    rw [m3, k3] at hn
    refine ⟨W2, f1 ++ f2, m1, k2.trans m2, ⟨f2' ++ f1', by rw [m3, k3]; simp, ?_⟩, ?_, by simp [m6], ?_, ?_, ?_, ?_⟩
    · intro b; simp [k4 b, m4 b, or_comm]
    · rw [List.nodup_append]
      simp only [List.nodup_append, List.mem_append] at hn
      refine ⟨k5, m5, fun b hb b2 hb2 he => ?_⟩
      subst he
      exact hn.2.2 b ((m4 b).1 hb2) b (.inl ((k4 b).1 hb)) rfl
    · intro el hel
      rcases List.mem_cons.1 hel with rfl | hel
      · exact hsz
      · exact m7 el hel
    · simp only [List.flatten_cons, List.map_cons, List.flatMap_cons, hcells]
      exact ((m2.rep hrep).noβs hok).append m8
    · intro v hv
      rcases List.mem_cons.1 (show v ∈ a.eval x :: parts.map (fun x => a.eval x.2) from hv) with rfl | hv
      · have : (a.eval x).cells.toList.length = size := by rw [hcells, ← hlen, hsz]
        simpa using this
      · exact m9 v hv
    · simp only [List.map_cons, List.zipIdx_cons, m10]

theorem op_buildSlice (hΓ : EnvOk P Γ) {o : Oper} {T : TypeId} {n : Nat} {parts : Array (Nat × Operand)} (ho : o.op = .buildSlice T n parts) : OpOk P Γ o := by
  intro C HT σ a w W cr σ' l next Q h hh hd hr hn
  simp only [opPr, ho] at hr
  obtain ⟨i, e, j, hi, hk, hj, h1⟩ := withElem_run hr
  obtain ⟨hlen0, h2⟩ := chk_run h1
  obtain ⟨hpos0, h3⟩ := chk_run h2
  obtain ⟨hmax0, h4⟩ := chk_run h3
  have hlen : parts.toList.length = n := by simpa using hlen0
  have hpos : 0 < j.size := by simpa using hpos0
  have hmax : n * j.size ≤ 16777216 := by simpa using hmax0
  obtain ⟨els, σ1, l1, l2, h5, h6, rfl⟩ := run_bind_some h4
  obtain ⟨W1, f, m1, m2, ⟨f', m3, m4⟩, m5, m6, m7, m8, m9, m10⟩ := partsFrom_ok h h5
  rw [hh, List.append_nil] at m3
  obtain ⟨info, z, q1, q2, q3, q4, q5⟩ := (hΓ e j hj).info
  have hnm : n ≤ n * j.size := Nat.le_mul_of_pos_right n hpos
  generalize hvs : (parts.toList.map fun x => a.eval x.2) = vs at m8 m9 m10
  have hvl : vs.length = n := by rw [← hvs]; simpa using hlen0
  have hfl : (vs.flatMap fun v => v.cells.toList).length = n * j.size := by
    have := m8.length
    rw [flatten_length m7, m6, hlen] at this
    exact this.symm
  have hrun : (Instr.buildSlice T n (parts.map fun x => (x.1, a.eval x.2))).run P w = .ok (.slice (some ⟨w.heap.size, 0, none⟩) n n) (w.alloc (.cells (vs.flatMap fun v => v.cells.toList).toArray e)) := by
    by_cases h0 : n * j.size = 0
    · have hn0 : n = 0 := by omega
      subst hn0
      have hp : parts = #[] := by
        apply Array.toList_inj.1
        simpa using hlen
      have hv0 : vs = [] := List.eq_nil_of_length_eq_zero hvl
      simp [Instr.buildSlice, run_underlying ((hΓ T i hi).slice hk), sizeOf, typeInfo, q1, hp, Instr.fill, newRow, hv0, Array.range_zero']
    · refine run_buildSlice w T e n _ _ info z ((hΓ T i hi).slice hk) q1 q4 (by rw [q2]; omega) (by rw [q2]; exact h0) ?_
      rw [Array.toList_map, m10, q2]
      exact Great.fill_whole hpos vs _ m9 (by simp [hvl])
  obtain ⟨W', h11, h12⟩ := m1.setNew (P := P) (cr := cr) (nf := .non) (by simp) hd (w' := w.alloc (.cells (vs.flatMap fun v => v.cells.toList).toArray e)) (alloc_get' w _) (keeps_alloc' w _) (els := els) (sz := j.size) (n := n) (cap := n)
    m8 (by simp only [List.toList_toArray]; exact List.take_of_length_le (by omega)) (by rw [m6]; exact hlen) m7 hpos (Nat.le_refl _) (by simp only [maxLen]; omega) (by simpa using hfl) (fun b hb => by rw [m3]; exact (m4 b).1 hb) m5 h6
  refine wp_value (v := .slice (some ⟨w.heap.size, 0, none⟩) n n) (w' := w.alloc (.cells (vs.flatMap fun v => v.cells.toList).toArray e)) ?_ (hn _ _ W' h11 h12 (put_size _ _ _))
  simp [execOp, ho, hrun]

end Go.Vs

namespace Go.Vs

variable {C : Ctx} {σ : St} {a : Act} {w : World} {W : Wit} {P : Program} {cr : CallR} {Γ : Env}

theorem run_append_into (t ty e : TypeId) (i : TypeInfo) (ht : P.underlying t = some (.slice e)) (hi : P.info? e = some i)
    (g sLen sCap : Nat) (cur : Array Value) {te : TypeId} (hg : w.heap[g]? = some (.cells cur te (0, 0))) (p : Option Addr) (m c : Nat) (news : List Value)
    (hf : (Builtin.firstCells i.size m (.slice p m c)).run P w = .ok news.toArray w) (h1 : ∀ u ∈ news, u.oneCell' = true) (hroom : sLen + m ≤ sCap) (hfit : sLen * i.size + news.length ≤ cur.size) :
    (Builtin.append_ #[t, t] ty #[.slice (some ⟨g, 0, none⟩) sLen sCap, .slice p m c]).run P w =
      .ok (.slice (some ⟨g, 0, none⟩) (sLen + m) sCap) (w.setRow g (cur.toList.take (sLen * i.size) ++ news ++ cur.toList.drop (sLen * i.size + news.length)).toArray) := by
  have hst := run_storeCells_at P g (sLen * i.size) te news 0 cur w hg (by simpa using hfit) h1
  simp only [Nat.add_zero] at hst
  simp [Builtin.append_, run_underlying ht, sizeOf, typeInfo, hi, Builtin.lenOf, hroom, hf, Addr.add_lit, hst]

theorem run_append_none (t ty e : TypeId) (i : TypeInfo) (ht : P.underlying t = some (.slice e)) (hi : P.info? e = some i) (p : Option Addr) (c : Nat)
    (hf : (Builtin.firstCells i.size 0 (.slice p 0 c)).run P w = .ok #[] w) :
    (Builtin.append_ #[t, t] ty #[.slice none 0 0, .slice p 0 c]).run P w = .ok (.slice none 0 0) w := by
  simp [Builtin.append_, run_underlying ht, sizeOf, typeInfo, hi, Builtin.lenOf, hf]

theorem run_append_new (t ty e : TypeId) (i : TypeInfo) (z : Value) (ht : P.underlying t = some (.slice e)) (hi : P.info? e = some i) (hz : i.zero = some z)
    (p1 : Option Addr) (sLen sCap : Nat) (olds : List Value) (hfo : (Builtin.firstCells i.size sLen (.slice p1 sLen sCap)).run P w.drew = .ok olds.toArray w.drew)
    (p2 : Option Addr) (m c : Nat) (news : List Value) (hf : (Builtin.firstCells i.size m (.slice p2 m c)).run P w.drew = .ok news.toArray w.drew)
    (hg : sCap < sLen + m) (h63 : ((sLen + m : Nat) : Int) ≤ 9223372036854775807) (hfit : Builtin.nextslicecap (sLen + m) sCap * i.bytes ≤ 281474976710656) :
    (Builtin.append_ #[t, t] ty #[.slice p1 sLen sCap, .slice p2 m c]).run P w =
      .ok (.slice (some ⟨w.heap.size, 0, none⟩) (sLen + m) (grownCap w (sLen + m) sCap e))
        (w.drew.alloc (.cells (olds ++ news ++ (Builtin.zeroCells z.cells (grownCap w (sLen + m) sCap e - (sLen + m))).toList).toArray e)) := by
  have hn : ¬ (sLen + m ≤ sCap) := by omega
  have h63' : ¬ (9223372036854775807 < ((sLen : Int) + (m : Int))) := by omega
  have h48' : ¬ (281474976710656 < Builtin.nextslicecap (sLen + m) sCap * i.bytes) := by omega
  simp [Builtin.append_, run_underlying ht, sizeOf, typeInfo, zeroValue, hi, hz, Builtin.lenOf, hn, h63', h48', Question.forced, hf, hfo, newRow, grownCap]
  congr 2
  apply Array.ext'
  simp [List.append_assoc]

/-- What a slice holds, cell by cell. -/
theorem sl_cells {S : Nat → Prop} {β : Nat → Option Nat} {o : Bool} {n : NF} {s : Nat} {els : List (List AV)} {z : Value} {f : List Nat} (P : Program) (h : Rep w β S [.sl o n s els] [z] f) :
    ∃ p c cs f', z = .slice p els.length c ∧ cs.length = els.length * s ∧ (∀ (sz : Nat) (w2 : World), w2.heap = w.heap → szOk n s sz = true → (Builtin.firstCells sz els.length z).run P w2 = .ok cs.toArray w2) ∧
      Rep w (fun _ => none) S els.flatten cs f' ∧ (∀ b ∈ f', b ∈ f) ∧ (f.Nodup → f'.Nodup) ∧ (p = none ∨ n = .isnil → els = [] ∧ p = none ∧ c = 0 ∧ n ≠ .non) ∧ (∀ el ∈ els, el.length = s) := by
  have hcell : ∀ {w2 : World}, w2.heap = w.heap → ∀ ad, w2.cell? ad = w.cell? ad := by
    intro w2 hw ad
    unfold World.cell?
    rw [hw]
  cases h with
  | nils hnf t =>
    refine ⟨none, 0, [], [], rfl, by simp, ?_, .nil, by simp, by simp, by simp [hnf], by simp⟩
    intro sz w2 _ _
    simp [Builtin.firstCells]
  | emp hnf hc t =>
    rename_i ad cap
    refine ⟨some ad, cap, [], [], rfl, by simp, ?_, .nil, by simp, by simp, by simp [hnf], by simp⟩
    intro sz w2 _ _
    have hl : (loadCells ad 0).run P w2 = .ok #[] w2 := run_loadCells_list (P := P) w2 ad [] (by simp)
    simp [Builtin.firstCells, hl]
  | shd hnf hg hrow hn hsz hpos hcap hmax hin t =>
    rename_i g of nn cap cs
    have hl : cs.length = els.length * s := by rw [← flatten_length hsz]; exact hin.length.symm
    subst hn
    refine ⟨some ⟨g, of, none⟩, cap, cs, [], rfl, hl, ?_, hin, by simp, by simp, by simp [hnf], hsz⟩
    intro sz w2 hw hok
    have hs : s = sz := szOk_eq hok hnf
    subst hs
    exact run_firstCells_some (P := P) w2 s els.length ⟨g, of, none⟩ els.length cap cs hl fun j v hj => by
      rw [hcell hw, Addr.add_lit]
      exact hrow.cell hj
  | owd hnf hg hn hsz hpos hcap hmax hcur hin t =>
    rename_i g nn cap cur e fi fp
    cases t
    subst hn
    have hnc : els.length * s ≤ cap * s := Nat.mul_le_mul_right _ hcap
    have hl : (cur.toList.take (els.length * s)).length = els.length * s := by
      have h0 : cap * s ≤ cur.toList.length := by rw [Array.length_toList]; exact hcur
      rw [List.length_take]
      exact Nat.min_eq_left (Nat.le_trans hnc h0)
    refine ⟨some ⟨g, 0, none⟩, cap, _, fi, rfl, hl, ?_, hin, by simp +contextual, ?_, by simp [hnf], hsz⟩
    · intro sz w2 hw hok
      have hs : s = sz := szOk_eq hok hnf
      subst hs
      exact run_firstCells_some (P := P) w2 s els.length ⟨g, 0, none⟩ els.length cap _ hl fun j v hj => by
        rw [hcell hw, Addr.add_lit, cell_of_row w g (0 + j) cur e (0, 0) hg]
        rw [List.getElem?_take] at hj
        split at hj
        · simpa using hj
        · cases hj
    · intro hnd
      simp only [List.append_nil, List.nodup_cons] at hnd
      exact hnd.2

theorem takeSl_ok (h : SR C σ a w W) {x : Operand} {n : NF} {els : List (List AV)} {s : Nat} {σ' : St} {l : Log} (hr : (takeSl x).run P cr σ = some ((n, els, s), σ', l)) :
    ∃ W' f, SR C σ' a w W' ∧ Mv C w σ W σ' W' ∧ W'.hand = f ++ W.hand ∧ Rep w W'.β (Sh C σ' W' w) [.sl true n s els] [a.eval x] f := by
  obtain ⟨t, σ1, l1, l2, h1, h2, rfl⟩ := run_bind_some hr
  obtain ⟨rfl, ht⟩ := rdOne_ok h h1
  obtain ⟨u, σ2, l3, l4, h3, h4, rfl⟩ := run_bind_some h2
  obtain ⟨W', f, k1, k2, k3, k4, k5⟩ := take_ok h ht h3
  split at h4
  · obtain ⟨he, rfl, _⟩ := ret_run h4
    cases he
    exact ⟨W', f, k1, k2, k3, k4⟩
  · exact (fail_run h4).elim

theorem scalars_of {els : List (List AV)} (h : ∀ el ∈ els, ∃ x, el = [.v x]) : ∃ xs : List Value, els.flatten = xs.map .v := by
  induction els with
  | nil => exact ⟨[], rfl⟩
  | cons el els ih =>
    obtain ⟨x, rfl⟩ := h el (by simp)
    obtain ⟨xs, hx⟩ := ih fun e he => h e (by simp [he])
    exact ⟨x :: xs, by simp [hx]⟩

theorem Rep.scalars_ok {S : Nat → Prop} {β : Nat → Option Nat} : ∀ {vs us : List Value} {f : List Nat}, Rep w β S (vs.map .v) us f → ∀ v ∈ vs, scalar v = true
  | [], us, f, h => by simp
  | x :: xs, us, f, h => by
    obtain ⟨u, us', f1, f2, rfl, rfl, h1, h2⟩ := Rep.uncons h
    intro v hv
    rcases List.mem_cons.1 hv with rfl | hv
    · cases h1 with
      | v hs t => exact hs
    · exact Rep.scalars_ok h2 v hv

/-- What is appended. -/
theorem srcSl_ok (h : SR C σ a w W) {y : Operand} {n : NF} {els : List (List AV)} {s : Nat} {σ' : St} {l : Log} (hr : (srcSl y).run P cr σ = some ((n, els, s), σ', l)) :
    ∃ W' f, SR C σ' a w W' ∧ Mv C w σ W σ' W' ∧ W'.hand = f ++ W.hand ∧
      ∃ p c cs f', a.eval y = .slice p els.length c ∧ cs.length = els.length * s ∧ (∀ (sz : Nat) (w2 : World), w2.heap = w.heap → szOk n s sz = true → (Builtin.firstCells sz els.length (a.eval y)).run P w2 = .ok cs.toArray w2) ∧
        Rep w (fun _ => none) (Sh C σ' W' w) els.flatten cs f' ∧ (∀ b ∈ f', b ∈ f) ∧ f'.Nodup ∧ (n = .isnil → els = []) ∧ (∀ el ∈ els, el.length = s) := by
  obtain ⟨t, σ1, l1, l2, h1, h2, rfl⟩ := run_bind_some hr
  obtain ⟨rfl, ht⟩ := rdOne_ok h h1
  -- shared through a view
  have hshare : ∀ (r : Rs) (c : Nat) (ver : Nat × Nat) (p : Path), t = .ref r c ver p → (share (.ref r c ver p) >>= fun a => match a with
      | .sl _ n s els => Pr.req (∀ el ∈ els, ∃ x, el = [.v x]) (.ret (n, els, s))
      | _ => .fail).run P cr σ1 = some ((n, els, s), σ', l2) → ∃ W' f, SR C σ' a w W' ∧ Mv C w σ1 W σ' W' ∧ W'.hand = f ++ W.hand ∧
      ∃ p c cs f', a.eval y = .slice p els.length c ∧ cs.length = els.length * s ∧ (∀ (sz : Nat) (w2 : World), w2.heap = w.heap → szOk n s sz = true → (Builtin.firstCells sz els.length (a.eval y)).run P w2 = .ok cs.toArray w2) ∧
        Rep w (fun _ => none) (Sh C σ' W' w) els.flatten cs f' ∧ (∀ b ∈ f', b ∈ f) ∧ f'.Nodup ∧ (n = .isnil → els = []) ∧ (∀ el ∈ els, el.length = s) := by
    intro r c ver p he hrun
    subst he
    obtain ⟨b, σ2, l3, l4, h3, h4, rfl⟩ := run_bind_some hrun
    obtain ⟨rfl, hptr, hrep⟩ := share_ok h ht h3 W.β
    clear hptr
    split at h4
    · obtain ⟨hall, h5⟩ := req_run h4
      obtain ⟨he, rfl, _⟩ := ret_run h5
      cases he
      obtain ⟨p', c', cs, f', k1, k2, k3, k4, k5, k6, k7, k8⟩ := sl_cells P hrep
      have hf' : f' = [] := List.eq_nil_iff_forall_not_mem.2 fun b hb => by simpa using k5 b hb
      subst hf'
      obtain ⟨xs, hxs⟩ := scalars_of hall
      rw [hxs] at k4
      have hcs := Rep.scalars_inv k4
      refine ⟨W, [], h, .refl _ _ _ _, rfl, p', c', cs, [], k1, k2, k3, ?_, by simp, by simp, fun hn => (k7 (.inr hn)).1, k8⟩
      rw [hxs, hcs]
      exact Rep.scalars (Rep.scalars_ok k4)
    · exact (fail_run h4).elim
  split at h2
  · rename_i i j c ver
    split at h2
    · obtain ⟨b, σ2, l3, l4, h3, h4, rfl⟩ := run_bind_some h2
      obtain ⟨W', f, k1, k2, k3, k4⟩ := takeRef_ok h ht.2 ht.1 h3
      split at h4
      · obtain ⟨he, rfl, _⟩ := ret_run h4
        cases he
        obtain ⟨p', c', cs, f', q1, q2, q3, q4, q5, q6, q7, q8⟩ := sl_cells P k4
        have hnd := k1.hnd
        rw [k3, List.nodup_append] at hnd
        exact ⟨W', f, k1, k2, k3, p', c', cs, f', q1, q2, q3, q4, q5, q6 hnd.1, fun hn => (q7 (.inr hn)).1, q8⟩
      · exact (fail_run h4).elim
    · exact hshare _ _ _ _ rfl h2
  · exact hshare _ _ _ _ rfl h2
  · obtain ⟨he, rfl, _⟩ := ret_run h2
    cases he
    obtain ⟨p', c', cs, f', q1, q2, q3, q4, q5, q6, q7, q8⟩ := sl_cells P (show Rep w W.β (Sh C σ' W w) [.sl false n s els] [a.eval y] [] from ht)
    exact ⟨W, [], h, .refl _ _ _ _, rfl, p', c', cs, f', q1, q2, q3, q4, q5, q6 (by simp), fun hn => (q7 (.inr hn)).1, q8⟩
  · exact (fail_run h2).elim

theorem selfApp_ok (h : SR C σ a w W) {x y : Operand} {b : Bool} {σ' : St} {l : Log} (hr : (selfApp x y).run P cr σ = some (b, σ', l)) : σ' = σ ∧ (b = true → a.eval x = a.eval y) := by
  obtain ⟨t, σ1, l1, l2, h1, h2, rfl⟩ := run_bind_some hr
  obtain ⟨rfl, ht⟩ := rdOne_ok h h1
  obtain ⟨u, σ2, l3, l4, h3, h4, rfl⟩ := run_bind_some h2
  obtain ⟨rfl, hu⟩ := rdOne_ok h h3
  split at h4
  · rename_i r c ver r' c' ver'
    split at h4
    · rename_i hrc
      simp only [Bool.and_eq_true] at hrc
      obtain rfl := Rs.eqb_iff.1 hrc.1
      obtain rfl : c = c' := Nat.eq_of_beq_eq_true hrc.2
      obtain ⟨b1, σ3, l5, l6, h5, h6, rfl⟩ := run_bind_some h4
      obtain ⟨rfl, -⟩ := content_ok h h5 ht.2
      obtain ⟨b2, σ4, l7, l8, h7, h8, rfl⟩ := run_bind_some h6
      obtain ⟨rfl, -⟩ := content_ok h h7 hu.2
      obtain ⟨rfl, rfl, _⟩ := ret_run h8
      refine ⟨rfl, fun _ => ?_⟩
      obtain ⟨v, s, tvs, a0, l', hg, hv, ha, hn⟩ := content_run h5
      obtain ⟨v2, s2, tvs2, a2, l2', hg2, hv2, ha2, hn2⟩ := content_run h7
      rw [hg] at hg2
      cases hg2
      obtain ⟨z1, hz1, hc1⟩ := ht.2.2 v s tvs hg hv
      obtain ⟨z2, hz2, hc2⟩ := hu.2.2 v s tvs hg hv2
      rw [hz1] at hz2
      cases hz2
      rcases hc1 with ⟨-, e1⟩ | ⟨e1, -⟩
      · rcases hc2 with ⟨-, e2⟩ | ⟨e2, -⟩
        · rw [e1, e2]
        · exact absurd rfl e2
      · exact absurd rfl e1
    · obtain ⟨rfl, rfl, _⟩ := ret_run h4
      exact ⟨rfl, fun hh => by cases hh⟩
  · obtain ⟨rfl, rfl, _⟩ := ret_run h4
    exact ⟨rfl, fun hh => by cases hh⟩

theorem scalars_flat {l : List AV} (h : ∀ v ∈ l, ∃ x, v = .v x) : ∃ xs : List Value, l = xs.map .v := by
  induction l with
  | nil => exact ⟨[], rfl⟩
  | cons v l ih =>
    obtain ⟨x, rfl⟩ := h v (by simp)
    obtain ⟨xs, hx⟩ := ih fun e he => h e (by simp [he])
    exact ⟨x :: xs, by simp [hx]⟩

theorem op_append (hΓ : EnvOk P Γ) {o : Oper} {c : Call} {T : TypeId} {x y : Operand} (ho : o.op = .call c) (hc : c.callee = .builtin .append) (ha : c.args.toList = [x, y]) (ht : c.argTypes.toList = [T, T])
    {C : Ctx} {σ : St} {a : Act} {w : World} {W : Wit} {cr : CallR} {σ' : St} {l : Log} {next : Act → World → Prop} {Q : Exit → Act → World → Prop}
    (h : SR C σ a w W) (hh : W.hand = []) (hd : ∀ t, o.dst = some t → t < a.tmps.size) (hr : (appendPr Γ T x y o.dst).run P cr σ = some ((), σ', l))
    (hn : ∀ a' w' W', SR C σ' a' w' W' → W'.hand = [] → a'.tmps.size = a.tmps.size → next a' w') : o.wp P a w next Q := by
  obtain ⟨i, e, j, hi, hk, hj, h1⟩ := withElem_run hr
  obtain ⟨bb, σ0, l01, l02, h01, h02, rfl⟩ := run_bind_some h1
  obtain ⟨rfl, hself⟩ := selfApp_ok h h01
  obtain ⟨⟨n1, els1, s1⟩, σ1, l1, l2, h2, h3, rfl⟩ := run_bind_some h02
  obtain ⟨W1, f1, k1, k2, k3, k4⟩ := takeSl_ok h h2
  rw [hh, List.append_nil] at k3
  obtain ⟨⟨n2, els2, s2⟩, σ2, l3, l4, h4, h5, rfl⟩ := run_bind_some h3
  have hsrc : ∃ W' f, SR C σ2 a w W' ∧ Mv C w σ1 W1 σ2 W' ∧ W'.hand = f ++ W1.hand ∧
      ∃ p c cs f', a.eval y = .slice p els2.length c ∧ cs.length = els2.length * s2 ∧ (∀ (sz : Nat) (w2 : World), w2.heap = w.heap → szOk n2 s2 sz = true → (Builtin.firstCells sz els2.length (a.eval y)).run P w2 = .ok cs.toArray w2) ∧
        Rep w (fun _ => none) (Sh C σ2 W' w) els2.flatten cs f' ∧ (∀ b ∈ f', b ∈ f) ∧ f'.Nodup ∧ (n2 = .isnil → els2 = []) ∧ (∀ el ∈ els2, el.length = s2) := by
    cases bb with
    | false => exact srcSl_ok k1 h4
    | true =>
      obtain ⟨hall, h5'⟩ := req_run h4
      obtain ⟨he, rfl, _⟩ := ret_run h5'
      cases he
      obtain ⟨p', c', cs, f', g1, g2, g3, g4, g5, g6, g7, g8⟩ := sl_cells P k4
      obtain ⟨xs, hxs⟩ := scalars_flat hall
      rw [hxs] at g4
      have hcs := Rep.scalars_inv g4
      rw [← hself rfl]
      refine ⟨W1, [], k1, .refl _ _ _ _, rfl, p', c', cs, [], g1, g2, g3, ?_, by simp, by simp, fun hn => (g7 (.inr hn)).1, g8⟩
      rw [hxs, hcs]
      exact Rep.scalars (Rep.scalars_ok g4)
  obtain ⟨W2, f2, q1, q2, q3, p2, c2, cs2, f2', q4, q5, q6, q7, q8, q9, q10, q11⟩ := hsrc
  rw [k3] at q3
  obtain ⟨hs1, h6⟩ := chk_run h5
  obtain ⟨hs2, h7⟩ := chk_run h6
  obtain ⟨hp0, h8⟩ := chk_run h7
  obtain ⟨⟨hb1, hb2⟩, h9⟩ := req_run h8
  simp only [Bool.and_eq_true] at hp0
  have hpos : 0 < j.size := by simpa using hp0.1
  have hzlen : j.zero.length = j.size := by simpa using hp0.2
  have k4' := q2.rep k4
  have hT := (hΓ T i hi).slice hk
  obtain ⟨info, z, i1, i2, i3, i4, i5⟩ := (hΓ e j hj).info
  have hnd2 := q1.hnd
  rw [q3] at hnd2
  rw [List.nodup_append] at hnd2
  obtain ⟨hndf2, hndf1, hdj⟩ := hnd2
  have hone2 := q7.oneCells
  have hsz2 : ∀ el ∈ els2, el.length = j.size := by
    intro el hel
    have := q11 el hel
    by_cases hn2 : n2 = .isnil
    · rw [q10 hn2] at hel; simp at hel
    · rw [this, szOk_eq hs2 hn2]
  have hcs2 : cs2.length = els2.length * j.size := by
    rw [← flatten_length hsz2]
    exact q7.length.symm
  have hnew2 := fun (w2 : World) (hw : w2.heap = w.heap) => q6 j.size w2 hw hs2
  obtain ⟨p1, c1, cs1, f1', r1, r2, r3, r4, r5, r6, r7, r8⟩ := sl_cells P k4'
  have hsz1 : ∀ el ∈ els1, el.length = j.size := by
    intro el hel
    have := r8 el hel
    by_cases hn1 : n1 = .isnil
    · rw [(r7 (.inr hn1)).1] at hel; simp at hel
    · rw [this, szOk_eq hs1 hn1]
  have hcs1 : cs1.length = els1.length * j.size := by
    rw [← flatten_length hsz1]
    exact r4.length.symm
  have hszs : ∀ el ∈ els1 ++ els2, el.length = j.size := by
    intro el hel
    rcases List.mem_append.1 hel with h | h
    · exact hsz1 el h
    · exact hsz2 el h
  have hmaxlen : els1.length + els2.length ≤ maxLen := by simp only [maxLen]; omega
  have hndff : (f1' ++ f2').Nodup := by
    rw [List.nodup_append]
    refine ⟨r6 hndf1, q9, fun b hb b2 hb2 he => ?_⟩
    subst he
    exact hdj b (q8 b hb2) b (r5 b hb) rfl
  have hffh : ∀ b ∈ f1' ++ f2', b ∈ W2.hand := by
    intro b hb
    rw [q3]
    rcases List.mem_append.1 hb with h | h
    · simp [r5 b h]
    · simp [q8 b h]
  have hresolve : ∀ {v : Value} {w' : World}, (Builtin.append_ #[T, T] o.type #[a.eval x, a.eval y]).run P w = .ok v w' → (execOp a.eval o).run P w = .ok (.value v) w' := by
    intro v w' hrun
    simp [execOp, ho, resolve, hc, arr2 ha, arr2 ht, invoke, builtin, hrun]
  -- into a new row
  have hgrow : c1 < els1.length + els2.length → o.wp P a w next Q := by
    intro hlt
    have hrun := run_append_new (P := P) (w := w) T o.type e info z hT i1 i4 p1 els1.length c1 cs1 (by rw [i2, ← r1]; exact r3 j.size w.drew rfl hs1) p2 els2.length c2 cs2 (by rw [i2, ← q4]; exact hnew2 w.drew rfl) hlt (by omega)
      (by rw [i3]; exact growslice_fits hlt hb1)
    rw [← r1, ← q4] at hrun
    have hge := grownCap_ge w (els1.length + els2.length) c1 e
    have hcm := grownCap_le_maxLen w (els1.length + els2.length) c1 e hmaxlen
    have hzs : z.cells.size = j.size := by
      have := hzlen
      rw [← this, ← i5]; simp
    generalize hcap : grownCap w (els1.length + els2.length) c1 e = cap at hrun hge hcm
    obtain ⟨W', x1, x2⟩ := q1.setNew (P := P) (cr := cr) (nf := apF n1) (by cases n1 <;> simp [apF]) hd (w' := w.drew.alloc (.cells (cs1 ++ cs2 ++ (Builtin.zeroCells z.cells (cap - (els1.length + els2.length))).toList).toArray e)) (alloc_get w _) (keeps_alloc w _) (els := els1 ++ els2) (sz := j.size)
      (n := els1.length + els2.length) (cap := cap) (cs := cs1 ++ cs2) (fi := f1' ++ f2') (by rw [List.flatten_append]; exact r4.append q7) (by
        rw [List.toList_toArray]
        have hl : (cs1 ++ cs2).length = (els1.length + els2.length) * j.size := by rw [List.length_append, hcs1, hcs2, Nat.add_mul]
        rw [← hl]
        exact List.take_left) (by simp) hszs hpos hge hcm (by
        simp only [List.size_toArray, List.length_append, hcs1, hcs2, Array.length_toList, size_zeroCells, hzs, ← Nat.add_mul]
        congr 1; omega) hffh hndff h9
    exact wp_value (hresolve hrun) (hn _ _ W' x1 x2 (put_size _ _ _))
  by_cases hp1 : p1 = none
  · obtain ⟨he1, _, hc1, hnn1⟩ := r7 (.inl hp1)
    subst he1; subst hp1; subst hc1
    cases hels2 : els2 with
    | nil =>
      subst hels2
      have hcs20 : cs2 = [] := List.eq_nil_of_length_eq_zero (by simpa using hcs2)
      subst hcs20
      have hrun := run_append_none (P := P) (w := w) T o.type e info hT i1 p2 c2 (by
        have := hnew2 w rfl
        rw [q4] at this
        rw [i2]
        simpa using this)
      obtain ⟨W', x1, x2⟩ := setSl_ok (cr := cr) (P := P) q1 (d := o.dst) (s := .one) (tvs := [.val (.sl true (apF n1) j.size [])]) (vs := [.slice none 0 0]) (f := []) (hand' := []) hd
        ⟨.nils (by cases n1 <;> simp_all [apF]) .nil, fun c t z ht _ => valTVs_refs [.sl true (apF n1) j.size []] c t z ht⟩ rfl (by simp) (by simp) (by simp) (by simp) (by simp) h9
      refine wp_value (hresolve ?_) (hn _ _ W' x1 x2 (put_size _ _ _))
      rw [r1, q4]
      exact hrun
    | cons el els2' =>
      refine hgrow ?_
      · rw [hels2]; simp
  · by_cases hroom : els1.length + els2.length ≤ c1
    · rw [r1] at k4'
      cases k4' with
      | nils hnf t => exact absurd rfl hp1
      | owd hnf hg hnn hsz hps hcap hmax hcur hin t =>
        rename_i g cur te fi fp
        cases t
        simp only [List.append_nil] at *
        have hsj : s1 = j.size := szOk_eq hs1 hnf
        subst hsj
        have hmul : (els1.length + els2.length) * j.size ≤ c1 * j.size := Nat.mul_le_mul_right _ hroom
        rw [Nat.add_mul] at hmul
        have hfit : els1.length * j.size + cs2.length ≤ cur.size := by rw [hcs2]; omega
        rw [q3] at hffh
        have hgh : g ∈ W2.hand := by rw [q3]; simp
        have hrun := run_append_into (P := P) (w := w) T o.type e info hT i1 g els1.length c1 cur hg p2 els2.length c2 cs2 (by rw [i2, ← q4]; exact hnew2 w rfl) hone2 hroom (by rw [i2]; exact hfit)
        rw [i2] at hrun
        generalize hnc : cur.toList.take (els1.length * j.size) ++ cs2 ++ cur.toList.drop (els1.length * j.size + cs2.length) = nc at hrun
        have hndg : (g :: (fi ++ f2')).Nodup := by
          rw [List.nodup_cons] at hndf1 ⊢
          refine ⟨fun hb => ?_, ?_⟩
          · rcases List.mem_append.1 hb with hb | hb
            · exact hndf1.1 hb
            · exact hdj g (q8 g hb) g (by simp) rfl
          · rw [List.nodup_append]
            refine ⟨hndf1.2, q9, fun b hb b2 hb2 he => ?_⟩
            subst he
            exact hdj b (q8 b hb2) b (by simp [hb]) rfl
        obtain ⟨x1, x2, x3⟩ := q1.world (w' := w.setRow g nc.toArray) (hand' := g :: (fi ++ f2')) ⟨rfl, rfl, rfl, by rw [setRow_size]; exact Nat.le_refl _, fun b _ hb => setRow_other w g b _ fun he => hb (he ▸ hgh)⟩ hndg (by
          intro b hb
          rw [setRow_size]
          refine ⟨.inl ?_, ?_⟩
          · rw [q3]
            rcases List.mem_cons.1 hb with rfl | hb
            · simp
            · rcases List.mem_append.1 hb with hb | hb
              · simp [hb]
              · simp [q8 b hb]
          · rcases List.mem_cons.1 hb with rfl | hb
            · exact (Array.getElem?_eq_some_iff.1 hg).1
            · rcases List.mem_append.1 hb with hb | hb
              · exact hin.fp_lt b hb
              · exact q7.fp_lt b hb)
        have hng : ∀ b ∈ fi ++ f2', b ≠ g := fun b hb he => (List.nodup_cons.1 hndg).1 (he ▸ hb)
        have y1 := hin.mono (β' := fun _ => none) x2 (fun b hb => setRow_other w g b _ (hng b (by simp [hb]))) (fun _ _ h => h)
        have y2 := q7.mono (β' := fun _ => none) x2 (fun b hb => setRow_other w g b _ (hng b (by simp [hb]))) (fun _ _ h => h)
        have hncl : c1 * j.size ≤ nc.length := by
          rw [← hnc]
          have h0 : c1 * j.size ≤ cur.toList.length := by rw [Array.length_toList]; exact hcur
          simp only [List.length_append, List.length_take, List.length_drop]
          omega
        have hrep := Rep.owd (nf := apF n1) (w := w.setRow g nc.toArray) (β := W2.β) (S := Sh C σ2 { W2 with hand := g :: (fi ++ f2') } (w.setRow g nc.toArray)) (sz := j.size) (g := g) (n := els1.length + els2.length) (cap := c1) (els := els1 ++ els2) (cur := nc.toArray) (e := te) (fi := fi ++ f2')
          (by cases n1 <;> simp [apF]) (setRow_heap w g cur _ te (0, 0) hg) (by simp) hszs hps hroom hmax (by simpa using hncl) (by
            rw [List.flatten_append]
            have h0 : c1 * j.size ≤ cur.toList.length := by rw [Array.length_toList]; exact hcur
            have htl : (cur.toList.take (els1.length * j.size) ++ cs2).length = (els1.length + els2.length) * j.size := by
              rw [List.length_append, List.length_take, hcs2, Nat.add_mul]
              omega
            have hnct : nc.take ((els1.length + els2.length) * j.size) = cur.toList.take (els1.length * j.size) ++ cs2 := by rw [← hnc, ← htl, List.take_left]
            rw [List.toList_toArray, hnct]
            exact y1.append y2) .nil
        rw [List.append_nil] at hrep
        obtain ⟨W', z1, z2⟩ := setSl_ok (cr := cr) (P := P) x1 (d := o.dst) (s := .one) (tvs := [.val (.sl true (apF n1) j.size (els1 ++ els2))]) (vs := [.slice (some ⟨g, 0, none⟩) (els1.length + els2.length) c1]) (f := g :: (fi ++ f2')) (hand' := []) hd
          ⟨hrep, fun c t z ht _ => valTVs_refs [.sl true (apF n1) j.size (els1 ++ els2)] c t z ht⟩ rfl (fun _ hb => hb) (by simp) hndg (by simp) (by simp) h9
        refine wp_value (hresolve ?_) (hn _ _ W' z1 z2 (put_size _ _ _))
        rw [r1, q4]
        exact hrun
    · exact hgrow (by omega)

end Go.Vs

namespace Go.Vs

variable {C : Ctx} {σ : St} {a : Act} {w : World} {W : Wit} {P : Program} {cr : CallR} {Γ : Env}

theorem Rep.fp_unique {β : Nat → Option Nat} {S : Nat → Prop} {as : List AV} {vs : List Value} {f : List Nat} (h : Rep w β S as vs f) :
    ∀ {β' : Nat → Option Nat} {S' : Nat → Prop} {f' : List Nat}, Rep w β' S' as vs f' → f = f' := by
  induction h with
  | nil => intro β' S' f' h'; cases h'; rfl
  | v h t ih => intro β' S' f' h'; cases h' with | v _ t' => exact ih t'
  | any h t ih => intro β' S' f' h'; cases h' with | any _ t' => exact ih t'
  | bp hb t ih => intro β' S' f' h'; cases h' with | bp _ t' => exact ih t'
  | nils hnf t ih => intro β' S' f' h'; cases h' with | nils hf t' => exact ih t'
  | emp hnf hc t ih => intro β' S' f' h'; cases h' with
    | emp _ _ t' => exact ih t'
    | shd _ _ _ _ _ _ _ _ _ t' => exact ih t'
  | shd hnf hg hrow hn hsz hpos hcap hmax hin t ih1 ih2 => intro β' S' f' h'; cases h' with
    | emp _ _ t' => exact ih2 t'
    | shd _ _ _ _ _ _ _ _ _ t' => exact ih2 t'
  | owd hnf hg hn hsz hpos hcap hmax hcur hin t ih1 ih2 =>
    intro β' S' f' h'
    cases h' with
    | owd hnf hg' hn' hsz' hpos' hcap' hmax' hcur' hin' t' =>
      rw [hg] at hg'
      cases hg'
      rw [ih1 hin', ih2 t']
  | ep hg hrow hsz hi hin t ih1 ih2 =>
    intro β' S' f' h'
    obtain ⟨v, us, f1, f2, he, rfl, h1, h2⟩ := Rep.uncons h'
    obtain ⟨-, rfl⟩ := List.cons.inj he
    rw [h1.fp_nil rfl, List.nil_append]
    exact ih2 h2
  | cp hg hrow hin t ih1 ih2 =>
    intro β' S' f' h'
    obtain ⟨v, us, f1, f2, he, rfl, h1, h2⟩ := Rep.uncons h'
    obtain ⟨-, rfl⟩ := List.cons.inj he
    rw [h1.fp_nil rfl, List.nil_append]
    exact ih2 h2
  | clo hin t ih1 ih2 => intro β' S' f' h'; cases h' with | clo _ t' => exact ih2 t'
  | own hg hin t ih1 ih2 =>
    intro β' S' f' h'
    cases h' with
    | own hg' hin' t' =>
      rw [hg] at hg'
      cases hg'
      rw [ih1 hin', ih2 t']

theorem navZ_ok : ∀ (p : Path) {b leaf : AV} {rb : AV → AV} {σ' : St} {l : Log}, (navZ b p).run P cr σ = some ((leaf, rb), σ', l) →
    σ' = σ ∧ l = [] ∧ (nav b p).run P cr σ = some (leaf, σ, []) ∧ ∀ (σ2 : St) (a' : AV), (navSet b p fun _ => .ret a').run P cr σ2 = some (rb a', σ2, [])
  | [], b, leaf, rb, σ', l, h => by
    obtain ⟨he, rfl, rfl⟩ := ret_run (show (Pr.ret (b, fun x => x)).run P cr σ = _ by cases b <;> exact h)
    cases he
    exact ⟨rfl, rfl, by cases b <;> rfl, fun σ2 a' => by cases b <;> rfl⟩
  | (i, k) :: p, b, leaf, rb, σ', l, h => by
    cases b with
    | sl o n s els =>
      cases o with
      | false => exact (fail_run (show (Pr.fail : Pr (AV × (AV → AV))).run P cr σ = _ from h)).elim
      | true =>
        obtain ⟨el, hel, h1⟩ := elt_run (show (Pr.elt els[i]? _).run P cr σ = _ from h)
        cases hk : el[k]? with
        | none => rw [hk] at h1; exact (fail_run h1).elim
        | some b1 =>
          rw [hk] at h1
          obtain ⟨⟨lf, rb1⟩, σ1, l1, l2, h2, h3, rfl⟩ := run_bind_some (show (navZ b1 p >>= fun x => Pr.ret (x.1, fun y => AV.sl true n s (els.set i (el.set k (x.2 y))))).run P cr σ = _ from h1)
          obtain ⟨he, hs, hl⟩ := ret_run h3
          cases he
          obtain ⟨e1, e2, e3, e4⟩ := navZ_ok p h2
          subst hs
          refine ⟨e1, by rw [hl, e2]; rfl, ?_, fun σ2 a' => ?_⟩
          · show (Pr.elt els[i]? fun el => match el[k]? with | some a => nav a p | none => .fail).run P cr σ = _
            simp only [Pr.run, hel, hk]
            exact e3
          · show (Pr.elt els[i]? fun el => match el[k]? with | some a => navSet a p (fun _ => .ret a') >>= fun a' => Pr.ret (AV.sl true n s (els.set i (el.set k a'))) | none => .fail).run P cr σ2 = _
            simp only [Pr.run, hel, hk]
            have := run_bind P cr (navSet b1 p fun _ => .ret a') (fun a' => Pr.ret (AV.sl true n s (els.set i (el.set k a')))) σ2
            show ((navSet b1 p fun _ => .ret a').bind _).run P cr σ2 = _
            rw [this, e4 σ2 a']
            rfl
    | _ => exact (fail_run (show (Pr.fail : Pr (AV × (AV → AV))).run P cr σ = _ from h)).elim

def LendFact (P : Program) (cr : CallR) (w : World) (β : Nat → Option Nat) (S : Nat → Prop) (cv : Rs → List Value) (b : Lend) (leaf : AV) (z : Value) (fl fc : List Nat) : Prop :=
  ∃ a0 u p, (cv b.r)[b.c]? = some u ∧ Rep w β S [a0] [u] fc ∧ NavAt w a0 u p leaf z ∧ (∀ σ2 a', (navSet a0 p fun _ => .ret a').run P cr σ2 = some (b.rb a', σ2, [])) ∧
    Rep w (fun _ => none) S [leaf] [z] fl ∧ (∀ x ∈ fl, x ∈ fc) ∧ fc.Nodup ∧ fl.Nodup

inductive LendOk (P : Program) (cr : CallR) (w : World) (β : Nat → Option Nat) (S : Nat → Prop) (cv : Rs → List Value) : List AV → List (Option Lend) → List Value → List Nat → List Nat → Prop
  | nil : LendOk P cr w β S cv [] [] [] [] []
  | val {x : AV} {z : Value} {as ls vs fp hd} (h : Rep w (fun _ => none) S [x] [z] []) (t : LendOk P cr w β S cv as ls vs fp hd) : LendOk P cr w β S cv (x :: as) (none :: ls) (z :: vs) fp hd
  | ref {leaf : AV} {z : Value} {b : Lend} {fl fc : List Nat} {as ls vs fp hd} (h : LendFact P cr w β S cv b leaf z fl fc) (t : LendOk P cr w β S cv as ls vs fp hd) :
      LendOk P cr w β S cv (leaf :: as) (some b :: ls) (z :: vs) (fl ++ fp) (fc ++ hd)

theorem LendFact.mono {β : Nat → Option Nat} {S S' : Nat → Prop} {cv : Rs → List Value} {b : Lend} {leaf : AV} {z : Value} {fl fc : List Nat} (h : LendFact P cr w β S cv b leaf z fl fc) (hS : ∀ b, S b → S' b) : LendFact P cr w β S' cv b leaf z fl fc := by
  obtain ⟨a0, u, p, h1, h2, h3, h4, h5, h6, h7, h8⟩ := h
  exact ⟨a0, u, p, h1, h2.mono (fun b hb => ⟨hS b hb, rfl⟩) (fun _ _ => rfl) (fun _ _ h => h), h3, h4, h5.mono (fun b hb => ⟨hS b hb, rfl⟩) (fun _ _ => rfl) (fun _ _ h => h), h6, h7, h8⟩

theorem LendOk.mono {β : Nat → Option Nat} {S S' : Nat → Prop} {cv : Rs → List Value} {as : List AV} {ls : List (Option Lend)} {vs : List Value} {fp hd : List Nat} (h : LendOk P cr w β S cv as ls vs fp hd) (hS : ∀ b, S b → S' b) : LendOk P cr w β S' cv as ls vs fp hd := by
  induction h with
  | nil => exact .nil
  | val h t ih => exact .val (h.mono (fun b hb => ⟨hS b hb, rfl⟩) (fun _ _ => rfl) (fun _ _ h => h)) ih
  | ref h t ih => exact .ref (h.mono hS) ih

theorem LendOk.rep {β : Nat → Option Nat} {S : Nat → Prop} {cv : Rs → List Value} {as : List AV} {ls : List (Option Lend)} {vs : List Value} {fp hd : List Nat} (h : LendOk P cr w β S cv as ls vs fp hd) : Rep w (fun _ => none) S as vs fp := by
  induction h with
  | nil => exact .nil
  | val h t ih => exact Rep.cons h ih
  | ref h t ih => obtain ⟨a0, u, p, h1, h2, h3, h4, h5, h6, h7, h8⟩ := h; exact Rep.cons h5 ih

theorem LendOk.len {β : Nat → Option Nat} {S : Nat → Prop} {cv : Rs → List Value} {as : List AV} {ls : List (Option Lend)} {vs : List Value} {fp hd : List Nat} (h : LendOk P cr w β S cv as ls vs fp hd) : as.length = ls.length ∧ vs.length = ls.length := by
  induction h with
  | nil => exact ⟨rfl, rfl⟩
  | val h t ih => simp [ih.1, ih.2]
  | ref h t ih => simp [ih.1, ih.2]

theorem LendOk.sub {β : Nat → Option Nat} {S : Nat → Prop} {cv : Rs → List Value} {as : List AV} {ls : List (Option Lend)} {vs : List Value} {fp hd : List Nat} (h : LendOk P cr w β S cv as ls vs fp hd) : ∀ b ∈ fp, b ∈ hd := by
  induction h with
  | nil => simp
  | val h t ih => exact ih
  | ref h t ih =>
    obtain ⟨a0, u, p, h1, h2, h3, h4, h5, h6, h7, h8⟩ := h
    intro b hb
    rcases List.mem_append.1 hb with hb | hb
    · simp [h6 b hb]
    · simp [ih b hb]

theorem LendOk.nodup {β : Nat → Option Nat} {S : Nat → Prop} {cv : Rs → List Value} {as : List AV} {ls : List (Option Lend)} {vs : List Value} {fp hd : List Nat} (h : LendOk P cr w β S cv as ls vs fp hd) (hn : hd.Nodup) : fp.Nodup := by
  induction h with
  | nil => simp
  | val h t ih => exact ih hn
  | ref h t ih =>
    obtain ⟨a0, u, p, h1, h2, h3, h4, h5, h6, h7, h8⟩ := h
    rw [List.nodup_append] at hn ⊢
    exact ⟨h8, ih hn.2.1, fun b hb b2 hb2 => hn.2.2 b (h6 b hb) b2 (t.sub b2 hb2)⟩

/-- One cell is lent. -/
theorem lendTV_ok (h : SR C σ a w W) {t : TV} {z : Value} (ht : TV1 C σ W w t z) {x : AV} {y : Option Lend} {σ' : St} {l : Log} (hr : (lendTV t).run P cr σ = some ((x, y), σ', l)) :
    ∃ W' fl f, SR C σ' a w W' ∧ Mv C w σ W σ' W' ∧ W'.hand = f ++ W.hand ∧ LendOk P cr w W'.β (Sh C σ' W' w) W'.cv [x] [y] [z] fl f := by
  cases t with
  | val b =>
    obtain ⟨hp, h1⟩ := chk_run (show (chk (!isPtr b) (Pr.ret (shc b, none))).run P cr σ = _ from hr)
    obtain ⟨he, rfl, _⟩ := ret_run h1
    cases he
    have hp' : isPtr b = false := by simpa using hp
    have := (Rep.noβ ht hp' (fun _ => none)).shc (S' := Sh C σ' W w) (fun b hb => hb) (by simp)
    exact ⟨W, [], [], h, .refl _ _ _ _, rfl, .val (by simpa [shcL] using this) .nil⟩
  | eref r c ver p sz i k => exact (fail_run (show (Pr.fail : Pr (AV × Option Lend)).run P cr σ = _ from hr)).elim
  | ref r c ver p =>
    obtain ⟨l', h1, rfl⟩ := get_run (show (Pr.get r _).run P cr σ = _ from hr)
    cases hg : σ.get r with
    | mk v o => cases o with
      | none => rw [hg] at h1; exact (fail_run h1).elim
      | some q =>
        obtain ⟨s, tvs⟩ := q
        rw [hg] at h1
        simp only at h1
        cases hv : verOk v ver p with
        | false => rw [hv] at h1; exact (fail_run h1).elim
        | true =>
          rw [hv] at h1
          simp only at h1
          split at h1
          · rename_i a0 ha
            obtain ⟨⟨leaf, rb⟩, σ1, l1, l2, h2, h3, rfl⟩ := run_bind_some h1
            obtain ⟨e1, e2, e3, e4⟩ := navZ_ok p h2
            subst e1
            obtain ⟨hsl, h4⟩ := chk_run h3
            obtain ⟨l3, h5, rfl⟩ := put_run h4
            obtain ⟨he, rfl, _⟩ := ret_run h5
            cases he
            obtain ⟨u, hu, hcase⟩ := ht.2.2 v s tvs hg hv
            have hnav : NavAt w a0 u p leaf z := by
              rcases hcase with ⟨rfl, rfl⟩ | ⟨hp, a1, a', ha1, hn⟩
              · obtain ⟨rfl, _, _⟩ := ret_run (show (Pr.ret a0).run P cr σ1 = _ by cases a0 <;> exact e3)
                exact ⟨rfl, rfl⟩
              · rw [ha] at ha1; cases ha1
                have hat : (tvs.map own)[c]? = some a0 := by simp [ha, own]
                obtain ⟨u', f1, fc, f2, hu', hf, hone, _⟩ := (h.rep r v s tvs hg).at hat
                rw [hu] at hu'; cases hu'
                obtain ⟨_, hh⟩ := nav_ok (x := z) p e3 hone (fun _ _ => trivial)
                obtain ⟨h9, _⟩ := hh hn
                rw [h9] at hn
                exact hn
            have hone1 : u.oneCell' = true := by
              have hat : (tvs.map own)[c]? = some a0 := by simp [ha, own]
              obtain ⟨u', f1, fc, f2, hu', hf, hone, _⟩ := (h.rep r v s tvs hg).at hat
              rw [hu] at hu'; cases hu'
              exact hone.oneCell
            obtain ⟨W', f, q1, q2, q3, q4, q5, q6⟩ := h.takeCell hg ha hu hone1
            obtain ⟨β', fl, al', σ2, l4, m1, m2, m3, m4⟩ := navSet_leaf (cr := cr) (P := P) (σ := σ1) p (e4 σ1 .any) q4 hnav q6
            refine ⟨W', fl ++ [], f ++ [], q1, q2, by simpa using q3, .ref ⟨a0, u, p, by rw [q2.cv]; exact hu, q4, hnav, e4, m2.noβ (by cases leaf <;> simp_all [isLd, isPtr]) _, m4, q6, m3⟩ .nil⟩
          · exact (fail_run h1).elim

theorem LendOk.mv {σ1 : St} {W1 : Wit} (hm : Mv C w σ W σ1 W1) {as : List AV} {ls : List (Option Lend)} {vs : List Value} {fp hd : List Nat} (h : LendOk P cr w W.β (Sh C σ W w) W.cv as ls vs fp hd) :
    LendOk P cr w W1.β (Sh C σ1 W1 w) W1.cv as ls vs fp hd := by
  rw [hm.β, hm.cv]
  exact h.mono hm.sh

theorem lendTVs_ok {tvs : List TV} : ∀ {σ : St} {W : Wit} {vs : List Value}, SR C σ a w W → View C σ W w tvs vs → ∀ {as : List AV} {ls : List (Option Lend)} {σ' : St} {l : Log}, (lendTVs tvs).run P cr σ = some ((as, ls), σ', l) →
    ∃ W' fp hd, SR C σ' a w W' ∧ Mv C w σ W σ' W' ∧ (∃ hd', W'.hand = hd' ++ W.hand ∧ ∀ b, b ∈ hd ↔ b ∈ hd') ∧ hd.Nodup ∧ LendOk P cr w W'.β (Sh C σ' W' w) W'.cv as ls vs fp hd := by
  induction tvs with
  | nil =>
    intro σ W vs h hv as ls σ' l hr
    cases vs with
    | cons _ _ => exact hv.elim
    | nil =>
      obtain ⟨he, rfl, _⟩ := ret_run (show (Pr.ret ([], [])).run P cr σ = _ from hr)
      cases he
      exact ⟨W, [], [], h, .refl _ _ _ _, ⟨[], rfl, by simp⟩, by simp, .nil⟩
  | cons t tl ih =>
    intro σ W vs h hv as ls σ' l hr
    cases vs with
    | nil => exact hv.elim
    | cons z zs =>
      obtain ⟨⟨x, y⟩, σ1, l1, l2, h1, h2, rfl⟩ := run_bind_some (show (lendTV t >>= fun q => lendTVs tl >>= fun r => Pr.ret (q.1 :: r.1, q.2 :: r.2)).run P cr σ = _ from hr)
      obtain ⟨W1, fl1, f1, g1, g2, g3, g4⟩ := lendTV_ok h hv.1 h1
      obtain ⟨⟨as', ls'⟩, σ2, l3, l4, h3, h4, rfl⟩ := run_bind_some h2
      obtain ⟨W2, fp2, hd2, k1, k2, ⟨hd2', k3, k4⟩, k5, k6⟩ := ih g1 (g2.view hv.2) h3
      obtain ⟨he, rfl, _⟩ := ret_run h4
      cases he
      have hn := k1.hnd
      rw [k3, g3] at hn
      have g5 := g4.mv k2
      cases g5 with
      | val hx t0 =>
        cases t0
        simp only [List.nil_append] at g3
        exact ⟨W2, fp2, hd2, k1, g2.trans k2, ⟨hd2', by rw [k3, g3], k4⟩, k5, .val hx k6⟩
      | ref hx t0 =>
        cases t0
        rename_i fl fc
        simp only [List.append_nil] at g3 hn
        refine ⟨W2, _, _, k1, g2.trans k2, ⟨hd2' ++ fc, by rw [k3, g3]; simp, ?_⟩, ?_, .ref hx k6⟩
        · intro b; simp [k4 b, or_comm]
        · rw [List.nodup_append]
          simp only [List.nodup_append, List.mem_append] at hn
          refine ⟨hn.2.1.1, k5, fun b hb b2 hb2 he => ?_⟩
          subst he
          exact hn.2.2 b ((k4 b).1 hb2) b (.inl hb) rfl

/-! ### The arguments -/

inductive LendsOk (P : Program) (cr : CallR) (w : World) (β : Nat → Option Nat) (S : Nat → Prop) (cv : Rs → List Value) : List Lent → List Value → List Nat → List Nat → Prop
  | nil : LendsOk P cr w β S cv [] [] [] []
  | sh {s : Shape} {as : List AV} {vs : List Value} {bs vals fp hd} (h : Rep w (fun _ => none) S as vs []) (t : LendsOk P cr w β S cv bs vals fp hd) :
      LendsOk P cr w β S cv (((s, as), none) :: bs) (shVal s vs :: vals) fp hd
  | lent {s : Shape} {as : List AV} {ls : List (Option Lend)} {vs : List Value} {fp1 hd1 : List Nat} {bs vals fp hd} (hs : shapeFit s as.length) (h : LendOk P cr w β S cv as ls vs fp1 hd1) (t : LendsOk P cr w β S cv bs vals fp hd) :
      LendsOk P cr w β S cv (((s, as), some ls) :: bs) (shVal s vs :: vals) (fp1 ++ fp) (hd1 ++ hd)

theorem LendsOk.mono {β : Nat → Option Nat} {S S' : Nat → Prop} {cv : Rs → List Value} {bs : List Lent} {vals : List Value} {fp hd : List Nat} (h : LendsOk P cr w β S cv bs vals fp hd) (hS : ∀ b, S b → S' b) : LendsOk P cr w β S' cv bs vals fp hd := by
  induction h with
  | nil => exact .nil
  | sh h t ih => exact .sh (h.mono (fun b hb => ⟨hS b hb, rfl⟩) (fun _ _ => rfl) (fun _ _ h => h)) ih
  | lent hs h t ih => exact .lent hs (h.mono hS) ih

theorem LendsOk.mv {σ1 : St} {W1 : Wit} (hm : Mv C w σ W σ1 W1) {bs : List Lent} {vals : List Value} {fp hd : List Nat} (h : LendsOk P cr w W.β (Sh C σ W w) W.cv bs vals fp hd) :
    LendsOk P cr w W1.β (Sh C σ1 W1 w) W1.cv bs vals fp hd := by
  rw [hm.β, hm.cv]
  exact h.mono hm.sh

theorem LendsOk.reps {β : Nat → Option Nat} {S : Nat → Prop} {cv : Rs → List Value} {bs : List Lent} {vals : List Value} {fp hd : List Nat} (h : LendsOk P cr w β S cv bs vals fp hd) : Reps w S (firsts bs) vals fp := by
  induction h with
  | nil => exact .nil
  | sh h t ih => exact .cons (fp := []) h ih
  | lent hs h t ih => exact .cons h.rep ih

theorem LendsOk.sub {β : Nat → Option Nat} {S : Nat → Prop} {cv : Rs → List Value} {bs : List Lent} {vals : List Value} {fp hd : List Nat} (h : LendsOk P cr w β S cv bs vals fp hd) : ∀ b ∈ fp, b ∈ hd := by
  induction h with
  | nil => simp
  | sh h t ih => exact ih
  | lent hs h t ih =>
    intro b hb
    rcases List.mem_append.1 hb with hb | hb
    · simp [h.sub b hb]
    · simp [ih b hb]

theorem LendsOk.nodup {β : Nat → Option Nat} {S : Nat → Prop} {cv : Rs → List Value} {bs : List Lent} {vals : List Value} {fp hd : List Nat} (h : LendsOk P cr w β S cv bs vals fp hd) (hn : hd.Nodup) : fp.Nodup := by
  induction h with
  | nil => simp
  | sh h t ih => exact ih hn
  | lent hs h t ih =>
    rw [List.nodup_append] at hn ⊢
    exact ⟨h.nodup hn.1, ih hn.2.1, fun b hb b2 hb2 => hn.2.2 b (h.sub b hb) b2 (t.sub b2 hb2)⟩

/-- What is known of an argument that was read. -/
def ArOk (C : Ctx) (σ : St) (W : Wit) (w : World) (x : Ar) (v : Value) : Prop :=
  ∃ vs, v = shVal x.s vs ∧ View C σ W w x.tvs vs ∧ shapeFit x.s x.tvs.length ∧ ∀ cells, x.sh = some cells → Rep w (fun _ => none) (ShA C w) cells vs [] ∧ (noRef x.tvs = true → Rep w (fun _ => none) (Sh C σ W w) cells vs [])

inductive ArsOk (C : Ctx) (σ : St) (W : Wit) (w : World) : List Ar → List Value → Prop
  | nil : ArsOk C σ W w [] []
  | cons {x : Ar} {v : Value} {xs vs} (h : ArOk C σ W w x v) (t : ArsOk C σ W w xs vs) : ArsOk C σ W w (x :: xs) (v :: vs)

theorem ArOk.mv {σ1 : St} {W1 : Wit} (hm : Mv C w σ W σ1 W1) {x : Ar} {v : Value} (h : ArOk C σ W w x v) : ArOk C σ1 W1 w x v := by
  obtain ⟨vs, h1, h2, h3, h4⟩ := h
  refine ⟨vs, h1, hm.view h2, h3, fun cells hc => ⟨(h4 cells hc).1, fun hn => ?_⟩⟩
  exact ((h4 cells hc).2 hn).mono (fun b hb => ⟨hm.sh b hb, rfl⟩) (fun _ _ => rfl) (fun _ _ h => h)

theorem ArsOk.mv {σ1 : St} {W1 : Wit} (hm : Mv C w σ W σ1 W1) {xs : List Ar} {vs : List Value} (h : ArsOk C σ W w xs vs) : ArsOk C σ1 W1 w xs vs := by
  induction h with
  | nil => exact .nil
  | cons h t ih => exact .cons (h.mv hm) ih

theorem lendAll_ok {xs : List Ar} : ∀ {σ : St} {W : Wit} {vals : List Value}, SR C σ a w W → ArsOk C σ W w xs vals → noRefs xs = true → ∀ {bs : List Lent} {σ' : St} {l : Log}, (lendAll xs).run P cr σ = some (bs, σ', l) →
    ∃ W' fp hd, SR C σ' a w W' ∧ Mv C w σ W σ' W' ∧ (∃ hd', W'.hand = hd' ++ W.hand ∧ ∀ b, b ∈ hd ↔ b ∈ hd') ∧ hd.Nodup ∧ LendsOk P cr w W'.β (Sh C σ' W' w) W'.cv bs vals fp hd := by
  induction xs with
  | nil =>
    intro σ W vals h hx hn bs σ' l hr
    cases hx
    obtain ⟨rfl, rfl, _⟩ := ret_run (show (Pr.ret []).run P cr σ = _ from hr)
    exact ⟨W, [], [], h, .refl _ _ _ _, ⟨[], rfl, by simp⟩, by simp, .nil⟩
  | cons x xs ih =>
    intro σ W vals h hx hn bs σ' l hr
    cases hx with
    | cons h0 t0 =>
      obtain ⟨vs, hv, hview, hfit, hsh⟩ := h0
      obtain ⟨s, tvs, sh⟩ := x
      subst hv
      cases sh with
      | some cells =>
        simp only [noRefs, Bool.and_eq_true] at hn
        obtain ⟨bs', σ1, l1, l2, h1, h2, rfl⟩ := run_bind_some (show (lendAll xs >>= fun r => Pr.ret (((s, cells), none) :: r)).run P cr σ = _ from hr)
        obtain ⟨rfl, rfl, _⟩ := ret_run h2
        obtain ⟨W', fp, hd, k1, k2, k3, k4, k5⟩ := ih h t0 hn.2 h1
        have h0 := (hsh cells rfl).2 hn.1
        exact ⟨W', fp, hd, k1, k2, k3, k4, .sh (h0.mono (fun b hb => ⟨k2.sh b hb, rfl⟩) (fun _ _ => rfl) (fun _ _ h => h)) k5⟩
      | none =>
        simp only [noRefs] at hn
        obtain ⟨⟨as, ls⟩, σ1, l1, l2, h1, h2, rfl⟩ := run_bind_some (show (lendTVs tvs >>= fun q => lendAll xs >>= fun r => Pr.ret (((s, q.1), some q.2) :: r)).run P cr σ = _ from hr)
        obtain ⟨W1, fp1, hd1, g1, g2, ⟨hd1', g3, g4⟩, g5, g6⟩ := lendTVs_ok h hview h1
        obtain ⟨bs', σ2, l3, l4, h3, h4, rfl⟩ := run_bind_some h2
        obtain ⟨rfl, rfl, _⟩ := ret_run h4
        obtain ⟨W2, fp2, hd2, k1, k2, ⟨hd2', k3, k4⟩, k5, k6⟩ := ih g1 (t0.mv g2) hn h3
        have hnn := k1.hnd
        rw [k3, g3] at hnn
        have hlen : as.length = tvs.length := by rw [g6.len.1, ← g6.len.2]; exact hview.length.symm
        refine ⟨W2, fp1 ++ fp2, hd1 ++ hd2, k1, g2.trans k2, ⟨hd2' ++ hd1', by rw [k3, g3]; simp, ?_⟩, ?_, .lent (by rw [hlen]; exact hfit) (g6.mv k2) k6⟩
        · intro b; simp [g4 b, k4 b, or_comm]
        · rw [List.nodup_append]
          simp only [List.nodup_append, List.mem_append] at hnn
          refine ⟨g5, k5, fun b hb b2 hb2 he => ?_⟩
          subst he
          exact hnn.2.2 b ((k4 b).1 hb2) b (.inl ((g4 b).1 hb)) rfl

end Go.Vs

namespace Go.Vs

variable {C : Ctx} {σ : St} {a : Act} {w : World} {W : Wit} {P : Program} {cr : CallR} {Γ : Env}

/-- What a box holds, shared (as it lies there). -/
theorem sharesRaw_ok (h : SR C σ a w W) (β' : Nat → Option Nat) {tvs : List TV} : ∀ {vs : List Value} {f : List Nat}, Held C σ W w tvs vs f → (∀ b ∈ f, ShA C w b) → ∀ {bs : List AV} {σ' : St} {l : Log}, (shares tvs).run P cr σ = some (bs, σ', l) →
    σ' = σ ∧ Rep w β' (ShA C w) bs vs [] := by
  induction tvs with
  | nil =>
    intro vs f hv _ bs σ' l hr
    obtain ⟨rfl, rfl, _⟩ := ret_run (show (Pr.ret []).run P cr σ = _ from hr)
    have := hv.rep
    cases this
    exact ⟨rfl, .nil⟩
  | cons t ts ih =>
    intro vs f hv hf bs σ' l hr
    obtain ⟨b, σ1, l1, l2, h1, h2, rfl⟩ := run_bind_some (show (share t >>= fun a => shares ts >>= fun as => Pr.ret (a :: as)).run P cr σ = _ from hr)
    obtain ⟨bs', σ2, l3, l4, h3, h4, rfl⟩ := run_bind_some h2
    obtain ⟨rfl, rfl, _⟩ := ret_run h4
    obtain ⟨z, zs, f1, f2, rfl, rfl, k1, k2⟩ := Rep.uncons (show Rep w W.β (Sh C σ W w) (own t :: ts.map own) vs f from hv.rep)
    have hhead : σ1 = σ ∧ Rep w β' (ShA C w) [b] [z] [] := by
      cases t with
      | val b0 =>
        obtain ⟨hp, h5⟩ := chk_run (show (chk (!isPtr b0) (Pr.ret (shc b0))).run P cr σ = _ from h1)
        obtain ⟨rfl, rfl, _⟩ := ret_run h5
        have hp' : isPtr b0 = false := by simpa using hp
        have := (Rep.noβ (show Rep w W.β (Sh C σ1 W w) [b0] [z] f1 from k1) hp' β').shc (S' := ShA C w) (fun b hb => hb.toA) (fun b hb => hf b (by simp [hb]))
        exact ⟨rfl, by simpa [shcL] using this⟩
      | ref r c ver p =>
        obtain ⟨e1, -, e2⟩ := share_ok h (show TV1 C σ W w (.ref r c ver p) z from hv.refs 0 _ z rfl rfl) h1 β'
        exact ⟨e1, e2⟩
      | eref r c ver p sz i k => exact (fail_run (show (Pr.fail : Pr AV).run P cr σ = _ from h1)).elim
    obtain ⟨e1, e2⟩ := hhead
    subst e1
    obtain ⟨e3, e4⟩ := ih (vs := zs) (f := f2) ⟨k2, fun c t z ht hz => hv.refs (c + 1) t z (by simpa using ht) (by simpa using hz)⟩ (fun b hb => hf b (by simp [hb])) h3
    exact ⟨e3, e2.append e4⟩

theorem capCells_ok (h : SR C σ a w W) {caps : List AV} : ∀ {cvs : List Value}, Rep w W.β (Sh C σ W w) caps cvs [] → ∀ {cs : List AV} {σ' : St} {l : Log}, (capCells caps).run P cr σ = some (cs, σ', l) →
    σ' = σ ∧ Rep w (fun _ => none) (ShA C w) cs cvs [] := by
  induction caps with
  | nil =>
    intro cvs hrep cs σ' l hr
    obtain ⟨rfl, rfl, _⟩ := ret_run (show (Pr.ret []).run P cr σ = _ from hr)
    cases hrep
    exact ⟨rfl, .nil⟩
  | cons b caps ih =>
    intro cvs hrep cs σ' l hr
    obtain ⟨z, zs, f1, f2, rfl, hf, k1, k2⟩ := Rep.uncons hrep
    obtain ⟨rfl, rfl⟩ := List.append_eq_nil_iff.1 hf.symm
    have hplain : isPtr b = false → (capCells caps >>= fun r => Pr.ret (shc b :: r)).run P cr σ = some (cs, σ', l) → σ' = σ ∧ Rep w (fun _ => none) (ShA C w) cs (z :: zs) [] := by
      intro hp hrun
      obtain ⟨cs', σ1, l1, l2, h1, h2, rfl⟩ := run_bind_some hrun
      obtain ⟨rfl, rfl, _⟩ := ret_run h2
      obtain ⟨e1, e2⟩ := ih k2 h1
      have := (Rep.noβ k1 hp (fun _ => none)).shc (S' := ShA C w) (fun b hb => hb.toA) (by simp)
      exact ⟨e1, (show Rep w (fun _ => none) (ShA C w) [shc b] [z] [] by simpa [shcL] using this).append e2⟩
    cases b with
    | bp x off =>
      obtain ⟨l', h1, rfl⟩ := get_run (show (Pr.get (.bx x) _).run P cr σ = _ from hr)
      cases hg : σ.get (.bx x) with
      | mk v o => cases o with
        | none => rw [hg] at h1; exact (fail_run h1).elim
        | some q =>
          obtain ⟨s, tvs⟩ := q
          rw [hg] at h1
          obtain ⟨cs1, σ1, l1, l2, h2, h3, rfl⟩ := run_bind_some h1
          have hlv : live σ (.bx x) := ⟨v, s, tvs, hg⟩
          obtain ⟨e1, e2⟩ := sharesRaw_ok h (fun _ => none) (h.heldAll hg) (fun b hb => h.fpA hlv hb) h2
          subst e1
          obtain ⟨cs2, σ2, l3, l4, h4, h5, rfl⟩ := run_bind_some h3
          obtain ⟨rfl, rfl, _⟩ := ret_run h5
          obtain ⟨e3, e4⟩ := ih k2 h4
          cases k1 with
          | bp hb t =>
            rename_i g
            obtain ⟨g', T, hb', hheap⟩ := h.box x v s tvs hg
            rw [hb] at hb'; cases hb'
            have hsh : ShA C w g := ⟨.inr (.inl (h.brng x g hb)), (Array.getElem?_eq_some_iff.1 hheap).1⟩
            have := Rep.cp (w := w) (β := fun _ => none) (S := ShA C w) (g := g) (o := 0) (off := off) hsh ⟨_, _, _, hheap, by simp⟩ e2 e4
            rw [Nat.zero_add] at this
            exact ⟨e3, this⟩
    | clo f caps' =>
      obtain ⟨hp, _⟩ := chk_run (show (chk (!isPtr (.clo f caps')) _).run P cr σ = _ from hr)
      simp [isPtr] at hp
    | v x => exact hplain rfl (chk_run (show (chk _ _).run P cr σ = _ from hr)).2
    | sl o n s els => exact hplain rfl (chk_run (show (chk _ _).run P cr σ = _ from hr)).2
    | ep s els i c => exact hplain rfl (chk_run (show (chk _ _).run P cr σ = _ from hr)).2
    | cp cells off => exact hplain rfl (chk_run (show (chk _ _).run P cr σ = _ from hr)).2
    | own cells => exact hplain rfl (chk_run (show (chk _ _).run P cr σ = _ from hr)).2
    | any => exact hplain rfl (chk_run (show (chk _ _).run P cr σ = _ from hr)).2

theorem argAV0_ok (h : SR C σ a w W) {t : TV} {z : Value} (ht : TV1 C σ W w t z) {b : AV} {σ' : St} {l : Log} (hr : (argAV0 t).run P cr σ = some (b, σ', l)) :
    σ' = σ ∧ Rep w (fun _ => none) (ShA C w) [b] [z] [] ∧ (noRef [t] = true → Rep w (fun _ => none) (Sh C σ W w) [b] [z] []) := by
  have hval : ∀ b0, t = .val b0 → (share t).run P cr σ = some (b, σ', l) → σ' = σ ∧ Rep w (fun _ => none) (ShA C w) [b] [z] [] ∧ (noRef [t] = true → Rep w (fun _ => none) (Sh C σ W w) [b] [z] []) := by
    intro b0 he hrun
    subst he
    obtain ⟨e1, -, e2⟩ := share_ok h ht hrun (fun _ => none)
    obtain ⟨hp, h5⟩ := chk_run (show (chk (!isPtr b0) (Pr.ret (shc b0))).run P cr σ = _ from hrun)
    obtain ⟨rfl, rfl, _⟩ := ret_run h5
    have hp' : isPtr b0 = false := by simpa using hp
    refine ⟨rfl, e2, fun _ => ?_⟩
    have := (Rep.noβ ht hp' (fun _ => none)).shc (S' := Sh C σ' W w) (fun b hb => hb) (by simp)
    simpa [shcL] using this
  cases t with
  | val b0 =>
    cases b0 with
    | clo f caps =>
      obtain ⟨cs, σ1, l1, l2, h1, h2, rfl⟩ := run_bind_some (show (capCells caps >>= fun cs => Pr.ret (AV.clo f cs)).run P cr σ = _ from hr)
      obtain ⟨rfl, rfl, _⟩ := ret_run h2
      have ht' : Rep w W.β (Sh C σ W w) [.clo f caps] [z] [] := ht
      cases ht' with
      | clo hin t =>
        obtain ⟨e1, e2⟩ := capCells_ok h hin h1
        refine ⟨e1, .clo e2 .nil, fun hn => ?_⟩
        cases caps with
        | cons _ _ => simp [noRef] at hn
        | nil =>
          cases hin
          obtain ⟨rfl, rfl, _⟩ := ret_run (show (Pr.ret []).run P cr σ = _ from h1)
          exact .clo .nil .nil
    | _ => exact hval _ rfl hr
  | ref r c ver p =>
    obtain ⟨e1, -, e2⟩ := share_ok h ht (show (share (.ref r c ver p)).run P cr σ = _ from hr) (fun _ => none)
    exact ⟨e1, e2, fun hn => by simp [noRef] at hn⟩
  | eref r c ver p sz i k => exact (fail_run (show (Pr.fail : Pr AV).run P cr σ = _ from hr)).elim

theorem noRef_cons {t : TV} {l : List TV} (h : noRef (t :: l) = true) : noRef [t] = true ∧ noRef l = true := by
  cases t with
  | val b =>
    cases b with
    | clo f caps => cases caps <;> simp_all [noRef]
    | _ => simp_all [noRef]
  | _ => simp [noRef] at h

theorem Rep.unkA {S : Nat → Prop} {β : Nat → Option Nat} {b : AV} {z : Value} {f : List Nat} (h : Rep w β S [b] [z] f) : Rep w β S [unkA b] [z] f := by
  cases b with
  | sl o n s els =>
    cases n with
    | isnil => exact h
    | _ =>
      show Rep w β S [.sl o .unk s els] [z] f
      cases h with
      | nils hnf t => exact .nils (by simp) t
      | emp hnf hc t => exact .emp (by simp) hc t
      | shd hnf hg hrow hn hsz hpos hcap hmax hin t => exact .shd (by simp) hg hrow hn hsz hpos hcap hmax hin t
      | owd hnf hg hn hsz hpos hcap hmax hcur hin t => exact .owd (by simp) hg hn hsz hpos hcap hmax hcur hin t
  | _ => exact h

theorem argAV_ok (h : SR C σ a w W) {t : TV} {z : Value} (ht : TV1 C σ W w t z) {b : AV} {σ' : St} {l : Log} (hr : (argAV t).run P cr σ = some (b, σ', l)) :
    σ' = σ ∧ Rep w (fun _ => none) (ShA C w) [b] [z] [] ∧ (noRef [t] = true → Rep w (fun _ => none) (Sh C σ W w) [b] [z] []) := by
  obtain ⟨a0, σ1, l1, l2, h1, h2, rfl⟩ := run_bind_some (show (argAV0 t >>= fun a => Pr.ret (unkA a)).run P cr σ = _ from hr)
  obtain ⟨rfl, rfl, _⟩ := ret_run h2
  obtain ⟨e1, e2, e3⟩ := argAV0_ok h ht h1
  exact ⟨e1, e2.unkA, fun hn => (e3 hn).unkA⟩

theorem argAVs_ok (h : SR C σ a w W) {tvs : List TV} : ∀ {vs : List Value}, View C σ W w tvs vs → ∀ {bs : List AV} {σ' : St} {l : Log}, (argAVs tvs).run P cr σ = some (bs, σ', l) →
    σ' = σ ∧ Rep w (fun _ => none) (ShA C w) bs vs [] ∧ (noRef tvs = true → Rep w (fun _ => none) (Sh C σ W w) bs vs []) := by
  induction tvs with
  | nil =>
    intro vs hv bs σ' l hr
    cases vs with
    | cons _ _ => exact hv.elim
    | nil =>
      obtain ⟨rfl, rfl, _⟩ := ret_run (show (Pr.ret []).run P cr σ = _ from hr)
      exact ⟨rfl, .nil, fun _ => .nil⟩
  | cons t ts ih =>
    intro vs hv bs σ' l hr
    cases vs with
    | nil => exact hv.elim
    | cons z zs =>
      obtain ⟨b, σ1, l1, l2, h1, h2, rfl⟩ := run_bind_some (show (argAV t >>= fun a => argAVs ts >>= fun as => Pr.ret (a :: as)).run P cr σ = _ from hr)
      obtain ⟨e1, e2, e3⟩ := argAV_ok h hv.1 h1
      subst e1
      obtain ⟨bs', σ2, l3, l4, h3, h4, rfl⟩ := run_bind_some h2
      obtain ⟨e4, e5, e6⟩ := ih hv.2 h3
      subst e4
      obtain ⟨rfl, rfl, _⟩ := ret_run h4
      exact ⟨rfl, e2.append e5, fun hn => (e3 (noRef_cons hn).1).append (e6 (noRef_cons hn).2)⟩

theorem argsPr_ok (h : SR C σ a w W) {io : List Nat} {args : List Operand} : ∀ {i : Nat} {xs : List Ar} {σ' : St} {l : Log}, (argsPr io i args).run P cr σ = some (xs, σ', l) →
    σ' = σ ∧ ArsOk C σ W w xs (args.map a.eval) := by
  induction args with
  | nil =>
    intro i xs σ' l hr
    obtain ⟨rfl, rfl, _⟩ := ret_run (show (Pr.ret []).run P cr σ = _ from hr)
    exact ⟨rfl, .nil⟩
  | cons x args ih =>
    intro i xs σ' l hr
    obtain ⟨⟨s, tvs⟩, σ1, l1, l2, h1, h2, rfl⟩ := run_bind_some (show (rdOp x >>= _).run P cr σ = _ from hr)
    obtain ⟨e1, vs, hx, hv, hs⟩ := rdOp_ok h h1
    subst e1
    simp only at h2
    split at h2
    · obtain ⟨r, σ2, l3, l4, h3, h4, rfl⟩ := run_bind_some h2
      obtain ⟨e2, e3⟩ := ih h3
      subst e2
      obtain ⟨rfl, rfl, _⟩ := ret_run h4
      exact ⟨rfl, .cons ⟨vs, hx, hv, hs, fun cells hc => by cases hc⟩ e3⟩
    · obtain ⟨as, σ2, l3, l4, h3, h4, rfl⟩ := run_bind_some h2
      obtain ⟨e2, e3, e4⟩ := argAVs_ok h hv h3
      subst e2
      obtain ⟨r, σ3, l5, l6, h5, h6, rfl⟩ := run_bind_some h4
      obtain ⟨e5, e6⟩ := ih h5
      subst e5
      obtain ⟨rfl, rfl, _⟩ := ret_run h6
      exact ⟨rfl, .cons ⟨vs, hx, hv, hs, fun cells hc => by cases hc; exact ⟨e3, e4⟩⟩ e6⟩

/-- After the callee: what it left is in hand. -/
theorem SR.afterCall (h : SR C σ a w W) {fp fpr fp' : List Nat} {w' : World} (hfp : ∀ b ∈ fp, b ∈ W.hand) (hk : Keeps w w' fp) (hn : (fpr ++ fp').Nodup) (hb : ∀ b ∈ fpr ++ fp', (b ∈ fp ∨ w.heap.size ≤ b) ∧ b < w'.heap.size) :
    ∃ hand' : List Nat, (∀ b, b ∈ hand' ↔ b ∈ fpr ++ fp' ∨ (b ∈ W.hand ∧ b ∉ fp)) ∧ SR C σ a w' { W with hand := hand' } ∧
      (∀ b, Sh C σ W w b → Sh C σ { W with hand := hand' } w' b ∧ w'.heap[b]? = w.heap[b]?) ∧
      (∀ b, (Sh C σ W w b ∨ b ∈ fp ∨ w.heap.size ≤ b) ∧ b < w'.heap.size ∧ b ∉ fpr ++ fp' → Sh C σ { W with hand := hand' } w' b) := by
  have hmem : ∀ b, b ∈ (fpr ++ fp') ++ W.hand.filter (fun b => !fp.contains b) ↔ b ∈ fpr ++ fp' ∨ (b ∈ W.hand ∧ b ∉ fp) := by
    intro b
    rw [List.mem_append, List.mem_filter]
    simp
  have hnd : ((fpr ++ fp') ++ W.hand.filter (fun b => !fp.contains b)).Nodup := by
    rw [List.nodup_append]
    refine ⟨hn, h.hnd.filter _, fun b hb1 b2 hb2 he => ?_⟩
    subst he
    rw [List.mem_filter] at hb2
    obtain ⟨h1, h2⟩ := hb2
    rcases (hb b hb1).1 with h3 | h3
    · simp [h3] at h2
    · have := (h.hrng b h1).2; omega
  obtain ⟨k1, k2, k3⟩ := h.world (w' := w') (hand' := (fpr ++ fp') ++ W.hand.filter (fun b => !fp.contains b)) ⟨hk.os, hk.tape, hk.output, hk.size, fun b hb hb2 => hk.block b hb fun hf => hb2 (hfp b hf)⟩ hnd (by
    intro b hb1
    rcases (hmem b).1 hb1 with h1 | h1
    · exact ⟨(hb b h1).1.imp (hfp b) id, (hb b h1).2⟩
    · exact ⟨.inl h1.1, Nat.lt_of_lt_of_le (h.hrng b h1.1).2 hk.size⟩)
  refine ⟨_, hmem, k1, k2, ?_⟩
  rintro b ⟨h1 | h1 | h1, h2, h3⟩
  · exact (k2 b h1).1
  · refine ⟨.inr (h.hrng b (hfp b h1)).1, h2, ?_⟩
    rintro (⟨r, hr, hbr⟩ | ⟨x, hx⟩ | hbh)
    · exact (h.hdis b (hfp b h1)).1 r hr hbr
    · exact (h.hdis b (hfp b h1)).2 x hx
    · rcases (hmem b).1 hbh with h4 | h4
      · exact h3 h4
      · exact h4.2 h1
  · refine ⟨.inr (.inl (Nat.le_trans h.keep.size h1)), h2, ?_⟩
    rintro (⟨r, hr, hbr⟩ | ⟨x, hx⟩ | hbh)
    · have := Wr.lt h (.inl ⟨r, hr, hbr⟩); omega
    · have := Wr.lt h (.inr (.inl ⟨x, hx⟩)); omega
    · rcases (hmem b).1 hbh with h4 | h4
      · exact h3 h4
      · have := (h.hrng b h4.1).2; omega

end Go.Vs

namespace Go.Vs

variable {C : Ctx} {σ : St} {a : Act} {w w' : World} {W : Wit} {P : Program} {cr : CallR} {Γ : Env}

/-- The lent cells are filled again. -/
theorem backCells_ok {S0 : Nat → Prop} {β : Nat → Option Nat} {cv : Rs → List Value} {fpAll fpr : List Nat} (hk : Keeps w w' fpAll) {cells : List AV} {ls : List (Option Lend)} {vs : List Value} {fp hd : List Nat}
    (hl : LendOk P cr w β S0 cv cells ls vs fp hd) : ∀ (σ : St) (W : Wit) (as : List AV) (fpo rest : List Nat), SR C σ a w' W → W.β = β → W.cv = cv → (∀ b, S0 b → Sh C σ W w' b ∧ w'.heap[b]? = w.heap[b]?) →
    Rep w' (fun _ => none) (Sh C σ W w') as vs fpo → hd.Nodup → (fpr ++ (fpo ++ rest)).Nodup → (∀ b ∈ fpr ++ (fpo ++ rest), b ∈ fpAll ∨ w.heap.size ≤ b) → (∀ b ∈ fpAll, b ∈ hd → b ∈ fp) →
    (∀ b, b ∈ fpr ++ (fpo ++ rest) ∨ (b ∈ hd ∧ b ∉ fp) → b ∈ W.hand) →
    ∀ (σ' : St) (l : Log) (u : Unit), (backCells ls as).run P cr σ = some (u, σ', l) →
    ∃ W', SR C σ' a w' W' ∧ Mv C w' σ W σ' W' ∧ (∀ b ∈ W'.hand, b ∈ W.hand) ∧ (∀ b ∈ W.hand, b ∉ fpo → (b ∉ hd ∨ b ∈ fp) → b ∈ W'.hand) := by
  induction hl with
  | nil =>
    intro σ W as fpo rest h hβ hcv hS hrep hnd hn hb hall hh σ' l u hr
    cases hrep
    obtain ⟨_, rfl, _⟩ := ret_run (show (Pr.ret ()).run P cr σ = _ from hr)
    exact ⟨W, h, .refl _ _ _ _, fun _ h => h, fun _ h _ _ => h⟩
  | val hx t ih =>
    intro σ W as fpo rest h hβ hcv hS hrep hnd hn hb hall hh σ' l u hr
    cases as with
    | nil => have := hrep.length; simp at this
    | cons b as =>
      obtain ⟨z', us, f1, f2, he, rfl, h1, h2⟩ := Rep.uncons hrep
      obtain ⟨rfl, rfl⟩ := List.cons.inj he
      have hre : f1 ++ f2 ++ rest = f1 ++ (f2 ++ rest) := by simp
      have hperm : ∀ b, b ∈ fpr ++ (f2 ++ rest) → b ∈ fpr ++ (f1 ++ f2 ++ rest) := by
        intro b hb; simp only [List.mem_append] at hb ⊢
        rcases hb with h | h | h
        · exact .inl h
        · exact .inr (.inl (.inr h))
        · exact .inr (.inr h)
      have hn' : (fpr ++ (f2 ++ rest)).Nodup := by
        rw [hre] at hn
        rw [List.nodup_append] at hn ⊢
        obtain ⟨n1, n2, n3⟩ := hn
        rw [List.nodup_append] at n2
        exact ⟨n1, n2.2.1, fun b hb b2 hb2 => n3 b hb b2 (by simp only [List.mem_append] at hb2 ⊢; exact .inr hb2)⟩
      obtain ⟨W', k1, k2, k3, k4⟩ := ih σ W as f2 rest h hβ hcv hS h2 hnd hn' (fun b hb' => hb b (hperm b hb')) hall (fun b hb' => hh b (hb'.imp (hperm b) id)) _ _ _ (show (backCells _ as).run P cr σ = some (u, σ', l) from hr)
      exact ⟨W', k1, k2, k3, fun b hb1 hb2 hb3 => k4 b hb1 (fun h => hb2 (by simp [h])) hb3⟩
  | ref hx t ih =>
    rename_i leaf z b fl fc cells ls vs fp hd
    intro σ W as fpo rest h hβ hcv hS hrep hnd hn hb hall hh σ' l u hr
    cases as with
    | nil => have := hrep.length; simp at this
    | cons x as =>
      obtain ⟨z', us, fn, f2, he, rfl, h1, h2⟩ := Rep.uncons hrep
      obtain ⟨rfl, rfl⟩ := List.cons.inj he
      obtain ⟨hsl, hr1⟩ := chk_run (show (chk (isLd x) _).run P cr σ = _ from hr)
      obtain ⟨l1, hr2, rfl⟩ := get_run hr1
      cases hg : σ.get b.r with
      | mk v o => cases o with
        | none => rw [hg] at hr2; exact (fail_run hr2).elim
        | some q =>
          obtain ⟨s, tvs⟩ := q
          rw [hg] at hr2
          simp only at hr2
          split at hr2
          · rename_i hany
            obtain ⟨l2, hr3, rfl⟩ := put_run hr2
            obtain ⟨a0, u0, p, c1, c2, c3, c4, c5, c6, c7, c8⟩ := hx
            rw [List.nodup_append] at hnd
            obtain ⟨hnfc, hnhd, hdj⟩ := hnd
            have hptr : isPtr x = false := by cases x <;> simp_all [isLd, isPtr]
            -- which blocks of the whole may have turned
            have hA : ∀ y ∈ fpAll, y ∈ fc → y ∈ fl := by
              intro y hy hyc
              rcases List.mem_append.1 (hall y hy (by simp [hyc])) with h5 | h5
              · exact h5
              · exact absurd rfl (hdj y hyc y (t.sub y h5))
            have hfcl : ∀ y ∈ fc, y < w.heap.size := c2.fp_lt
            have hnew : ∀ y ∈ fpr ++ (fn ++ f2 ++ rest), y ∈ fc → y ∈ fl := by
              intro y hy hyc
              rcases hb y hy with h5 | h5
              · exact hA y h5 hyc
              · have := hfcl y hyc; omega
            have hnfn : fn.Nodup := by
              simp only [List.nodup_append] at hn
              exact hn.2.1.1.1
            obtain ⟨-, -, f', m1, m2, m3⟩ := navLift (P := P) (cr := cr) (σ := σ) (w := w) (w' := w') (S := S0) (S' := Sh C σ W w') (M := fun y => y ∈ fl) (N := fun y => (y ∈ fc ∧ y ∉ fl) ∨ y ∈ fn) (fa := fn.filter fun y => !fl.contains y) (al0 := leaf) (x := z) (f := fun _ => .ret x) hS p
              (c4 σ x) c2 c3 c7 (by
                intro y hy hyc
                rw [List.mem_filter] at hy
                have := hnew y (by simp [hy.1]) hyc
                simp [this] at hy) (by
                intro y hy hyl
                exact ⟨.inl ⟨hy, hyl⟩, hk.block y (hfcl y hy) fun hf => hyl (hA y hf hy)⟩) (fun {β'' fl'' σ7 l14 al''} hrun hrl hnl hsl => by
                obtain ⟨rfl, rfl, _⟩ := ret_run hrun
                have he := hrl.fp_unique c5
                subst he
                refine ⟨rfl, fun _ h => h, fn, h1.noβ hptr _, hnfn, fun y hy => ⟨?_, .inr hy⟩⟩
                by_cases hyl : y ∈ fl''
                · exact .inl hyl
                · exact .inr (by rw [List.mem_filter]; simp [hy, hyl]))
            have hf'h : ∀ y ∈ f', y ∈ W.hand := by
              intro y hy
              rcases (m3 y hy).2 with h5 | h5
              · refine hh y (.inr ⟨by simp [h5.1], fun hf => ?_⟩)
                rcases List.mem_append.1 hf with h6 | h6
                · exact h5.2 h6
                · exact absurd rfl (hdj y h5.1 y (t.sub y h6))
              · exact hh y (.inl (by simp [h5]))
            have hcl : b.c < tvs.length := (List.getElem?_eq_some_iff.1 hany).1
            rw [← hβ] at m1
            obtain ⟨WB, x1, x2, x3⟩ := h.giveCell (c := b.c) (u := u0) (b := b.rb x) (f := f') (hand' := W.hand.filter fun y => !f'.contains y) hg hany (by rw [hcv]; exact c1) m1 hf'h m2 (fun y hy => (List.mem_filter.1 hy).1) (h.hnd.filter _) (by
              intro y hy hy2
              rw [List.mem_filter] at hy2
              simp [hy] at hy2)
            have hdis : ∀ y, y ∈ fpr ++ (f2 ++ rest) → y ∉ f' := by
              intro y hy hyf
              have hy' : y ∈ fpr ++ (fn ++ f2 ++ rest) := by
                simp only [List.mem_append] at hy ⊢
                rcases hy with h | h | h
                · exact .inl h
                · exact .inr (.inl (.inr h))
                · exact .inr (.inr h)
              rcases (m3 y hyf).2 with h5 | h5
              · exact h5.2 (hnew y hy' h5.1)
              · simp only [List.nodup_append, List.mem_append] at hn hy
                rcases hy with h6 | h6 | h6
                · exact hn.2.2 y h6 y (.inl (.inl h5)) rfl
                · exact hn.2.1.1.2.2 y h5 y h6 rfl
                · exact hn.2.1.2.2 y (.inl h5) y h6 rfl
            have hperm : ∀ y, y ∈ fpr ++ (f2 ++ rest) → y ∈ fpr ++ (fn ++ f2 ++ rest) := by
              intro y hy
              simp only [List.mem_append] at hy ⊢
              rcases hy with h | h | h
              · exact .inl h
              · exact .inr (.inl (.inr h))
              · exact .inr (.inr h)
            have hn' : (fpr ++ (f2 ++ rest)).Nodup := by
              have hre : fn ++ f2 ++ rest = fn ++ (f2 ++ rest) := by simp
              rw [hre] at hn
              rw [List.nodup_append] at hn ⊢
              obtain ⟨n1, n2, n3⟩ := hn
              rw [List.nodup_append] at n2
              exact ⟨n1, n2.2.1, fun b hb b2 hb2 => n3 b hb b2 (by simp only [List.mem_append] at hb2 ⊢; exact .inr hb2)⟩
            have hdisr : ∀ y, y ∈ hd → y ∉ fp → y ∉ f' := by
              intro y hy hyp hyf
              rcases (m3 y hyf).2 with h5 | h5
              · exact absurd rfl (hdj y h5.1 y hy)
              · rcases hb y (by simp [h5]) with h6 | h6
                · rcases List.mem_append.1 (hall y h6 (by simp [hy])) with h7 | h7
                  · exact absurd rfl (hdj y (c6 y h7) y hy)
                  · exact hyp h7
                · have := h.keep
                  have h8 : y < w.heap.size := hd_lt t y hy
                  omega
            obtain ⟨W', k1, k2, k3, k4⟩ := ih (σ.put b.r (cUp v, some (s, tvs.set b.c (.val (b.rb x))))) WB as f2 rest x1 (x2.β.trans hβ) (x2.cv.trans hcv) (fun y hy => ⟨x2.sh y (hS y hy).1, (hS y hy).2⟩)
              (h2.mono (fun y hy => ⟨x2.sh y hy, rfl⟩) (fun _ _ => rfl) (fun _ _ h => h)) hnhd hn' (fun y hy => hb y (hperm y hy)) (by
                intro y hy hyd
                rcases List.mem_append.1 (hall y hy (by simp [hyd])) with h7 | h7
                · exact absurd rfl (hdj y (c6 y h7) y hyd)
                · exact h7) (by
                intro y hy
                rw [x3, List.mem_filter]
                rcases hy with hy | ⟨hy1, hy2⟩
                · exact ⟨hh y (.inl (hperm y hy)), by simp [hdis y hy]⟩
                · refine ⟨hh y (.inr ⟨by simp [hy1], fun hf => ?_⟩), by simp [hdisr y hy1 hy2]⟩
                  rcases List.mem_append.1 hf with h6 | h6
                  · exact absurd rfl (hdj y (c6 y h6) y hy1)
                  · exact hy2 h6) _ _ _ hr3
            refine ⟨W', k1, x2.trans k2, fun y hy => ?_, fun y hy1 hy2 hy3 => ?_⟩
            · have := k3 y hy
              rw [x3, List.mem_filter] at this
              exact this.1
            · refine k4 y ?_ (fun h6 => hy2 (by simp [h6])) ?_
              · rw [x3, List.mem_filter]
                refine ⟨hy1, ?_⟩
                have : y ∉ f' := by
                  intro h6
                  rcases (m3 y h6).2 with h5 | h5
                  · rcases hy3 with h7 | h7
                    · exact h7 (by simp [h5.1])
                    · rcases List.mem_append.1 h7 with h8 | h8
                      · exact h5.2 h8
                      · exact absurd rfl (hdj y h5.1 y (t.sub y h8))
                  · exact hy2 (by simp [h5])
                simp [this]
              · rcases hy3 with h7 | h7
                · exact .inl fun h8 => h7 (by simp [h8])
                · rcases List.mem_append.1 h7 with h8 | h8
                  · exact .inl fun h9 => absurd rfl (hdj y (c6 y h8) y h9)
                  · exact .inr h8
          · exact (fail_run hr2).elim
where
  hd_lt {β : Nat → Option Nat} {S : Nat → Prop} {cv : Rs → List Value} {as : List AV} {ls : List (Option Lend)} {vs : List Value} {fp hd : List Nat} (h : LendOk P cr w β S cv as ls vs fp hd) : ∀ b ∈ hd, b < w.heap.size := by
    induction h with
    | nil => simp
    | val h t ih => exact ih
    | ref h t ih =>
      obtain ⟨a0, u, p, h1, h2, h3, h4, h5, h6, h7, h8⟩ := h
      intro b hb
      rcases List.mem_append.1 hb with hb | hb
      · exact h2.fp_lt b hb
      · exact ih b hb

end Go.Vs

namespace Go.Vs

variable {C : Ctx} {σ : St} {a : Act} {w w' : World} {W : Wit} {P : Program} {cr : CallR} {Γ : Env}

theorem Reps.mono {S S' : Nat → Prop} {args : List Arg} {vals : List Value} {fp : List Nat} (h : Reps w S args vals fp) (hS : ∀ b, S b → S' b) : Reps w S' args vals fp := by
  induction h with
  | nil => exact .nil
  | cons h t ih => exact .cons (h.mono (fun b hb => ⟨hS b hb, rfl⟩) (fun _ _ => rfl) (fun _ _ h => h)) ih

theorem shVal_inj {s s' : Shape} {vs us : List Value} (he : shEq s s' = true) (hs : shapeFit s vs.length) (hl : us.length = vs.length) (h : shVal s vs = shVal s' us) : vs = us := by
  cases s <;> cases s' <;> simp [shEq] at he
  · have h1 : vs.length = 1 := hs
    obtain ⟨x, rfl⟩ := one_of_len h1
    obtain ⟨y, rfl⟩ := one_of_len (hl.trans h1)
    simpa [shVal] using h
  · simpa [shVal] using h

theorem backs_ok {S0 : Nat → Prop} {β : Nat → Option Nat} {cv : Rs → List Value} {fpAll fpr : List Nat} (hk : Keeps w w' fpAll) {bs : List Lent} {vals : List Value} {fp hd : List Nat}
    (hl : LendsOk P cr w β S0 cv bs vals fp hd) : ∀ (σ : St) (W : Wit) (outs : List Arg) (fpo rest : List Nat), SR C σ a w' W → W.β = β → W.cv = cv → (∀ b, S0 b → Sh C σ W w' b ∧ w'.heap[b]? = w.heap[b]?) →
    Reps w' (Sh C σ W w') outs vals fpo → hd.Nodup → (fpr ++ (fpo ++ rest)).Nodup → (∀ b ∈ fpr ++ (fpo ++ rest), b ∈ fpAll ∨ w.heap.size ≤ b) → (∀ b ∈ fpAll, b ∈ hd → b ∈ fp) →
    (∀ b, b ∈ fpr ++ (fpo ++ rest) ∨ (b ∈ hd ∧ b ∉ fp) → b ∈ W.hand) →
    ∀ (σ' : St) (l : Log) (u : Unit), (backs bs outs).run P cr σ = some (u, σ', l) →
    ∃ W', SR C σ' a w' W' ∧ Mv C w' σ W σ' W' ∧ (∀ b ∈ W'.hand, b ∈ W.hand) ∧ (∀ b ∈ W.hand, b ∉ fpo → (b ∉ hd ∨ b ∈ fp) → b ∈ W'.hand) := by
  induction hl with
  | nil =>
    intro σ W outs fpo rest h hβ hcv hS hrep hnd hn hb hall hh σ' l u hr
    cases hrep
    obtain ⟨_, rfl, _⟩ := ret_run (show (Pr.ret ()).run P cr σ = _ from hr)
    exact ⟨W, h, .refl _ _ _ _, fun _ h => h, fun _ h _ _ => h⟩
  | sh hx t ih =>
    rename_i s as0 vs bs vals fp hd
    intro σ W outs fpo rest h hβ hcv hS hrep hnd hn hb hall hh σ' l u hr
    generalize hvv : shVal s vs :: vals = vv at hrep
    cases hrep with
    | nil => simp at hvv
    | cons h1 h2 =>
      rename_i s' as us f1 args vals' f2
      obtain ⟨-, rfl⟩ := List.cons.inj hvv
      have hperm : ∀ b, b ∈ fpr ++ (f2 ++ rest) → b ∈ fpr ++ (f1 ++ f2 ++ rest) := by
        intro b hb; simp only [List.mem_append] at hb ⊢
        rcases hb with h | h | h
        · exact .inl h
        · exact .inr (.inl (.inr h))
        · exact .inr (.inr h)
      have hn' : (fpr ++ (f2 ++ rest)).Nodup := by
        rw [show f1 ++ f2 ++ rest = f1 ++ (f2 ++ rest) by simp] at hn
        rw [List.nodup_append] at hn ⊢
        obtain ⟨n1, n2, n3⟩ := hn
        rw [List.nodup_append] at n2
        exact ⟨n1, n2.2.1, fun b hb b2 hb2 => n3 b hb b2 (by simp only [List.mem_append] at hb2 ⊢; exact .inr hb2)⟩
      obtain ⟨W', k1, k2, k3, k4⟩ := ih σ W args f2 rest h hβ hcv hS h2 hnd hn' (fun b hb' => hb b (hperm b hb')) hall (fun b hb' => hh b (hb'.imp (hperm b) id)) _ _ _ (show (backs _ args).run P cr σ = some (u, σ', l) from hr)
      exact ⟨W', k1, k2, k3, fun b hb1 hb2 hb3 => k4 b hb1 (fun h => hb2 (by simp [h])) hb3⟩
  | lent hs hx t ih =>
    rename_i s as0 ls vs fp1 hd1 bs vals fp hd
    intro σ W outs fpo rest h hβ hcv hS hrep hnd hn hb hall hh σ' l u hr
    generalize hvv : shVal s vs :: vals = vv at hrep
    cases hrep with
    | nil => simp at hvv
    | cons h1 h2 =>
      rename_i s' as us f1 args vals' f2
      obtain ⟨hv1, rfl⟩ := List.cons.inj hvv
      obtain ⟨hck, hr1⟩ := chk_run (show (chk (shEq s s' && Nat.beq as.length ls.length) (backCells ls as >>= fun _ => backs bs args)).run P cr σ = _ from hr)
      simp only [Bool.and_eq_true] at hck
      have hal : as.length = ls.length := by simpa using hck.2
      have hus : vs = us := by
        refine shVal_inj hck.1 ?_ ?_ hv1
        · rw [hx.len.2, ← hx.len.1]; exact hs
        · rw [← h1.length, hal, hx.len.2]
      subst hus
      obtain ⟨u1, σ1, l1, l2, hr2, hr3, rfl⟩ := run_bind_some hr1
      rw [List.nodup_append] at hnd
      obtain ⟨hnd1, hnd2, hdj⟩ := hnd
      have hre : f1 ++ f2 ++ rest = f1 ++ (f2 ++ rest) := by simp
      obtain ⟨W1, k1, k2, k3, k4⟩ := backCells_ok (cr := cr) hk hx σ W as f1 (f2 ++ rest) h hβ hcv hS h1 hnd1 (by rw [← hre]; exact hn) (by rw [← hre]; exact hb) (by
        intro y hy hyd
        rcases List.mem_append.1 (hall y hy (by simp [hyd])) with h7 | h7
        · exact h7
        · exact absurd rfl (hdj y hyd y (t.sub y h7))) (by
        intro y hy
        rw [← hre] at hy
        rcases hy with hy | ⟨hy1, hy2⟩
        · exact hh y (.inl hy)
        · refine hh y (.inr ⟨by simp [hy1], fun hf => ?_⟩)
          rcases List.mem_append.1 hf with h6 | h6
          · exact hy2 h6
          · exact absurd rfl (hdj y hy1 y (t.sub y h6))) _ _ _ hr2
      have hperm : ∀ b, b ∈ fpr ++ (f2 ++ rest) → b ∈ fpr ++ (f1 ++ f2 ++ rest) := by
        intro b hb; simp only [List.mem_append] at hb ⊢
        rcases hb with h | h | h
        · exact .inl h
        · exact .inr (.inl (.inr h))
        · exact .inr (.inr h)
      have hd1lt := backCells_ok.hd_lt hx
      have hdlt : ∀ y ∈ hd, y < w.heap.size := LendsOk.lt t
      -- what is still to come stays in hand
      have hstay : ∀ y, y ∈ fpr ++ (f2 ++ rest) → y ∉ f1 := by
        intro y hy hyf
        rw [hre] at hn
        simp only [List.nodup_append, List.mem_append] at hn hy
        rcases hy with h6 | h6 | h6
        · exact hn.2.2 y h6 y (.inl hyf) rfl
        · exact hn.2.1.2.2 y hyf y (.inl h6) rfl
        · exact hn.2.1.2.2 y hyf y (.inr h6) rfl
      have hn' : (fpr ++ (f2 ++ rest)).Nodup := by
        rw [hre] at hn
        rw [List.nodup_append] at hn ⊢
        obtain ⟨n1, n2, n3⟩ := hn
        rw [List.nodup_append] at n2
        exact ⟨n1, n2.2.1, fun b hb b2 hb2 => n3 b hb b2 (by simp only [List.mem_append] at hb2 ⊢; exact .inr hb2)⟩
      have hstay2 : ∀ y, y ∈ fpr ++ (f2 ++ rest) → y ∉ hd1 ∨ y ∈ fp1 := by
        intro y hy
        by_cases hyd : y ∈ hd1
        · right
          rcases hb y (hperm y hy) with h6 | h6
          · rcases List.mem_append.1 (hall y h6 (by simp [hyd])) with h7 | h7
            · exact h7
            · exact absurd rfl (hdj y hyd y (t.sub y h7))
          · have := hd1lt y hyd; omega
        · exact .inl hyd
      obtain ⟨W2, q1, q2, q3, q4⟩ := ih σ1 W1 args f2 rest k1 (k2.β.trans hβ) (k2.cv.trans hcv) (fun y hy => ⟨k2.sh y (hS y hy).1, (hS y hy).2⟩) (h2.mono k2.sh) hnd2 hn' (fun y hy => hb y (hperm y hy)) (by
        intro y hy hyd
        rcases List.mem_append.1 (hall y hy (by simp [hyd])) with h7 | h7
        · exact absurd rfl (hdj y (hx.sub y h7) y hyd)
        · exact h7) (by
        intro y hy
        rcases hy with hy | ⟨hy1, hy2⟩
        · exact k4 y (hh y (.inl (hperm y hy))) (hstay y hy) (hstay2 y hy)
        · have hyw : y ∈ W.hand := by
            refine hh y (.inr ⟨by simp [hy1], fun hf => ?_⟩)
            rcases List.mem_append.1 hf with h6 | h6
            · exact absurd rfl (hdj y (hx.sub y h6) y hy1)
            · exact hy2 h6
          refine k4 y hyw (fun hf => ?_) (.inl fun h9 => absurd rfl (hdj y h9 y hy1))
          rcases hb y (by simp [hf]) with h6 | h6
          · rcases List.mem_append.1 (hall y h6 (by simp [hy1])) with h7 | h7
            · exact absurd rfl (hdj y (hx.sub y h7) y hy1)
            · exact hy2 h7
          · have := hdlt y hy1; omega) _ _ _ hr3
      refine ⟨W2, q1, k2.trans q2, fun y hy => k3 y (q3 y hy), fun y hy1 hy2 hy3 => q4 y (k4 y hy1 (fun h6 => hy2 (by simp [h6])) ?_) (fun h6 => hy2 (by simp [h6])) ?_⟩
      · rcases hy3 with h7 | h7
        · exact .inl fun h8 => h7 (by simp [h8])
        · rcases List.mem_append.1 h7 with h8 | h8
          · exact .inr h8
          · exact .inl fun h9 => absurd rfl (hdj y h9 y (t.sub y h8))
      · rcases hy3 with h7 | h7
        · exact .inl fun h8 => h7 (by simp [h8])
        · rcases List.mem_append.1 h7 with h8 | h8
          · exact .inl fun h9 => absurd rfl (hdj y (hx.sub y h8) y h9)
          · exact .inr h8
where
  LendsOk.lt {β : Nat → Option Nat} {S : Nat → Prop} {cv : Rs → List Value} {bs : List Lent} {vals : List Value} {fp hd : List Nat} (h : LendsOk P cr w β S cv bs vals fp hd) : ∀ b ∈ hd, b < w.heap.size := by
    induction h with
    | nil => simp
    | sh h t ih => exact ih
    | lent hs h t ih =>
      intro b hb
      rcases List.mem_append.1 hb with hb | hb
      · exact backCells_ok.hd_lt h b hb
      · exact ih b hb

/-! ### The call -/

theorem ArsOk.shared {xs : List Ar} : ∀ {vals : List Value} {args : List Arg}, ArsOk C σ W w xs vals → allShared xs = some args → Reps w (ShA C w) args vals [] := by
  induction xs with
  | nil =>
    intro vals args h ha
    cases h
    simp only [allShared, Option.some.injEq] at ha
    subst ha
    exact .nil
  | cons x xs ih =>
    intro vals args h ha
    cases h with
    | cons h t =>
      obtain ⟨s, tvs, sh⟩ := x
      cases sh with
      | none => simp [allShared] at ha
      | some cells =>
        simp only [allShared] at ha
        split at ha
        · rename_i r hr
          simp only [Option.some.injEq] at ha
          subst ha
          obtain ⟨vs, rfl, -, -, h4⟩ := h
          exact Reps.cons (fp := []) (h4 cells rfl).1 (ih t hr)
        · cases ha

theorem Reps.append {S : Nat → Prop} {as bs : List Arg} {vs us : List Value} (h : Reps w S as vs []) (k : Reps w S bs us []) : Reps w S (as ++ bs) (vs ++ us) [] := by
  generalize hf : ([] : List Nat) = f at h
  induction h with
  | nil => exact k
  | cons h t ih =>
    obtain ⟨rfl, rfl⟩ := List.append_eq_nil_iff.1 hf.symm
    exact Reps.cons (fp := []) h (ih rfl)

theorem Reps.caps {S : Nat → Prop} : ∀ {cs : List AV} {cvs : List Value}, Rep w (fun _ => none) S cs cvs [] → Reps w S (capArgs cs) cvs []
  | [], cvs, h => by cases h; exact .nil
  | c :: cs, cvs, h => by
    obtain ⟨v, us, f1, f2, rfl, hf, h1, h2⟩ := Rep.uncons h
    obtain ⟨rfl, rfl⟩ := List.append_eq_nil_iff.1 hf.symm
    exact Reps.cons (s := .one) (fp := []) h1 (Reps.caps h2)

mutual
theorem dOwn_rep {S S' : Nat → Prop} {β : Nat → Option Nat} : ∀ (x : AV) {v : Value} {f : List Nat}, dOwn x → Rep w β S [x] [v] f → Rep w β S' [x] [v] f
  | .v y, v, f, _, h => by cases h with | v h t => cases t; exact .v h .nil
  | .any, v, f, _, h => by cases h with | any h t => cases t; exact .any h .nil
  | .sl o n s els, v, f, hd, h => by
    cases h with
    | nils hnf t => cases t; exact .nils hnf .nil
    | emp hnf hc t => cases t; exact .emp hnf hc .nil
    | shd hnf hg hrow hn hsz hpos hcap hmax hin t =>
      cases t
      rcases hd.1 with h1 | h1
      · cases h1
      · subst h1
        simp only [List.length_nil] at hn
        subst hn
        exact .emp hnf hmax .nil
    | owd hnf hg hn hsz hpos hcap hmax hcur hin t =>
      cases t
      exact .owd hnf hg hn hsz hpos hcap hmax hcur (dOwnLL_rep els hd.2 hin) .nil
  | .bp b o, v, f, hd, h => hd.elim
  | .ep s els i c, v, f, hd, h => hd.elim
  | .cp cs o, v, f, hd, h => hd.elim
  | .clo g caps, v, f, hd, h => hd.elim
theorem dOwnL_rep {S S' : Nat → Prop} {β : Nat → Option Nat} : ∀ (as : List AV) {vs : List Value} {f : List Nat}, dOwnL as → Rep w β S as vs f → Rep w β S' as vs f
  | [], vs, f, _, h => by cases h; exact .nil
  | x :: as, vs, f, hd, h => by
    obtain ⟨v, us, f1, f2, rfl, rfl, h1, h2⟩ := Rep.uncons h
    exact Rep.cons (dOwn_rep x hd.1 h1) (dOwnL_rep as hd.2 h2)
theorem dOwnLL_rep {S S' : Nat → Prop} {β : Nat → Option Nat} : ∀ (els : List (List AV)) {vs : List Value} {f : List Nat}, dOwnLL els → Rep w β S els.flatten vs f → Rep w β S' els.flatten vs f
  | [], vs, f, _, h => by cases h; exact .nil
  | el :: els, vs, f, hd, h => by
    simp only [List.flatten_cons] at h ⊢
    obtain ⟨v1, v2, f1, f2, rfl, rfl, h1, h2⟩ := h.split
    exact (dOwnL_rep el hd.1 h1).append (dOwnLL_rep els hd.2 h2)
end

end Go.Vs

namespace Go.Vs

variable {C : Ctx} {σ : St} {a : Act} {w w' : World} {W : Wit} {P : Program} {cr : CallR} {Γ : Env}
variable [HT : TabFact C P]

theorem call_run {α : Type} {f : FuncId} {args : List Arg} {k : CallR → Pr α} {x : α} {τ : St} {l : Log} (h : (Pr.call f args k).run P cr σ = some (x, τ, l)) : FOk P f args cr.outs cr.res ∧ (k cr).run P cr σ = some (x, τ, l) := by
  unfold Pr.run at h
  split at h
  · rename_i h1; exact ⟨h1, h⟩
  · cases h

theorem SR.disown (h : SR C σ a w W) (hh : W.hand = []) {r : Rs} {v : Nat × Nat} {s0 : Shape} {t0 : List TV} {c : Nat} {n : NF} {s : Nat} {els : List (List AV)} (hg : σ.get r = (v, some (s0, t0))) (ha : t0[c]? = some (.val (.sl true n s els))) :
    ∃ WB, SR C (σ.put r (cUp (cUp v), some (s0, t0.set c (.val (.sl false n s (shcLL els)))))) a w WB ∧ WB.hand = [] := by
  have hat : (t0.map own)[c]? = some (.sl true n s els) := by simp [ha, own]
  obtain ⟨z, f1, fc0, f2, hu, _, hone, _⟩ := (h.rep r v s0 t0 hg).at hat
  obtain ⟨WA, fc, q1, q2, q3, q4, q5, q6⟩ := h.takeCell hg ha hu hone.oneCell
  rw [hh, List.append_nil] at q3
  obtain ⟨r1, r2, r3⟩ := q1.world (hand' := []) (Keeps.refl w WA.hand) (by simp) (by simp)
  have hfcSh : ∀ b ∈ fc, Sh C (σ.put r (cUp v, some (s0, t0.set c (.val .any)))) { WA with hand := [] } w b := by
    intro b hb
    have hbh : b ∈ WA.hand := by rw [q3]; exact hb
    obtain ⟨e1, e2⟩ := q1.hrng b hbh
    refine ⟨.inr e1, e2, ?_⟩
    rintro (⟨r', hr', hb'⟩ | ⟨x', hx'⟩ | hb')
    · exact (q1.hdis b hbh).1 r' hr' hb'
    · exact (q1.hdis b hbh).2 x' hx'
    · simp at hb'
  have hshc := q4.shc (S' := Sh C (σ.put r (cUp v, some (s0, t0.set c (.val .any)))) { WA with hand := [] } w) (fun b hb => (r2 b hb).1) hfcSh
  have hcl : c < t0.length := (List.getElem?_eq_some_iff.1 ha).1
  obtain ⟨WB, x1, x2, x3⟩ := r1.giveCell (c := c) (u := z) (b := .sl false n s (shcLL els)) (f := []) (hand' := []) (St.get_put_same _ _ _) (by rw [List.getElem?_set]; simp [hcl]) (by
    show (WA.cv r)[c]? = some z
    rw [q2.cv]; exact hu) hshc (by simp) (by simp) (by simp) (by simp) (by simp)
  refine ⟨WB, x1.congr fun r' => ?_, x3⟩
  simp only [St.get_put, List.set_set]
  split <;> rfl

theorem disown_ok : ∀ {tvs : List TV} {σ : St} {W : Wit} (_ : SR C σ a w W) (_ : W.hand = []) {σ' : St} {l : Log} {u : Unit} (_ : (disown tvs).run P cr σ = some (u, σ', l)), ∃ W', SR C σ' a w W' ∧ W'.hand = []
  | [], σ, W, h, hh, σ', l, u, hr => by
    obtain ⟨_, rfl, _⟩ := ret_run (show (Pr.ret ()).run P cr σ = _ from hr)
    exact ⟨W, h, hh⟩
  | .val _ :: tvs, σ, W, h, hh, σ', l, u, hr => disown_ok (tvs := tvs) h hh (show (disown tvs).run P cr σ = _ from hr)
  | .ref r c ver [] :: tvs, σ, W, h, hh, σ', l, u, hr => by
    unfold disown at hr
    split at hr
    · exact (fail_run hr).elim
    · obtain ⟨l1, h1, rfl⟩ := get_run hr
      cases hg : σ.get r with
      | mk v o => cases o with
        | none => rw [hg] at h1; exact (fail_run h1).elim
        | some z =>
          obtain ⟨s0, t0⟩ := z
          rw [hg] at h1
          simp only at h1
          split at h1
          · rename_i n s els ha
            obtain ⟨l2, h2, rfl⟩ := put_run h1
            obtain ⟨WB, k1, k2⟩ := h.disown hh hg ha
            exact disown_ok (tvs := tvs) k1 k2 h2
          · exact (fail_run h1).elim
  | .ref r c ver (_ :: _) :: tvs, σ, W, h, hh, σ', l, u, hr => (fail_run (show (Pr.fail : Pr Unit).run P cr σ = _ from hr)).elim
  | .eref .. :: tvs, σ, W, h, hh, σ', l, u, hr => (fail_run (show (Pr.fail : Pr Unit).run P cr σ = _ from hr)).elim

theorem disownAll_ok : ∀ {as : List Ar} {σ : St} {W : Wit} (_ : SR C σ a w W) (_ : W.hand = []) {σ' : St} {l : Log} {u : Unit} (_ : (disownAll as).run P cr σ = some (u, σ', l)), ∃ W', SR C σ' a w W' ∧ W'.hand = []
  | [], σ, W, h, hh, σ', l, u, hr => by
    obtain ⟨_, rfl, _⟩ := ret_run (show (Pr.ret ()).run P cr σ = _ from hr)
    exact ⟨W, h, hh⟩
  | ⟨_, _, none⟩ :: as, σ, W, h, hh, σ', l, u, hr => disownAll_ok (as := as) h hh (show (disownAll as).run P cr σ = _ from hr)
  | ⟨_, tvs, some _⟩ :: as, σ, W, h, hh, σ', l, u, hr => by
    obtain ⟨u1, σ1, l1, l2, h1, h2, rfl⟩ := run_bind_some (show (disown tvs >>= fun _ => disownAll as).run P cr σ = _ from hr)
    obtain ⟨W1, k1, k2⟩ := disown_ok h hh h1
    exact disownAll_ok (as := as) k1 k2 h2

theorem callLend_ok {o : Oper} {f : FuncId} {args : List Operand} {xs : List Ar} {σ1 σ' : St} {l : Log} {next : Act → World → Prop} {Q : Exit → Act → World → Prop}
    (h : SR C σ1 a w W) (hh : W.hand = []) (hd : ∀ t, o.dst = some t → t < a.tmps.size) (hars : ArsOk C σ1 W w xs (args.map a.eval)) (hnr : noRefs xs = true)
    (hexec : FnOk P f → (execOp a.eval o).run P w = .ok (.enter f (args.map a.eval).toArray) w) (h2 : (callLend f xs o.dst).run P cr σ1 = some ((), σ', l))
    (hn : ∀ a' w' W', SR C σ' a' w' W' → W'.hand = [] → a'.tmps.size = a.tmps.size → next a' w') : o.wp P a w next Q := by
  obtain ⟨bs, σ2, l3, l4, h3, h4, rfl⟩ := run_bind_some h2
  obtain ⟨W1, fp, hdl, q1, q2, ⟨hd', q3, q4⟩, q5, q6⟩ := lendAll_ok h hars hnr h3
  rw [hh, List.append_nil] at q3
  obtain ⟨⟨hfn, hfok⟩, h5⟩ := call_run h4
  have hhd : ∀ b ∈ hdl, b ∈ W1.hand := fun b hb => by rw [q3]; exact (q4 b).1 hb
  have hfpW : ∀ b ∈ fp, b ∈ W1.hand := fun b hb => hhd b (q6.sub b hb)
  have hcalls := hfok w (Sh C σ2 W1 w) (args.map a.eval) fp (fun b hb => ⟨hb.2.1, fun hf => hb.2.2 (.inr (.inr (hfpW b hf)))⟩) (q6.nodup q5) (fun b hb => (q1.hrng b (hfpW b hb)).2) q6.reps (fun g cs hg => q1.gl g cs (HT.eq.trans hg))
  refine wp_enter (hexec hfn) (hcalls.mono ?_)
  rintro e w' ⟨rvs, fpr, fp', rfl, hfit, hk, hnd, hb, hres, houts⟩
  obtain ⟨hand', hmem, x1, x2, x3⟩ := q1.afterCall hfpW hk hnd hb
  refine ⟨_, rfl, ?_⟩
  obtain ⟨u, σ3, l5, l6, h6, h7, rfl⟩ := run_bind_some h5
  have hlt : ∀ b ∈ hdl, b < w.heap.size := backs_ok.LendsOk.lt q6
  obtain ⟨W3, y1, y2, y3, y4⟩ := backs_ok (cr := cr) hk q6 σ2 { W1 with hand := hand' } cr.outs fp' [] x1 rfl rfl x2 (houts.mono x3) q5 (by simpa using hnd) (fun b hb' => (hb b (by simpa using hb')).1) (fun b hb' _ => hb') (by
    intro b hb'
    show b ∈ hand'
    rw [hmem]
    rcases hb' with hb' | ⟨hb1, hb2⟩
    · exact .inl (by simpa using hb')
    · exact .inr ⟨hhd b hb1, hb2⟩) _ _ _ h6
  have hresS := (hres.mono (β' := W1.β) (S' := Sh C σ2 { W1 with hand := hand' } w') (fun b hb' => ⟨x3 b hb', rfl⟩) (fun _ _ => rfl) (by simp))
  have hresW := y2.rep hresS
  rw [List.nodup_append] at hnd
  obtain ⟨hn1, hn2, hn3⟩ := hnd
  obtain ⟨W4, z1, z2⟩ := setSl_ok y1 hd (s := cr.res.1) (Held.of_vals hresW) (by rw [valTVs_length]; exact hfit) (by
    intro b hb'
    refine y4 b ?_ (fun hf => hn3 b hb' b hf rfl) ?_
    · show b ∈ hand'
      rw [hmem]; exact .inl (by simp [hb'])
    · rcases (hb b (by simp [hb'])).1 with h8 | h8
      · exact .inr h8
      · exact .inl fun h9 => by have := hlt b h9; omega) (hand' := []) (by simp) hn1 (by simp) (by simp) h7
  exact hn _ _ W4 z1 z2 (put_size _ _ _)

/-! ### Closures beside what is lent -/

def ShB (C : Ctx) (σ : St) (W : Wit) (w : World) (b : Nat) : Prop := Sh C σ W w b ∨ ∃ x, W.β x = some b

theorem plain_rep {S S' : Nat → Prop} {β : Nat → Option Nat} (hS : ∀ b, S b → S' b) : ∀ {tvs : List TV} {vs : List Value} {f : List Nat}, plainTVs tvs = true → Rep w β S (tvs.map own) vs f → Rep w (fun _ => none) S' (ownTVs tvs) vs []
  | [], vs, f, _, h => by
    have h' : Rep w β S [] vs f := h
    cases h'
    exact .nil
  | .val a :: l, vs, f, hp, h => by
    simp only [plainTVs, Bool.and_eq_true, Bool.not_eq_true'] at hp
    obtain ⟨v, us, f1, f2, rfl, rfl, h1, h2⟩ := Rep.uncons (show Rep w β S (a :: l.map own) vs f from h)
    have hf := h1.fp_nil hp.1.1
    subst hf
    have h3 := (Rep.noβ h1 hp.1.2 (fun _ => none)).mono (w' := w) (S' := S') (β' := fun _ => none) (fun b hb => ⟨hS b hb, rfl⟩) (by simp) (fun _ _ h => h)
    exact Rep.cons (f1 := []) h3 (plain_rep hS hp.2 h2)
  | .ref .. :: l, vs, f, hp, h => by simp [plainTVs] at hp
  | .eref .. :: l, vs, f, hp, h => by simp [plainTVs] at hp

theorem pCaps_ok (h : SR C σ a w W) {caps : List AV} : ∀ {cvs : List Value}, Rep w W.β (Sh C σ W w) caps cvs [] → ∀ {cs : List AV} {σ' : St} {l : Log}, (pCaps caps).run P cr σ = some (cs, σ', l) →
    σ' = σ ∧ Rep w (fun _ => none) (ShB C σ W w) cs cvs [] := by
  induction caps with
  | nil =>
    intro cvs hrep cs σ' l hr
    obtain ⟨rfl, rfl, _⟩ := ret_run (show (Pr.ret []).run P cr σ = _ from hr)
    cases hrep
    exact ⟨rfl, .nil⟩
  | cons b caps ih =>
    intro cvs hrep cs σ' l hr
    obtain ⟨z, zs, f1, f2, rfl, hf, k1, k2⟩ := Rep.uncons hrep
    obtain ⟨rfl, rfl⟩ := List.append_eq_nil_iff.1 hf.symm
    have hplain : isPtr b = false → (pCaps caps >>= fun r => Pr.ret (b :: r)).run P cr σ = some (cs, σ', l) → σ' = σ ∧ Rep w (fun _ => none) (ShB C σ W w) cs (z :: zs) [] := by
      intro hp hrun
      obtain ⟨cs', σ1, l1, l2, h1, h2, rfl⟩ := run_bind_some hrun
      obtain ⟨rfl, rfl, _⟩ := ret_run h2
      obtain ⟨e1, e2⟩ := ih k2 h1
      have := (Rep.noβ k1 hp (fun _ => none)).mono (w' := w) (S' := ShB C σ W w) (β' := fun _ => none) (fun b hb => ⟨.inl hb, rfl⟩) (by simp) (fun _ _ h => h)
      exact ⟨e1, this.append e2⟩
    have hrest : ∀ {k : Pr (List AV)}, (chk (!isPtr b && !b.owns) k).run P cr σ = some (cs, σ', l) → isPtr b = false ∧ k.run P cr σ = some (cs, σ', l) := by
      intro k hk
      obtain ⟨h1, h2⟩ := chk_run hk
      simp only [Bool.and_eq_true, Bool.not_eq_true'] at h1
      exact ⟨h1.1, h2⟩
    cases b with
    | bp x off =>
      obtain ⟨l', h1, rfl⟩ := get_run (show (Pr.get (.bx x) _).run P cr σ = _ from hr)
      cases hg : σ.get (.bx x) with
      | mk v o => cases o with
        | none => rw [hg] at h1; exact (fail_run h1).elim
        | some q =>
          obtain ⟨s, tvs⟩ := q
          rw [hg] at h1
          obtain ⟨hpl, h2⟩ := chk_run h1
          obtain ⟨cs2, σ2, l3, l4, h4, h5, rfl⟩ := run_bind_some h2
          obtain ⟨rfl, rfl, _⟩ := ret_run h5
          obtain ⟨e3, e4⟩ := ih k2 h4
          cases k1 with
          | bp hb t =>
            rename_i g
            obtain ⟨g', T, hb', hheap⟩ := h.box x v s tvs hg
            rw [hb] at hb'; cases hb'
            have e2 := plain_rep (S' := ShB C σ W w) (fun b hb => .inl hb) hpl (h.rep (.bx x) v s tvs hg)
            have := Rep.cp (w := w) (β := fun _ => none) (S := ShB C σ W w) (g := g) (o := 0) (off := off) (.inr ⟨x, hb⟩) ⟨_, _, _, hheap, by simp⟩ e2 e4
            rw [Nat.zero_add] at this
            exact ⟨e3, this⟩
    | clo f caps' =>
      obtain ⟨hp, _⟩ := hrest (show (chk _ _).run P cr σ = _ from hr)
      simp [isPtr] at hp
    | v x => obtain ⟨hp, h2⟩ := hrest (show (chk _ _).run P cr σ = _ from hr); exact hplain hp h2
    | sl o n s els => obtain ⟨hp, h2⟩ := hrest (show (chk _ _).run P cr σ = _ from hr); exact hplain hp h2
    | ep s els i c => obtain ⟨hp, h2⟩ := hrest (show (chk _ _).run P cr σ = _ from hr); exact hplain hp h2
    | cp cells off => obtain ⟨hp, h2⟩ := hrest (show (chk _ _).run P cr σ = _ from hr); exact hplain hp h2
    | own cells => obtain ⟨hp, h2⟩ := hrest (show (chk _ _).run P cr σ = _ from hr); exact hplain hp h2
    | any => obtain ⟨hp, h2⟩ := hrest (show (chk _ _).run P cr σ = _ from hr); exact hplain hp h2

inductive CloOk (w : World) (S : Nat → Prop) : List (Option AV) → List Value → Prop
  | nil : CloOk w S [] []
  | no {v : Value} {os vs} (t : CloOk w S os vs) : CloOk w S (none :: os) (v :: vs)
  | yes {b : AV} {v : Value} {os vs} (h : Rep w (fun _ => none) S [b] [v] []) (t : CloOk w S os vs) : CloOk w S (some b :: os) (v :: vs)

theorem CloOk.mono {S S' : Nat → Prop} (hS : ∀ b, S b → S' b) {os : List (Option AV)} {vs : List Value} (h : CloOk w S os vs) : CloOk w S' os vs := by
  induction h with
  | nil => exact .nil
  | no t ih => exact .no ih
  | yes h t ih => exact .yes (h.mono (fun b hb => ⟨hS b hb, rfl⟩) (by simp) (fun _ _ h => h)) ih

theorem cloOf_some {x : Ar} {f : FuncId} {caps : List AV} (h : cloOf x = some (f, caps)) : ∃ as, x = ⟨.one, [.val (.clo f caps)], some as⟩ := by
  unfold cloOf at h
  split at h
  · cases h; exact ⟨_, rfl⟩
  · cases h

theorem cloCells_ok (h : SR C σ a w W) {xs : List Ar} : ∀ {vals : List Value}, ArsOk C σ W w xs vals → ∀ {os : List (Option AV)} {σ' : St} {l : Log}, (cloCells xs).run P cr σ = some (os, σ', l) →
    σ' = σ ∧ CloOk w (ShB C σ W w) os vals := by
  induction xs with
  | nil =>
    intro vals hx os σ' l hr
    obtain ⟨rfl, rfl, _⟩ := ret_run (show (Pr.ret []).run P cr σ = _ from hr)
    cases hx
    exact ⟨rfl, .nil⟩
  | cons x xs ih =>
    intro vals hx os σ' l hr
    cases hx with
    | cons h0 t =>
      unfold cloCells at hr
      cases hc : cloOf x with
      | none =>
        rw [hc] at hr
        obtain ⟨r, σ1, l1, l2, h1, h2, rfl⟩ := run_bind_some (show (cloCells xs >>= fun r => Pr.ret (none :: r)).run P cr σ = _ from hr)
        obtain ⟨rfl, rfl, _⟩ := ret_run h2
        obtain ⟨e1, e2⟩ := ih t h1
        exact ⟨e1, .no e2⟩
      | some q =>
        obtain ⟨f, caps⟩ := q
        rw [hc] at hr
        obtain ⟨cs, σ1, l1, l2, h1, h2, rfl⟩ := run_bind_some (show (pCaps caps >>= fun cs => cloCells xs >>= fun r => Pr.ret (some (AV.clo f cs) :: r)).run P cr σ = _ from hr)
        obtain ⟨as, rfl⟩ := cloOf_some hc
        obtain ⟨vs, hv, hview, hfit, -⟩ := h0
        cases vs with
        | nil => exact hview.elim
        | cons z zs =>
          cases zs with
          | cons _ _ => exact hview.2.elim
          | nil =>
            have hz : Rep w W.β (Sh C σ W w) [.clo f caps] [z] [] := hview.1
            cases hz with
            | clo hin tl =>
              obtain ⟨e1, e2⟩ := pCaps_ok h hin h1
              subst e1
              obtain ⟨r, σ2, l3, l4, h3, h4, rfl⟩ := run_bind_some h2
              obtain ⟨rfl, rfl, _⟩ := ret_run h4
              obtain ⟨e3, e4⟩ := ih t h3
              subst hv
              exact ⟨e3, .yes (.clo e2 .nil) e4⟩

theorem ArsOk.blank {xs : List Ar} : ∀ {vals : List Value}, ArsOk C σ W w xs vals → ArsOk C σ W w (blankAr xs) vals := by
  induction xs with
  | nil => intro vals h; exact h
  | cons x xs ih =>
    intro vals h
    cases h with
    | cons h0 t =>
      unfold blankAr
      cases hc : cloOf x with
      | none => exact .cons h0 (ih t)
      | some q =>
        obtain ⟨f, caps⟩ := q
        obtain ⟨as, rfl⟩ := cloOf_some hc
        obtain ⟨vs, hv, hview, hfit, -⟩ := h0
        refine .cons ⟨vs, hv, ?_, hfit, ?_⟩ (ih t)
        all_goals
          cases vs with
          | nil => exact hview.elim
          | cons z zs =>
            cases zs with
            | cons _ _ => exact hview.2.elim
            | nil =>
              have hz : Rep w W.β (Sh C σ W w) [.clo f caps] [z] [] := hview.1
              have h1 := hz.oneCell
              first
              | exact ⟨Rep.any h1 .nil, trivial⟩
              | (intro cells hcl; cases hcl; exact ⟨.any h1 .nil, fun _ => .any h1 .nil⟩)

theorem LendsOk.patch {S S1 : Nat → Prop} (hS : ∀ b, S b → S1 b) {β : Nat → Option Nat} {cv : Rs → List Value} {bs : List Lent} {vals : List Value} {fp hd : List Nat} (h : LendsOk P cr w β S cv bs vals fp hd) :
    ∀ {os : List (Option AV)}, CloOk w S1 os vals → Reps w S1 (patch os bs) vals fp := by
  induction h with
  | nil => intro os ho; cases ho; exact .nil
  | sh hx t ih =>
    intro os ho
    generalize hvv : shVal _ _ :: _ = vv at ho
    cases ho with
    | nil => cases hvv
    | no t2 =>
      obtain ⟨rfl, rfl⟩ := List.cons.inj hvv
      exact Reps.cons (fp := []) (hx.mono (fun b hb => ⟨hS b hb, rfl⟩) (by simp) (fun _ _ h => h)) (ih t2)
    | yes h2 t2 =>
      obtain ⟨rfl, rfl⟩ := List.cons.inj hvv
      exact Reps.cons (s := .one) (fp := []) h2 (ih t2)
  | lent hs hx t ih =>
    intro os ho
    generalize hvv : shVal _ _ :: _ = vv at ho
    cases ho with
    | nil => cases hvv
    | no t2 =>
      obtain ⟨rfl, rfl⟩ := List.cons.inj hvv
      exact Reps.cons (hx.rep.mono (fun b hb => ⟨hS b hb, rfl⟩) (fun _ _ => rfl) (fun _ _ h => h)) (ih t2)
    | yes h2 t2 =>
      obtain ⟨rfl, rfl⟩ := List.cons.inj hvv
      exact Reps.cons (hx.rep.mono (fun b hb => ⟨hS b hb, rfl⟩) (fun _ _ => rfl) (fun _ _ h => h)) (ih t2)

/-- What comes back, but for what was not lent. -/
def blankO : List Lent → List Arg → List Arg
  | (_, none) :: l, (s, as) :: o => (s, as.map fun _ => .any) :: blankO l o
  | (_, some _) :: l, x :: o => x :: blankO l o
  | _, o => o

theorem backs_blank : ∀ (bs : List Lent) (os : List Arg), outsOk bs os → backs bs os = backs bs (blankO bs os)
  | [], [], _ => rfl
  | [], _ :: _, h => h.elim
  | (_, none) :: l, [], h => h.elim
  | (_, some _) :: l, [], h => h.elim
  | (_, none) :: l, (s, as) :: o, h => by
    show backs l o = backs l (blankO l o)
    exact backs_blank l o h.2
  | ((s, _), some ls) :: l, (s', as) :: o, h => by
    have := backs_blank l o h.2
    simp only [blankO, backs, this]

theorem Rep.anys {S S' : Nat → Prop} {β : Nat → Option Nat} : ∀ {as : List AV} {vs : List Value} {f : List Nat}, Rep w β S as vs f → Rep w (fun _ => none) S' (as.map fun _ => .any) vs []
  | [], vs, f, h => by cases h; exact .nil
  | b :: as, vs, f, h => by
    obtain ⟨v, us, f1, f2, rfl, rfl, h1, h2⟩ := Rep.uncons h
    exact .any h1.oneCell (Rep.anys h2)

theorem outs_blank {S S' : Nat → Prop} : ∀ {bs : List Lent} {os : List Arg} {vals : List Value} {fp : List Nat}, outsOk bs os → Reps w S os vals fp → Reps w S' (blankO bs os) vals fp
  | [], [], vals, fp, _, h => by cases h; exact .nil
  | [], _ :: _, _, _, h, _ => h.elim
  | (_, none) :: l, [], _, _, h, _ => h.elim
  | (_, some _) :: l, [], _, _, h, _ => h.elim
  | (_, none) :: l, (s, as) :: o, vals, fp, h, hr => by
    cases hr with
    | cons h1 t =>
      obtain rfl := anyOwns_nil h1 h.1
      exact Reps.cons (fp := []) (Rep.anys h1) (outs_blank h.2 t)
  | (_, some _) :: l, (s, as) :: o, vals, fp, h, hr => by
    cases hr with
    | cons h1 t => exact Reps.cons (dOwnL_rep as h.1 h1) (outs_blank h.2 t)

theorem callLendC_ok {o : Oper} {f : FuncId} {args : List Operand} {xs : List Ar} {σ1 σ' : St} {l : Log} {next : Act → World → Prop} {Q : Exit → Act → World → Prop}
    (h : SR C σ1 a w W) (hh : W.hand = []) (hd : ∀ t, o.dst = some t → t < a.tmps.size) (hars : ArsOk C σ1 W w xs (args.map a.eval)) (hnr : noRefs (blankAr xs) = true)
    (hexec : FnOk P f → (execOp a.eval o).run P w = .ok (.enter f (args.map a.eval).toArray) w) (h2 : (callLendC f xs o.dst).run P cr σ1 = some ((), σ', l))
    (hn : ∀ a' w' W', SR C σ' a' w' W' → W'.hand = [] → a'.tmps.size = a.tmps.size → next a' w') : o.wp P a w next Q := by
  obtain ⟨os, σ0, l0, l0', h0, h2b, -⟩ := run_bind_some h2
  obtain ⟨e0, hclo⟩ := cloCells_ok h hars h0
  subst e0
  obtain ⟨bs, σ2, l3, l4, h3, h4, -⟩ := run_bind_some h2b
  obtain ⟨W1, fp, hdl, q1, q2, ⟨hd', q3, q4⟩, q5, q6⟩ := lendAll_ok h hars.blank hnr h3
  rw [hh, List.append_nil] at q3
  obtain ⟨⟨hfn, hfok⟩, h5a⟩ := call_run h4
  obtain ⟨⟨hok, hdn⟩, h5⟩ := req_run h5a
  have hhd : ∀ b ∈ hdl, b ∈ W1.hand := fun b hb => by rw [q3]; exact (q4 b).1 hb
  have hfpW : ∀ b ∈ fp, b ∈ W1.hand := fun b hb => hhd b (q6.sub b hb)
  have hSB : ∀ b, ShB C σ0 W w b → ShB C σ2 W1 w b := by
    rintro b (hb | ⟨x, hx⟩)
    · exact .inl (q2.sh b hb)
    · exact .inr ⟨x, by rw [q2.β]; exact hx⟩
  have hcalls := hfok w (ShB C σ2 W1 w) (args.map a.eval) fp (by
    rintro b (hb | ⟨x, hx⟩)
    · exact ⟨hb.2.1, fun hf => hb.2.2 (.inr (.inr (hfpW b hf)))⟩
    · obtain ⟨v, s, tvs, hl⟩ := q1.boxl x b hx
      obtain ⟨g, T, hg, hheap⟩ := q1.box x v s tvs hl
      rw [hx] at hg; cases hg
      exact ⟨(Array.getElem?_eq_some_iff.1 hheap).1, fun hf => (q1.hdis b (hfpW b hf)).2 x hx⟩) (q6.nodup q5) (fun b hb => (q1.hrng b (hfpW b hb)).2) (q6.patch (fun b hb => .inl hb) (hclo.mono hSB)) (fun g cs hg => ⟨.inl (q1.gl g cs (HT.eq.trans hg)).1, (q1.gl g cs (HT.eq.trans hg)).2⟩)
  refine wp_enter (hexec hfn) (hcalls.mono ?_)
  rintro e w' ⟨rvs, fpr, fp', rfl, hfit, hk, hnd, hb, hres, houts⟩
  obtain ⟨hand', hmem, x1, x2, x3⟩ := q1.afterCall hfpW hk hnd hb
  refine ⟨_, rfl, ?_⟩
  obtain ⟨u, σ3, l5, l6, h6, h7, -⟩ := run_bind_some h5
  rw [backs_blank bs cr.outs hok] at h6
  have hlt : ∀ b ∈ hdl, b < w.heap.size := backs_ok.LendsOk.lt q6
  obtain ⟨W3, y1, y2, y3, y4⟩ := backs_ok (cr := cr) hk q6 σ2 { W1 with hand := hand' } (blankO bs cr.outs) fp' [] x1 rfl rfl x2 (outs_blank hok houts) q5 (by simpa using hnd) (fun b hb' => (hb b (by simpa using hb')).1) (fun b hb' _ => hb') (by
    intro b hb'
    show b ∈ hand'
    rw [hmem]
    rcases hb' with hb' | ⟨hb1, hb2⟩
    · exact .inl (by simpa using hb')
    · exact .inr ⟨hhd b hb1, hb2⟩) _ _ _ h6
  have hresS := (dOwnL_rep (S' := Sh C σ2 { W1 with hand := hand' } w') _ hdn hres).mono (β' := W1.β) (w' := w') (S' := Sh C σ2 { W1 with hand := hand' } w') (fun b hb' => ⟨hb', rfl⟩) (fun _ _ => rfl) (by simp)
  have hresW := y2.rep hresS
  rw [List.nodup_append] at hnd
  obtain ⟨hn1, hn2, hn3⟩ := hnd
  obtain ⟨W4, z1, z2⟩ := setSl_ok y1 hd (s := cr.res.1) (Held.of_vals hresW) (by rw [valTVs_length]; exact hfit) (by
    intro b hb'
    refine y4 b ?_ (fun hf => hn3 b hb' b hf rfl) ?_
    · show b ∈ hand'
      rw [hmem]; exact .inl (by simp [hb'])
    · rcases (hb b (by simp [hb'])).1 with h8 | h8
      · exact .inr h8
      · exact .inl fun h9 => by have := hlt b h9; omega) (hand' := []) (by simp) hn1 (by simp) (by simp) h7
  exact hn _ _ W4 z1 z2 (put_size _ _ _)

theorem settleTV_ok (h : SR C σ a w W) {t t' : TV} {z : Value} (ht : TV1 C σ W w t z) {σ' : St} {l : Log} (hr : (settleTV t).run P cr σ = some (t', σ', l)) : σ' = σ ∧ TV1 C σ W w t' z := by
  cases t with
  | val b =>
    obtain ⟨rfl, rfl, _⟩ := ret_run (show (Pr.ret (TV.val b)).run P cr σ = _ from hr)
    exact ⟨rfl, ht⟩
  | eref r c ver p sz i k =>
    obtain ⟨rfl, rfl, _⟩ := ret_run (show (Pr.ret (TV.eref r c ver p sz i k)).run P cr σ = _ from hr)
    exact ⟨rfl, ht⟩
  | ref r c ver p =>
    cases p with
    | cons q p =>
      obtain ⟨rfl, rfl, _⟩ := ret_run (show (Pr.ret (TV.ref r c ver (q :: p))).run P cr σ = _ from hr)
      exact ⟨rfl, ht⟩
    | nil =>
      obtain ⟨l', h1, rfl⟩ := get_run (show (Pr.get r _).run P cr σ = _ from hr)
      cases hg : σ.get r with
      | mk v o => cases o with
        | none => rw [hg] at h1; exact (fail_run h1).elim
        | some q =>
          obtain ⟨s, tvs⟩ := q
          rw [hg] at h1
          simp only at h1
          cases hv : verOk v ver [] with
          | false => rw [hv] at h1; exact (fail_run h1).elim
          | true =>
            rw [hv] at h1
            simp only at h1
            split at h1
            · rename_i a0 ha
              obtain ⟨hck, h2⟩ := chk_run h1
              obtain ⟨rfl, rfl, _⟩ := ret_run h2
              simp only [Bool.and_eq_true, Bool.not_eq_true'] at hck
              obtain ⟨u, hu, hcase⟩ := ht.2.2 v s tvs hg hv
              have huz : u = z := by
                rcases hcase with ⟨-, e⟩ | ⟨hp, _⟩
                · exact e.symm
                · exact absurd rfl hp
              subst huz
              have hat : (tvs.map own)[c]? = some a0 := by simp [ha, own]
              obtain ⟨u', f1, fc, f2, hu', hf, hone, _⟩ := (h.rep r v s tvs hg).at hat
              rw [hu] at hu'; cases hu'
              have := hone.fp_nil hck.1
              subst this
              exact ⟨rfl, hone⟩
            · exact (fail_run h1).elim

theorem settleTVs_ok (h : SR C σ a w W) {tvs : List TV} : ∀ {vs : List Value}, View C σ W w tvs vs → ∀ {ts : List TV} {σ' : St} {l : Log}, (settleTVs tvs).run P cr σ = some (ts, σ', l) → σ' = σ ∧ View C σ W w ts vs := by
  induction tvs with
  | nil =>
    intro vs hv ts σ' l hr
    obtain ⟨rfl, rfl, _⟩ := ret_run (show (Pr.ret []).run P cr σ = _ from hr)
    exact ⟨rfl, hv⟩
  | cons t tl ih =>
    intro vs hv ts σ' l hr
    cases vs with
    | nil => exact hv.elim
    | cons z zs =>
      obtain ⟨u, σ1, l1, l2, h1, h2, rfl⟩ := run_bind_some (show (settleTV t >>= fun u => settleTVs tl >>= fun us => Pr.ret (u :: us)).run P cr σ = _ from hr)
      obtain ⟨e1, e2⟩ := settleTV_ok h hv.1 h1
      subst e1
      obtain ⟨us, σ2, l3, l4, h3, h4, rfl⟩ := run_bind_some h2
      obtain ⟨e3, e4⟩ := ih hv.2 h3
      subst e3
      obtain ⟨rfl, rfl, _⟩ := ret_run h4
      exact ⟨rfl, e2, e4⟩

theorem settleAll_ok (h : SR C σ a w W) {xs : List Ar} : ∀ {vals : List Value}, ArsOk C σ W w xs vals → ∀ {ys : List Ar} {σ' : St} {l : Log}, (settleAll xs).run P cr σ = some (ys, σ', l) → σ' = σ ∧ ArsOk C σ W w ys vals := by
  induction xs with
  | nil =>
    intro vals hx ys σ' l hr
    obtain ⟨rfl, rfl, _⟩ := ret_run (show (Pr.ret []).run P cr σ = _ from hr)
    exact ⟨rfl, hx⟩
  | cons x xs ih =>
    intro vals hx ys σ' l hr
    cases hx with
    | cons h0 t0 =>
      obtain ⟨s, tvs, sh⟩ := x
      cases sh with
      | none =>
        obtain ⟨r, σ1, l1, l2, h1, h2, rfl⟩ := run_bind_some (show (settleAll xs >>= fun r => Pr.ret (⟨s, tvs, none⟩ :: r)).run P cr σ = _ from hr)
        obtain ⟨rfl, rfl, _⟩ := ret_run h2
        obtain ⟨e1, e2⟩ := ih t0 h1
        exact ⟨e1, .cons h0 e2⟩
      | some cells =>
        obtain ⟨vs, hv, hview, hfit, -⟩ := h0
        obtain ⟨ts, σ1, l1, l2, h1, h2, rfl⟩ := run_bind_some (show (settleTVs tvs >>= fun ts => argAVs ts >>= fun as => settleAll xs >>= fun r => Pr.ret (⟨s, ts, some as⟩ :: r)).run P cr σ = _ from hr)
        obtain ⟨e1, e2⟩ := settleTVs_ok h hview h1
        subst e1
        obtain ⟨as, σ2, l3, l4, h3, h4, rfl⟩ := run_bind_some h2
        obtain ⟨e3, e4, e5⟩ := argAVs_ok h e2 h3
        subst e3
        obtain ⟨r, σ3, l5, l6, h5, h6, rfl⟩ := run_bind_some h4
        obtain ⟨e6, e7⟩ := ih t0 h5
        subst e6
        obtain ⟨rfl, rfl, _⟩ := ret_run h6
        refine ⟨rfl, .cons ⟨vs, hv, e2, ?_, fun cells hc => by cases hc; exact ⟨e4, e5⟩⟩ e7⟩
        show shapeFit s ts.length
        rw [e2.length, ← hview.length]
        exact hfit

theorem callDis_ok {io : List Nat} {o : Oper} {f : FuncId} {args : List Operand} {xs : List Ar} {σ1 σ' : St} {l : Log} {next : Act → World → Prop} {Q : Exit → Act → World → Prop}
    (h : SR C σ1 a w W) (hh : W.hand = []) (hd : ∀ t, o.dst = some t → t < a.tmps.size)
    (hexec : FnOk P f → (execOp a.eval o).run P w = .ok (.enter f (args.map a.eval).toArray) w) (h2 : (callDis io f args xs o.dst).run P cr σ1 = some ((), σ', l))
    (hn : ∀ a' w' W', SR C σ' a' w' W' → W'.hand = [] → a'.tmps.size = a.tmps.size → next a' w') : o.wp P a w next Q := by
  obtain ⟨u1, σ2, l3, l4, h3, h4, -⟩ := run_bind_some h2
  obtain ⟨W2, k1, k2⟩ := disownAll_ok h hh h3
  obtain ⟨zs, σ3, l5, l6, h5, h5b, -⟩ := run_bind_some h4
  obtain ⟨e2, hars1⟩ := argsPr_ok k1 h5
  subst e2
  obtain ⟨ys, σ4, l7, l8, h7, h6, -⟩ := run_bind_some h5b
  obtain ⟨e3, hars2⟩ := settleAll_ok k1 hars1 h7
  subst e3
  split at h6
  · rename_i hnr
    exact callLend_ok k1 k2 hd hars2 hnr hexec h6 hn
  · split at h6
    · rename_i hnr
      exact callLendC_ok k1 k2 hd hars2 hnr hexec h6 hn
    · exact (fail_run h6).elim

theorem callPr_ok {io : List Nat} {o : Oper} {f : FuncId} {args : List Operand} {caps : List AV} {cvs : List Value} {σ' : St} {l : Log} {next : Act → World → Prop} {Q : Exit → Act → World → Prop}
    (h : SR C σ a w W) (hh : W.hand = []) (hd : ∀ t, o.dst = some t → t < a.tmps.size) (hcaps : Rep w W.β (Sh C σ W w) caps cvs [])
    (hexec : FnOk P f → (execOp a.eval o).run P w = .ok (.enter f (args.map a.eval ++ cvs).toArray) w) (hr : (callPr io f args caps o.dst).run P cr σ = some ((), σ', l))
    (hn : ∀ a' w' W', SR C σ' a' w' W' → W'.hand = [] → a'.tmps.size = a.tmps.size → next a' w') : o.wp P a w next Q := by
  obtain ⟨xs, σ1, l1, l2, h1, h2, rfl⟩ := run_bind_some hr
  obtain ⟨e1, hars⟩ := argsPr_ok h h1
  subst e1
  split at h2
  · rename_i hck
    simp only [Bool.and_eq_true] at hck
    obtain ⟨hnr, hnc⟩ := hck
    have hc0 : caps = [] := by cases caps <;> simp_all [isNilL]
    subst hc0
    cases hcaps
    rw [List.append_nil] at hexec
    exact callLend_ok h hh hd hars hnr hexec h2 hn
  · split at h2
    · rename_i hck
      simp only [Bool.and_eq_true] at hck
      have hc0 : caps = [] := by cases caps <;> simp_all [isNilL]
      subst hc0
      cases hcaps
      rw [List.append_nil] at hexec
      exact callDis_ok h hh hd hexec h2 hn
    · split at h2
      · rename_i xargs hxa
        obtain ⟨cs, σ2, l3, l4, h3, h4, rfl⟩ := run_bind_some h2
        obtain ⟨e2, hcs⟩ := capCells_ok h hcaps h3
        subst e2
        obtain ⟨⟨hfn, hfok⟩, h5⟩ := call_run h4
        obtain ⟨hdn, h6⟩ := req_run h5
        have hcalls := hfok w (ShA C w) (args.map a.eval ++ cvs) [] (fun b hb => ⟨hb.2, by simp⟩) (by simp) (by simp) ((hars.shared hxa).append (Reps.caps hcs)) (fun g cs hg => ⟨(h.gl g cs (HT.eq.trans hg)).1.toA, (h.gl g cs (HT.eq.trans hg)).2⟩)
        refine wp_enter (hexec hfn) (hcalls.mono ?_)
        rintro e w' ⟨rvs, fpr, fp', rfl, hfit, hk, hnd, hb, hres, houts⟩
        obtain ⟨hand', hmem, x1, x2, x3⟩ := h.afterCall (fp := []) (by simp) hk hnd hb
        refine ⟨_, rfl, ?_⟩
        have hresS := (dOwnL_rep (S' := Sh C σ2 { W with hand := hand' } w') _ hdn hres).mono (β' := W.β) (fun b hb => ⟨hb, rfl⟩) (fun _ _ => rfl) (by simp)
        rw [List.nodup_append] at hnd
        obtain ⟨hn1, hn2, hn3⟩ := hnd
        obtain ⟨W4, z1, z2⟩ := setSl_ok x1 hd (s := cr.res.1) (Held.of_vals hresS) (by rw [valTVs_length]; exact hfit) (by
          intro b hb'
          show b ∈ hand'
          rw [hmem]; exact .inl (by simp [hb'])) (hand' := []) (by simp) hn1 (by simp) (by simp) h6
        exact hn _ _ W4 z1 z2 (put_size _ _ _)
      · split at h2
        · rename_i hnc
          have hc0 : caps = [] := by cases caps <;> simp_all [isNilL]
          subst hc0
          cases hcaps
          rw [List.append_nil] at hexec
          exact callDis_ok h hh hd hexec h2 hn
        · exact (fail_run h2).elim

theorem run_callFunc_enter {f : FuncId} (h : FnOk P f) (args : Array Value) : (callFunc f args).run P w = .ok (.enter f args) w := by
  obtain ⟨fn, c, h1, h2, h3⟩ := h
  have h3' : ¬ fn.name = "runtime.NumGoroutine" := by simpa using h3
  simp [callFunc, h1, h2, h3']

/-- EVERY OPERATION DOES WHAT ITS PROGRAM SAYS. -/
theorem opOk (hΓ : EnvOk P Γ) (o : Oper) : OpOk P Γ o := by
  cases ho : o.op with
  | move x => exact op_copy ho
  | assign x => exact op_assign ho
  | pick c x y => exact op_pick ho
  | nilCheck x => exact op_nilCheck ho
  | alloc T => exact op_alloc hΓ ho
  | box T x => exact op_box ho
  | build T parts => exact op_build hΓ ho
  | buildSlice T n parts => exact op_buildSlice hΓ ho
  | load T x => exact op_load hΓ ho
  | store T x y => exact op_store hΓ ho
  | binOp op T x y yT => exact op_binOp hΓ ho
  | unOp op T x => exact op_unOp ho
  | convert S T x => exact op_convert hΓ ho
  | makeSlice T l c => exact op_makeSlice hΓ ho
  | slice T x lo hi mx =>
    cases mx with
    | none => exact op_slice hΓ ho
    | some m => exact op_slice3 hΓ ho
  | fieldAddr T x f => exact op_fieldAddr hΓ ho
  | field T x f => exact op_field hΓ ho
  | indexAddr T x y => exact op_indexAddr hΓ ho
  | index T x y => exact op_index hΓ ho
  | extract x i => exact op_extract ho
  | makeFunc fn first caps =>
    cases fn with
    | func f => exact op_makeFunc ho
    | _ =>
      intro C HT σ a w W cr σ' l next Q h hh hd hr hn
      simp only [opPr, ho] at hr
      exact (fail_run hr).elim
  | call c =>
    intro C HT σ a w W cr σ' l next Q h hh hd hr hn
    simp only [opPr, ho] at hr
    cases hc : c.callee with
    | value x =>
      rw [hc] at hr
      cases x with
      | func f =>
        refine callPr_ok h hh hd (cvs := []) .nil (fun hfn => ?_) hr hn
        have hargs : (c.args.toList.map a.eval ++ []).toArray = c.args.map a.eval := by
          apply Array.toList_inj.1; simp
        rw [hargs]
        simp [execOp, ho, resolve, hc, Act.eval, Deferred.ofValue, invoke, run_callFunc_enter hfn]
      | tmp t =>
        obtain ⟨u, σ1, l1, l2, h1, h2, rfl⟩ := run_bind_some hr
        obtain ⟨rfl, ht⟩ := rdOne_ok h h1
        split at h2
        · rename_i f caps
          generalize hz : a.eval (.tmp t) = z at ht
          have ht' : Rep w W.β (Sh C σ1 W w) [.clo f caps] [z] [] := ht
          cases ht' with
          | clo hin tl =>
            rename_i cvs
            refine callPr_ok h hh hd (cvs := cvs) hin (fun hfn => ?_) h2 hn
            have hargs : (c.args.toList.map a.eval ++ cvs).toArray = c.args.map a.eval ++ cvs.toArray := by
              apply Array.toList_inj.1; simp
            rw [hargs]
            simp [execOp, ho, resolve, hc, hz, Deferred.ofValue, invoke, run_callFunc_enter hfn]
        · exact (fail_run h2).elim
      | const v => exact (fail_run (show (Pr.fail : Pr Unit).run P cr σ = _ from hr)).elim
      | global g => exact (fail_run (show (Pr.fail : Pr Unit).run P cr σ = _ from hr)).elim
    | builtin b =>
      rw [hc] at hr
      cases b with
      | len =>
        simp only at hr
        split at hr
        · rename_i x T ha ht
          exact op_len hΓ ho hc ha ht h hh hd hr hn
        · exact (fail_run hr).elim
      | append =>
        simp only at hr
        split at hr
        · rename_i x y T T' ha ht
          obtain ⟨hT, h1⟩ := chk_run hr
          have hTT : T = T' := by simpa using hT
          subst hTT
          exact op_append hΓ ho hc ha ht h hh hd h1 hn
        · exact (fail_run hr).elim
      | min => exact op_min ho (.inl rfl) hc h hh hd hr hn
      | max => exact op_min ho (.inr rfl) hc h hh hd hr hn
      | _ => exact (fail_run (show (Pr.fail : Pr Unit).run P cr σ = _ from hr)).elim
    | invoke recv name => rw [hc] at hr; exact (fail_run (show (Pr.fail : Pr Unit).run P cr σ = _ from hr)).elim
  | _ =>
    intro C HT σ a w W cr σ' l next Q h hh hd hr hn
    simp only [opPr, ho] at hr
    exact (fail_run hr).elim

end Go.Vs

namespace Go.Vs

variable {C : Ctx} {σ : St} {a : Act} {w w' : World} {W : Wit} {P : Program} {cr : CallR} {Γ : Env}
variable [HT : TabFact C P]

theorem br_run {α : Type} {b : Bool} {x y : Pr α} {z : α} {τ : St} {l : Log} (h : (Pr.br b x y).run P cr σ = some (z, τ, l)) : (b = true ∧ x.run P cr σ = some (z, τ, l)) ∨ (b = false ∧ y.run P cr σ = some (z, τ, l)) := by
  cases b with
  | true => exact .inl ⟨rfl, by simpa [Pr.run] using h⟩
  | false => exact .inr ⟨rfl, by simpa [Pr.run] using h⟩

/-- One operation of a region, its guard with it. -/
theorem opG_ok (hΓ : EnvOk P Γ) {ops : Array Oper} {o : Oper} (h : SR C σ a w W) (hh : W.hand = []) (hd : ∀ t, o.dst = some t → t < a.tmps.size) {σ' : St} {l : Log}
    (hr : (opG Γ ops.toList o).run P cr σ = some ((), σ', l)) {K : Act → World → Prop} {Q : Exit → Act → World → Prop} (hn : ∀ a' w' W', SR C σ' a' w' W' → W'.hand = [] → a'.tmps.size = a.tmps.size → K a' w') :
    if Region.wanted o (yielded ops a.tmps) then o.wp P a w K Q else K (a.put o.dst undef) w := by
  unfold opG at hr
  split at hr
  · rename_i hg
    simp only [Region.wanted, hg, if_true]
    exact opOk hΓ o C σ a w W cr σ' l K Q h hh hd hr hn
  · rename_i j want hg
    have hskip : ∀ {l : Log}, (setSl o.dst .und []).run P cr σ = some ((), σ', l) → K (a.put o.dst undef) w := by
      intro l hs
      obtain ⟨W', h1, h2⟩ := setSl_ok h hd (s := .und) (tvs := []) (vs := []) (f := []) (hand' := []) .nil rfl (by simp) (by simp) (by simp) (by simp) (by simp) hs
      exact hn _ _ W' h1 h2 (put_size _ _ _)
    split at hr
    · rename_i oj hoj
      split at hr
      · rename_i t ht
        obtain ⟨l', h1, rfl⟩ := get_run hr
        have hy : ∀ v s tvs, σ.get (.sl t) = (v, some (s, tvs)) → yielded ops a.tmps j = (match shVal s (W.cv (.sl t)) with | .bool b => some b | _ => none) := by
          intro v s tvs hgt
          have hs := (h.slot t v s tvs hgt).1
          have hoj' : ops[j]? = some oj := by simpa using hoj
          unfold yielded
          simp only [hoj', Option.bind_some, ht, hs]
          cases shVal s (W.cv (.sl t)) <;> rfl
        split at h1
        · rename_i v b hgt
          have hrep := h.rep _ _ _ _ hgt
          have hyy := hy _ _ _ hgt
          generalize hcv : W.cv (.sl t) = cv at hrep hyy
          generalize W.fp (.sl t) = ff at hrep
          have hcv1 : cv = [.bool b] := by
            cases hrep with
            | v hs tl => cases tl; rfl
          subst hcv1
          simp only [shVal] at hyy
          simp only [Region.wanted, hg, hyy]
          split at h1
          · rcases br_run h1 with ⟨rfl, h2⟩ | ⟨rfl, h2⟩
            · simp only [beq_self_eq_true, if_true]
              exact opOk hΓ o C σ a w W cr σ' _ K Q h hh hd h2 hn
            · simp; exact hskip h2
          · rcases br_run h1 with ⟨rfl, h2⟩ | ⟨rfl, h2⟩
            · simp; exact hskip h2
            · simp only [beq_self_eq_true, if_true]
              exact opOk hΓ o C σ a w W cr σ' _ K Q h hh hd h2 hn
        · rename_i v tvs hgt
          have hyy := hy _ _ _ hgt
          have : yielded ops a.tmps j = none := by
            rw [hyy]
            simp [shVal, undef]
          simp only [Region.wanted, hg, this]
          simp
          exact hskip h1
        · exact (fail_run h1).elim
      · exact (fail_run hr).elim
    · exact (fail_run hr).elim

/-- The run of a region's operations, each after the other. -/
inductive RegRun (P : Program) (Γ : Env) (ops : List Oper) : List Oper → St → List Log → St → Prop
  | nil {σ : St} : RegRun P Γ ops [] σ [] σ
  | cons {o : Oper} {l : List Oper} {σ τ υ : St} {cr : CallR} {lg : Log} {lgs : List Log} (h : (opG Γ ops o).run P cr σ = some ((), τ, lg)) (t : RegRun P Γ ops l τ lgs υ) : RegRun P Γ ops (o :: l) σ (lg :: lgs) υ

theorem regSat_run {ops : List Oper} {l : List Oper} : ∀ {σ : St} {lgs : List Log} {K : St → List Log → Prop}, regSat P Γ ops l σ lgs K → ∃ τ ls, RegRun P Γ ops l σ ls τ ∧ K τ (ls.reverse ++ lgs) := by
  induction l with
  | nil => intro σ lgs K h; exact ⟨σ, [], .nil, h⟩
  | cons o l ih =>
    intro σ lgs K h
    obtain ⟨cr, u, τ, lg, h1, h2⟩ := sat_run P (opG Γ ops o) σ [] _ h
    obtain ⟨υ, ls, h3, h4⟩ := ih h2
    refine ⟨υ, lg :: ls, .cons h1 h3, ?_⟩
    simpa using h4

theorem wpOps_run (hΓ : EnvOk P Γ) {ops : Array Oper} {Q : Exit → Act → World → Prop} (hd : ∀ o ∈ ops, ∀ t, o.dst = some t → t < a.tmps.size) {l : List Oper} {σ τ : St} {lgs : List Log} (hrun : RegRun P Γ ops.toList l σ lgs τ) :
    ∀ (k : Nat) (a' : Act) (w : World) (W : Wit), ops.toList.drop k = l → SR C σ a' w W → W.hand = [] → a'.tmps.size = a.tmps.size → (∀ a' w' W', SR C τ a' w' W' → W'.hand = [] → a'.tmps.size = a.tmps.size → Q .normal a' w') →
      wpOps P ops Q (List.range' k l.length) a' w := by
  induction hrun with
  | nil => intro k a' w W hl h hh hs hQ; exact hQ _ _ W h hh hs
  | cons h1 t ih =>
    rename_i o l σ τ υ cr lg lgs
    intro k a' w W hl h hh hs hQ
    have hk : ops[k]? = some o := by
      have := congrArg (fun l => l[0]?) hl
      simpa using this
    have hl' : ops.toList.drop (k + 1) = l := by
      have := congrArg List.tail hl
      simpa using this
    rw [List.length_cons, List.range'_succ, wpOps_cons]
    unfold wpOp
    simp only [hk]
    have := opG_ok hΓ h hh (fun t ht => by rw [hs]; exact hd o (Array.mem_of_getElem? hk) t ht) h1 (K := wpOps P ops Q (List.range' (k + 1) l.length)) (Q := Q)
      (fun a2 w2 W2 g1 g2 g3 => ih (k + 1) a2 w2 W2 hl' g1 g2 (g3.trans hs) hQ)
    split
    · rename_i hw; rw [if_pos hw] at this; exact .inl this
    · rename_i hw; rw [if_neg hw] at this; exact this

end Go.Vs

namespace Go.Vs

variable {C : Ctx} {σ : St} {a : Act} {w w' : World} {W : Wit} {P : Program} {cr : CallR} {Γ : Env}
variable [HT : TabFact C P]

theorem RegRun.funs {ops l : List Oper} {σ τ : St} {lgs : List Log} (h : RegRun P Γ ops l σ lgs τ) :
    ∃ s : Nat → St, s 0 = σ ∧ s l.length = τ ∧ lgs.length = l.length ∧ ∀ (i : Nat) (o : Oper), l[i]? = some o → ∃ cr lg, lgs[i]? = some lg ∧ (opG Γ ops o).run P cr (s i) = some ((), s (i + 1), lg) := by
  induction h with
  | nil => exact ⟨fun _ => _, rfl, rfl, rfl, by simp⟩
  | cons h t ih =>
    rename_i o l σ τ υ cr lg lgs
    obtain ⟨s, h1, h2, h3, h4⟩ := ih
    refine ⟨fun k => match k with | 0 => σ | k + 1 => s k, rfl, h2, by simp [h3], fun i o' hi => ?_⟩
    cases i with
    | zero =>
      simp at hi; subst hi
      refine ⟨cr, lg, rfl, ?_⟩
      show (opG Γ ops o).run P cr σ = some ((), s 0, lg)
      rw [h1]; exact h
    | succ i =>
      simp at hi
      obtain ⟨cr', lg', h5, h6⟩ := h4 i o' hi
      exact ⟨cr', lg', by simpa using h5, h6⟩

/-! ### The orders -/

theorem conflict1_false {b : Bool} {r : Rs} {l : Log} (h : conflict1 b r l = false) {b' : Bool} {r' : Rs} (hm : (b', r') ∈ l) (hr : r = r') : b = false ∧ b' = false := by
  induction l with
  | nil => simp at hm
  | cons x l ih =>
    obtain ⟨c, q⟩ := x
    simp only [conflict1, Bool.or_eq_false_iff] at h
    rcases List.mem_cons.1 hm with he | hm
    · cases he
      subst hr
      have h1 := h.1
      rw [Rs.eqb_self] at h1
      simpa using h1
    · exact ih h.2 hm

theorem conflict_false {l m : Log} (h : conflict l m = false) {b b' : Bool} {r : Rs} (h1 : (b, r) ∈ l) (h2 : (b', r) ∈ m) : b = false ∧ b' = false := by
  induction l with
  | nil => simp at h1
  | cons x l ih =>
    obtain ⟨c, q⟩ := x
    simp only [conflict, Bool.or_eq_false_iff] at h
    rcases List.mem_cons.1 h1 with he | h1
    · cases he
      exact conflict1_false h.1 h2 rfl
    · exact ih h.2 h1

theorem memNat_iff {n : Nat} {l : List Nat} : memNat n l = true ↔ n ∈ l := by
  induction l with
  | nil => simp [memNat]
  | cons m l ih => simp [memNat, ih]

theorem against_spec {ws : List Nat} {lg : Log} : ∀ {k : Nat} {ms : List Log}, against ws lg k ms = true → ∀ (i : Nat) (m : Log), ms[i]? = some m → conflict m lg = true → (k + i) ∈ ws
  | k, [], _, i, m, hi, _ => by simp at hi
  | k, m0 :: ms, h, i, m, hi, hc => by
    simp only [against, Bool.and_eq_true, Bool.or_eq_true] at h
    cases i with
    | zero =>
      simp at hi; subst hi
      rcases h.1 with h1 | h1
      · simp [hc] at h1
      · simpa using memNat_iff.1 h1
    | succ i =>
      simp at hi
      have := against_spec h.2 i m hi hc
      have e : k + (i + 1) = k + 1 + i := by omega
      rw [e]; exact this

theorem orderFrom_spec : ∀ {done : List Log} {n : Nat} {ops : List Oper} {wss : List (List Nat)} {lgs : List Log}, done.length = n → orderFrom done n ops wss lgs = true →
    ∀ (j : Nat) (o : Oper), ops[j]? = some o → ∃ ws lg, wss[j]? = some ws ∧ lgs[j]? = some lg ∧ (∀ e ∈ edgesOf o, e < n + j) ∧ ∀ (i : Nat) (m : Log), (done.reverse ++ lgs)[i]? = some m → i < n + j → conflict m lg = true → i ∈ ws
  | done, n, [], wss, lgs, _, _, j, o, hj => by simp at hj
  | done, n, o0 :: ops, [], lgs, _, h, j, o, hj => by simp [orderFrom] at h
  | done, n, o0 :: ops, ws0 :: wss, [], _, h, j, o, hj => by simp [orderFrom] at h
  | done, n, o0 :: ops, ws0 :: wss, lg0 :: lgs, hn, h, j, o, hj => by
    simp only [orderFrom, Bool.and_eq_true] at h
    obtain ⟨⟨h1, h2⟩, h3⟩ := h
    cases j with
    | zero =>
      simp at hj; subst hj
      refine ⟨ws0, lg0, rfl, rfl, ?_, ?_⟩
      · intro e he
        have := List.all_eq_true.1 h1 e he
        simpa using this
      · intro i m hi hlt hc
        rw [List.getElem?_append_left (by simp; omega)] at hi
        have := against_spec h2 i m hi hc
        simpa using this
    | succ j =>
      simp at hj
      obtain ⟨ws, lg, k1, k2, k3, k4⟩ := orderFrom_spec (done := lg0 :: done) (n := n + 1) (by simp [hn]) h3 j o hj
      refine ⟨ws, lg, by simpa using k1, by simpa using k2, ?_, ?_⟩
      · intro e he; have := k3 e he; omega
      · intro i m hi hlt hc
        refine k4 i m ?_ (by omega) hc
        simpa using hi

theorem mem_closeUp {acc : List (List Nat)} {es : List Nat} {k : Nat} (h : k ∈ closeUp acc es) : ∃ e ∈ es, k = e ∨ k ∈ (acc.reverse[e]?).getD [] := by
  induction es with
  | nil => simp [closeUp] at h
  | cons e es ih =>
    simp only [closeUp, List.cons_append, List.mem_cons, List.mem_append] at h
    rcases h with h | h | h
    · exact ⟨e, by simp, .inl h⟩
    · exact ⟨e, by simp, .inr h⟩
    · obtain ⟨e', h1, h2⟩ := ih h
      exact ⟨e', by simp [h1], h2⟩

/-- A set that holds with each its direct waits holds all its waits. -/
theorem waits_closed {L : Nat → Prop} : ∀ {acc : List (List Nat)} {ops : List Oper}, (∀ (j : Nat) (o : Oper), ops[j]? = some o → L (acc.length + j) → ∀ e ∈ edgesOf o, L e) →
    (∀ (j : Nat) (ws : List Nat), acc.reverse[j]? = some ws → L j → ∀ k ∈ ws, L k) → ∀ (j : Nat) (ws : List Nat), (waits acc ops)[j]? = some ws → L j → ∀ k ∈ ws, L k
  | acc, [], _, hacc, j, ws, hj, hL, k, hk => hacc j ws hj hL k hk
  | acc, o :: ops, hops, hacc, j, ws, hj, hL, k, hk => by
    refine waits_closed (acc := closeUp acc (edgesOf o) :: acc) (ops := ops) ?_ ?_ j ws hj hL k hk
    · intro j' o' ho' hL' e he
      refine hops (j' + 1) o' (by simpa using ho') ?_ e he
      simp only [List.length_cons] at hL'
      rw [show acc.length + (j' + 1) = acc.length + 1 + j' by omega]
      exact hL'
    · intro j' ws' hw hL' k' hk'
      rw [List.reverse_cons] at hw
      by_cases hlt : j' < acc.reverse.length
      · rw [List.getElem?_append_left hlt] at hw
        exact hacc j' ws' hw hL' k' hk'
      · rw [List.getElem?_append_right (by omega)] at hw
        have hj0 : j' - acc.reverse.length = 0 := by
          rcases Nat.eq_zero_or_pos (j' - acc.reverse.length) with h | h
          · exact h
          · rw [List.getElem?_eq_none (by simp; simp at h; omega)] at hw; cases hw
        rw [hj0] at hw
        simp at hw
        subst hw
        have hjj : j' = acc.length := by simp at hlt hj0; omega
        obtain ⟨e, he, hke⟩ := mem_closeUp hk'
        have hLe := hops 0 o (by simp) (by rw [hjj] at hL'; simpa using hL') e he
        rcases hke with rfl | hke
        · exact hLe
        · cases hr : acc.reverse[e]? with
          | none => rw [hr] at hke; simp at hke
          | some ws2 =>
            rw [hr] at hke
            exact hacc e ws2 hr hLe k' (by simpa using hke)

end Go.Vs
