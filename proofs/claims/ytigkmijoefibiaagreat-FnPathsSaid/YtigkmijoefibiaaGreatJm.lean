/- Contracts of functions of the program: no statement of the seat is proved here. Each under the conditions that stand in it. -/
import Derived.Test.YtigkmijoefibiaaGreatM8
import Derived.Test.YtigkmijoefibiaaGreatHa
set_option linter.all false
namespace Go.Proofs.YtigkmijoefibiaaGreat
open Go.Vs Go.Proofs
/-! slices.DeleteFunc: its contract -/
section
open Go.Lib Go.Shelf Go.RowKit
def keptC {α : Type} (p : α → Bool) : List α → List Value → List Value
  | [], _ => []
  | x :: l, c => (if p x = true then [] else c.take 3) ++ keptC p l (c.drop 3)
theorem keptC_rep {α : Type} {C : α → List AV} (hC : ∀ x, (C x).length = 3) (p : α → Bool) {w : World} {β : Nat → Option Nat} {S : Nat → Prop} : ∀ {l : List α} {c : List Value} {fi : List Nat}, Rep w β S (l.map C).flatten (c.take (l.length * 3)) fi →
    ∃ fi', fi'.Sublist fi ∧ Rep w β S ((l.filter fun x => !p x).map C).flatten (keptC p l c) fi'
  | [], c, fi, h => by
    have h' : Rep w β S [] (c.take 0) fi := h
    rw [List.take_zero] at h'
    cases h'
    exact ⟨[], List.Sublist.refl _, .nil⟩
  | x :: l, c, fi, h => by
    have h' : Rep w β S (C x ++ (l.map C).flatten) (c.take ((l.length + 1) * 3)) fi := h
    rw [show (l.length + 1) * 3 = 3 + l.length * 3 by omega, List.take_add] at h'
    obtain ⟨v1, v2, f1, f2, e1, rfl, h1, h2⟩ := h'.split
    have hl1 : v1.length = 3 := by rw [← h1.length, hC]
    have hl3 : (c.take 3).length = 3 := by
      have h3 := congrArg List.length e1
      have h4 := h2.length
      have h5 : (l.map C).flatten.length = l.length * 3 := by
        have : ∀ m : List α, (m.map C).flatten.length = m.length * 3 := by
          intro m
          induction m with
          | nil => rfl
          | cons y m ih => simp [hC, ih]; omega
        exact this l
      simp only [List.length_append, List.length_take, List.length_drop] at h3 ⊢
      omega
    obtain ⟨rfl, rfl⟩ := List.append_inj e1 (hl3.trans hl1.symm)
    obtain ⟨fi', g1, g2⟩ := keptC_rep hC p h2
    cases hp : p x with
    | true =>
      refine ⟨fi', g1.trans (List.sublist_append_right _ _), ?_⟩
      simp only [keptC, hp, if_true, List.nil_append]
      rw [List.filter_cons, if_neg (by simp [hp])]
      exact g2
    | false =>
      refine ⟨f1 ++ fi', List.Sublist.append (List.Sublist.refl _) g1, ?_⟩
      simp only [keptC, hp, Bool.false_eq_true, if_false]
      rw [List.filter_cons, if_pos (by simp [hp])]
      exact h1.append g2
theorem keptC_kL {α : Type} (p : α → Bool) (kp : Nat → Bool) (c : List Value) : ∀ (l : List α) (a : Nat), (∀ t x, l[t]? = some x → kp (a + t) = !p x) → keptC p l (c.drop (a * 3)) = ((List.range' a l.length).filter kp).flatMap fun t => (c.drop (t * 3)).take 3
  | [], a, _ => rfl
  | x :: l, a, h => by
    have h0 := h 0 x rfl
    rw [Nat.add_zero] at h0
    have ih := keptC_kL p kp c l (a + 1) (fun t y ht => by
      have := h (t + 1) y (by simpa using ht)
      rw [← this]; congr 1; omega)
    rw [keptC, List.drop_drop, show a * 3 + 3 = (a + 1) * 3 by omega, ih, List.length_cons, List.range'_succ, List.filter_cons]
    cases hp : p x with
    | true => rw [h0, hp]; simp
    | false => rw [h0, hp]; simp
theorem kL_keptC {α : Type} (p : α → Bool) (kp : Nat → Bool) (c : List Value) (l : List α) (h : ∀ t x, l[t]? = some x → kp t = !p x) : kL kp c l.length = keptC p l c ∧ (kI kp l.length).length = (l.filter fun x => !p x).length := by
  have h1 := keptC_kL p kp c l 0 (fun t x ht => by rw [Nat.zero_add]; exact h t x ht)
  simp only [Nat.zero_mul, List.drop_zero] at h1
  refine ⟨by rw [h1, kL, kI, List.range_eq_range'], ?_⟩
  have : ∀ (l : List α) (a : Nat), (∀ t x, l[t]? = some x → kp (a + t) = !p x) → ((List.range' a l.length).filter kp).length = (l.filter fun x => !p x).length := by
    intro l
    induction l with
    | nil => intro a _; rfl
    | cons x l ih =>
      intro a ha
      have h0 := ha 0 x rfl
      rw [Nat.add_zero] at h0
      have := ih (a + 1) (fun t y ht => by
        have := ha (t + 1) y (by simpa using ht)
        rw [← this]; congr 1; omega)
      rw [List.length_cons, List.range'_succ, List.filter_cons, List.filter_cons, h0]
      cases p x <;> simp [this]
  rw [kI, List.range_eq_range']
  exact this l 0 (fun t x ht => by rw [Nat.zero_add]; exact h t x ht)
theorem flat_at {α : Type} {C : α → List AV} (hC : ∀ x, (C x).length = 3) {w : World} {β : Nat → Option Nat} {S : Nat → Prop} : ∀ {l : List α} {c : List Value} {fi : List Nat} {j : Nat} {x : α}, Rep w β S (l.map C).flatten c fi → l[j]? = some x →
    ∃ f, (∀ b ∈ f, b ∈ fi) ∧ Rep w β S (C x) ((c.drop (j * 3)).take 3) f
  | [], c, fi, j, x, _, hj => by simp at hj
  | y :: l, c, fi, 0, x, h, hj => by
    simp at hj; subst hj
    obtain ⟨v1, v2, f1, f2, rfl, rfl, h1, h2⟩ := (show Rep w β S (C y ++ (l.map C).flatten) c fi from h).split
    have hl1 : v1.length = 3 := by rw [← h1.length, hC]
    refine ⟨f1, fun b hb => by simp [hb], ?_⟩
    rw [Nat.zero_mul, List.drop_zero, ← hl1, List.take_left]
    exact h1
  | y :: l, c, fi, j + 1, x, h, hj => by
    obtain ⟨v1, v2, f1, f2, rfl, rfl, h1, h2⟩ := (show Rep w β S (C y ++ (l.map C).flatten) c fi from h).split
    have hl1 : v1.length = 3 := by rw [← h1.length, hC]
    obtain ⟨f, g1, g2⟩ := flat_at hC h2 (show l[j]? = some x by simpa using hj)
    refine ⟨f, fun b hb => by simp [g1 b hb], ?_⟩
    rw [show (j + 1) * 3 = v1.length + j * 3 by omega, List.drop_append, List.drop_of_length_le (by omega)]
    simpa using g2
end
theorem owd_inv {w : World} {S : Nat → Prop} {els : List (List AV)} {v : Value} {f : List Nat} (h : Rep w (fun _ => none) S [.sl true .unk 3 els] [v] f) (he : els ≠ []) :
    ∃ g n cap cur T fi, v = .slice (some ⟨g, 0, none⟩) n cap ∧ f = g :: fi ∧ w.heap[g]? = some (.cells cur T (0, 0)) ∧ els.length = n ∧ n ≤ cap ∧ cap ≤ maxLen ∧ cap * 3 ≤ cur.size ∧ Rep w (fun _ => none) S els.flatten (cur.toList.take (n * 3)) fi := by
  cases h with
  | nils _ t => exact absurd rfl he
  | @owd _ _ nf sz g n cap els cur T _ _ fi _ hnf hgc hn hsz hpos hcap hmax hcur hinr t =>
    cases t
    exact ⟨g, n, cap, cur, T, fi, rfl, by simp, hgc, hn, hcap, hmax, hcur, hinr⟩
theorem findS {α : Type} {p : α → Bool} : ∀ (l : List α), l.any p = false ∨ ∃ d x r, l = d ++ x :: r ∧ d.any p = false ∧ p x = true
  | [] => .inl rfl
  | x :: l => by
    cases h : p x with
    | true => exact .inr ⟨[], x, l, rfl, rfl, h⟩
    | false =>
      rcases findS (p := p) l with h1 | ⟨d, y, r, rfl, h2, h3⟩
      · exact .inl (by simp [h, h1])
      · exact .inr ⟨x :: d, y, r, rfl, by simp [h, h2], h3⟩
section
open Go.Lib Go.Shelf Go.RowKit
set_option maxHeartbeats 8000000 in
set_option maxRecDepth 100000 in
theorem delN_Rout (w : World) (s : Value) (hs : ∃ a n c, s = .slice a n c) (d : FuncId) (lb : Array Value)
    (hIF : Calls Tryz.prog 177 #[s, .func (.func d) #[] lb] w fun e w' => e = .returned (.int .i64 (-1)) ∧ Keeps w w' []) :
    Calls Tryz.prog 161 #[s, .func (.func d) #[] lb] w fun e w' => e = .returned s ∧ Keeps w w' [] := by
  have mixed := mixed
  obtain ⟨a, n, c, rfl⟩ := hs
  have eIF : ∀ args w, (callFunc 177 args).run Tryz.prog w = .ok (.enter 177 args) w := enters_of Tryz.func177 (by kernel_rfl) rfl
  go_enter Tryz.func161, Tryz.ntmps161
  go_wp2_with (go_at_fn (177); refine hIF.mono ?_; rintro e w' ⟨rfl, hkw⟩)
  go_ret
  exact ⟨rfl, hkw⟩
end
theorem is161 : FI 161 Tryz.f161 := ⟨⟨Tryz.f161, Tryz.func161, rfl, rfl, rfl, rfl⟩, rfl⟩
set_option maxHeartbeats 8000000 in
theorem DeleteFunc_Rout {l : List Rout} (hl : l.length ≤ 1099511627776) {d : FuncId} {caps : List AV} {p : Rout → Bool} (hd : FnOk Tryz.prog d)
    (hg : ∀ x ∈ l, FO d (A (Rout.c false x) :: capArgs caps) (A (Rout.c false x) :: capArgs caps) (B (p x)))
    (hI : FO 177 [O (sl false 3 (l.map (Rout.c false))), O (.clo d caps)] [O (sl false 3 (l.map (Rout.c false))), O (.clo d caps)] (I (findI p l 0))) :
    FO 161 [O (sl true 3 (l.map (Rout.c true))), O (.clo d caps)] [O .any, O (.clo d caps)] (O (sl true 3 ((l.filter fun x => !p x).map (Rout.c true)))) := by
  obtain ⟨fn, hf, hb, hrs, hnt, hname⟩ := is161.ex
  refine ⟨⟨fn, _, hf, hb, hname⟩, fun w S vals fp hS hnd hfp hreps hgl => ?_⟩
  have ed : ∀ args w, (callFunc d args).run Tryz.prog w = .ok (.enter d args) w := fun args w => run_callFunc_enter hd args
  generalize haa : [O (sl true 3 (l.map (Rout.c true))), O (AV.clo d caps)] = aa at hreps
  cases hreps with
  | nil => cases haa
  | @cons s1 as1 vs1 f1 args1 vals1 fps1 h1 t1 =>
    obtain ⟨e1, e2⟩ := List.cons.inj haa
    cases e1
    cases e2
    cases t1 with
    | @cons s2 as2 vs2 f2 args2 vals2 fps2 h2 t2 =>
      cases t2
      cases h2 with
      | @clo _ _ _ _ cvs _ _ _ hin tl =>
        cases tl
        simp only [List.append_nil] at hS hnd hfp
        obtain ⟨v, rfl⟩ := h1.one_iff
        have hvs : ∀ {u : World} {S2 : Nat → Prop} {v : Value}, Rep u (fun _ => none) S2 [sl true 3 (l.map (Rout.c true))] [v] f1 → True := fun _ => trivial
        have hsh := h1.shc (S' := fun b => S b ∨ b ∈ f1) (fun b hb => .inl hb) (fun b hb => .inr hb)
        rw [show shcL [sl true 3 (l.map (Rout.c true))] = [sl false 3 (l.map (Rout.c false))] by simp [shcL, Vs.shc, Rout.shcs]] at hsh
        have hclS : Rep w (fun _ => none) (fun b => S b ∨ b ∈ f1) [.clo d caps] [.func (.func d) #[] cvs.toArray] [] := (Rep.clo hin .nil).mono (fun b hb => ⟨.inl hb, rfl⟩) (by simp) (fun _ _ h => h)
        have hSlt : ∀ b, (S b ∨ b ∈ f1) → b < w.heap.size := fun b hb => hb.elim (fun h => (hS b h).1) (fun h => hfp b h)
        have hIF0 := hI.2 w (fun b => S b ∨ b ∈ f1) [shVal .one [v], shVal .one [.func (.func d) #[] cvs.toArray]] [] (fun b hb => ⟨hSlt b hb, by simp⟩) (by simp) (by simp) (Reps.cons (fp := []) hsh (Reps.cons (fp := []) hclS .nil)) (fun g cs hg => ⟨.inl (hgl g cs hg).1, (hgl g cs hg).2⟩)
        have hIF : Calls Tryz.prog 177 #[v, .func (.func d) #[] cvs.toArray] w fun e w' => e = .returned (.int .i64 (findI p l 0)) ∧ Keeps w w' [] := by
          refine hIF0.mono ?_
          rintro e w' ⟨rvs, fpr, fp', rfl, -, hk, -, -, hres, -⟩
          cases hres with
          | v _ tl => cases tl; exact ⟨rfl, hk⟩
        have hcalls : ∀ (u : World) (g : Nat) (fi : List Nat) (cur : Array Value) (j : Nat) (v0 v1 v2 : Value) (x : Rout), l[j]? = some x → Keeps w u [g] → (∀ b, S b → b ≠ g) → (∀ b ∈ fi, b ≠ g) → (∀ b ∈ fi, b < w.heap.size) → Rep w (fun _ => none) S (l.map (Rout.c true)).flatten (cur.toList.take (l.length * 3)) fi →
            cur.toList[j * 3]? = some v0 → cur.toList[j * 3 + 1]? = some v1 → cur.toList[j * 3 + 2]? = some v2 → Calls Tryz.prog d (#[.agg #[v0, v1, v2]] ++ cvs.toArray) u fun e u' => e = .returned (.bool (p x)) ∧ Keeps u u' [] := by
          intro u g fi cur j v0 v1 v2 x hj hk hSg hfg hflt hrep h0 h1 h2
          have hjl : j < l.length := (List.getElem?_eq_some_iff.1 hj).1
          obtain ⟨f, hf1, hf2⟩ := flat_at (fun _ => rfl) hrep hj
          have e3 : ((cur.toList.take (l.length * 3)).drop (j * 3)).take 3 = [v0, v1, v2] := by
            have g0 := (List.getElem?_eq_some_iff.1 h0)
            have g1 := (List.getElem?_eq_some_iff.1 h1)
            have g2 := (List.getElem?_eq_some_iff.1 h2)
            rw [List.drop_take, List.take_take, List.drop_eq_getElem_cons g0.1, List.drop_eq_getElem_cons g1.1, List.drop_eq_getElem_cons g2.1, g0.2, g1.2, g2.2]
            rw [show min 3 (l.length * 3 - j * 3) = 3 by omega]
            rfl
          rw [e3] at hf2
          have hx2 := (hf2.shc (S' := fun b => S b ∨ b ∈ fi) (fun b hb => .inl hb) (fun b hb => .inr (hf1 b hb)))
          rw [Rout.shc] at hx2
          have hmo : ∀ b, (S b ∨ b ∈ fi) → u.heap[b]? = w.heap[b]? := fun b hb => hk.block b (hb.elim (fun h => (hS b h).1) (hflt b)) (by
            simp only [List.mem_singleton]
            exact hb.elim (hSg b) (hfg b))
          have hx3 := hx2.mono (w' := u) (S' := fun b => S b ∨ b ∈ fi) (β' := fun _ => none) (fun b hb => ⟨hb, hmo b hb⟩) (by simp) (fun _ _ h => h)
          have hc3 := Reps.caps (hin.mono (w' := u) (S' := fun b => S b ∨ b ∈ fi) (β' := fun _ => none) (fun b hb => ⟨.inl hb, hmo b (.inl hb)⟩) (by simp) (fun _ _ h => h))
          have hc := (hg x (List.mem_of_getElem? hj)).2 u (fun b => S b ∨ b ∈ fi) (shVal .agg [v0, v1, v2] :: cvs) [] (fun b hb => ⟨Nat.lt_of_lt_of_le (hb.elim (fun h => (hS b h).1) (hflt b)) hk.size, by simp⟩) (by simp) (by simp) (Reps.cons (fp := []) hx3 hc3) (fun g' cs hg' => ⟨.inl (hgl g' cs hg').1, by rw [hmo g' (.inl (hgl g' cs hg').1)]; exact (hgl g' cs hg').2⟩)
          have hva : (shVal .agg [v0, v1, v2] :: cvs).toArray = #[.agg #[v0, v1, v2]] ++ cvs.toArray := by simp [shVal]
          rw [hva] at hc
          refine hc.mono ?_
          rintro e w' ⟨rvs, fpr, fp', rfl, -, hk, -, -, hres, -⟩
          cases hres with
          | v _ tl => cases tl; exact ⟨rfl, hk⟩
        have hany : ∀ {w' : World} {S' : Nat → Prop}, (∀ b, S b → S' b ∧ w'.heap[b]? = w.heap[b]?) → Reps w' S' [O .any, O (.clo d caps)] [shVal .one [v], shVal .one [.func (.func d) #[] cvs.toArray]] [] := fun hS' =>
          Reps.cons (fp := []) (.any h1.oneCell .nil) (Reps.cons (fp := []) ((Rep.clo hin .nil).mono hS' (by simp) (fun _ _ h => h)) .nil)
        show Calls Tryz.prog 161 #[v, .func (.func d) #[] cvs.toArray] w _
        rcases findS (p := p) l with q1 | ⟨dd, x, r, hll, q2, q3⟩
        · -- nothing is struck
          rw [findI_none q1] at hIF
          have hflt : (l.filter fun x => !p x) = l := by
            rw [List.filter_eq_self]
            intro a ha
            rw [List.any_eq_false] at q1
            have := q1 a ha
            simpa using this
          rw [hflt]
          have hsv : ∃ a n c, v = .slice a n c := by
            obtain ⟨a, n, c, e, -⟩ := h1.sl_len
            exact ⟨a, n, c, e⟩
          refine (delN_Rout w v hsv d cvs.toArray hIF).mono ?_
          rintro e w' ⟨rfl, hk⟩
          have hS' : ∀ b, S b → ((S b ∨ b ∈ f1 ∨ w.heap.size ≤ b) ∧ b < w'.heap.size ∧ b ∉ f1 ++ []) ∧ w'.heap[b]? = w.heap[b]? := fun b hb =>
            ⟨⟨.inl hb, Nat.lt_of_lt_of_le (hS b hb).1 hk.size, by simpa using (hS b hb).2⟩, hk.block b (hS b hb).1 (by simp)⟩
          simp only [List.append_nil] at hS'
          refine ⟨[v], f1, [], rfl, rfl, ⟨hk.os, hk.tape, hk.output, hk.size, fun b hb _ => hk.block b hb (by simp)⟩, by simpa using hnd, ?_, ?_, ?_⟩
          · intro b hb
            simp only [List.append_nil] at hb
            exact ⟨.inl (by simpa using hb), Nat.lt_of_lt_of_le (hfp b hb) hk.size⟩
          · exact h1.mono (fun b hb => by simpa using hS' b hb) (fun b hb => hk.block b (hfp b hb) (by simp)) (fun _ _ h => h)
          · exact hany (fun b hb => by simpa using hS' b hb)
        · have hne : l ≠ [] := by rw [hll]; simp
          obtain ⟨g, n, cap, cur, T, fi, rfl, rfl, hgc, hn, hcap, hmax, hcur, hinr⟩ := owd_inv h1 (by simpa using hne)
          · simp only [List.append_nil] at *
            have hnl : l.length = n := by simpa using hn
            subst hnl
            have hSg : ∀ b, S b → b ≠ g := fun b hb he => (hS b hb).2 (by simp [he])
            have hfg : ∀ b ∈ fi, b ≠ g := fun b hb he => (List.nodup_cons.1 hnd).1 (he ▸ hb)
            have hflt : ∀ b ∈ fi, b < w.heap.size := hinr.fp_lt
            have hn3 : l.length * 3 ≤ cur.size := Nat.le_trans (Nat.mul_le_mul_right _ hcap) hcur
            have hfi : findI p l 0 = (dd.length : Int) := by
              have := findI_at q2 q3 0 (r := r)
              rw [← hll] at this; omega
            rw [hfi] at hIF
            have hddl : dd.length < l.length := by rw [hll]; simp
            have hone : ∀ v ∈ cur.toList.take (l.length * 3), v.oneCell' = true := hinr.oneCells
            have hkp : ∀ (t : Nat) (y : Rout), l[t]? = some y → (match l[t]? with | some z => !p z | none => false) = !p y := fun t y ht => by rw [ht]
            have hw := del_Rout w g l.length cap cur T d cvs.toArray (fun t => match l[t]? with | some z => !p z | none => false) dd.length hgc hn3 hl hcap hone ed hIF hddl
              (by
                have : l[dd.length]? = some x := by rw [hll]; simp
                rw [hkp _ _ this, q3]; rfl)
              (by
                intro j hj
                have hj2 : l[j]? = some (dd[j]'hj) := by rw [hll, List.getElem?_append_left hj, List.getElem?_eq_getElem hj]
                rw [hkp _ _ hj2]
                rw [List.any_eq_false] at q2
                have := q2 _ (List.getElem_mem hj)
                simpa using this)
              (by
                intro u j v0 v1 v2 hj h0 h1 h2 hk
                obtain ⟨y, hy⟩ : ∃ y, l[j]? = some y := ⟨_, List.getElem?_eq_getElem hj⟩
                have := hcalls u g fi cur j v0 v1 v2 y hy hk hSg hfg hflt hinr h0 h1 h2
                rw [hkp _ _ hy, Bool.not_not]
                exact this)
            refine hw.mono ?_
            rintro e w' ⟨rfl, hk, cj, hgj, hcs, hct⟩
            obtain ⟨e1, e2⟩ := kL_keptC p (fun t => match l[t]? with | some z => !p z | none => false) cur.toList l hkp
            obtain ⟨fi', hsub, hrep⟩ := keptC_rep (fun _ => rfl) p hinr
            rw [e1] at hct
            rw [e2] at hct ⊢
            have hfi' : ∀ b ∈ fi', b ∈ fi := fun b hb => hsub.subset hb
            have hgs : g < w'.heap.size := (Array.getElem?_eq_some_iff.1 hgj).1
            have hS' : ∀ b, S b → ((S b ∨ b ∈ g :: fi ∨ w.heap.size ≤ b) ∧ b < w'.heap.size ∧ b ∉ g :: fi') ∧ w'.heap[b]? = w.heap[b]? := fun b hb =>
              ⟨⟨.inl hb, Nat.lt_of_lt_of_le (hS b hb).1 hk.size, fun h => (hS b hb).2 (by
                rcases List.mem_cons.1 h with rfl | h
                · simp
                · simp [hfi' b h])⟩, hk.block b (hS b hb).1 (by simpa using hSg b hb)⟩
            have hrep' := hrep.mono (w' := w') (S' := fun b => (S b ∨ b ∈ g :: fi ∨ w.heap.size ≤ b) ∧ b < w'.heap.size ∧ b ∉ g :: fi') (β' := fun _ => none) hS' (fun b hb => hk.block b (hflt b (hfi' b hb)) (by simpa using hfg b (hfi' b hb))) (fun _ _ h => h)
            rw [← hct] at hrep'
            have hlen2 : (l.filter fun x => !p x).length ≤ l.length := List.length_filter_le _ _
            have howd := Rep.owd (β := fun _ => none) (nf := NF.unk) (sz := 3) (n := (l.filter fun x => !p x).length) (cap := cap) (els := (l.filter fun x => !p x).map (Rout.c true)) (by simp) hgj (by simp) (by intro el he; obtain ⟨y, _, rfl⟩ := List.mem_map.1 he; rfl) (by decide) (Nat.le_trans hlen2 hcap) hmax (by rw [hcs]; exact hcur) hrep' .nil
            refine ⟨[.slice (some ⟨g, 0, none⟩) (l.filter fun x => !p x).length cap], g :: fi', [], rfl, rfl, ⟨hk.os, hk.tape, hk.output, hk.size, fun b hb hb2 => hk.block b hb (by
              simp only [List.mem_singleton]
              rintro rfl
              exact hb2 (by simp))⟩, ?_, ?_, ?_, ?_⟩
            · rw [List.append_nil]
              exact List.Sublist.nodup (hsub.cons₂ g) hnd
            · intro b hb
              rw [List.append_nil] at hb
              rcases List.mem_cons.1 hb with rfl | hb
              · exact ⟨.inl (by simp), hgs⟩
              · exact ⟨.inl (by simp [hfi' b hb]), Nat.lt_of_lt_of_le (hflt b (hfi' b hb)) hk.size⟩
            · simp only [List.append_nil] at howd ⊢
              exact howd
            · simp only [List.append_nil]
              exact hany hS'
end Go.Proofs.YtigkmijoefibiaaGreat
