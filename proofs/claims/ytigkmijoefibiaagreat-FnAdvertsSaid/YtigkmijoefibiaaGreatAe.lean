/- Contracts of functions of the program: no statement of the seat is proved here. Each under the conditions that stand in it. -/
import Derived.Test.YtigkmijoefibiaaGreatAb
import Derived.Test.YtigkmijoefibiaaGreatAd
import Derived.Test.YtigkmijoefibiaaGreatDm
set_option linter.all false
namespace Go.Proofs.YtigkmijoefibiaaGreat
open Go.Vs Go.Proofs
/-! slices.Insert: its contract -/
section
open Go.Lib Go.Shelf Go.RowKit
theorem rep_splitAt {α : Type} {C : α → List AV} (hC : ∀ x, (C x).length = 4) {w : World} {β : Nat → Option Nat} {S : Nat → Prop} {l : List α} {cs : List Value} {fi : List Nat} (h : Rep w β S (l.map C).flatten cs fi) (i : Nat) (hi : i ≤ l.length) :
    ∃ fa fb, fi = fa ++ fb ∧ Rep w β S ((l.take i).map C).flatten (cs.take (i * 4)) fa ∧ Rep w β S ((l.drop i).map C).flatten (cs.drop (i * 4)) fb := by
  have hfl : ∀ m : List α, (m.map C).flatten.length = m.length * 4 := by
    intro m
    induction m with
    | nil => rfl
    | cons y m ih => simp [hC, ih]; omega
  have h' : Rep w β S (((l.take i).map C).flatten ++ ((l.drop i).map C).flatten) cs fi := by
    rw [← List.flatten_append, ← List.map_append, List.take_append_drop]; exact h
  obtain ⟨v1, v2, f1, f2, rfl, rfl, h1, h2⟩ := h'.split
  have hl1 : v1.length = i * 4 := by rw [← h1.length, hfl]; simp; omega
  refine ⟨f1, f2, rfl, ?_, ?_⟩
  · rw [← hl1, List.take_left]; exact h1
  · rw [← hl1, List.drop_left]; exact h2
theorem ins_fin {l : List Adve} {a : Adve} {i : Nat} (hi : i ≤ l.length) {w w' : World} {S : Nat → Prop} {v1 v3 : Value} {f1 f3 fi fi3 K : List Nat} {cs vs : List Value} {g' cap' : Nat} {cj : Array Value} {T : TypeId}
    (hS : ∀ b, S b → b < w.heap.size ∧ b ∉ f1 ++ f3) (hnd : (f1 ++ f3).Nodup) (hfp : ∀ b ∈ f1 ++ f3, b < w.heap.size)
    (o1 : v1.oneCell' = true) (o3 : v3.oneCell' = true)
    (hk : Keeps w w' K) (hK : ∀ b ∈ K, b ∈ f1 ∧ b ∉ fi) (hfi : fi.Sublist f1) (hfi3 : fi3.Sublist f3) (hg' : (g' ∈ f1 ∧ g' ∉ fi) ∨ w.heap.size ≤ g')
    (hinr : Rep w (fun _ => none) S (l.map (Adve.c true)).flatten cs fi) (hin3 : Rep w (fun _ => none) S (Adve.c true a) vs fi3)
    (hgj : w'.heap[g']? = some (.cells cj T (0, 0))) (hcap : l.length + 1 ≤ cap') (hmax : cap' ≤ maxLen) (hsz : cap' * 4 ≤ cj.size)
    (hct : cj.toList.take ((l.length + 1) * 4) = cs.take (i * 4) ++ vs ++ cs.drop (i * 4)) :
    FPost w S [v1, .int .i64 i, v3] (f1 ++ f3) [O .any, I i, O .any] (O (sl true 4 ((l.take i ++ a :: l.drop i).map (Adve.c true)))) (.returned (.slice (some ⟨g', 0, none⟩) (l.length + 1) cap')) w' := by
  obtain ⟨fa, fb, rfl, ha, hb⟩ := rep_splitAt (C := Adve.c true) (fun _ => rfl) hinr i hi
  have hgs : g' < w'.heap.size := (Array.getElem?_eq_some_iff.1 hgj).1
  have hnd2 := List.nodup_append.1 hnd
  have hin1 : ∀ b, b ∈ fa ++ fb → b ∈ f1 := fun b h => hfi.subset h
  have hin3' : ∀ b, b ∈ fi3 → b ∈ f3 := fun b h => hfi3.subset h
  have hdis : ∀ b, b ∈ f1 → b ∈ f3 → False := fun b h1 h2 => hnd2.2.2 b h1 b h2 rfl
  have hnew : ∀ b, b ∈ fa ++ (fi3 ++ fb) → (b ∈ fa ++ fb ∨ b ∈ fi3) := fun b h => by
    simp only [List.mem_append] at h ⊢
    rcases h with h | h | h
    · exact .inl (.inl h)
    · exact .inr h
    · exact .inl (.inr h)
  have hnK : ∀ b, b ∈ fa ++ (fi3 ++ fb) → b ∉ K := fun b h hb => by
    rcases hnew b h with h | h
    · exact (hK b hb).2 h
    · exact hdis b (hK b hb).1 (hin3' b h)
  have hold : ∀ b, b ∈ fa ++ (fi3 ++ fb) → b ∈ f1 ++ f3 := fun b h => by
    rcases hnew b h with h | h
    · exact List.mem_append_left _ (hin1 b h)
    · exact List.mem_append_right _ (hin3' b h)
  have hgn : g' ∉ fa ++ (fi3 ++ fb) := fun h => by
    rcases hg' with ⟨h1, h2⟩ | h1
    · rcases hnew _ h with h | h
      · exact h2 h
      · exact hdis _ h1 (hin3' _ h)
    · exact absurd (hfp _ (hold _ h)) (by omega)
  have hSn : ∀ b, S b → b ∉ g' :: (fa ++ (fi3 ++ fb)) := fun b hb h => by
    rcases List.mem_cons.1 h with rfl | h
    · rcases hg' with ⟨h1, -⟩ | h1
      · exact (hS _ hb).2 (List.mem_append_left _ h1)
      · exact absurd (hS _ hb).1 (by omega)
    · exact (hS b hb).2 (hold b h)
  have hSk : ∀ b, S b → w'.heap[b]? = w.heap[b]? := fun b hb => hk.block b (hS b hb).1 (fun h => (hS b hb).2 (List.mem_append_left _ (hK b h).1))
  have hS' : ∀ b, S b → ((S b ∨ b ∈ f1 ++ f3 ∨ w.heap.size ≤ b) ∧ b < w'.heap.size ∧ b ∉ (g' :: (fa ++ (fi3 ++ fb))) ++ []) ∧ w'.heap[b]? = w.heap[b]? := fun b hb =>
    ⟨⟨.inl hb, Nat.lt_of_lt_of_le (hS b hb).1 hk.size, by rw [List.append_nil]; exact hSn b hb⟩, hSk b hb⟩
  have hflat := ha.append (hin3.append hb)
  have hmo := hflat.mono (w' := w') (S' := fun b => (S b ∨ b ∈ f1 ++ f3 ∨ w.heap.size ≤ b) ∧ b < w'.heap.size ∧ b ∉ (g' :: (fa ++ (fi3 ++ fb))) ++ []) (β' := fun _ => none) hS' (fun b h => hk.block b (hfp b (hold b h)) (hnK b h)) (fun _ _ h => h)
  have hel : ((l.take i).map (Adve.c true)).flatten ++ (Adve.c true a ++ ((l.drop i).map (Adve.c true)).flatten) = ((l.take i ++ a :: l.drop i).map (Adve.c true)).flatten := by simp
  rw [List.append_assoc] at hct
  rw [hel, ← hct] at hmo
  have hlen : ((l.take i ++ a :: l.drop i).map (Adve.c true)).length = l.length + 1 := by simp; omega
  have howd := Rep.owd (β := fun _ => none) (nf := NF.unk) (sz := 4) (n := l.length + 1) (cap := cap') (els := (l.take i ++ a :: l.drop i).map (Adve.c true)) (by simp) hgj hlen (by intro el he; obtain ⟨y, _, rfl⟩ := List.mem_map.1 he; rfl) (by decide) hcap hmax hsz hmo .nil
  refine ⟨[.slice (some ⟨g', 0, none⟩) (l.length + 1) cap'], g' :: (fa ++ (fi3 ++ fb)), [], rfl, rfl, ⟨hk.os, hk.tape, hk.output, hk.size, fun b hb hb2 => hk.block b hb (fun h => hb2 (List.mem_append_left _ (hK b h).1))⟩, ?_, ?_, ?_, ?_⟩
  · rw [List.append_nil]
    refine List.nodup_cons.2 ⟨hgn, ?_⟩
    have n1 := List.nodup_append.1 (hfi.nodup hnd2.1)
    have n3 := hfi3.nodup hnd2.2.1
    refine List.nodup_append.2 ⟨n1.1, List.nodup_append.2 ⟨n3, n1.2.1, fun x hx y hy e => ?_⟩, fun x hx y hy e => ?_⟩
    · subst e; exact hdis x (hin1 x (List.mem_append_right _ hy)) (hin3' x hx)
    · subst e
      rcases List.mem_append.1 hy with hy | hy
      · exact hdis x (hin1 x (List.mem_append_left _ hx)) (hin3' x hy)
      · exact n1.2.2 x hx x hy rfl
  · intro b hb
    rw [List.append_nil] at hb
    rcases List.mem_cons.1 hb with rfl | hb
    · refine ⟨?_, hgs⟩
      rcases hg' with ⟨h, -⟩ | h
      · exact .inl (List.mem_append_left _ h)
      · exact .inr h
    · exact ⟨.inl (hold b hb), Nat.lt_of_lt_of_le (hfp b (hold b hb)) hk.size⟩
  · simp only [List.append_nil] at howd ⊢
    exact howd
  · exact Reps.cons (fp := []) (.any o1 .nil) (Reps.cons (fp := []) (.v rfl .nil) (Reps.cons (fp := []) (.any o3 .nil) .nil))
end
theorem keepsDr {w w' : World} {fp : List Nat} (h : Keeps w.drew w' fp) : Keeps w w' fp := ⟨h.os, h.tape, h.output, h.size, h.block⟩
theorem ins_inv {w : World} {S : Nat → Prop} {l : List Adve} {v : Value} {f : List Nat} (h : Rep w (fun _ => none) S [sl true 4 (l.map (Adve.c true))] [v] f) :
    (l = [] ∧ v = .slice none 0 0 ∧ f = []) ∨ ∃ g cap cur T fi, v = .slice (some ⟨g, 0, none⟩) l.length cap ∧ f = g :: fi ∧ w.heap[g]? = some (.cells cur T (0, 0)) ∧ l.length ≤ cap ∧ cap ≤ maxLen ∧ cap * 4 ≤ cur.size ∧ Rep w (fun _ => none) S (l.map (Adve.c true)).flatten (cur.toList.take (l.length * 4)) fi := by
  generalize hels : l.map (Adve.c true) = els at h
  cases h with
  | nils _ t =>
    cases t
    exact .inl ⟨by simpa using hels, rfl, rfl⟩
  | @owd _ _ nf sz g n cap els cur T _ _ fi _ hnf hgc hn hsz hpos hcap hmax hcur hinr t =>
    cases t
    have e : n = l.length := by rw [← hn, ← hels]; simp
    subst e
    exact .inr ⟨g, cap, cur, T, fi, rfl, by simp, hgc, hcap, hmax, hcur, hinr⟩
theorem is118 : FI 118 Tryz.f118 := ⟨⟨Tryz.f118, Tryz.func118, rfl, rfl, rfl, rfl⟩, rfl⟩
set_option maxHeartbeats 8000000 in
theorem Insert_Adve {l : List Adve} {a : Adve} {i : Nat} {nf : NF} (hl : l.length ≤ 1048576) (hi : i ≤ l.length) :
    FO 118 [O (sl true 4 (l.map (Adve.c true))), I i, O (.sl true nf 4 [Adve.c true a])] [O .any, I i, O .any] (O (sl true 4 ((l.take i ++ a :: l.drop i).map (Adve.c true)))) := by
  obtain ⟨fn, hf, hb, hrs, hnt, hname⟩ := is118.ex
  refine ⟨⟨fn, _, hf, hb, hname⟩, fun w S vals fp hS hnd hfp hreps hgl => ?_⟩
  generalize haa : [O (sl true 4 (l.map (Adve.c true))), I i, O (.sl true nf 4 [Adve.c true a])] = aa at hreps
  cases hreps with
  | nil => cases haa
  | @cons s1 as1 vs1 f1 args1 vals1 fps1 h1 t1 =>
  obtain ⟨e1, e2⟩ := List.cons.inj haa
  cases e1
  cases e2
  cases t1 with
  | @cons s2 as2 vs2 f2 args2 vals2 fps2 h2 t2 =>
  cases t2 with
  | @cons s3 as3 vs3 f3 args3 vals3 fps3 h3 t3 =>
  cases t3
  cases h2 with
  | @v _ _ x _ vs2' _ hx tl =>
  cases tl
  obtain ⟨v1, rfl⟩ := h1.one_iff
  obtain ⟨v3, rfl⟩ := h3.one_iff
  have o1 := h1.oneCell
  have o3 := h3.oneCell
  cases h3 with
  | @owd _ _ _ _ h n3 vc els3 row T2 _ _ fi3 _ hnf3 hgh hn3 hsz3 hpos3 hcap3 hmax3 hcur3 hin3 tl3 =>
  cases tl3
  simp only [List.append_nil, List.nil_append] at *
  have e3 : n3 = 1 := by simpa using hn3.symm
  subst e3
  have hin3' : Rep w (fun _ => none) S (Adve.c true a) (row.toList.take 4) fi3 := by simpa using hin3
  have hvl : (row.toList.take 4).length = 4 := hin3'.length.symm
  have hone3 : ∀ v ∈ row.toList.take 4, v.oneCell' = true := hin3'.oneCells
  have hhs : h < w.heap.size := (Array.getElem?_eq_some_iff.1 hgh).1
  have hmx : (9223372036854775807 : Nat) = maxLen := rfl
  show Calls Tryz.prog 118 #[v1, .int .i64 i, .slice (some ⟨h, 0, none⟩) 1 vc] w (FPost w S [v1, .int .i64 i, .slice (some ⟨h, 0, none⟩) 1 vc] (f1 ++ (h :: fi3)) [O .any, I i, O .any] (O (sl true 4 ((l.take i ++ a :: l.drop i).map (Adve.c true)))))
  rcases ins_inv h1 with ⟨rfl, rfl, rfl⟩ | ⟨g, cap, cur, T, fi, rfl, rfl, hg, hnc, hmax, hcur, hinr⟩
  · obtain rfl : i = 0 := by simpa using hi
    refine (ins_end_grow w none 0 0 h vc row T2 [] (row.toList.take 4) hgh rfl hvl hone3 rfl (.inl ⟨rfl, rfl⟩) (Nat.le_refl _) (by omega) (by omega)).mono ?_
    rintro e w' ⟨G, z, q1, q2, q3, rfl, rfl⟩
    refine ins_fin (l := []) (i := 0) (by simp) (fi := []) (cs := []) (vs := row.toList.take 4) (K := []) (T := 77) (f1 := []) (cj := ((([] ++ row.toList.take 4) ++ z).toArray)) hS hnd hfp o1 o3 (keepsDr (keepsAl w.drew _)) (by simp) (List.Sublist.refl _) (List.sublist_cons_self _ _) (.inr (Nat.le_refl _)) .nil hin3' (by show (w.heap.push _)[w.heap.size]? = _; simp) q1 q2 ?_ ?_
    · simp only [List.size_toArray, List.length_append, hvl, q3, List.length_nil]; omega
    · simp only [List.toList_toArray, List.nil_append]
      rw [List.take_append_of_le_length (by rw [hvl]; simp), List.take_of_length_le (by rw [hvl]; simp)]
      simp
  · have hgs : g < w.heap.size := (Array.getElem?_eq_some_iff.1 hg).1
    have hgf : g ∉ fi := fun hx => (List.nodup_cons.1 (List.nodup_append.1 hnd).1).1 hx
    have hng : h ≠ g := fun he => (List.nodup_append.1 hnd).2.2 g (by simp) h (by simp) he.symm
    have hcl : (cur.toList.take (l.length * 4)).length = l.length * 4 := by simp; omega
    have honeC : ∀ v ∈ cur.toList.take (l.length * 4), v.oneCell' = true := hinr.oneCells
    by_cases hin : i = l.length
    · subst hin
      by_cases hroom : l.length + 1 ≤ cap
      · refine (ins_end_room w g l.length cap h vc cur row T T2 (row.toList.take 4) hg hgh rfl hvl hone3 hroom hcur (by rw [hmx]; exact hmax)).mono ?_
        rintro e w' ⟨rfl, rfl⟩
        refine ins_fin (Nat.le_refl _) (fi := fi) (cs := cur.toList.take (l.length * 4)) (vs := row.toList.take 4) (K := [g]) hS hnd hfp o1 o3 (keepsRow w g _) (by simpa using hgf) (List.sublist_cons_self _ _) (List.sublist_cons_self _ _) (.inl ⟨by simp, hgf⟩) hinr hin3' (setRow_heap w g cur _ T (0, 0) hg) hroom hmax ?_ ?_
        · simp only [List.size_toArray, List.length_append, List.length_take, List.length_drop, Array.length_toList]; omega
        · simp only [List.toList_toArray]
          rw [List.take_append_of_le_length (by rw [List.length_append, hcl, hvl]; omega), List.take_of_length_le (by rw [List.length_append, hcl, hvl]; omega)]
          rw [List.take_of_length_le (Nat.le_of_eq hcl), List.drop_of_length_le (Nat.le_of_eq hcl), List.append_nil]
      · refine (ins_end_grow w (some ⟨g, 0, none⟩) l.length cap h vc row T2 (cur.toList.take (l.length * 4)) (row.toList.take 4) hgh rfl hvl hone3 hcl (.inr ⟨g, cur, T, rfl, hg, rfl⟩) hnc (by omega) (by omega)).mono ?_
        rintro e w' ⟨G, z, q1, q2, q3, rfl, rfl⟩
        refine ins_fin (Nat.le_refl _) (fi := fi) (cs := cur.toList.take (l.length * 4)) (vs := row.toList.take 4) (cj := (((cur.toList.take (l.length * 4) ++ row.toList.take 4) ++ z).toArray)) (K := []) (T := 77) hS hnd hfp o1 o3 (keepsDr (keepsAl w.drew _)) (by simp) (List.sublist_cons_self _ _) (List.sublist_cons_self _ _) (.inr (Nat.le_refl _)) hinr hin3' (by show (w.heap.push _)[w.heap.size]? = _; simp) q1 q2 ?_ ?_
        · simp only [List.size_toArray, List.length_append, hvl, hcl, q3]; omega
        · simp only [List.toList_toArray]
          rw [List.take_append_of_le_length (by rw [List.length_append, hcl, hvl]; omega), List.take_of_length_le (by rw [List.length_append, hcl, hvl]; omega)]
          rw [List.take_of_length_le (Nat.le_of_eq hcl), List.drop_of_length_le (Nat.le_of_eq hcl), List.append_nil]
    · have hlt : i < l.length := by omega
      by_cases hroom : l.length + 1 ≤ cap
      · refine (ins_mid_room w g l.length cap i h vc 1 cur row T T2 _ _ hg hgh rfl hvl hone3 rfl honeC hlt rfl hroom hcur (by rw [hmx]; exact hmax) hng).mono ?_
        rintro e w' ⟨rfl, hk, cj, hgj, hcs, hct⟩
        exact ins_fin hi (fi := fi) (K := [g]) hS hnd hfp o1 o3 hk (by simpa using hgf) (List.sublist_cons_self _ _) (List.sublist_cons_self _ _) (.inl ⟨by simp, hgf⟩) hinr hin3' hgj hroom hmax (by rw [hcs]; exact hcur) hct
      · refine (ins_mid_grow w g l.length cap i h vc 1 cur row T T2 _ _ hg hgh rfl hvl hone3 rfl honeC hlt rfl hnc (by omega) hcur (by omega)).mono ?_
        rintro e w' ⟨G, q1, q2, rfl, hk, cj, hgj, hcs, hct⟩
        exact ins_fin hi (fi := fi) (K := []) (T := 77) hS hnd hfp o1 o3 hk (by simp) (List.sublist_cons_self _ _) (List.sublist_cons_self _ _) (.inr (Nat.le_refl _)) hinr hin3' hgj q1 q2 (by rw [hcs]; exact Nat.le_refl _) hct
end Go.Proofs.YtigkmijoefibiaaGreat
