/- the plain law of package merge: the lengths that it gives satisfy the equation of Kraft -/
import Derived.Test.YtmfcgffdijnokaaPc
set_option linter.unusedVariables false
set_option linter.unusedSimpArgs false
set_option linter.unusedSectionVars false
/-! package-merge, without any program: what the chosen items come to (Kraft's sum, the limit, each symbol once at least) -/
namespace Go.SL.Pm
abbrev It := Int × List Int
def less (x y : It) : Prop := x.1 < y.1 ∨ (x.1 = y.1 ∧ x.2.length < y.2.length)
instance (x y : It) : Decidable (less x y) := by unfold less; infer_instance
def le (x y : It) : Bool := !decide (less y x)
def Sorted (l : List It) : Prop := l.Pairwise fun x y => ¬ less y x
theorem nl_trans {x y z : It} (h : ¬ less y x) (k : ¬ less z y) : ¬ less z x := by unfold less at *; omega
theorem less_nl {x y z : It} (h : less x y) (k : ¬ less z y) : less x z := by unfold less at *; omega
theorem less_asymm {x y : It} (h : less x y) : ¬ less y x := by unfold less at *; omega
def packs : List It → List It
  | x :: y :: l => (x.1 + y.1, x.2 ++ y.2) :: packs l
  | _ => []
def mrg (A B : List It) : List It := List.merge A B le
def row (A : List It) : Nat → List It
  | 0 => A
  | k + 1 => mrg A (packs (row A k))
theorem mem_packs : ∀ {l : List It} {z : It}, z ∈ packs l → ∃ u v, u ∈ l ∧ v ∈ l ∧ z = (u.1 + v.1, u.2 ++ v.2)
  | [], z, h => by simp [packs] at h
  | [x], z, h => by simp [packs] at h
  | x :: y :: l, z, h => by
    simp only [packs, List.mem_cons] at h
    rcases h with rfl | h
    · exact ⟨x, y, by simp, by simp, rfl⟩
    · obtain ⟨u, v, hu, hv, e⟩ := mem_packs h
      exact ⟨u, v, by simp [hu], by simp [hv], e⟩
theorem packs_sorted : ∀ {l : List It}, Sorted l → Sorted (packs l)
  | [], _ => List.Pairwise.nil
  | [x], _ => List.Pairwise.nil
  | x :: y :: l, h => by
    have h1 := List.pairwise_cons.1 h
    have h2 := List.pairwise_cons.1 h1.2
    refine List.pairwise_cons.2 ⟨fun z hz => ?_, packs_sorted h2.2⟩
    obtain ⟨u, v, hu, hv, rfl⟩ := mem_packs hz
    have a1 := h1.1 u (by simp [hu])
    have a2 := h1.1 v (by simp [hv])
    have a3 := h2.1 u hu
    have a4 := h2.1 v hv
    unfold less at *
    simp only [List.length_append]
    omega
theorem packs_length : ∀ (l : List It), (packs l).length = l.length / 2
  | [] => rfl
  | [x] => by simp [packs]
  | x :: y :: l => by simp only [packs, List.length_cons, packs_length l]; omega
theorem take_packs : ∀ (l : List It) (p : Nat), (packs l).take p = packs (l.take (2 * p))
  | [], p => by simp [packs]
  | [x], 0 => by simp [packs]
  | [x], p + 1 => by
    rw [show 2 * (p + 1) = 2 * p + 1 + 1 by omega]
    simp [packs]
  | x :: y :: l, 0 => by simp [packs]
  | x :: y :: l, p + 1 => by
    rw [show 2 * (p + 1) = 2 * p + 1 + 1 by omega]
    simp only [packs, List.take_succ_cons, take_packs l p]
def syms (l : List It) : List Int := l.flatMap (·.2)
def wt (l : List It) : Int := (l.map (·.1)).sum
theorem syms_packs : ∀ (l : List It), l.length % 2 = 0 → syms (packs l) = syms l
  | [], _ => rfl
  | [x], h => by simp at h
  | x :: y :: l, h => by
    have := syms_packs l (by simp only [List.length_cons] at h; omega)
    simp only [syms, packs, List.flatMap_cons] at *
    rw [this, List.append_assoc]
theorem wt_packs : ∀ (l : List It), l.length % 2 = 0 → wt (packs l) = wt l
  | [], _ => rfl
  | [x], h => by simp at h
  | x :: y :: l, h => by
    have := wt_packs l (by simp only [List.length_cons] at h; omega)
    simp only [wt, packs, List.map_cons, List.sum_cons] at *
    rw [this]; omega
theorem mrg_length (A B : List It) : (mrg A B).length = A.length + B.length := by simp [mrg, List.length_merge]
theorem mrg_mem {A B : List It} {x : It} : x ∈ mrg A B ↔ x ∈ A ∨ x ∈ B := by simp [mrg, List.mem_merge]
theorem mrg_sorted {A B : List It} (hA : Sorted A) (hB : Sorted B) : Sorted (mrg A B) := by
  have hc : ∀ {l : List It}, Sorted l → l.Pairwise (fun x y => le x y = true) := fun h => h.imp (fun h => by simp [le, h])
  have h := List.pairwise_merge (le := le) (fun a b c h k => by simp only [le, Bool.not_eq_true', decide_eq_false_iff_not] at *; exact nl_trans h k)
    (fun a b => by simp only [le, Bool.or_eq_true, Bool.not_eq_true', decide_eq_false_iff_not]; unfold less; omega) A B (hc hA) (hc hB)
  exact h.imp (fun h => by simpa [le] using h)
theorem row_sorted {A : List It} (hA : Sorted A) : ∀ k, Sorted (row A k)
  | 0 => hA
  | k + 1 => mrg_sorted hA (packs_sorted (row_sorted hA k))
/-- the first m of two sorted lists that are merged -/
theorem mrg_take : ∀ (m : Nat) (A B : List It), Sorted A → Sorted B → m ≤ A.length + B.length →
    ∃ a p, a + p = m ∧ a ≤ A.length ∧ p ≤ B.length ∧ ((mrg A B).take m).Perm (A.take a ++ B.take p) ∧ (∀ u ∈ A.drop a, ∀ x ∈ B.take p, less x u) ∧ (∀ u ∈ B.drop p, ∀ x ∈ A.take a, ¬ less u x)
  | 0, A, B, _, _, _ => ⟨0, 0, rfl, Nat.zero_le _, Nat.zero_le _, by simp, by simp, by simp⟩
  | m + 1, [], B, _, _, h => ⟨0, m + 1, by omega, by simp, by simpa using h, by simp [mrg], by simp, by simp⟩
  | m + 1, x :: A, [], _, _, h => ⟨m + 1, 0, by omega, by simpa using h, by simp, by simp [mrg], by simp, by simp⟩
  | m + 1, x :: A, y :: B, hA, hB, h => by
    have hA1 := List.pairwise_cons.1 hA
    have hB1 := List.pairwise_cons.1 hB
    by_cases hl : less y x
    · obtain ⟨a, p, h1, h2, h3, h4, h5, h6⟩ := mrg_take m (x :: A) B hA hB1.2 (by simp only [List.length_cons] at h ⊢; omega)
      refine ⟨a, p + 1, by omega, h2, by simp only [List.length_cons]; omega, ?_, ?_, ?_⟩
      · have e : mrg (x :: A) (y :: B) = y :: mrg (x :: A) B := by simp [mrg, List.cons_merge_cons, le, hl]
        rw [e, List.take_succ_cons, List.take_succ_cons]
        exact (List.Perm.cons y h4).trans List.perm_middle.symm
      · intro u hu z hz
        rw [List.take_succ_cons] at hz
        rcases List.mem_cons.1 hz with rfl | hz
        · have hu' := List.mem_of_mem_drop hu
          rcases List.mem_cons.1 hu' with rfl | hu'
          · exact hl
          · exact less_nl hl (hA1.1 u hu')
        · exact h5 u hu z hz
      · intro u hu z hz
        rw [List.drop_succ_cons] at hu
        exact h6 u hu z hz
    · obtain ⟨a, p, h1, h2, h3, h4, h5, h6⟩ := mrg_take m A (y :: B) hA1.2 hB (by simp only [List.length_cons] at h ⊢; omega)
      refine ⟨a + 1, p, by omega, by simp only [List.length_cons]; omega, h3, ?_, ?_, ?_⟩
      · have e : mrg (x :: A) (y :: B) = x :: mrg A (y :: B) := by simp [mrg, List.cons_merge_cons, le, hl]
        rw [e, List.take_succ_cons, List.take_succ_cons]
        exact List.Perm.cons x h4
      · intro u hu z hz
        rw [List.drop_succ_cons] at hu
        exact h5 u hu z hz
      · intro u hu z hz
        rw [List.take_succ_cons] at hz
        rcases List.mem_cons.1 hz with rfl | hz
        · have hu' := List.mem_of_mem_drop hu
          rcases List.mem_cons.1 hu' with rfl | hu'
          · exact hl
          · exact nl_trans hl (hB1.1 u hu')
        · exact h6 u hu z hz

/-! leaves -/
def leaf (p : Int × Int) : It := (p.1, [p.2])
def leaves (P : List (Int × Int)) : List It := P.map leaf
theorem leaves_len (P : List (Int × Int)) : (leaves P).length = P.length := by simp [leaves]
theorem syms_leaves (P : List (Int × Int)) : syms (leaves P) = P.map (·.2) := by
  induction P with
  | nil => rfl
  | cons p P ih => simp only [leaves, syms, List.map_cons, List.flatMap_cons] at *; rw [ih]; rfl
theorem leaves_take (P : List (Int × Int)) (a : Nat) : (leaves P).take a = leaves (P.take a) := by simp [leaves, List.map_take]
def occ (s : Int) (l : List It) : Nat := (syms l).count s
theorem occ_append (s : Int) (A B : List It) : occ s (A ++ B) = occ s A + occ s B := by simp [occ, syms]
theorem occ_perm {s : Int} {A B : List It} (h : A.Perm B) : occ s A = occ s B := by
  unfold occ syms
  exact (h.flatMap_right _).count_eq s
theorem wt_append (A B : List It) : wt (A ++ B) = wt A + wt B := by simp [wt, List.sum_append]
theorem wt_perm {A B : List It} (h : A.Perm B) : wt A = wt B := by
  induction h with
  | nil => rfl
  | cons x _ ih => simp only [wt, List.map_cons, List.sum_cons] at *; omega
  | swap x y l => simp only [wt, List.map_cons, List.sum_cons]; omega
  | trans _ _ h1 h2 => omega
/-- every item weighs as much as each of its symbols -/
theorem row_heavy {P : List (Int × Int)} (h0 : ∀ p ∈ P, 0 ≤ p.1) : ∀ k, ∀ x ∈ row (leaves P) k, 0 ≤ x.1 ∧ 1 ≤ x.2.length ∧ ∀ s ∈ x.2, ∃ p ∈ P, p.2 = s ∧ p.1 ≤ x.1
  | 0, x, hx => by
    obtain ⟨p, hp, rfl⟩ := List.mem_map.1 hx
    exact ⟨h0 p hp, Nat.le_refl _, fun s hs => ⟨p, hp, (show s = p.2 by simpa [leaf] using hs).symm, Int.le_refl _⟩⟩
  | k + 1, x, hx => by
    rcases mrg_mem.1 hx with hx | hx
    · exact row_heavy h0 0 x hx
    · obtain ⟨u, v, hu, hv, rfl⟩ := mem_packs hx
      obtain ⟨a1, a2, a3⟩ := row_heavy h0 k u hu
      obtain ⟨b1, b2, b3⟩ := row_heavy h0 k v hv
      refine ⟨by show 0 ≤ u.1 + v.1; omega, by simp only [List.length_append]; omega, fun s hs => ?_⟩
      rcases List.mem_append.1 hs with hs | hs
      · obtain ⟨p, hp, e, h⟩ := a3 s hs
        exact ⟨p, hp, e, by show p.1 ≤ u.1 + v.1; omega⟩
      · obtain ⟨p, hp, e, h⟩ := b3 s hs
        exact ⟨p, hp, e, by show p.1 ≤ u.1 + v.1; omega⟩
theorem pack_heavy {P : List (Int × Int)} (h0 : ∀ p ∈ P, 0 ≤ p.1) (k : Nat) : ∀ x ∈ packs (row (leaves P) k), 2 ≤ x.2.length ∧ ∀ s ∈ x.2, ∃ p ∈ P, p.2 = s ∧ p.1 ≤ x.1 := by
  intro x hx
  obtain ⟨u, v, hu, hv, rfl⟩ := mem_packs hx
  obtain ⟨a1, a2, a3⟩ := row_heavy h0 k u hu
  obtain ⟨b1, b2, b3⟩ := row_heavy h0 k v hv
  refine ⟨by simp only [List.length_append]; omega, fun s hs => ?_⟩
  rcases List.mem_append.1 hs with hs | hs
  · obtain ⟨p, hp, e, h⟩ := a3 s hs
    exact ⟨p, hp, e, by show p.1 ≤ u.1 + v.1; omega⟩
  · obtain ⟨p, hp, e, h⟩ := b3 s hs
    exact ⟨p, hp, e, by show p.1 ≤ u.1 + v.1; omega⟩
theorem nodup_fst {P : List (Int × Int)} (hn : (P.map (·.2)).Nodup) {p q : Int × Int} (hp : p ∈ P) (hq : q ∈ P) (h : p.2 = q.2) : p = q := by
  induction P with
  | nil => cases hp
  | cons r P ih =>
    rw [List.map_cons, List.nodup_cons] at hn
    rcases List.mem_cons.1 hp with e1 | h1 <;> rcases List.mem_cons.1 hq with e2 | h2
    · rw [e1, e2]
    · exact absurd (List.mem_map.2 ⟨q, h2, by rw [← h, e1]⟩) hn.1
    · exact absurd (List.mem_map.2 ⟨p, h1, by rw [h, e2]⟩) hn.1
    · exact ih hn.2 h1 h2
/-- a symbol of a package is lighter than it -/
theorem less_pack {P : List (Int × Int)} (h0 : ∀ p ∈ P, 0 ≤ p.1) (hn : (P.map (·.2)).Nodup) {k : Nat} {z : It} (hz : z ∈ packs (row (leaves P) k)) {p : Int × Int} (hp : p ∈ P) (hs : p.2 ∈ z.2) : less (leaf p) z := by
  obtain ⟨h2, h3⟩ := pack_heavy h0 k z hz
  obtain ⟨q, hq, e, h⟩ := h3 _ hs
  have := nodup_fst hn hq hp e
  subst this
  unfold less leaf
  simp only [List.length_cons, List.length_nil]
  omega
def ksum (k : Nat) (c : Int → Nat) (P : List (Int × Int)) : Nat := (P.map fun p => 2 ^ (k + 1) - 2 ^ (k + 1 - c p.2)).sum
theorem occ_mem {s : Int} {l : List It} : 0 < occ s l ↔ ∃ x ∈ l, s ∈ x.2 := by
  unfold occ syms
  rw [List.count_pos_iff, List.mem_flatMap]
theorem occ_leaves {P : List (Int × Int)} (hn : (P.map (·.2)).Nodup) (s : Int) : occ s (leaves P) ≤ 1 := by
  unfold occ
  rw [syms_leaves]
  exact List.nodup_iff_count.1 hn s
theorem ksum_append (k : Nat) (c : Int → Nat) (A B : List (Int × Int)) : ksum k c (A ++ B) = ksum k c A + ksum k c B := by simp [ksum]
theorem nodup_split {P : List (Int × Int)} (hn : (P.map (·.2)).Nodup) (a : Nat) {p : Int × Int} (hp : p ∈ P.drop a) : occ p.2 (leaves (P.take a)) = 0 := by
  rw [← List.take_append_drop a P, List.map_append, List.nodup_append] at hn
  refine Nat.eq_zero_of_not_pos fun h => ?_
  obtain ⟨x, hx, hs⟩ := occ_mem.1 h
  obtain ⟨q, hq, rfl⟩ := List.mem_map.1 hx
  have e : p.2 = q.2 := by simpa [leaf] using hs
  exact hn.2.2 q.2 (List.mem_map_of_mem hq) p.2 (List.mem_map_of_mem hp) e.symm
theorem occ_in {P : List (Int × Int)} (hn : (P.map (·.2)).Nodup) (a : Nat) {p : Int × Int} (hp : p ∈ P.take a) : occ p.2 (leaves (P.take a)) = 1 := by
  have h1 : 0 < occ p.2 (leaves (P.take a)) := occ_mem.2 ⟨leaf p, List.mem_map_of_mem hp, by simp [leaf]⟩
  have h2 : ((P.take a).map (·.2)).Nodup := hn.sublist ((List.take_sublist a P).map _)
  have := occ_leaves h2 p.2
  omega
theorem ksum_zero {k : Nat} {c : Int → Nat} : ∀ {P : List (Int × Int)}, (∀ p ∈ P, c p.2 = 0) → ksum k c P = 0
  | [], _ => rfl
  | p :: P, h => by
    have h1 := h p (by simp)
    have h2 := ksum_zero (k := k) (c := c) (P := P) (fun q hq => h q (by simp [hq]))
    simp only [ksum, List.map_cons, List.sum_cons] at *
    rw [h1, h2]
    simp
theorem ksum_up {k : Nat} {c c' : Int → Nat} : ∀ {P : List (Int × Int)}, (∀ p ∈ P, c p.2 = c' p.2 + 1 ∧ c' p.2 ≤ k + 1) → ksum (k + 1) c P = P.length * 2 ^ (k + 1) + ksum k c' P
  | [], _ => by simp [ksum]
  | p :: P, h => by
    have h1 := h p (by simp)
    have h2 := ksum_up (k := k) (c := c) (c' := c') (P := P) (fun q hq => h q (by simp [hq]))
    simp only [ksum, List.map_cons, List.sum_cons, List.length_cons] at *
    rw [h1.1, h2, Nat.add_mul, Nat.one_mul]
    have e1 : (2 : Nat) ^ (k + 1 + 1) = 2 ^ (k + 1) + 2 ^ (k + 1) := by rw [Nat.pow_succ]; omega
    have e2 : k + 1 + 1 - (c' p.2 + 1) = k + 1 - c' p.2 := by omega
    have e3 : (2 : Nat) ^ (k + 1 - c' p.2) ≤ 2 ^ (k + 1) := Nat.pow_le_pow_right (by decide) (by omega)
    rw [e2, e1]
    generalize (2 : Nat) ^ (k + 1) = t at *
    generalize (2 : Nat) ^ (k + 1 - c' p.2) = u at *
    omega
/-- the first m items of a row -/
theorem main {P : List (Int × Int)} (h0 : ∀ p ∈ P, 0 ≤ p.1) (hn : (P.map (·.2)).Nodup) (hs : Sorted (leaves P)) : ∀ (k m : Nat), m ≤ (row (leaves P) k).length →
    ∃ a, a ≤ P.length ∧ (∀ p ∈ P.take a, 0 < occ p.2 ((row (leaves P) k).take m)) ∧ (∀ p ∈ P.drop a, occ p.2 ((row (leaves P) k).take m) = 0) ∧ (∀ s, occ s ((row (leaves P) k).take m) ≤ k + 1) ∧
      ksum k (fun s => occ s ((row (leaves P) k).take m)) P = m * 2 ^ k
  | 0, m, hm => by
    have hm' : m ≤ P.length := by rw [← leaves_len P]; exact hm
    have e : (row (leaves P) 0).take m = leaves (P.take m) := leaves_take P m
    rw [e]
    have hnt : ((P.take m).map (·.2)).Nodup := hn.sublist ((List.take_sublist m P).map _)
    refine ⟨m, hm', fun p hp => by rw [occ_in hn m hp]; decide, fun p hp => nodup_split hn m hp, fun s => occ_leaves hnt s, ?_⟩
    have e2 : ksum 0 (fun s => occ s (leaves (P.take m))) P = ksum 0 (fun s => occ s (leaves (P.take m))) (P.take m) + ksum 0 (fun s => occ s (leaves (P.take m))) (P.drop m) := by rw [← ksum_append, List.take_append_drop]
    have e3 : ksum 0 (fun s => occ s (leaves (P.take m))) (P.drop m) = 0 := ksum_zero fun p hp => nodup_split hn m hp
    have e4 : ∀ (Q : List (Int × Int)), (∀ q ∈ Q, occ q.2 (leaves (P.take m)) = 1) → ksum 0 (fun s => occ s (leaves (P.take m))) Q = Q.length := by
      intro Q
      induction Q with
      | nil => intro _; rfl
      | cons q Q ih =>
        intro h
        have h1 := h q (by simp)
        have h2 := ih fun r hr => h r (by simp [hr])
        simp only [ksum, List.map_cons, List.sum_cons, List.length_cons] at *
        rw [h1, h2]
        simp; omega
    rw [e2, e3, e4 _ (fun q hq => occ_in hn m hq), List.length_take]
    simp; omega
  | k + 1, m, hm => by
    obtain ⟨a, p, h1, h2, h3, h4, h5, h6⟩ := mrg_take m (leaves P) (packs (row (leaves P) k)) hs (packs_sorted (row_sorted hs k)) (by rw [← mrg_length]; exact hm)
    rw [leaves_len] at h2
    have hp2 : 2 * p ≤ (row (leaves P) k).length := by rw [packs_length] at h3; omega
    obtain ⟨a', i1, i2, i3, i4, i5⟩ := main h0 hn hs k (2 * p) hp2
    have hocc : ∀ s, occ s ((row (leaves P) (k + 1)).take m) = occ s (leaves (P.take a)) + occ s ((row (leaves P) k).take (2 * p)) := by
      intro s
      have := occ_perm (s := s) h4
      rw [show row (leaves P) (k + 1) = mrg (leaves P) (packs (row (leaves P) k)) from rfl, this, occ_append, leaves_take, take_packs]
      congr 1
      unfold occ
      rw [syms_packs _ (by rw [List.length_take]; omega)]
    -- what stands in a package stands alone in the prefix
    have hin : ∀ q ∈ P.drop a, occ q.2 ((row (leaves P) k).take (2 * p)) = 0 := by
      intro q hq
      refine Nat.eq_zero_of_not_pos fun hpos => ?_
      have hpos' : 0 < occ q.2 ((packs (row (leaves P) k)).take p) := by
        rw [take_packs]; unfold occ; rw [syms_packs _ (by rw [List.length_take]; omega)]; exact hpos
      obtain ⟨z, hz, hzs⟩ := occ_mem.1 hpos'
      have hl := less_pack h0 hn (List.mem_of_mem_take hz) (List.mem_of_mem_drop hq) hzs
      have hq' : leaf q ∈ (leaves P).drop a := by simp only [leaves, ← List.map_drop]; exact List.mem_map_of_mem hq
      exact less_asymm hl (h5 _ hq' z hz)
    refine ⟨a, h2, fun q hq => ?_, fun q hq => ?_, fun s => ?_, ?_⟩
    · rw [hocc, occ_in hn a hq]; omega
    · rw [hocc, nodup_split hn a hq, hin q hq]
    · have := occ_leaves (P := P.take a) (hn.sublist ((List.take_sublist a P).map _)) s
      have := i4 s
      rw [hocc]; omega
    · have e1 : ∀ (kk : Nat) (c : Int → Nat), ksum kk c P = ksum kk c (P.take a) + ksum kk c (P.drop a) := fun kk c => by rw [← ksum_append, List.take_append_drop]
      rw [e1, ksum_zero (P := P.drop a) (fun q hq => by rw [hocc, nodup_split hn a hq, hin q hq]),
        ksum_up (P := P.take a) (c' := fun s => occ s ((row (leaves P) k).take (2 * p))) (fun q hq => ⟨by rw [hocc, occ_in hn a hq]; omega, i4 _⟩)]
      rw [e1, ksum_zero (P := P.drop a) hin] at i5
      rw [Nat.add_zero] at i5
      rw [i5, Nat.add_zero, List.length_take, Nat.min_eq_left h2, ← h1, Nat.add_mul, Nat.pow_succ]
      have : p * (2 ^ k * 2) = 2 * p * 2 ^ k := by rw [Nat.mul_comm (2 ^ k) 2, ← Nat.mul_assoc, Nat.mul_comm p 2]
      omega

/-- how long a row is -/
theorem row_len (P : List (Int × Int)) : ∀ k, (row (leaves P) k).length * 2 ^ k ≤ P.length * (2 ^ (k + 1) - 1) ∧ P.length * (2 ^ (k + 1) - 1) < ((row (leaves P) k).length + 1) * 2 ^ k
  | 0 => by simp [row, leaves_len]
  | k + 1 => by
    obtain ⟨h1, h2⟩ := row_len P k
    have e : (row (leaves P) (k + 1)).length = P.length + (row (leaves P) k).length / 2 := by
      rw [show row (leaves P) (k + 1) = mrg (leaves P) (packs (row (leaves P) k)) from rfl, mrg_length, leaves_len, packs_length]
    rw [e]
    generalize (row (leaves P) k).length = r at *
    generalize P.length = n at *
    have e1 : (2 : Nat) ^ (k + 1 + 1) = 4 * 2 ^ k := by rw [Nat.pow_succ, Nat.pow_succ]; omega
    have e2 : (2 : Nat) ^ (k + 1) = 2 * 2 ^ k := by rw [Nat.pow_succ]; omega
    rw [e2] at h1 h2
    rw [e1, e2]
    have hp : 1 ≤ 2 ^ k := Nat.one_le_two_pow
    generalize 2 ^ k = t at *
    have f1 : n * (4 * t - 1) = n * (2 * t) + n * (2 * t - 1) := by rw [← Nat.mul_add]; congr 1; omega
    rw [f1]
    have g1 : (n + r / 2) * (2 * t) = n * (2 * t) + (r / 2 * 2) * t := by rw [Nat.add_mul, Nat.mul_assoc]
    have g2 : (n + r / 2 + 1) * (2 * t) = n * (2 * t) + (r / 2 * 2 + 2) * t := by rw [Nat.add_assoc, Nat.add_mul n, show (r / 2 + 1) * (2 * t) = (r / 2 * 2 + 2) * t by rw [← Nat.mul_assoc, Nat.add_mul (r / 2)]]
    rw [g1, g2]
    have m1 : (r / 2 * 2) * t ≤ r * t := Nat.mul_le_mul_right _ (by omega)
    have m2 : (r + 1) * t ≤ (r / 2 * 2 + 2) * t := Nat.mul_le_mul_right _ (by omega)
    omega
theorem row_upper (P : List (Int × Int)) (hP : 0 < P.length) (k : Nat) : (row (leaves P) k).length + 1 ≤ 2 * P.length := by
  have h := (row_len P k).1
  have e : P.length * (2 ^ (k + 1) - 1) < 2 * P.length * 2 ^ k := by
    have e2 : (2 : Nat) ^ (k + 1) = 2 * 2 ^ k := by rw [Nat.pow_succ]; omega
    have hp : 1 ≤ 2 ^ k := Nat.one_le_two_pow
    rw [Nat.mul_sub, e2, ← Nat.mul_assoc, Nat.mul_comm P.length 2]
    have : 0 < 2 * P.length * 2 ^ k := Nat.mul_pos (by omega) hp
    omega
  have := Nat.lt_of_mul_lt_mul_right (Nat.lt_of_le_of_lt h e)
  omega
theorem row_lower (P : List (Int × Int)) (k : Nat) (hk : P.length ≤ 2 ^ (k + 1)) : 2 * P.length - 2 ≤ (row (leaves P) k).length := by
  have h := (row_len P k).2
  have e2 : (2 : Nat) ^ (k + 1) = 2 * 2 ^ k := by rw [Nat.pow_succ]; omega
  rw [e2] at h hk
  have hp : 1 ≤ 2 ^ k := Nat.one_le_two_pow
  generalize (row (leaves P) k).length = r at *
  generalize P.length = n at *
  generalize 2 ^ k = t at *
  have f : n * (2 * t - 1) + n = 2 * n * t := by rw [← Nat.mul_add_one, show 2 * t - 1 + 1 = 2 * t by omega, ← Nat.mul_assoc, Nat.mul_comm n 2]
  have : 2 * n * t < (r + 3) * t := by rw [show r + 3 = (r + 1) + 2 by omega, Nat.add_mul (r + 1)]; omega
  have := Nat.lt_of_mul_lt_mul_right this
  omega
/-- the heaviest symbol too stands among the first ones -/
theorem last_in {P : List (Int × Int)} (h0 : ∀ p ∈ P, 0 ≤ p.1) (hn : (P.map (·.2)).Nodup) (hs : Sorted (leaves P)) (h2 : 2 ≤ P.length) : ∀ k, ∀ p ∈ P, 0 < occ p.2 ((row (leaves P) k).take (2 * P.length - 2))
  | 0, p, hp => by
    rw [show row (leaves P) 0 = leaves P from rfl, List.take_of_length_le (by rw [leaves_len]; omega)]
    exact occ_mem.2 ⟨leaf p, List.mem_map_of_mem hp, by simp [leaf]⟩
  | k + 1, q, hq => by
    have ih := last_in h0 hn hs h2 k
    have hu := row_upper P (by omega) k
    have hl2 : (row (leaves P) (k + 1)).length = P.length + (row (leaves P) k).length / 2 := by
      rw [show row (leaves P) (k + 1) = mrg (leaves P) (packs (row (leaves P) k)) from rfl, mrg_length, leaves_len, packs_length]
    generalize hm : min (2 * P.length - 2) (row (leaves P) (k + 1)).length = m
    have htk : (row (leaves P) (k + 1)).take (2 * P.length - 2) = (row (leaves P) (k + 1)).take m := by
      rw [← hm, List.take_eq_take_iff]; omega
    rw [htk]
    obtain ⟨a, p, h1, h2', h3, h4, h5, h6⟩ := mrg_take m (leaves P) (packs (row (leaves P) k)) hs (packs_sorted (row_sorted hs k)) (by rw [leaves_len, packs_length, ← hl2]; omega)
    rw [leaves_len] at h2'
    rw [packs_length] at h3
    have ha : a = P.length := by
      refine Classical.byContradiction fun hne => ?_
      have hp : 2 * p = 2 * P.length - 2 := by omega
      have hlast := ih (P[P.length - 1]'(by omega)) (List.getElem_mem _)
      rw [← hp] at hlast
      have hpos' : 0 < occ (P[P.length - 1]'(by omega)).2 ((packs (row (leaves P) k)).take p) := by
        rw [take_packs]; unfold occ; rw [syms_packs _ (by rw [List.length_take]; omega)]; exact hlast
      obtain ⟨z, hz, hzs⟩ := occ_mem.1 hpos'
      have hl := less_pack h0 hn (List.mem_of_mem_take hz) (List.getElem_mem _) hzs
      have hq' : leaf (P[P.length - 1]'(by omega)) ∈ (leaves P).drop a := by
        simp only [leaves, ← List.map_drop]
        refine List.mem_map_of_mem ?_
        rw [show a = P.length - 1 by omega, List.drop_eq_getElem_cons (by omega)]
        exact List.mem_cons_self
      exact less_asymm hl (h5 _ hq' z hz)
    rw [show row (leaves P) (k + 1) = mrg (leaves P) (packs (row (leaves P) k)) from rfl, occ_perm h4, occ_append, ha, ← leaves_len P, List.take_length]
    have : 0 < occ q.2 (leaves P) := occ_mem.2 ⟨leaf q, List.mem_map_of_mem hq, by simp [leaf]⟩
    omega
/-- Kraft's sum -/
theorem kraft {P : List (Int × Int)} (h0 : ∀ p ∈ P, 0 ≤ p.1) (hn : (P.map (·.2)).Nodup) (hs : Sorted (leaves P)) (h2 : 2 ≤ P.length) (k : Nat) (hk : P.length ≤ 2 ^ (k + 1)) :
    (P.map fun p => 2 ^ (k + 1 - occ p.2 ((row (leaves P) k).take (2 * P.length - 2)))).sum = 2 ^ (k + 1) := by
  obtain ⟨a, _, _, _, h4, h5⟩ := main h0 hn hs k (2 * P.length - 2) (row_lower P k hk)
  have key : ∀ (Q : List (Int × Int)) (c : Int → Nat), (∀ p ∈ Q, c p.2 ≤ k + 1) → ksum k c Q + (Q.map fun p => 2 ^ (k + 1 - c p.2)).sum = Q.length * 2 ^ (k + 1) := by
    intro Q c
    induction Q with
    | nil => intro _; simp [ksum]
    | cons q Q ih =>
      intro h
      have h1 := ih fun p hp => h p (by simp [hp])
      simp only [ksum, List.map_cons, List.sum_cons, List.length_cons] at *
      have e3 : (2 : Nat) ^ (k + 1 - c q.2) ≤ 2 ^ (k + 1) := Nat.pow_le_pow_right (by decide) (by omega)
      rw [Nat.add_mul, Nat.one_mul]
      omega
  have h := key P (fun s => occ s ((row (leaves P) k).take (2 * P.length - 2))) (fun p _ => h4 _)
  rw [h5] at h
  have e2 : (2 : Nat) ^ (k + 1) = 2 * 2 ^ k := by rw [Nat.pow_succ]; omega
  have e3 : (2 * P.length - 2) * 2 ^ k + 2 ^ (k + 1) = P.length * 2 ^ (k + 1) := by
    rw [e2]
    have : (2 * P.length - 2) * 2 ^ k + 2 * 2 ^ k = (2 * P.length) * 2 ^ k := by rw [← Nat.add_mul]; congr 1; omega
    rw [this, Nat.mul_comm 2 P.length, Nat.mul_assoc]
  omega
end Go.SL.Pm
/-! the stable sort's outcome, without any program: two sorted lists behind each other are merged; symbols with their counts are ordered by count -/
namespace Go.SL.Pm
abbrev TIt := It × Nat
def tlt (x y : TIt) : Prop := less x.1 y.1 ∨ (¬ less y.1 x.1 ∧ x.2 < y.2)
instance (x y : TIt) : Decidable (tlt x y) := by unfold tlt; infer_instance
def tle (x y : TIt) : Bool := !decide (tlt y x)
theorem tle_iff {x y : TIt} : tle x y = true ↔ ¬ tlt y x := by simp [tle]
theorem tlt_irr {x y : TIt} (h : tlt x y) (k : tlt y x) : False := by unfold tlt less at *; omega
theorem tsort_unique {X Y : List TIt} (h : X.Perm Y) (hX : X.Pairwise tlt) (hY : Y.Pairwise tlt) : X = Y :=
  List.Perm.eq_of_pairwise (le := tlt) (fun a b _ _ h k => (tlt_irr h k).elim) hX hY h
theorem zip_mem {l : List It} {k : Nat} {x : TIt} (h : x ∈ l.zipIdx k) : k ≤ x.2 ∧ x.2 < k + l.length := by
  have := List.mem_zipIdx h
  omega
theorem zip_tle : ∀ {l : List It} (k : Nat), Sorted l → (l.zipIdx k).Pairwise (fun x y => tle x y = true)
  | [], k, _ => List.Pairwise.nil
  | x :: l, k, h => by
    have h1 := List.pairwise_cons.1 h
    rw [List.zipIdx_cons]
    refine List.pairwise_cons.2 ⟨fun y hy => ?_, zip_tle (k + 1) h1.2⟩
    have hy1 := zip_mem hy
    have hy2 : y.1 ∈ l := by have := List.mem_map_of_mem (f := Prod.fst) hy; rwa [List.zipIdx_map_fst] at this
    have hy3 := h1.1 _ hy2
    rw [tle_iff]
    unfold tlt
    rintro (h4 | h4)
    · exact hy3 h4
    · have := h4.2; simp only at this; omega
theorem mrg_unique {A B : List It} {X : List TIt} (hA : Sorted A) (hB : Sorted B) (hp : X.Perm ((A ++ B).zipIdx)) (hX : X.Pairwise tlt) : X.map (·.1) = mrg A B := by
  have hT := List.pairwise_merge (le := tle) (fun a b c h k => by rw [tle_iff] at *; unfold tlt less at *; omega)
    (fun a b => by rw [Bool.or_eq_true, tle_iff, tle_iff]; unfold tlt less; omega) (A.zipIdx) (B.zipIdx A.length) (zip_tle 0 hA) (zip_tle _ hB)
  have hTp : (List.merge A.zipIdx (B.zipIdx A.length) tle).Perm ((A ++ B).zipIdx) := by
    rw [List.zipIdx_append, Nat.zero_add]
    exact List.merge_perm_append tle
  have hnd : ((List.merge A.zipIdx (B.zipIdx A.length) tle).map (·.2)).Nodup := by
    have h1 := (hTp.map (·.2)).nodup_iff
    rw [h1]
    have : List.map (fun x : TIt => x.2) ((A ++ B).zipIdx) = List.range' 0 (A ++ B).length := List.zipIdx_map_snd 0 _
    rw [this]
    exact List.nodup_range'
  have hT2 : (List.merge A.zipIdx (B.zipIdx A.length) tle).Pairwise tlt := by
    rw [List.pairwise_iff_getElem] at hT ⊢
    intro i j hi hj hij
    have h1 := hT i j hi hj hij
    have h2 : ((List.merge A.zipIdx (B.zipIdx A.length) tle)[i]).2 ≠ ((List.merge A.zipIdx (B.zipIdx A.length) tle)[j]).2 := by
      intro e
      have := (List.pairwise_iff_getElem.1 hnd) i j (by simpa using hi) (by simpa using hj) hij
      simp only [List.getElem_map] at this
      exact this e
    have h1 : ¬ tlt ((List.merge A.zipIdx (B.zipIdx A.length) tle)[j]) ((List.merge A.zipIdx (B.zipIdx A.length) tle)[i]) := tle_iff.1 h1
    unfold tlt less at *
    omega
  rw [tsort_unique (hp.trans hTp.symm) hX hT2]
  rw [List.map_merge (f := fun x : TIt => x.1) (r := tle) (s := le) (fun a ha b hb => ?_)]
  · rw [show List.map (fun x : TIt => x.1) A.zipIdx = A from List.zipIdx_map_fst 0 A, show List.map (fun x : TIt => x.1) (B.zipIdx A.length) = B from List.zipIdx_map_fst _ B]
    rfl
  · have h1 := zip_mem ha
    have h2 := zip_mem hb
    have e : tlt b a ↔ less b.1 a.1 := by unfold tlt; constructor
                                          · rintro (h | h)
                                            · exact h
                                            · have := h.2; omega
                                          · exact Or.inl
    simp only [tle, le, e]

/-! symbols with their counts -/
def ple (a b : Int × Int) : Bool := decide (a.1 < b.1 ∨ (a.1 = b.1 ∧ a.2 ≤ b.2))
def sortP (Q : List (Int × Int)) : List (Int × Int) := Q.mergeSort ple
theorem sortP_perm (Q : List (Int × Int)) : (sortP Q).Perm Q := List.mergeSort_perm Q ple
theorem sortP_pw (Q : List (Int × Int)) : (sortP Q).Pairwise (fun a b => ple a b = true) :=
  List.pairwise_mergeSort (le := ple) (fun a b c h k => by simp only [ple, decide_eq_true_eq] at *; omega) (fun a b => by simp only [ple, Bool.or_eq_true, decide_eq_true_eq]; omega) Q
theorem sortP_sorted (Q : List (Int × Int)) : Sorted (leaves (sortP Q)) := by
  unfold leaves Sorted
  rw [List.pairwise_map]
  refine (sortP_pw Q).imp fun {a b} h => ?_
  simp only [ple, decide_eq_true_eq] at h
  unfold less leaf
  simp only [List.length_cons, List.length_nil]
  omega
theorem sortP_len (Q : List (Int × Int)) : (sortP Q).length = Q.length := (sortP_perm Q).length_eq
theorem leaves_unique {Q : List (Int × Int)} {X : List TIt} (hQ : Q.Pairwise (fun a b => a.2 < b.2)) (hp : X.Perm ((leaves Q).zipIdx)) (hX : X.Pairwise tlt) : X.map (·.1) = leaves (sortP Q) := by
  have hmem : ∀ x ∈ X, ∃ i, ∃ h : i < Q.length, x = (leaf Q[i], i) := by
    intro x hx
    have h := List.mem_zipIdx (hp.mem_iff.1 hx)
    have hl := leaves_len Q
    refine ⟨x.2, by omega, ?_⟩
    have := h.2.2
    simp only [Nat.sub_zero, leaves, List.getElem_map] at this
    exact Prod.ext this rfl
  have hY : (X.map fun x => (x.1.1, x.1.2.headD 0)).Perm Q := by
    have h := hp.map fun x => (x.1.1, x.1.2.headD 0)
    have e : ((leaves Q).zipIdx).map (fun x : TIt => (x.1.1, x.1.2.headD 0)) = Q := by
      have e1 : ((leaves Q).zipIdx).map (fun x : TIt => (x.1.1, x.1.2.headD 0)) = (((leaves Q).zipIdx).map Prod.fst).map (fun x : It => (x.1, x.2.headD 0)) := by rw [List.map_map]; rfl
      rw [e1, List.zipIdx_map_fst, leaves, List.map_map]
      have : ((fun x : It => (x.1, x.2.headD 0)) ∘ leaf) = id := by funext p; rfl
      rw [this, List.map_id]
    rw [e] at h
    exact h
  have hYp : (X.map fun x => (x.1.1, x.1.2.headD 0)).Pairwise (fun a b => ple a b = true) := by
    rw [List.pairwise_map]
    refine List.Pairwise.imp_of_mem ?_ hX
    intro a b ha hb h
    obtain ⟨i, hi, rfl⟩ := hmem a ha
    obtain ⟨j, hj, rfl⟩ := hmem b hb
    show ple (Q[i].1, Q[i].2) (Q[j].1, Q[j].2) = true
    simp only [ple, decide_eq_true_eq]
    unfold tlt less leaf at h
    simp only [List.length_cons, List.length_nil] at h
    rcases h with h | h
    · omega
    · have := (List.pairwise_iff_getElem.1 hQ) i j hi hj h.2
      omega
  have e := List.Perm.eq_of_pairwise (le := fun a b => ple a b = true) (fun a b _ _ h k => by simp only [ple, decide_eq_true_eq] at h k; exact Prod.ext (by omega) (by omega)) hYp (sortP_pw Q) (hY.trans (sortP_perm Q).symm)
  rw [← e, leaves, List.map_map]
  refine List.map_congr_left fun x hx => ?_
  obtain ⟨i, hi, rfl⟩ := hmem x hx
  rfl

/-- the counts that aren't 0, with their places -/
def lvsU (l : List Int) : Nat → List (Int × Int)
  | 0 => []
  | k + 1 => if 0 < l[k]?.getD 0 then lvsU l k ++ [(l[k]?.getD 0, (k : Int))] else lvsU l k
def lvs (l : List Int) : List (Int × Int) := lvsU l l.length
theorem lvsU_mem (l : List Int) (p : Int × Int) : ∀ k, p ∈ lvsU l k ↔ ∃ i, i < k ∧ 0 < l[i]?.getD 0 ∧ p = (l[i]?.getD 0, (i : Int))
  | 0 => by simp [lvsU]
  | k + 1 => by
    have ih := lvsU_mem l p k
    unfold lvsU
    split
    · rename_i h
      rw [List.mem_append, ih, List.mem_singleton]
      constructor
      · rintro (⟨i, h1, h2, h3⟩ | h1)
        · exact ⟨i, by omega, h2, h3⟩
        · exact ⟨k, by omega, h, h1⟩
      · rintro ⟨i, h1, h2, h3⟩
        by_cases e : i = k
        · subst e; exact .inr h3
        · exact .inl ⟨i, by omega, h2, h3⟩
    · rename_i h
      rw [ih]
      constructor
      · rintro ⟨i, h1, h2, h3⟩; exact ⟨i, by omega, h2, h3⟩
      · rintro ⟨i, h1, h2, h3⟩
        by_cases e : i = k
        · subst e; exact absurd h2 h
        · exact ⟨i, by omega, h2, h3⟩
theorem lvsU_pw (l : List Int) : ∀ k, (lvsU l k).Pairwise (fun a b => a.2 < b.2)
  | 0 => List.Pairwise.nil
  | k + 1 => by
    unfold lvsU
    split
    · refine List.pairwise_append.2 ⟨lvsU_pw l k, List.pairwise_singleton _ _, fun a ha b hb => ?_⟩
      obtain ⟨i, h1, h2, rfl⟩ := (lvsU_mem l a k).1 ha
      rw [List.mem_singleton.1 hb]
      show (i : Int) < k
      omega
    · exact lvsU_pw l k
theorem lvsU_len (l : List Int) : ∀ k, (lvsU l k).length ≤ k
  | 0 => Nat.le_refl _
  | k + 1 => by have := lvsU_len l k; unfold lvsU; split <;> simp <;> omega
theorem nodup_of_pw {Q : List (Int × Int)} (h : Q.Pairwise (fun a b => a.2 < b.2)) : (Q.map (·.2)).Nodup := by
  unfold List.Nodup
  rw [List.pairwise_map]
  exact h.imp fun h e => by omega
theorem sortP_nodup {Q : List (Int × Int)} (h : Q.Pairwise (fun a b => a.2 < b.2)) : ((sortP Q).map (·.2)).Nodup := ((sortP_perm Q).map _).nodup_iff.2 (nodup_of_pw h)
/-- how heavy, how long -/
theorem row_bd {P : List (Int × Int)} {w : Int} (h0 : ∀ p ∈ P, 0 ≤ p.1 ∧ p.1 ≤ w) : ∀ k, ∀ x ∈ row (leaves P) k, 0 ≤ x.1 ∧ x.1 ≤ w * 2 ^ k ∧ x.2.length ≤ 2 ^ k
  | 0, x, hx => by
    obtain ⟨p, hp, rfl⟩ := List.mem_map.1 hx
    have := h0 p hp
    exact ⟨this.1, by show p.1 ≤ w * 2 ^ 0; omega, Nat.le_refl _⟩
  | k + 1, x, hx => by
    have h2 : (2 : Int) ^ (k + 1) = 2 * 2 ^ k := by rw [Int.pow_succ]; omega
    have h2n : (2 : Nat) ^ (k + 1) = 2 * 2 ^ k := by rw [Nat.pow_succ]; omega
    have hp : (1 : Int) ≤ 2 ^ k := Int.pow_pos (by decide)
    have hpn : 1 ≤ 2 ^ k := Nat.one_le_two_pow
    have e : w * 2 ^ (k + 1) = w * 2 ^ k + w * 2 ^ k := by rw [h2, Int.mul_left_comm]; omega
    rcases mrg_mem.1 hx with hx | hx
    · obtain ⟨p, hp', rfl⟩ := List.mem_map.1 hx
      have := h0 p hp'
      have hw : w * 1 ≤ w * 2 ^ k := Int.mul_le_mul_of_nonneg_left hp (by omega)
      refine ⟨this.1, by show p.1 ≤ _; rw [e]; omega, by show 1 ≤ _; omega⟩
    · obtain ⟨u, v, hu, hv, rfl⟩ := mem_packs hx
      have a := row_bd h0 k u hu
      have b := row_bd h0 k v hv
      refine ⟨by show 0 ≤ u.1 + v.1; omega, by show u.1 + v.1 ≤ _; rw [e]; omega, by simp only [List.length_append]; omega⟩
end Go.SL.Pm
