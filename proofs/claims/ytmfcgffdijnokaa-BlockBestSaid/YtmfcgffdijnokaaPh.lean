/- contracts: merging sort, growing and joining of slices -/
import Derived.Test.YtmfcgffdijnokaaPg
import Derived.Lib.AppendZeros
set_option linter.unusedVariables false
set_option linter.unusedSimpArgs false
set_option linter.unusedSectionVars false
set_option maxRecDepth 100000
set_option maxHeartbeats 4000000
namespace Go.Proofs.Ytmfcgffdijnokaa
open Go.SL Go.RowKit
attribute [local irreducible] Wpl Wpc Wph
/-! the plain law of merging two sorted runs of tagged items; two neighbours of an own slice of items change places -/
section
variable {q : Md} {C : Cx} {ops : Array Oper} {rest : List Oper} {Q : Exit → Env → List Frag → List Frag → Prop} {f : Env} {R M : List Frag}
variable {d : Nat} {ty : TypeId} {pos : String} {af : Array Edge}
theorem wrap_u64 {m : Int} (hb : 0 ≤ m ∧ m ≤ 9223372036854775807) : IntKind.u64.wrap m = m := by
  have : IntKind.u64.wrap m = m % 18446744073709551616 := rfl
  rw [this]; omega
theorem Wpl.u64 {x : Operand} {s t : TypeId} {k2 : IntKind} [hs : IntT C.P s k2] [ht : IntT C.P t .u64] {m : Int} (hd : Nat.blt d C.n = true) (hx : f.ev x = .int k2 m) (hb : 0 ≤ m ∧ m ≤ 9223372036854775807)
    (k1 : Wpl q C ops rest Q (f.upd d (.int .u64 m)) R M) : Wpl q C ops (⟨some d, .convert s t x, ty, pos, af, none⟩ :: rest) Q f R M :=
  Wpl.convInt hd hs.h ht.h hx (by rw [wrap_u64 hb]; exact k1)
end
section
variable {C : Cx} {ops : Array Oper} {rest : List Oper} {Q : Exit → Env → List Frag → List Frag → Prop} {f : Env} {R M : List Frag} {K : Env → List Frag → List Frag → Prop} {y z : Code}
@[reducible] def JoinAt {ι : Type} (I : ι → Prop) (L : ι → List (Nat × Value)) (Ms : ι → List Frag) (R : List Frag) (f' : Env) (R' M' : List Frag) : Prop := ∃ i, I i ∧ Agree f' (L i) ∧ Sel M' (Ms i) ∧ (∀ F ∈ R, F ∈ R')
/-- the ways through the next piece of code meet behind it -/
theorem Wpl.cutK {K2 : Env → List Frag → List Frag → Prop} (hK : ∀ f R M, Wpc C y (thenQ K2 Q) f R M → K f R M) (hK2 : ∀ f R M, Wpc C z Q f R M → K2 f R M) {ι : Type} (I : ι → Prop) (L : ι → List (Nat × Value)) (Ms : ι → List Frag)
    (h : ∀ K' : Env → List Frag → List Frag → Prop, (∀ f R' M, Wpc C y (thenQ (JoinAt I L Ms R) Q) f R' M → K' f R' M) → Wpl .seq C ops rest (thenQ K' (thenQ K2 Q)) f R M)
    (k : ∀ i g, I i → Wpc C z Q (Env.mk (L i) g) R (Ms i)) : Wpl .seq C ops rest (thenQ K (thenQ K2 Q)) f R M :=
  h K fun f R' M hy => hK _ _ _ (hy.mono fun e f' R2 M2 hq => by
    cases e with
    | normal =>
      obtain ⟨i, h1, h2, h3, h4⟩ := hq
      refine hK2 _ _ _ ?_
      have := k i f' h1
      rw [h2.mk] at this
      unfold Wpc at this ⊢
      intro a w ha hw
      exact this a w ha ((hw.sel h3).weakR h4)
    | _ => exact hq)
end
theorem half_eq (i j : Nat) : ((i : Int) + j) / 2 ^ (1 : Int).toNat = (((i + j) / 2 : Nat) : Int) := by show ((i : Int) + j) / 2 = _; omega
theorem its_append (A B : List TI) : its (A ++ B) = its A ++ its B := by simp [its]
/-- rotM on tagged items -/
def rotT (L : List TI) (a m b : Nat) : List TI := L.take a ++ ((L.drop m).take (b - m) ++ ((L.drop a).take (m - a) ++ L.drop b))
theorem rotT_its (L : List TI) (a m b : Nat) : its (rotT L a m b) = rotM (its L) a m b := by
  simp [its, rotT, rotM, List.map_take, List.map_drop]
theorem rotT_parts {P X Y D : List TI} {a m b : Nat} (ha : P.length = a) (hm : a + X.length = m) (hb : m + Y.length = b) : rotT (P ++ (X ++ (Y ++ D))) a m b = P ++ (Y ++ (X ++ D)) := by
  subst ha hm hb
  have e1 : (P ++ (X ++ (Y ++ D))).drop (P.length + X.length) = Y ++ D := by rw [← List.append_assoc P X, ← List.length_append]; exact List.drop_left
  have e2 : (P ++ (X ++ (Y ++ D))).drop (P.length + X.length + Y.length) = D := by
    rw [← List.drop_drop, e1]; exact List.drop_left
  unfold rotT
  rw [e1, e2, List.take_left, List.drop_left, show P.length + X.length + Y.length - (P.length + X.length) = Y.length by omega, show P.length + X.length - P.length = X.length by omega, List.take_left, List.take_left]
theorem lt_total {x y : TI} (h : x.2 ≠ y.2) : lt x y ∨ lt y x := by unfold lt less; omega
instance (x y : Int × Value) : Decidable (less x y) := by unfold less; infer_instance
def tat (L : List TI) (k : Nat) : TI := L.getD k ((0, .slice none 0 0), 0)
theorem tat_get {L : List TI} {k : Nat} (h : k < L.length) : tat L k = L[k] := by simp [tat, List.getD, h]
theorem tat_skip {P Q : List TI} {p k : Nat} (hp : P.length = p) (hk : p ≤ k) : tat (P ++ Q) k = tat Q (k - p) := by
  subst hp; simp [tat, List.getD, List.getElem?_append_right hk]
theorem tat_in {X Q : List TI} {k : Nat} (h : k < X.length) : tat (X ++ Q) k = tat X k := by
  simp [tat, List.getD, List.getElem?_append_left h]
theorem tat_mem {L : List TI} {k : Nat} (h : k < L.length) : tat L k ∈ L := by rw [tat_get h]; exact List.getElem_mem _
theorem pw_tat {X : List TI} (h : X.Pairwise lt) {i j : Nat} (hij : i < j) (hj : j < X.length) : lt (tat X i) (tat X j) := by
  rw [tat_get (by omega), tat_get hj]
  exact List.pairwise_iff_getElem.1 h i j (by omega) hj hij
theorem mem_take_tat {X : List TI} {i : Nat} {x : TI} (h : x ∈ X.take i) : ∃ k, k < i ∧ k < X.length ∧ x = tat X k := by
  obtain ⟨k, hk, e⟩ := List.getElem_of_mem h
  rw [List.length_take] at hk
  refine ⟨k, by omega, by omega, ?_⟩
  rw [tat_get (by omega), ← e, List.getElem_take]
theorem mem_drop_tat {X : List TI} {i : Nat} {x : TI} (h : x ∈ X.drop i) : ∃ k, i ≤ k ∧ k < X.length ∧ x = tat X k := by
  obtain ⟨k, hk, e⟩ := List.getElem_of_mem h
  rw [List.length_drop] at hk
  refine ⟨i + k, by omega, by omega, ?_⟩
  rw [tat_get (by omega), ← e, List.getElem_drop]
theorem lt_nl {x y : TI} (h : lt x y) : ¬ less y.1 x.1 := by unfold lt less at *; omega
theorem nl_le {X : List TI} (h : X.Pairwise lt) {i j : Nat} (hij : i ≤ j) (hj : j < X.length) : ¬ less (tat X j).1 (tat X i).1 := by
  rcases Nat.lt_or_ge i j with h1 | h1
  · exact lt_nl (pw_tat h h1 hj)
  · have e : i = j := by omega
    subst e; unfold less; omega
theorem less_of {x y z : Int × Value} (h : less x y) (k : ¬ less z y) : less x z := by unfold less at *; omega
theorem less_of' {x y z : Int × Value} (h : ¬ less y x) (k : less y z) : less x z := by unfold less at *; omega
/-- the two halves of a symmetric merge -/
theorem sym_join {X Y S1 S2 : List TI} (hX : X.Pairwise lt) (hY : Y.Pairwise lt) (htag : ∀ x ∈ X, ∀ y ∈ Y, x.2 < y.2) (i j : Nat) (hi : i ≤ X.length) (hj : j ≤ Y.length)
    (h1 : i = 0 ∨ j = Y.length ∨ ¬ less (tat Y j).1 (tat X (i - 1)).1) (h2 : j = 0 ∨ i = X.length ∨ less (tat Y (j - 1)).1 (tat X i).1)
    (p1 : S1.Perm (X.take i ++ Y.take j)) (p2 : S2.Perm (X.drop i ++ Y.drop j)) (w1 : S1.Pairwise lt) (w2 : S2.Pairwise lt) : (S1 ++ S2).Perm (X ++ Y) ∧ (S1 ++ S2).Pairwise lt := by
  constructor
  · have h := p1.append p2
    refine h.trans ?_
    have e : X ++ Y = (X.take i ++ X.drop i) ++ (Y.take j ++ Y.drop j) := by rw [List.take_append_drop, List.take_append_drop]
    rw [e, List.append_assoc, List.append_assoc]
    refine List.Perm.append_left _ ?_
    rw [← List.append_assoc, ← List.append_assoc]
    exact List.Perm.append_right _ List.perm_append_comm
  · refine List.pairwise_append.2 ⟨w1, w2, fun u hu v hv => ?_⟩
    have hu' := p1.mem_iff.1 hu
    have hv' := p2.mem_iff.1 hv
    rcases List.mem_append.1 hu' with hu' | hu' <;> rcases List.mem_append.1 hv' with hv' | hv'
    · obtain ⟨k, a1, a2, rfl⟩ := mem_take_tat hu'
      obtain ⟨l, b1, b2, rfl⟩ := mem_drop_tat hv'
      exact pw_tat hX (by omega) b2
    · obtain ⟨k, a1, a2, rfl⟩ := mem_take_tat hu'
      obtain ⟨l, b1, b2, rfl⟩ := mem_drop_tat hv'
      have hn : ¬ less (tat Y j).1 (tat X (i - 1)).1 := by rcases h1 with h | h | h; omega; omega; exact h
      have c1 := nl_le hX (i := k) (j := i - 1) (by omega) (by omega)
      have c2 := nl_le hY (i := j) (j := l) b1 b2
      refine .inr ⟨?_, htag _ (tat_mem a2) _ (tat_mem b2)⟩
      unfold less at *; omega
    · obtain ⟨k, a1, a2, rfl⟩ := mem_take_tat hu'
      obtain ⟨l, b1, b2, rfl⟩ := mem_drop_tat hv'
      have hn : less (tat Y (j - 1)).1 (tat X i).1 := by rcases h2 with h | h | h; omega; omega; exact h
      have c1 := nl_le hY (i := k) (j := j - 1) (by omega) (by omega)
      have c2 := nl_le hX (i := i) (j := l) b1 b2
      exact .inl (less_of' c1 (less_of hn c2))
    · obtain ⟨k, a1, a2, rfl⟩ := mem_take_tat hu'
      obtain ⟨l, b1, b2, rfl⟩ := mem_drop_tat hv'
      exact pw_tat hY (by omega) b2
/-! own slices of tagged items -/
def OwnT (F : Frag) (v : Value) (L : List TI) : Prop := OwnRow 245 2 F v L.length (flat itemC (its L))
theorem OwnT.eq {F : Frag} {v : Value} {L L' : List TI} (h : OwnT F v L) (e : L = L') : OwnT F v L' := e ▸ h
def put2 (c : Array Value) (m : Nat) (t : Int × Value) : Array Value := (c.toList.take (m * 2) ++ itemC t ++ c.toList.drop (m * 2 + 2)).toArray
theorem put2_size {c : Array Value} {m : Nat} {t : Int × Value} (h : m * 2 + 2 ≤ c.size) : (put2 c m t).size = c.size := by
  simp [put2, itemC_len]; omega
theorem OwnT.at {F : Frag} {v : Value} {L : List TI} (h : OwnT F v L) (hp : 0 < L.length) :
    ∃ b c cap, F = [(b, .cells c 245 (0, 0))] ∧ v = .slice (some ⟨b, 0, none⟩) L.length cap ∧ c.size = cap * 2 ∧ L.length ≤ cap ∧ cap ≤ maxLen ∧
      ∀ k, k < L.length → (c.toList.drop (k * 2)).take 2 = itemC (tat L k).1 := by
  obtain ⟨b, c, cap, rfl, rfl, hh, hc, hcap, hmax⟩ := own_items (OwnRow.cast h (its_len L).symm rfl) (by rw [its_len]; exact hp)
  rw [its_len] at hcap ⊢
  refine ⟨b, c, cap, rfl, rfl, hc, hcap, hmax, fun k hk => ?_⟩
  have := hh.get (m := k) (by rw [its_len]; exact hk)
  rw [this, its_get L k hk, tat_get hk]
theorem OwnT.swap {b cap : Nat} {c : Array Value} {A B : List TI} {x y : TI} (h : OwnT [(b, .cells c 245 (0, 0))] (.slice (some ⟨b, 0, none⟩) (A ++ (x :: y :: B)).length cap) (A ++ (x :: y :: B))) :
    c.size = cap * 2 ∧ A.length + 2 ≤ cap ∧
    OwnT [(b, .cells (put2 (put2 c A.length y.1) (A.length + 1) x.1) 245 (0, 0))] (.slice (some ⟨b, 0, none⟩) (A ++ (x :: y :: B)).length cap) (A ++ (y :: x :: B)) ∧
    OwnT [(b, .cells (put2 (put2 c (A.length + 1) x.1) A.length y.1) 245 (0, 0))] (.slice (some ⟨b, 0, none⟩) (A ++ (x :: y :: B)).length cap) (A ++ (y :: x :: B)) := by
  have hl : (its (A ++ (x :: y :: B))).length = (A ++ (x :: y :: B)).length := its_len _
  obtain ⟨b', c', cap', e1, e2, hh, hc, hcap, hmax⟩ := own_items (OwnRow.cast h hl.symm rfl) (by rw [hl]; simp; omega)
  simp only [List.cons.injEq, Prod.mk.injEq, Obj.cells.injEq, and_true, true_and] at e1
  obtain ⟨rfl, rfl⟩ := e1
  rw [hl] at e2 hcap
  simp only [Value.slice.injEq, true_and] at e2
  subst e2
  have hA : A.length + 2 ≤ (A ++ (x :: y :: B)).length := by simp
  have hAl : A.length < (its (A ++ (x :: y :: B))).length := by rw [hl]; omega
  have hAl1 : A.length + 1 < (its (A ++ (x :: y :: B))).length := by rw [hl]; omega
  have s1 := hh.set hAl y.1
  have s12 := s1.set (m := A.length + 1) (by rw [List.length_set]; exact hAl1) x.1
  have s2 := hh.set hAl1 x.1
  have s21 := s2.set (m := A.length) (by rw [List.length_set]; exact hAl) y.1
  have k1 : (put2 c A.length y.1).size = c.size := put2_size (by omega)
  have k2 : (put2 c (A.length + 1) x.1).size = c.size := put2_size (by omega)
  have k12 : (put2 (put2 c A.length y.1) (A.length + 1) x.1).size = c.size := (put2_size (by rw [k1]; omega)).trans k1
  have k21 : (put2 (put2 c (A.length + 1) x.1) A.length y.1).size = c.size := (put2_size (by rw [k2]; omega)).trans k2
  have o12 := items_own (b := b) s12 (k12.trans hc) (by rw [List.length_set, List.length_set, hl]; exact hcap) hmax
  have o21 := items_own (b := b) s21 (k21.trans hc) (by rw [List.length_set, List.length_set, hl]; exact hcap) hmax
  rw [List.length_set, List.length_set, hl] at o12 o21
  have e : its (A ++ (x :: y :: B)) = its A ++ (x.1 :: y.1 :: its B) := by simp [its]
  have e' : its (A ++ (y :: x :: B)) = its A ++ (y.1 :: x.1 :: its B) := by simp [its]
  have hlA : (its A).length = A.length := its_len A
  refine ⟨hc, by omega, ?_, ?_⟩
  · refine OwnRow.cast o12 (by simp) ?_
    rw [e, e', ← hlA]; simp [List.set_append]
  · refine OwnRow.cast o21 (by simp) ?_
    rw [e, e', ← hlA]; simp [List.set_append]
theorem OwnT.atS {F : Frag} {bb n cap : Nat} {L : List TI} (h : OwnT F (.slice (some ⟨bb, 0, none⟩) n cap) L) (hp : 0 < L.length) :
    n = L.length ∧ ∃ c, F = [(bb, .cells c 245 (0, 0))] ∧ c.size = cap * 2 ∧ L.length ≤ cap ∧ cap ≤ maxLen ∧ ∀ k, k < L.length → (c.toList.drop (k * 2)).take 2 = itemC (tat L k).1 := by
  obtain ⟨b, c, cap', rfl, hv, h1, h2, h3, h4⟩ := h.at hp
  simp only [Value.slice.injEq, Option.some.injEq, Addr.mk.injEq, and_true] at hv
  obtain ⟨rfl, rfl, rfl⟩ := hv
  exact ⟨rfl, c, rfl, h1, h2, h3, h4⟩
theorem OwnT.swapS {b n cap : Nat} {c : Array Value} {L A B : List TI} {x y : TI} (h : OwnT [(b, .cells c 245 (0, 0))] (.slice (some ⟨b, 0, none⟩) n cap) L) (hL : L = A ++ (x :: y :: B)) :
    c.size = cap * 2 ∧ A.length + 2 ≤ cap ∧ A.length + 1 < n ∧ (c.toList.drop (A.length * 2)).take 2 = itemC x.1 ∧ (c.toList.drop ((A.length + 1) * 2)).take 2 = itemC y.1 ∧
    OwnT [(b, .cells (put2 (put2 c A.length y.1) (A.length + 1) x.1) 245 (0, 0))] (.slice (some ⟨b, 0, none⟩) n cap) (A ++ (y :: x :: B)) ∧
    OwnT [(b, .cells (put2 (put2 c (A.length + 1) x.1) A.length y.1) 245 (0, 0))] (.slice (some ⟨b, 0, none⟩) n cap) (A ++ (y :: x :: B)) := by
  subst hL
  obtain ⟨e, c', e1, h1, h2, h3, h4⟩ := h.atS (by simp; omega)
  simp only [List.cons.injEq, Prod.mk.injEq, Obj.cells.injEq, and_true, true_and] at e1
  subst e1 e
  obtain ⟨s1, s2, s3, s4⟩ := h.swap
  have hA : A.length + 1 < (A ++ (x :: y :: B)).length := by simp
  have g1 := h4 A.length (by omega)
  have g2 := h4 (A.length + 1) hA
  rw [tat_skip (p := A.length) rfl (Nat.le_refl _), Nat.sub_self] at g1
  rw [tat_skip (p := A.length) rfl (by omega), show A.length + 1 - A.length = 1 by omega] at g2
  exact ⟨s1, s2, hA, g1, g2, s3, s4⟩
theorem tat_cons {X : List TI} {k : Nat} (h : k < X.length) : X.drop k = tat X k :: X.drop (k + 1) := by rw [tat_get h, List.drop_eq_getElem_cons h]
theorem tat_snoc {X : List TI} {k : Nat} (h : k < X.length) : X.take (k + 1) = X.take k ++ [tat X k] := by rw [tat_get h, List.take_succ_eq_append_getElem h]
end Go.Proofs.Ytmfcgffdijnokaa
set_option maxRecDepth 100000
set_option maxHeartbeats 4000000
namespace Go.Proofs.Ytmfcgffdijnokaa
open Go.SL Go.RowKit
attribute [local irreducible] Wpl Wpc Wph
/-! symMerge -/
theorem symMerge_spec : ∀ (dd : Nat) (F : Frag) (v : Value) (P X Y D : List TI) (a m b : Nat), b - a ≤ dd → P.length = a → a + X.length = m → m + Y.length = b → 0 < X.length → 0 < Y.length →
    OwnT F v (P ++ (X ++ (Y ++ D))) → (P ++ (X ++ (Y ++ D))).length ≤ 1000000000 → (∀ x ∈ P ++ (X ++ (Y ++ D)), isSl x.1.2) → X.Pairwise lt → Y.Pairwise lt → (∀ x ∈ X, ∀ y ∈ Y, x.2 < y.2) →
    Ctr Try.prog 182 [v, .int .i64 a, .int .i64 m, .int .i64 b, fnV 168] [] [F]
      (fun _ M' => ∃ F' S, M' = [F'] ∧ S.Perm (X ++ Y) ∧ S.Pairwise lt ∧ OwnT F' v (P ++ (S ++ D))) := by
  intro dd
  induction dd with
  | zero => intro F v P X Y D a m b h1 h2 h3 h4 h5 h6; omega
  | succ dd ih =>
  intro F v P X Y D a m b hd hP hX hY hX0 hY0 hv hl hsl wX wY htag
  have hlen : (P ++ (X ++ (Y ++ D))).length = b + D.length := by simp only [List.length_append]; omega
  obtain ⟨bb, c, cap, rfl, rfl, hcz, hcap, hmax, hget⟩ := hv.at (by omega)
  have htX : ∀ k, a ≤ k → k < m → tat (P ++ (X ++ (Y ++ D))) k = tat X (k - a) := fun k h1 h2 => by rw [tat_skip hP h1, tat_in (by omega)]
  have htY : ∀ k, m ≤ k → k < b → tat (P ++ (X ++ (Y ++ D))) k = tat Y (k - m) := fun k h1 h2 => by
    rw [tat_skip hP (by omega), tat_skip (p := X.length) rfl (by omega), tat_in (by omega)]
    congr 1; omega
  have hslk : ∀ k, k < b → isSl (tat (P ++ (X ++ (Y ++ D))) k).1.2 := fun k h => hsl _ (tat_mem (by omega))
  have hbv : b ≤ 1000000000 := by omega
  refine Ctr.intro Try.func182 (by kernel_rfl) rfl (by conv => lhs; whnf) rfl fun W => ?_
  repeat' (first | (apply Wpc.seqK; intro K hK) | apply Wpc.region | apply Wpl.nil | (apply hK; clear hK K) | (apply Wpl.mv; exact rfl; (conv => lhs; whnf)) | (apply Wpl.asg; exact rfl; (conv => lhs; whnf)) | (apply Wpc.cond_true; exact rfl) | (apply Wpc.cond_false; exact rfl) | apply Wpc.block | apply Wpc.skip | (apply Wpl.eql; exact rfl; exact rfl; exact rfl; all_goals (intro h; try (exfalso; omega))) | (apply Wpl.add; exact rfl; exact rfl; exact rfl; omega) | (apply Wpl.sub; exact rfl; exact rfl; exact rfl; omega))
  · have hm1 : m = a + 1 := by omega
    have hX1 : X = [tat X 0] := by
      match X, hX with
      | [x], _ => rfl
      | [], h => simp at hX0
      | x :: y :: X, h => simp at h; omega
    have hgX : tat (P ++ (X ++ (Y ++ D))) a = tat X 0 := by rw [htX a (Nat.le_refl _) (by omega)]; congr 1; omega
    generalize hxd : tat X 0 = x at *
    refine Wpc.loop (ι := Nat × Nat) (fun i => m ≤ i.1 ∧ i.1 ≤ i.2 ∧ i.2 ≤ b ∧ (∀ k, k < i.1 - m → less (tat Y k).1 x.1) ∧ (∀ k, i.2 - m ≤ k → k < Y.length → ¬ less (tat Y k).1 x.1))
      (fun i => [(0, .slice (some ⟨bb, 0, none⟩) (P ++ (X ++ (Y ++ D))).length cap), (1, .int .i64 a), (2, .int .i64 m), (3, .int .i64 b), (4, fnV 168), (10, .int .i64 i.1), (11, .int .i64 i.2)])
      (fun _ => [[(bb, .cells c 245 (0, 0))]]) (fun i => i.2 - i.1) (m, b) ⟨by omega, by omega, by omega, fun k hk => by omega, fun k h1 h2 => by omega⟩ ⟨rfl, rfl, rfl, rfl, rfl, rfl, rfl, trivial⟩ (Sel.refl _) ?_
    rintro ⟨i, j⟩ g ⟨hi, hij, hjb, hlo, hhi⟩
    dsimp only at hi hij hjb hlo hhi ⊢
    repeat' (first | (apply Wpl.u64; exact rfl; exact rfl; omega) | (apply Wpc.seqK; intro K hK) | apply Wpc.region | apply Wpl.nil | (apply hK; clear hK K) | (apply Wpl.mv; exact rfl; (conv => lhs; whnf)) | (apply Wpl.asg; exact rfl; (conv => lhs; whnf)) | (apply Wpc.cond_true; exact rfl) | (apply Wpc.cond_false; exact rfl) | apply Wpc.block | apply Wpc.skip | apply Wpc.exit | (apply Wpl.lss; exact rfl; exact rfl; exact rfl; all_goals (intro h; try (exfalso; omega))) | (apply Wpl.add; exact rfl; exact rfl; exact rfl; omega) | ((conv => whnf); clear hK K; apply hK; clear hK K))
    · refine Wpl.shrV rfl rfl rfl (by decide) (half_eq i j) ?_
      generalize hh : (i + j) / 2 = mi at *
      have hh1 : i ≤ mi ∧ mi < j := by omega
      have hcmp := byW_spec (hslk mi (by omega)) (hslk a (by omega))
      have hcl := cmpI_lt (tat (P ++ (X ++ (Y ++ D))) mi).1 (tat (P ++ (X ++ (Y ++ D))) a).1
      rw [htY mi (by omega) (by omega), hgX] at hcl hcmp
      have hg1 := hget mi (by omega)
      have hg2 := hget a (by omega)
      rw [htY mi (by omega) (by omega)] at hg1
      rw [hgX] at hg2
      repeat' (first | (apply Wpc.region_draw; kernel_rfl; kernel_rfl) | (apply Wpc.seqK; intro K hK) | apply Wpl.nil | (apply hK; clear hK K) | (apply Wpl.mv; exact rfl; (conv => lhs; whnf)) | (apply Wpl.asg; exact rfl; (conv => lhs; whnf)) | (apply Wpl.i64; exact rfl; exact rfl; omega))
      refine Wpl.idxK (o := mi * 2) rfl rfl rfl (by omega) (by omega) (by omega) ?_
      refine Wpl.ldAgg 0 0 rfl rfl rfl hg1 rfl ?_
      repeat' (apply Wpl.mv; exact rfl; (conv => lhs; whnf))
      refine Wpl.idxK (o := a * 2) rfl rfl rfl (by omega) (by omega) (by omega) ?_
      refine Wpl.ldAgg 0 0 rfl rfl rfl hg2 rfl ?_
      repeat' (first | (apply Wpl.callP; exact rfl; exact rfl; exact rfl; exact rfl; (exact hcmp); (exact HasF.nil)) | apply Wpc.region | apply Wpl.nil | (apply hK; clear hK K) | (apply Wpl.mv; exact rfl; (conv => lhs; whnf)) | (apply Wpl.asg; exact rfl; (conv => lhs; whnf)) | (apply Wpc.cond_true; exact rfl) | (apply Wpc.cond_false; exact rfl) | (apply Wpl.lss; exact rfl; exact rfl; exact rfl; all_goals (intro h; try (exfalso; omega))) | (apply Wpl.add; exact rfl; exact rfl; exact rfl; omega))
      · have hless := hcl.1 (by assumption)
        exact ⟨(mi + 1, j), ⟨by omega, by omega, hjb, fun k hk => less_of' (nl_le wY (i := k) (j := mi - m) (by omega) (by omega)) hless, hhi⟩, by show j - (mi + 1) < j - i; omega, ⟨rfl, rfl, rfl, rfl, rfl, rfl, rfl, trivial⟩, Sel.refl _, fun _ h => h⟩
      · have hnl : ¬ less (tat Y (mi - m)).1 x.1 := fun hh => by have := hcl.2 hh; omega
        exact ⟨(i, mi), ⟨hi, by omega, by omega, hlo, fun k h1 h2 => by have := nl_le wY (i := mi - m) (j := k) h1 h2; unfold less at *; omega⟩, by show mi - i < j - i; omega, ⟨rfl, rfl, rfl, rfl, rfl, rfl, rfl, trivial⟩, Sel.refl _, fun _ h => h⟩
    · have hji : i = j := by omega
      subst hji
      have hv0 : OwnT [(bb, .cells c 245 (0, 0))] (.slice (some ⟨bb, 0, none⟩) (P ++ (X ++ (Y ++ D))).length cap) (P ++ (Y.take 0 ++ (x :: (Y.drop 0 ++ D)))) := by
        rw [List.take_zero, List.drop_zero, List.nil_append]
        have : X ++ (Y ++ D) = x :: (Y ++ D) := by rw [hX1]; rfl
        rw [← this]; exact hv
      generalize (P ++ (X ++ (Y ++ D))).length = vl at *
      refine Wpc.loop (ι := Nat × Frag) (fun s => s.1 ≤ i - m ∧ OwnT s.2 (.slice (some ⟨bb, 0, none⟩) vl cap) (P ++ (Y.take s.1 ++ (x :: (Y.drop s.1 ++ D)))))
        (fun s => [(0, .slice (some ⟨bb, 0, none⟩) vl cap), (10, .int .i64 i), (13, .int .i64 ((a + s.1 : Nat) : Int))]) (fun s => [s.2]) (fun s => i - m - s.1) (0, [(bb, .cells c 245 (0, 0))]) ⟨by omega, hv0⟩ ⟨rfl, rfl, rfl, trivial⟩ (Sel.refl _) ?_
      rintro ⟨kk, F'⟩ g ⟨hkk, hv'⟩
      dsimp only at hkk hv' ⊢
      have hAl : (P ++ Y.take kk).length = a + kk := by rw [List.length_append, List.length_take]; omega
      repeat' (first | (apply Wpc.seqK; intro K hK) | apply Wpc.region | apply Wpl.nil | (apply hK; clear hK K) | (apply Wpl.mv; exact rfl; (conv => lhs; whnf)) | (apply Wpc.cond_true; exact rfl) | (apply Wpc.cond_false; exact rfl) | apply Wpc.skip | apply Wpc.exit | apply Wpc.ret | (apply Wpl.lss; exact rfl; exact rfl; exact rfl; all_goals (intro h; try (exfalso; omega))) | (apply Wpl.sub; exact rfl; exact rfl; exact rfl; omega) | ((conv => whnf); clear hK K; apply hK; clear hK K))
      · have hlt : kk < i - m := by omega
        have hkY : kk < Y.length := by omega
        obtain ⟨_, c', rfl, _, _, _, _⟩ := hv'.atS (by simp; omega)
        obtain ⟨s1, s2, s3, g1, g2, s4, s5⟩ := hv'.swapS (A := P ++ Y.take kk) (x := x) (y := tat Y kk) (B := Y.drop (kk + 1) ++ D) (by rw [tat_cons hkY]; simp)
        rw [hAl] at s2 s3 g1 g2 s4
        have hsx : isSl x.1.2 := by rw [← hgX]; exact hslk a (by omega)
        have hsy : isSl (tat Y kk).1.2 := by have := hslk (m + kk) (by omega); rw [htY _ (by omega) (by omega), show m + kk - m = kk by omega] at this; exact this
        have hox : x.1.2.oneCell' = true := by obtain ⟨_, _, _, he⟩ := hsx; rw [he]; rfl
        have hoy : (tat Y kk).1.2.oneCell' = true := by obtain ⟨_, _, _, he⟩ := hsy; rw [he]; rfl
        have hz : (put2 c' (a + kk) (tat Y kk).1).size = c'.size := put2_size (by omega)
        refine Wpc.block ?_
        skip
        refine Wpc.region_u 14 18 [2, 3, 4] (by kernel_rfl) rfl rfl ?_
        (refine Wpu.take0 2 rfl (by kernel_rfl) rfl (fun _ _ _ _ h => h) ?_; (repeat' (first | apply Wpl.nil | (apply Wpl.mv; exact rfl; (conv => lhs; whnf))))); (refine Wpu.take0 3 rfl (by kernel_rfl) rfl (fun _ _ _ _ h => h) ?_; (repeat' (first | apply Wpl.nil | (apply Wpl.mv; exact rfl; (conv => lhs; whnf))))); (refine Wpu.take0 4 rfl (by kernel_rfl) rfl (fun _ _ _ _ h => h) ?_; (repeat' (first | apply Wpl.nil | (apply Wpl.add; exact rfl; exact rfl; exact rfl; omega)))); skip
        (refine Wpu.take 0 rfl (by kernel_rfl) rfl (fun _ _ _ _ h => h) (fun _ h => h) (by first | exact Sel.refl _ | exact Sel.tail _ _ | exact Sel.nil _ | exact (Sel.tail _ _).trans (Sel.tail _ _) | exact (Sel.tail _ _).trans ((Sel.tail _ _).trans (Sel.tail _ _))) ?_; (repeat' (first | apply Wpl.nil | (apply Wpl.mv; exact rfl; (conv => lhs; whnf))))); (refine Wpu.take 1 rfl (by kernel_rfl) rfl (fun _ _ _ _ h => h) (fun _ h => h) (by first | exact Sel.refl _ | exact Sel.tail _ _ | exact Sel.nil _ | exact (Sel.tail _ _).trans (Sel.tail _ _) | exact (Sel.tail _ _).trans ((Sel.tail _ _).trans (Sel.tail _ _))) ?_; (repeat' (first | apply Wpl.nil | (apply Wpl.mv; exact rfl; (conv => lhs; whnf))))); (refine Wpu.take 5 rfl (by kernel_rfl) rfl (fun _ _ _ _ h => h) (fun _ h => h) (by first | exact Sel.refl _ | exact Sel.tail _ _ | exact Sel.nil _ | exact (Sel.tail _ _).trans (Sel.tail _ _) | exact (Sel.tail _ _).trans ((Sel.tail _ _).trans (Sel.tail _ _))) ?_; (repeat' (first | apply Wpl.nil | (apply Wpl.mv; exact rfl; (conv => lhs; whnf))))); (refine Wpu.take 6 rfl (by kernel_rfl) rfl (fun _ _ _ _ h => h) (fun _ h => h) (by first | exact Sel.refl _ | exact Sel.tail _ _ | exact Sel.nil _ | exact (Sel.tail _ _).trans (Sel.tail _ _) | exact (Sel.tail _ _).trans ((Sel.tail _ _).trans (Sel.tail _ _))) ?_; (repeat' (first | apply Wpl.nil | (apply Wpl.mv; exact rfl; (conv => lhs; whnf))))); (refine Wpu.take 7 rfl (by kernel_rfl) rfl (fun _ _ _ _ h => h) (fun _ h => h) (by first | exact Sel.refl _ | exact Sel.tail _ _ | exact Sel.nil _ | exact (Sel.tail _ _).trans (Sel.tail _ _) | exact (Sel.tail _ _).trans ((Sel.tail _ _).trans (Sel.tail _ _))) ?_; (repeat' (first | apply Wpl.nil | (apply Wpl.add; exact rfl; exact rfl; exact rfl; omega)))); skip
        refine Wpu.take 8 rfl (by kernel_rfl) rfl (fun _ _ _ _ h => h) (fun _ h => h) (by first | exact Sel.refl _ | exact Sel.tail _ _ | exact Sel.nil _ | exact (Sel.tail _ _).trans (Sel.tail _ _) | exact (Sel.tail _ _).trans ((Sel.tail _ _).trans (Sel.tail _ _))) ?_
        refine Wpl.idxK (o := (a + kk + 1) * 2) rfl rfl rfl (by omega) (by omega) (by omega) ?_
        repeat' (apply Wpl.nil)
        refine Wpu.take 9 rfl (by kernel_rfl) rfl (fun _ _ _ _ h => h) (fun _ h => h) (by first | exact Sel.refl _ | exact Sel.tail _ _ | exact Sel.nil _ | exact (Sel.tail _ _).trans (Sel.tail _ _) | exact (Sel.tail _ _).trans ((Sel.tail _ _).trans (Sel.tail _ _))) ?_
        refine Wpl.ldAgg 0 0 rfl rfl rfl g2 rfl ?_
        repeat' (apply Wpl.nil)
        (refine Wpu.take 10 rfl (by kernel_rfl) rfl (fun _ _ _ _ h => h) (fun _ h => h) (by first | exact Sel.refl _ | exact Sel.tail _ _ | exact Sel.nil _ | exact (Sel.tail _ _).trans (Sel.tail _ _) | exact (Sel.tail _ _).trans ((Sel.tail _ _).trans (Sel.tail _ _))) ?_; (repeat' (first | apply Wpl.nil | (apply Wpl.mv; exact rfl; (conv => lhs; whnf))))); (refine Wpu.take 11 rfl (by kernel_rfl) rfl (fun _ _ _ _ h => h) (fun _ h => h) (by first | exact Sel.refl _ | exact Sel.tail _ _ | exact Sel.nil _ | exact (Sel.tail _ _).trans (Sel.tail _ _) | exact (Sel.tail _ _).trans ((Sel.tail _ _).trans (Sel.tail _ _))) ?_; (repeat' (first | apply Wpl.nil | (apply Wpl.mv; exact rfl; (conv => lhs; whnf))))); skip
        refine Wpu.take 12 rfl (by kernel_rfl) rfl (fun _ _ _ _ h => h) (fun _ h => h) (by first | exact Sel.refl _ | exact Sel.tail _ _ | exact Sel.nil _ | exact (Sel.tail _ _).trans (Sel.tail _ _) | exact (Sel.tail _ _).trans ((Sel.tail _ _).trans (Sel.tail _ _))) ?_
        refine Wpl.idxK (o := (a + kk) * 2) rfl rfl rfl (by omega) (by omega) (by omega) ?_
        repeat' (apply Wpl.nil)
        refine Wpu.take 13 rfl (by kernel_rfl) rfl (fun _ _ _ _ h => h) (fun _ h => h) (by first | exact Sel.refl _ | exact Sel.tail _ _ | exact Sel.nil _ | exact (Sel.tail _ _).trans (Sel.tail _ _) | exact (Sel.tail _ _).trans ((Sel.tail _ _).trans (Sel.tail _ _))) ?_
        refine Wpl.ldAgg 0 0 rfl rfl rfl g1 rfl ?_
        repeat' (apply Wpl.nil)
        refine Wpu.tl 14 (by kernel_rfl) rfl rfl ?_
        refine Wpl.idxK (o := (a + kk) * 2) rfl rfl rfl (by omega) (by omega) (by omega) ?_
        repeat' (apply Wpl.nil)
        refine Wpu.tl 15 (by kernel_rfl) rfl rfl ?_
        refine Wpl.stK rfl rfl rfl rfl rfl (one_cons rfl (one_cons hoy one_nil)) (by show (a + kk) * 2 + 2 ≤ c'.size; omega) ?_
        repeat' (apply Wpl.nil)
        refine Wpu.tl 16 (by kernel_rfl) rfl rfl ?_
        refine Wpl.idxK (o := (a + kk + 1) * 2) rfl rfl rfl (by omega) (by omega) (by omega) ?_
        repeat' (apply Wpl.nil)
        refine Wpu.tl 17 (by kernel_rfl) rfl rfl ?_
        refine Wpl.stK rfl rfl rfl rfl rfl (one_cons rfl (one_cons hox one_nil)) (by show (a + kk + 1) * 2 + 2 ≤ (put2 c' (a + kk) (tat Y kk).1).size; rw [hz]; omega) ?_
        repeat' (apply Wpl.nil)
        refine Wpu.done (by kernel_rfl) ?_
        repeat' (first | apply Wpc.region | apply Wpl.nil | (apply hK; clear hK K) | (apply Wpl.mv; exact rfl; (conv => lhs; whnf)) | (apply Wpl.asg; exact rfl; (conv => lhs; whnf)) | (apply Wpl.add; exact rfl; exact rfl; exact rfl; omega))
        refine ⟨(kk + 1, _), ⟨by omega, ?_⟩, by show i - m - (kk + 1) < i - m - kk; omega, ⟨rfl, rfl, rfl, trivial⟩, Sel.refl _, fun _ h => h⟩
        have e : P ++ (Y.take (kk + 1) ++ (x :: (Y.drop (kk + 1) ++ D))) = (P ++ Y.take kk) ++ (tat Y kk :: x :: (Y.drop (kk + 1) ++ D)) := by rw [tat_snoc hkY]; simp
        rw [e]
        exact s4
      · have hke : kk = i - m := by omega
        subst hke
        refine ⟨[], _, trivial, Sel.refl _, fun _ h => h, F', Y.take (i - m) ++ (x :: Y.drop (i - m)), rfl, ?_, ?_, ?_⟩
        · rw [hX1]
          refine List.perm_middle.trans ?_
          rw [List.take_append_drop]
          exact List.Perm.refl _
        · refine List.pairwise_append.2 ⟨wY.sublist (List.take_sublist _ _), List.pairwise_cons.2 ⟨fun y hy => ?_, wY.sublist (List.drop_sublist _ _)⟩, fun u hu y hy => ?_⟩
          · obtain ⟨k, a1, a2, rfl⟩ := mem_drop_tat hy
            exact .inr ⟨hhi k a1 a2, htag x (by rw [hX1]; simp) _ (tat_mem a2)⟩
          · obtain ⟨k, a1, a2, rfl⟩ := mem_take_tat hu
            rcases List.mem_cons.1 hy with rfl | hy
            · exact .inl (hlo k a1)
            · obtain ⟨l, b1, b2, rfl⟩ := mem_drop_tat hy
              exact pw_tat wY (by omega) b2
        · have e : P ++ ((Y.take (i - m) ++ (x :: Y.drop (i - m))) ++ D) = P ++ (Y.take (i - m) ++ (x :: (Y.drop (i - m) ++ D))) := by simp
          rw [e]
          exact hv'
  · have hmb : b = m + 1 := by omega
    have hY1 : Y = [tat Y 0] := by
      match Y, hY with
      | [x], _ => rfl
      | [], h => simp at hY0
      | x :: y :: X, h => simp at h; omega
    have hgY : tat (P ++ (X ++ (Y ++ D))) m = tat Y 0 := by rw [htY m (Nat.le_refl _) (by omega)]; congr 1; omega
    generalize hyd : tat Y 0 = y at *
    refine Wpc.loop (ι := Nat × Nat) (fun i => a ≤ i.1 ∧ i.1 ≤ i.2 ∧ i.2 ≤ m ∧ (∀ k, k < i.1 - a → ¬ less y.1 (tat X k).1) ∧ (∀ k, i.2 - a ≤ k → k < X.length → less y.1 (tat X k).1))
      (fun i => [(0, .slice (some ⟨bb, 0, none⟩) (P ++ (X ++ (Y ++ D))).length cap), (1, .int .i64 a), (2, .int .i64 m), (3, .int .i64 b), (4, fnV 168), (14, .int .i64 i.1), (15, .int .i64 i.2)])
      (fun _ => [[(bb, .cells c 245 (0, 0))]]) (fun i => i.2 - i.1) (a, m) ⟨by omega, by omega, by omega, fun k hk => by omega, fun k h1 h2 => by omega⟩ ⟨rfl, rfl, rfl, rfl, rfl, rfl, rfl, trivial⟩ (Sel.refl _) ?_
    rintro ⟨i, j⟩ g ⟨hi, hij, hjb, hlo, hhi⟩
    dsimp only at hi hij hjb hlo hhi ⊢
    repeat' (first | (apply Wpl.u64; exact rfl; exact rfl; omega) | (apply Wpc.seqK; intro K hK) | apply Wpc.region | apply Wpl.nil | (apply hK; clear hK K) | (apply Wpl.mv; exact rfl; (conv => lhs; whnf)) | (apply Wpl.asg; exact rfl; (conv => lhs; whnf)) | (apply Wpc.cond_true; exact rfl) | (apply Wpc.cond_false; exact rfl) | apply Wpc.block | apply Wpc.skip | apply Wpc.exit | (apply Wpl.lss; exact rfl; exact rfl; exact rfl; all_goals (intro h; try (exfalso; omega))) | (apply Wpl.add; exact rfl; exact rfl; exact rfl; omega) | ((conv => whnf); clear hK K; apply hK; clear hK K))
    · refine Wpl.shrV rfl rfl rfl (by decide) (half_eq i j) ?_
      generalize hh : (i + j) / 2 = mi at *
      have hh1 : i ≤ mi ∧ mi < j := by omega
      have hcmp := byW_spec (hslk m (by omega)) (hslk mi (by omega))
      have hcl := cmpI_lt (tat (P ++ (X ++ (Y ++ D))) m).1 (tat (P ++ (X ++ (Y ++ D))) mi).1
      rw [htX mi (by omega) (by omega), hgY] at hcl hcmp
      have hg1 := hget mi (by omega)
      have hg2 := hget m (by omega)
      rw [htX mi (by omega) (by omega)] at hg1
      rw [hgY] at hg2
      repeat' (first | (apply Wpc.region_draw; kernel_rfl; kernel_rfl) | (apply Wpc.seqK; intro K hK) | apply Wpl.nil | (apply hK; clear hK K) | (apply Wpl.mv; exact rfl; (conv => lhs; whnf)) | (apply Wpl.asg; exact rfl; (conv => lhs; whnf)) | (apply Wpl.i64; exact rfl; exact rfl; omega))
      refine Wpl.idxK (o := m * 2) rfl rfl rfl (by omega) (by omega) (by omega) ?_
      refine Wpl.ldAgg 0 0 rfl rfl rfl hg2 rfl ?_
      repeat' (apply Wpl.mv; exact rfl; (conv => lhs; whnf))
      refine Wpl.idxK (o := mi * 2) rfl rfl rfl (by omega) (by omega) (by omega) ?_
      refine Wpl.ldAgg 0 0 rfl rfl rfl hg1 rfl ?_
      repeat' (first | (apply Wpl.callP; exact rfl; exact rfl; exact rfl; exact rfl; (exact hcmp); (exact HasF.nil)) | apply Wpc.region | apply Wpl.nil | (apply hK; clear hK K) | (apply Wpl.mv; exact rfl; (conv => lhs; whnf)) | (apply Wpl.asg; exact rfl; (conv => lhs; whnf)) | (apply Wpc.cond_true; exact rfl) | (apply Wpc.cond_false; exact rfl) | (apply Wpl.unNot; exact rfl; exact rfl) | (apply Wpl.lss; exact rfl; exact rfl; exact rfl; all_goals (intro h; try (exfalso; omega))) | (apply Wpl.add; exact rfl; exact rfl; exact rfl; omega))
      · have hless := hcl.1 (by assumption)
        exact ⟨(i, mi), ⟨hi, by omega, by omega, hlo, fun k h1 h2 => less_of hless (nl_le wX (i := mi - a) (j := k) h1 h2)⟩, by show mi - i < j - i; omega, ⟨rfl, rfl, rfl, rfl, rfl, rfl, rfl, trivial⟩, Sel.refl _, fun _ h => h⟩
      · have hnl : ¬ less y.1 (tat X (mi - a)).1 := fun hh => by have := hcl.2 hh; omega
        exact ⟨(mi + 1, j), ⟨by omega, by omega, hjb, fun k hk => by have := nl_le wX (i := k) (j := mi - a) (by omega) (by omega); unfold less at *; omega, hhi⟩, by show j - (mi + 1) < j - i; omega, ⟨rfl, rfl, rfl, rfl, rfl, rfl, rfl, trivial⟩, Sel.refl _, fun _ h => h⟩
    · have hji : i = j := by omega
      subst hji
      have hv0 : OwnT [(bb, .cells c 245 (0, 0))] (.slice (some ⟨bb, 0, none⟩) (P ++ (X ++ (Y ++ D))).length cap) (P ++ (X.take (X.length - 0) ++ (y :: (X.drop (X.length - 0) ++ D)))) := by
        rw [Nat.sub_zero, List.take_length, List.drop_length, List.nil_append]
        have : Y ++ D = y :: D := by rw [hY1]; rfl
        rw [← this]; exact hv
      generalize (P ++ (X ++ (Y ++ D))).length = vl at *
      refine Wpc.loop (ι := Nat × Frag) (fun s => s.1 ≤ m - i ∧ OwnT s.2 (.slice (some ⟨bb, 0, none⟩) vl cap) (P ++ (X.take (X.length - s.1) ++ (y :: (X.drop (X.length - s.1) ++ D)))))
        (fun s => [(0, .slice (some ⟨bb, 0, none⟩) vl cap), (14, .int .i64 i), (17, .int .i64 ((m - s.1 : Nat) : Int))]) (fun s => [s.2]) (fun s => m - i - s.1) (0, [(bb, .cells c 245 (0, 0))]) ⟨by omega, hv0⟩ ⟨rfl, rfl, rfl, trivial⟩ (Sel.refl _) ?_
      rintro ⟨kk, F'⟩ g ⟨hkk, hv'⟩
      dsimp only at hkk hv' ⊢
      repeat' (first | (apply Wpc.seqK; intro K hK) | apply Wpc.region | apply Wpl.nil | (apply hK; clear hK K) | (apply Wpl.mv; exact rfl; (conv => lhs; whnf)) | (apply Wpc.cond_true; exact rfl) | (apply Wpc.cond_false; exact rfl) | apply Wpc.skip | apply Wpc.exit | apply Wpc.ret | (apply Wpl.gtr; exact rfl; exact rfl; exact rfl; all_goals (intro h; try (exfalso; omega))) | ((conv => whnf); clear hK K; apply hK; clear hK K))
      · have hlt : kk < m - i := by omega
        obtain ⟨q, hq⟩ : ∃ q, q + 1 = X.length - kk := ⟨X.length - kk - 1, by omega⟩
        have hqX : q < X.length := by omega
        have hAl : (P ++ X.take q).length = a + q := by rw [List.length_append, List.length_take]; omega
        have hmk : m - kk = a + q + 1 := by omega
        rw [← hq] at hv'
        rw [hmk]
        obtain ⟨_, c', rfl, _, _, _, _⟩ := hv'.atS (by simp; omega)
        obtain ⟨s1, s2, s3, g1, g2, s4, s5⟩ := hv'.swapS (A := P ++ X.take q) (x := tat X q) (y := y) (B := X.drop (q + 1) ++ D) (by rw [tat_snoc hqX]; simp)
        rw [hAl] at s2 s3 g1 g2 s5
        have hsx : isSl y.1.2 := by rw [← hgY]; exact hslk m (by omega)
        have hsy : isSl (tat X q).1.2 := by have := hslk (a + q) (by omega); rw [htX _ (by omega) (by omega), show a + q - a = q by omega] at this; exact this
        have hox : y.1.2.oneCell' = true := by obtain ⟨_, _, _, he⟩ := hsx; rw [he]; rfl
        have hoy : (tat X q).1.2.oneCell' = true := by obtain ⟨_, _, _, he⟩ := hsy; rw [he]; rfl
        have hz : (put2 c' (a + q + 1) (tat X q).1).size = c'.size := put2_size (by omega)
        refine Wpc.block ?_
        skip
        refine Wpc.region_u 14 18 [2, 3, 4] (by kernel_rfl) rfl rfl ?_
        (refine Wpu.take0 2 rfl (by kernel_rfl) rfl (fun _ _ _ _ h => h) ?_; (repeat' (first | apply Wpl.nil | (apply Wpl.mv; exact rfl; (conv => lhs; whnf))))); (refine Wpu.take0 3 rfl (by kernel_rfl) rfl (fun _ _ _ _ h => h) ?_; (repeat' (first | apply Wpl.nil | (apply Wpl.mv; exact rfl; (conv => lhs; whnf))))); (refine Wpu.take0 4 rfl (by kernel_rfl) rfl (fun _ _ _ _ h => h) ?_; (repeat' (first | apply Wpl.nil | (apply Wpl.sub; exact rfl; exact rfl; exact rfl; omega)))); skip
        (refine Wpu.take 0 rfl (by kernel_rfl) rfl (fun _ _ _ _ h => h) (fun _ h => h) (by first | exact Sel.refl _ | exact Sel.tail _ _ | exact Sel.nil _ | exact (Sel.tail _ _).trans (Sel.tail _ _) | exact (Sel.tail _ _).trans ((Sel.tail _ _).trans (Sel.tail _ _))) ?_; (repeat' (first | apply Wpl.nil | (apply Wpl.mv; exact rfl; (conv => lhs; whnf))))); (refine Wpu.take 1 rfl (by kernel_rfl) rfl (fun _ _ _ _ h => h) (fun _ h => h) (by first | exact Sel.refl _ | exact Sel.tail _ _ | exact Sel.nil _ | exact (Sel.tail _ _).trans (Sel.tail _ _) | exact (Sel.tail _ _).trans ((Sel.tail _ _).trans (Sel.tail _ _))) ?_; (repeat' (first | apply Wpl.nil | (apply Wpl.mv; exact rfl; (conv => lhs; whnf))))); (refine Wpu.take 5 rfl (by kernel_rfl) rfl (fun _ _ _ _ h => h) (fun _ h => h) (by first | exact Sel.refl _ | exact Sel.tail _ _ | exact Sel.nil _ | exact (Sel.tail _ _).trans (Sel.tail _ _) | exact (Sel.tail _ _).trans ((Sel.tail _ _).trans (Sel.tail _ _))) ?_; (repeat' (first | apply Wpl.nil | (apply Wpl.mv; exact rfl; (conv => lhs; whnf))))); (refine Wpu.take 6 rfl (by kernel_rfl) rfl (fun _ _ _ _ h => h) (fun _ h => h) (by first | exact Sel.refl _ | exact Sel.tail _ _ | exact Sel.nil _ | exact (Sel.tail _ _).trans (Sel.tail _ _) | exact (Sel.tail _ _).trans ((Sel.tail _ _).trans (Sel.tail _ _))) ?_; (repeat' (first | apply Wpl.nil | (apply Wpl.mv; exact rfl; (conv => lhs; whnf))))); (refine Wpu.take 7 rfl (by kernel_rfl) rfl (fun _ _ _ _ h => h) (fun _ h => h) (by first | exact Sel.refl _ | exact Sel.tail _ _ | exact Sel.nil _ | exact (Sel.tail _ _).trans (Sel.tail _ _) | exact (Sel.tail _ _).trans ((Sel.tail _ _).trans (Sel.tail _ _))) ?_; (repeat' (first | apply Wpl.nil | (apply Wpl.sub; exact rfl; exact rfl; exact rfl; omega)))); skip
        refine Wpu.take 8 rfl (by kernel_rfl) rfl (fun _ _ _ _ h => h) (fun _ h => h) (by first | exact Sel.refl _ | exact Sel.tail _ _ | exact Sel.nil _ | exact (Sel.tail _ _).trans (Sel.tail _ _) | exact (Sel.tail _ _).trans ((Sel.tail _ _).trans (Sel.tail _ _))) ?_
        refine Wpl.idxK (o := (a + q) * 2) rfl rfl rfl (by omega) (by omega) (by omega) ?_
        repeat' (apply Wpl.nil)
        refine Wpu.take 9 rfl (by kernel_rfl) rfl (fun _ _ _ _ h => h) (fun _ h => h) (by first | exact Sel.refl _ | exact Sel.tail _ _ | exact Sel.nil _ | exact (Sel.tail _ _).trans (Sel.tail _ _) | exact (Sel.tail _ _).trans ((Sel.tail _ _).trans (Sel.tail _ _))) ?_
        refine Wpl.ldAgg 0 0 rfl rfl rfl g1 rfl ?_
        repeat' (apply Wpl.nil)
        (refine Wpu.take 10 rfl (by kernel_rfl) rfl (fun _ _ _ _ h => h) (fun _ h => h) (by first | exact Sel.refl _ | exact Sel.tail _ _ | exact Sel.nil _ | exact (Sel.tail _ _).trans (Sel.tail _ _) | exact (Sel.tail _ _).trans ((Sel.tail _ _).trans (Sel.tail _ _))) ?_; (repeat' (first | apply Wpl.nil | (apply Wpl.mv; exact rfl; (conv => lhs; whnf))))); (refine Wpu.take 11 rfl (by kernel_rfl) rfl (fun _ _ _ _ h => h) (fun _ h => h) (by first | exact Sel.refl _ | exact Sel.tail _ _ | exact Sel.nil _ | exact (Sel.tail _ _).trans (Sel.tail _ _) | exact (Sel.tail _ _).trans ((Sel.tail _ _).trans (Sel.tail _ _))) ?_; (repeat' (first | apply Wpl.nil | (apply Wpl.mv; exact rfl; (conv => lhs; whnf))))); skip
        refine Wpu.take 12 rfl (by kernel_rfl) rfl (fun _ _ _ _ h => h) (fun _ h => h) (by first | exact Sel.refl _ | exact Sel.tail _ _ | exact Sel.nil _ | exact (Sel.tail _ _).trans (Sel.tail _ _) | exact (Sel.tail _ _).trans ((Sel.tail _ _).trans (Sel.tail _ _))) ?_
        refine Wpl.idxK (o := (a + q + 1) * 2) rfl rfl rfl (by omega) (by omega) (by omega) ?_
        repeat' (apply Wpl.nil)
        refine Wpu.take 13 rfl (by kernel_rfl) rfl (fun _ _ _ _ h => h) (fun _ h => h) (by first | exact Sel.refl _ | exact Sel.tail _ _ | exact Sel.nil _ | exact (Sel.tail _ _).trans (Sel.tail _ _) | exact (Sel.tail _ _).trans ((Sel.tail _ _).trans (Sel.tail _ _))) ?_
        refine Wpl.ldAgg 0 0 rfl rfl rfl g2 rfl ?_
        repeat' (apply Wpl.nil)
        refine Wpu.tl 14 (by kernel_rfl) rfl rfl ?_
        refine Wpl.idxK (o := (a + q + 1) * 2) rfl rfl rfl (by omega) (by omega) (by omega) ?_
        repeat' (apply Wpl.nil)
        refine Wpu.tl 15 (by kernel_rfl) rfl rfl ?_
        refine Wpl.stK rfl rfl rfl rfl rfl (one_cons rfl (one_cons hoy one_nil)) (by show (a + q + 1) * 2 + 2 ≤ c'.size; omega) ?_
        repeat' (apply Wpl.nil)
        refine Wpu.tl 16 (by kernel_rfl) rfl rfl ?_
        refine Wpl.idxK (o := (a + q) * 2) rfl rfl rfl (by omega) (by omega) (by omega) ?_
        repeat' (apply Wpl.nil)
        refine Wpu.tl 17 (by kernel_rfl) rfl rfl ?_
        refine Wpl.stK rfl rfl rfl rfl rfl (one_cons rfl (one_cons hox one_nil)) (by show (a + q) * 2 + 2 ≤ (put2 c' (a + q + 1) (tat X q).1).size; rw [hz]; omega) ?_
        repeat' (apply Wpl.nil)
        refine Wpu.done (by kernel_rfl) ?_
        repeat' (first | apply Wpc.region | apply Wpl.nil | (apply hK; clear hK K) | (apply Wpl.mv; exact rfl; (conv => lhs; whnf)) | (apply Wpl.asg; exact rfl; (conv => lhs; whnf)) | (apply Wpl.sub; exact rfl; exact rfl; exact rfl; omega))
        refine ⟨(kk + 1, _), ⟨by omega, ?_⟩, by show m - i - (kk + 1) < m - i - kk; omega, ⟨rfl, rfl, congrArg (Value.int .i64) (by show ((a + q + 1 : Nat) : Int) - 1 = ((m - (kk + 1) : Nat) : Int); omega), trivial⟩, Sel.refl _, fun _ h => h⟩
        have e : P ++ (X.take (X.length - (kk + 1)) ++ (y :: (X.drop (X.length - (kk + 1)) ++ D))) = (P ++ X.take q) ++ (y :: tat X q :: (X.drop (q + 1) ++ D)) := by
          rw [show X.length - (kk + 1) = q by omega, tat_cons hqX]; simp
        rw [e]
        exact s5
      · have hke : X.length - kk = i - a := by omega
        rw [hke] at hv'
        refine ⟨[], _, trivial, Sel.refl _, fun _ h => h, F', X.take (i - a) ++ (y :: X.drop (i - a)), rfl, ?_, ?_, ?_⟩
        · rw [hY1]
          refine List.perm_middle.trans ?_
          rw [List.take_append_drop]
          exact List.perm_append_comm (l₁ := [y])
        · refine List.pairwise_append.2 ⟨wX.sublist (List.take_sublist _ _), List.pairwise_cons.2 ⟨fun u hu => ?_, wX.sublist (List.drop_sublist _ _)⟩, fun u hu z hz => ?_⟩
          · obtain ⟨k, a1, a2, rfl⟩ := mem_drop_tat hu
            exact .inl (hhi k a1 a2)
          · obtain ⟨k, a1, a2, rfl⟩ := mem_take_tat hu
            rcases List.mem_cons.1 hz with rfl | hz
            · exact .inr ⟨hlo k a1, htag _ (tat_mem a2) z (by rw [hY1]; simp)⟩
            · obtain ⟨l, b1, b2, rfl⟩ := mem_drop_tat hz
              exact pw_tat wX (by omega) b2
        · have e : P ++ ((X.take (i - a) ++ (y :: X.drop (i - a))) ++ D) = P ++ (X.take (i - a) ++ (y :: (X.drop (i - a) ++ D))) := by simp
          rw [e]
          exact hv'
  · refine Wpl.u64 rfl rfl (by omega) ?_
    skip
    refine Wpl.shrV rfl rfl rfl (by decide) (half_eq a b) ?_
    generalize hmid : (a + b) / 2 = mid at *
    have hmid1 : a < mid ∧ mid < b ∧ 2 * mid ≤ a + b ∧ a + b ≤ 2 * mid + 1 := by omega
    repeat' (first | (apply Wpc.seqK; intro K hK) | apply Wpc.region | apply Wpl.nil | (apply hK; clear hK K) | (apply Wpl.mv; exact rfl; (conv => lhs; whnf)) | (apply Wpl.asg; exact rfl; (conv => lhs; whnf)) | (apply Wpl.add; exact rfl; exact rfl; exact rfl; omega) | (apply Wpl.i64; exact rfl; exact rfl; omega))
    refine Wpl.cutK hK (by assumption) (ι := Nat × Nat) (fun i => a ≤ i.1 ∧ i.1 ≤ i.2 ∧ i.2 ≤ m ∧ i.2 ≤ mid ∧ mid + m ≤ i.1 + b ∧ (i.1 = a ∨ mid + m = i.1 + b) ∧ (i.2 = m ∨ i.2 = mid))
      (fun i => [(0, .slice (some ⟨bb, 0, none⟩) (P ++ (X ++ (Y ++ D))).length cap), (1, .int .i64 a), (2, .int .i64 m), (3, .int .i64 b), (4, fnV 168), (18, .int .i64 mid), (19, .int .i64 ((mid : Int) + m)), (20, .int .i64 i.1), (21, .int .i64 i.2)])
      (fun _ => [[(bb, .cells c 245 (0, 0))]]) ?_ ?_
    · intro K hK
      repeat' (first | (apply Wpc.seqK; intro K hK) | apply Wpc.region | apply Wpl.nil | (apply hK; clear hK K) | (apply Wpl.mv; exact rfl; (conv => lhs; whnf)) | (apply Wpl.asg; exact rfl; (conv => lhs; whnf)) | (apply Wpc.cond_true; exact rfl) | (apply Wpc.cond_false; exact rfl) | (apply Wpl.gtr; exact rfl; exact rfl; exact rfl; all_goals (intro h; try (exfalso; omega))) | (apply Wpl.sub; exact rfl; exact rfl; exact rfl; omega))
      · exact ⟨(mid + m - b, mid), ⟨by omega, by omega, by omega, by omega, by omega, by omega, by omega⟩, ⟨rfl, rfl, rfl, rfl, rfl, rfl, rfl, congrArg (Value.int .i64) (by show (mid : Int) + m - b = ((mid + m - b : Nat) : Int); omega), rfl, trivial⟩, Sel.refl _, fun _ h => h⟩
      · exact ⟨(a, m), ⟨by omega, by omega, by omega, by omega, by omega, by omega, by omega⟩, ⟨rfl, rfl, rfl, rfl, rfl, rfl, rfl, rfl, rfl, trivial⟩, Sel.refl _, fun _ h => h⟩
    clear hK K
    rintro ⟨lo, hi⟩ g ⟨q1, q2, q3, q4, q5, q6, q7⟩
    dsimp only at q1 q2 q3 q4 q5 q6 q7 ⊢
    repeat' (first | (apply Wpc.seqK; intro K hK) | apply Wpc.region | apply Wpl.nil | (apply hK; clear hK K) | (apply Wpl.mv; exact rfl; (conv => lhs; whnf)) | (apply Wpl.asg; exact rfl; (conv => lhs; whnf)) | apply Wpc.block | (apply Wpl.sub; exact rfl; exact rfl; exact rfl; omega))
    refine Wpc.loop (ι := Nat × Nat) (fun i => lo ≤ i.1 ∧ i.1 ≤ i.2 ∧ i.2 ≤ hi ∧ (i.1 = lo ∨ ¬ less (tat Y (mid - i.1)).1 (tat X (i.1 - 1 - a)).1) ∧ (i.2 = hi ∨ less (tat Y (mid - 1 - i.2)).1 (tat X (i.2 - a)).1))
      (fun i => [(0, .slice (some ⟨bb, 0, none⟩) (P ++ (X ++ (Y ++ D))).length cap), (1, .int .i64 a), (2, .int .i64 m), (3, .int .i64 b), (4, fnV 168), (18, .int .i64 mid), (19, .int .i64 ((mid : Int) + m)), (20, .int .i64 i.1), (21, .int .i64 i.2), (22, .int .i64 ((mid : Int) + m - 1))])
      (fun _ => [[(bb, .cells c 245 (0, 0))]]) (fun i => i.2 - i.1) (lo, hi) ⟨by omega, by omega, by omega, .inl rfl, .inl rfl⟩ ⟨rfl, rfl, rfl, rfl, rfl, rfl, rfl, rfl, rfl, rfl, trivial⟩ (Sel.refl _) ?_
    rintro ⟨s, r⟩ g ⟨r1, r2, r3, r4, r5⟩
    dsimp only at r1 r2 r3 r4 r5 ⊢
    repeat' (first | (apply Wpc.seqK; intro K hK) | apply Wpc.region | (apply Wpl.mv; exact rfl; (conv => lhs; whnf)))
    apply Wpl.lss rfl rfl rfl <;> intro hsr
    · repeat' (first | (apply Wpl.u64; exact rfl; exact rfl; omega) | (apply Wpc.seqK; intro K hK) | apply Wpc.region | apply Wpl.nil | (apply hK; clear hK K) | (apply Wpl.mv; exact rfl; (conv => lhs; whnf)) | (apply Wpc.cond_true; exact rfl) | apply Wpc.block | apply Wpc.skip | (apply Wpl.add; exact rfl; exact rfl; exact rfl; omega))
      refine Wpl.shrV rfl rfl rfl (by decide) (half_eq s r) ?_
      generalize hh : (s + r) / 2 = ci at *
      have hh1 : s ≤ ci ∧ ci < r := by omega
      obtain ⟨pc, hpc⟩ : ∃ pc : Nat, pc + ci + 1 = mid + m := ⟨mid + m - 1 - ci, by omega⟩
      have hpc2 : (mid : Int) + m - 1 - ci = (pc : Int) := by omega
      have hcmp := byW_spec (hslk pc (by omega)) (hslk ci (by omega))
      have hcl := cmpI_lt (tat (P ++ (X ++ (Y ++ D))) pc).1 (tat (P ++ (X ++ (Y ++ D))) ci).1
      rw [htX ci (by omega) (by omega), htY pc (by omega) (by omega)] at hcl hcmp
      have hg1 := hget ci (by omega)
      have hg2 := hget pc (by omega)
      rw [htX ci (by omega) (by omega)] at hg1
      rw [htY pc (by omega) (by omega)] at hg2
      have hpm : pc - m = mid - 1 - ci := by omega
      rw [hpm] at hcl hcmp hg2
      repeat' (first | (apply Wpc.region_draw; kernel_rfl; kernel_rfl) | (apply Wpc.seqK; intro K hK) | apply Wpl.nil | (apply hK; clear hK K) | (apply Wpl.mv; exact rfl; (conv => lhs; whnf)) | (apply Wpl.asg; exact rfl; (conv => lhs; whnf)) | (apply Wpl.sub; exact rfl; exact rfl; exact rfl; omega) | (apply Wpl.i64; exact rfl; exact rfl; omega))
      refine Wpl.idxK (o := pc * 2) rfl rfl rfl (by omega) (by omega) (by omega) ?_
      refine Wpl.ldAgg 0 0 rfl rfl rfl hg2 rfl ?_
      repeat' (apply Wpl.mv; exact rfl; (conv => lhs; whnf))
      refine Wpl.idxK (o := ci * 2) rfl rfl rfl (by omega) (by omega) (by omega) ?_
      refine Wpl.ldAgg 0 0 rfl rfl rfl hg1 rfl ?_
      repeat' (first | (apply Wpl.callP; exact rfl; exact rfl; exact rfl; exact rfl; (exact hcmp); (exact HasF.nil)) | apply Wpc.region | apply Wpl.nil | (apply hK; clear hK K) | (apply Wpl.mv; exact rfl; (conv => lhs; whnf)) | (apply Wpl.asg; exact rfl; (conv => lhs; whnf)) | (apply Wpc.cond_true; exact rfl) | (apply Wpc.cond_false; exact rfl) | (apply Wpl.unNot; exact rfl; exact rfl) | (apply Wpl.lss; exact rfl; exact rfl; exact rfl; all_goals (intro h; try (exfalso; omega))) | (apply Wpl.add; exact rfl; exact rfl; exact rfl; omega))
      · have hless := hcl.1 (by assumption)
        exact ⟨(s, ci), ⟨r1, by omega, by omega, r4, .inr hless⟩, by show ci - s < r - s; omega, ⟨rfl, rfl, rfl, rfl, rfl, rfl, rfl, rfl, rfl, rfl, trivial⟩, Sel.refl _, fun _ h => h⟩
      · have hnl : ¬ less (tat Y (mid - 1 - ci)).1 (tat X (ci - a)).1 := fun hh => by have := hcl.2 hh; omega
        exact ⟨(ci + 1, r), ⟨by omega, by omega, by omega, .inr (by show ¬ less (tat Y (mid - (ci + 1))).1 (tat X (ci + 1 - 1 - a)).1; rw [show mid - (ci + 1) = mid - 1 - ci by omega, show ci + 1 - 1 - a = ci - a by omega]; exact hnl), r5⟩, by show r - (ci + 1) < r - s; omega, ⟨rfl, rfl, rfl, rfl, rfl, rfl, rfl, rfl, rfl, rfl, trivial⟩, Sel.refl _, fun _ h => h⟩
    · have hrs : r = s := by omega
      subst hrs
      have hmem : ∀ {Z : List TI}, (∀ x ∈ Z, x ∈ P ∨ x ∈ X ∨ x ∈ Y ∨ x ∈ D) → ∀ x ∈ Z, isSl x.1.2 := fun h x hx => hsl x (by simp only [List.mem_append]; exact h x hx)
      obtain ⟨ii, hii⟩ : ∃ ii, a + ii = r := ⟨r - a, by omega⟩
      obtain ⟨jj, hjj⟩ : ∃ jj, r + jj = mid := ⟨mid - r, by omega⟩
      have hjY : jj ≤ Y.length := by omega
      have hiX : ii ≤ X.length := by omega
      have hA : (X.take ii).length = ii := by rw [List.length_take]; omega
      have hC : (X.drop ii).length = X.length - ii := List.length_drop
      have hB : (Y.take jj).length = jj := by rw [List.length_take]; omega
      have hE : (Y.drop jj).length = Y.length - jj := List.length_drop
      have hXs : X = X.take ii ++ X.drop ii := (List.take_append_drop _ _).symm
      have hYs : Y = Y.take jj ++ Y.drop jj := (List.take_append_drop _ _).symm
      have c1 : ii = 0 ∨ jj = Y.length ∨ ¬ less (tat Y jj).1 (tat X (ii - 1)).1 := by
        rcases r4 with h | h
        · rcases q6 with h' | h'
          · exact .inl (by omega)
          · exact .inr (.inl (by omega))
        · refine .inr (.inr ?_)
          rw [show mid - r = jj by omega] at h
          by_cases hz : ii = 0
          · rw [show r - 1 - a = ii - 1 by omega] at h; exact h
          · rw [show r - 1 - a = ii - 1 by omega] at h; exact h
      have c2 : jj = 0 ∨ ii = X.length ∨ less (tat Y (jj - 1)).1 (tat X ii).1 := by
        rcases r5 with h | h
        · rcases q7 with h' | h'
          · exact .inr (.inl (by omega))
          · exact .inl (by omega)
        · refine .inr (.inr ?_)
          rw [show mid - 1 - r = jj - 1 by omega, show r - a = ii by omega] at h
          exact h
      have hjoin := fun S1 S2 => sym_join (S1 := S1) (S2 := S2) wX wY htag ii jj hiX hjY c1 c2
      generalize hAd : X.take ii = A at *
      generalize hCd : X.drop ii = C at *
      generalize hBd : Y.take jj = B at *
      generalize hEd : Y.drop jj = E at *
      have hmA : ∀ x ∈ A, x ∈ X := fun x hx => by rw [← hAd] at hx; exact List.mem_of_mem_take hx
      have hmC : ∀ x ∈ C, x ∈ X := fun x hx => by rw [← hCd] at hx; exact List.mem_of_mem_drop hx
      have hmB : ∀ x ∈ B, x ∈ Y := fun x hx => by rw [← hBd] at hx; exact List.mem_of_mem_take hx
      have hmE : ∀ x ∈ E, x ∈ Y := fun x hx => by rw [← hEd] at hx; exact List.mem_of_mem_drop hx
      have wA : A.Pairwise lt := by rw [← hAd]; exact wX.sublist (List.take_sublist _ _)
      have wC : C.Pairwise lt := by rw [← hCd]; exact wX.sublist (List.drop_sublist _ _)
      have wB : B.Pairwise lt := by rw [← hBd]; exact wY.sublist (List.take_sublist _ _)
      have wE : E.Pairwise lt := by rw [← hEd]; exact wY.sublist (List.drop_sublist _ _)
      obtain ⟨e, he⟩ : ∃ e, e = m + jj := ⟨_, rfl⟩
      have hee : (mid : Int) + m - r = (e : Int) := by omega
      have hL : P ++ (X ++ (Y ++ D)) = (P ++ A) ++ (C ++ (B ++ (E ++ D))) := by rw [hXs, hYs]; simp
      have hPA : (P ++ A).length = r := by rw [List.length_append]; omega
      generalize hvl : (P ++ (X ++ (Y ++ D))).length = vl at *
      repeat' (first | (apply Wpc.seqK; intro K hK) | apply Wpc.region | apply Wpl.nil | (apply hK; clear hK K) | (apply Wpl.mv; exact rfl; (conv => lhs; whnf)) | (apply Wpl.asg; exact rfl; (conv => lhs; whnf)) | (apply Wpc.cond_false; exact rfl) | apply Wpc.exit | (apply Wpl.sub; exact rfl; exact rfl; exact rfl; omega) | ((conv => whnf); clear hK K; apply hK; clear hK K))
      refine Wpl.cutK hK (by assumption) (ι := Frag) (fun i => OwnT i (.slice (some ⟨bb, 0, none⟩) vl cap) (P ++ (A ++ (B ++ (C ++ (E ++ D))))))
        (fun i => [(0, .slice (some ⟨bb, 0, none⟩) vl cap), (1, .int .i64 a), (2, .int .i64 m), (3, .int .i64 b), (4, fnV 168), (18, .int .i64 mid), (20, .int .i64 r), (24, .int .i64 e)])
        (fun i => [i]) ?_ ?_
      · intro K hK
        have hno : (C = [] ∨ B = []) → OwnT [(bb, .cells c 245 (0, 0))] (.slice (some ⟨bb, 0, none⟩) vl cap) (P ++ (A ++ (B ++ (C ++ (E ++ D))))) := by
          intro h
          have : P ++ (A ++ (B ++ (C ++ (E ++ D)))) = P ++ (X ++ (Y ++ D)) := by
            rw [hL]; rcases h with h | h <;> rw [h] <;> simp
          rw [this]; exact hv
        repeat' (first | apply Wpc.region | apply Wpl.nil | (apply hK; clear hK K) | (apply Wpl.mv; exact rfl; (conv => lhs; whnf)) | (apply Wpl.guard_run; exact rfl; exact rfl) | (apply Wpl.guard_skip; exact rfl; exact rfl; exact rfl) | (apply Wpl.pickT; exact rfl; exact rfl; (conv => lhs; whnf)) | (apply Wpl.pickF; exact rfl; exact rfl; (conv => lhs; whnf)) | (apply Wpc.cond_true; exact rfl) | (apply Wpc.cond_false; exact rfl) | apply Wpc.skip | (apply Wpl.lss; exact rfl; exact rfl; exact rfl; all_goals (intro h; try (exfalso; omega))))
        · have hrot := rotate_spec [(bb, .cells c 245 (0, 0))] (.slice (some ⟨bb, 0, none⟩) vl cap) (fnV 168) (its (P ++ (X ++ (Y ++ D)))) r m e (OwnRow.cast hv (its_len _).symm rfl) (by rw [its_len, hvl]; omega) (by omega) (by omega) (by rw [its_len, hvl]; omega) (its_one hsl)
          refine Wpl.callM rfl rfl (congrArg (fun x => [Value.slice (some ⟨bb, 0, none⟩) vl cap, .int .i64 r, .int .i64 m, .int .i64 x, fnV 168]) hee) hrot (Pk.cons 0 rfl (Pk.nil _)) HasF.nil ?_
          rintro _ _ ⟨F', rfl, hv'⟩
          rw [← rotT_its, hL, rotT_parts hPA (by omega) (by omega)] at hv'
          repeat' (apply Wpl.nil)
          refine ⟨F', OwnRow.cast hv' (by rw [its_len]; simp only [List.length_append]; omega) (by simp), ⟨rfl, rfl, rfl, rfl, rfl, rfl, rfl, congrArg (Value.int .i64) hee, trivial⟩, Sel.refl _, fun _ h => h⟩
        · refine ⟨_, hno (.inr (List.eq_nil_of_length_eq_zero (by omega))), ⟨rfl, rfl, rfl, rfl, rfl, rfl, rfl, congrArg (Value.int .i64) hee, trivial⟩, Sel.refl _, fun _ h => h⟩
        · refine ⟨_, hno (.inl (List.eq_nil_of_length_eq_zero (by omega))), ⟨rfl, rfl, rfl, rfl, rfl, rfl, rfl, congrArg (Value.int .i64) hee, trivial⟩, Sel.refl _, fun _ h => h⟩
      clear hK K
      rintro F1 g hv1
      have hl1 : (P ++ (A ++ (B ++ (C ++ (E ++ D))))).length ≤ 1000000000 := by simp only [List.length_append] at hvl ⊢; omega
      repeat' (first | (apply Wpc.seqK; intro K hK) | apply Wpc.region | (apply Wpl.mv; exact rfl; (conv => lhs; whnf)))
      refine Wpl.cutK hK (by assumption) (ι := Frag × List TI) (fun i => i.2.Perm (A ++ B) ∧ i.2.Pairwise lt ∧ OwnT i.1 (.slice (some ⟨bb, 0, none⟩) vl cap) (P ++ (i.2 ++ (C ++ (E ++ D)))))
        (fun i => [(0, .slice (some ⟨bb, 0, none⟩) vl cap), (1, .int .i64 a), (2, .int .i64 m), (3, .int .i64 b), (4, fnV 168), (18, .int .i64 mid), (20, .int .i64 r), (24, .int .i64 e)])
        (fun i => [i.1]) ?_ ?_
      · intro K hK
        repeat' (first | apply Wpc.region | apply Wpl.nil | (apply hK; clear hK K) | (apply Wpl.mv; exact rfl; (conv => lhs; whnf)) | (apply Wpl.guard_run; exact rfl; exact rfl) | (apply Wpl.guard_skip; exact rfl; exact rfl; exact rfl) | (apply Wpl.pickT; exact rfl; exact rfl; (conv => lhs; whnf)) | (apply Wpl.pickF; exact rfl; exact rfl; (conv => lhs; whnf)) | (apply Wpc.cond_true; exact rfl) | (apply Wpc.cond_false; exact rfl) | apply Wpc.skip | (apply Wpl.lss; exact rfl; exact rfl; exact rfl; all_goals (intro h; try (exfalso; omega))))
        · have h1 := ih F1 (.slice (some ⟨bb, 0, none⟩) vl cap) P A B (C ++ (E ++ D)) a r mid (by omega) hP (by omega) (by omega) (by omega) (by omega) hv1 hl1
            (hmem fun x hx => by
              simp only [List.mem_append] at hx
              rcases hx with h | h | h | h | h | h
              · exact .inl h
              · exact .inr (.inl (hmA x h))
              · exact .inr (.inr (.inl (hmB x h)))
              · exact .inr (.inl (hmC x h))
              · exact .inr (.inr (.inl (hmE x h)))
              · exact .inr (.inr (.inr h))) wA wB (fun x hx y hy => htag x (hmA x hx) y (hmB y hy))
          refine Wpl.callM rfl rfl rfl h1 (Pk.cons 0 rfl (Pk.nil _)) HasF.nil ?_
          rintro _ _ ⟨F', S1, rfl, hp1, hw1, hv'⟩
          repeat' (apply Wpl.nil)
          exact ⟨(F', S1), ⟨hp1, hw1, hv'⟩, ⟨rfl, rfl, rfl, rfl, rfl, rfl, rfl, rfl, trivial⟩, Sel.refl _, fun _ h => h⟩
        · have hb0 : B = [] := List.eq_nil_of_length_eq_zero (by omega)
          exact ⟨(F1, A ++ B), ⟨List.Perm.refl _, by show (A ++ B).Pairwise lt; rw [hb0, List.append_nil]; exact wA, by show OwnT F1 _ (P ++ ((A ++ B) ++ (C ++ (E ++ D)))); rw [List.append_assoc]; exact hv1⟩, ⟨rfl, rfl, rfl, rfl, rfl, rfl, rfl, rfl, trivial⟩, Sel.refl _, fun _ h => h⟩
        · have ha0 : A = [] := List.eq_nil_of_length_eq_zero (by omega)
          exact ⟨(F1, A ++ B), ⟨List.Perm.refl _, by show (A ++ B).Pairwise lt; rw [ha0, List.nil_append]; exact wB, by show OwnT F1 _ (P ++ ((A ++ B) ++ (C ++ (E ++ D)))); rw [List.append_assoc]; exact hv1⟩, ⟨rfl, rfl, rfl, rfl, rfl, rfl, rfl, rfl, trivial⟩, Sel.refl _, fun _ h => h⟩
      clear hK K
      rintro ⟨F2, S1⟩ g ⟨hp1, hw1, hv2⟩
      dsimp only at hp1 hw1 hv2 ⊢
      have hS1 : S1.length = ii + jj := by rw [hp1.length_eq, List.length_append]; omega
      have hPS : (P ++ S1).length = mid := by rw [List.length_append]; omega
      have hv3 : OwnT F2 (.slice (some ⟨bb, 0, none⟩) vl cap) ((P ++ S1) ++ (C ++ (E ++ D))) := by rw [List.append_assoc]; exact hv2
      have hl3 : ((P ++ S1) ++ (C ++ (E ++ D))).length ≤ 1000000000 := by simp only [List.length_append] at hvl ⊢; omega
      repeat' (first | (apply Wpc.seqK; intro K hK) | apply Wpc.region | apply Wpl.nil | (apply hK; clear hK K) | (apply Wpl.mv; exact rfl; (conv => lhs; whnf)) | (apply Wpl.guard_run; exact rfl; exact rfl) | (apply Wpl.guard_skip; exact rfl; exact rfl; exact rfl) | (apply Wpl.pickT; exact rfl; exact rfl; (conv => lhs; whnf)) | (apply Wpl.pickF; exact rfl; exact rfl; (conv => lhs; whnf)) | (apply Wpc.cond_true; exact rfl) | (apply Wpc.cond_false; exact rfl) | apply Wpc.skip | (apply Wpl.lss; exact rfl; exact rfl; exact rfl; all_goals (intro h; try (exfalso; omega))))
      · have h1 := ih F2 (.slice (some ⟨bb, 0, none⟩) vl cap) (P ++ S1) C E D mid e b (by omega) hPS (by omega) (by omega) (by omega) (by omega) hv3 hl3
          (hmem fun x hx => by
            simp only [List.mem_append] at hx
            rcases hx with (h | h) | h | h | h
            · exact .inl h
            · rcases List.mem_append.1 (hp1.mem_iff.1 h) with h | h
              · exact .inr (.inl (hmA x h))
              · exact .inr (.inr (.inl (hmB x h)))
            · exact .inr (.inl (hmC x h))
            · exact .inr (.inr (.inl (hmE x h)))
            · exact .inr (.inr (.inr h))) wC wE (fun x hx y hy => htag x (hmC x hx) y (hmE y hy))
        refine Wpl.callM rfl rfl rfl h1 (Pk.cons 0 rfl (Pk.nil _)) HasF.nil ?_
        rintro _ _ ⟨F', S2, rfl, hp2, hw2, hv'⟩
        obtain ⟨t1, t2⟩ := hjoin S1 S2 hp1 hp2 hw1 hw2
        repeat' (apply Wpl.nil)
        exact ⟨[], _, trivial, Sel.refl _, fun _ h => h, F', S1 ++ S2, rfl, t1, t2, hv'.eq (by simp)⟩
      · have he0 : E = [] := List.eq_nil_of_length_eq_zero (by omega)
        obtain ⟨t1, t2⟩ := hjoin S1 (C ++ E) hp1 (List.Perm.refl _) hw1 (by rw [he0, List.append_nil]; exact wC)
        exact ⟨[], _, trivial, Sel.refl _, fun _ h => h, F2, S1 ++ (C ++ E), rfl, t1, t2, hv2.eq (by simp)⟩
      · have hc0 : C = [] := List.eq_nil_of_length_eq_zero (by omega)
        obtain ⟨t1, t2⟩ := hjoin S1 (C ++ E) hp1 (List.Perm.refl _) hw1 (by rw [hc0, List.nil_append]; exact wE)
        exact ⟨[], _, trivial, Sel.refl _, fun _ h => h, F2, S1 ++ (C ++ E), rfl, t1, t2, hv2.eq (by simp)⟩
end Go.Proofs.Ytmfcgffdijnokaa
set_option maxRecDepth 100000
set_option maxHeartbeats 4000000
namespace Go.Proofs.Ytmfcgffdijnokaa
open Go.SL Go.RowKit
attribute [local irreducible] Wpl Wpc Wph
/-! stable, SortStableFunc -/
def Bk (bs : Nat) (p : List TI × List TI) : Prop := p.1.Perm p.2 ∧ p.1.Pairwise lt ∧ p.1.length = bs
def f1 (ps : List (List TI × List TI)) : List TI := ps.flatMap (·.1)
def f2 (ps : List (List TI × List TI)) : List TI := ps.flatMap (·.2)
theorem f1_snoc (ps : List (List TI × List TI)) (p : List TI × List TI) : f1 (ps ++ [p]) = f1 ps ++ p.1 := by simp [f1]
theorem f2_snoc (ps : List (List TI × List TI)) (p : List TI × List TI) : f2 (ps ++ [p]) = f2 ps ++ p.2 := by simp [f2]
theorem f1_cons (ps : List (List TI × List TI)) (p : List TI × List TI) : f1 (p :: ps) = p.1 ++ f1 ps := by simp [f1]
theorem f2_cons (ps : List (List TI × List TI)) (p : List TI × List TI) : f2 (p :: ps) = p.2 ++ f2 ps := by simp [f2]
theorem f1_len {bs : Nat} : ∀ {ps : List (List TI × List TI)}, (∀ p ∈ ps, Bk bs p) → (f1 ps).length = ps.length * bs
  | [], _ => by simp [f1]
  | p :: ps, h => by
    rw [f1_cons, List.length_append, f1_len (fun q hq => h q (List.mem_cons_of_mem _ hq)), (h p List.mem_cons_self).2.2, List.length_cons, Nat.add_mul]; omega
theorem f2_len {bs : Nat} : ∀ {ps : List (List TI × List TI)}, (∀ p ∈ ps, Bk bs p) → (f2 ps).length = ps.length * bs
  | [], _ => by simp [f2]
  | p :: ps, h => by
    have hp := h p List.mem_cons_self
    rw [f2_cons, List.length_append, f2_len (fun q hq => h q (List.mem_cons_of_mem _ hq)), ← hp.1.length_eq, hp.2.2, List.length_cons, Nat.add_mul]; omega
theorem f12_perm {bs : Nat} : ∀ {ps : List (List TI × List TI)}, (∀ p ∈ ps, Bk bs p) → (f1 ps).Perm (f2 ps)
  | [], _ => List.Perm.refl _
  | p :: ps, h => by
    rw [f1_cons, f2_cons]
    exact (h p List.mem_cons_self).1.append (f12_perm fun q hq => h q (List.mem_cons_of_mem _ hq))
theorem Bk_snoc {bs : Nat} {ps : List (List TI × List TI)} {p : List TI × List TI} (h : ∀ p ∈ ps, Bk bs p) (hp : Bk bs p) : ∀ q ∈ ps ++ [p], Bk bs q := fun q hq => by
  rcases List.mem_append.1 hq with hq | hq
  · exact h q hq
  · rw [List.mem_singleton.1 hq]; exact hp
/-- full blocks, and a shorter one -/
def Blk (bs : Nat) (M L : List TI) : Prop := ∃ ps S T, (∀ p ∈ ps, Bk bs p) ∧ M = f1 ps ++ S ∧ L = f2 ps ++ T ∧ S.Perm T ∧ S.Pairwise lt ∧ S.length < bs
abbrev bwF : Value := fnV 168
theorem stable_spec (F : Frag) (v : Value) (L : List TI) (hv : OwnT F v L) (hl : L.length ≤ 100000000) (hsl : ∀ x ∈ L, isSl x.1.2) (htag : L.Pairwise (fun x y => x.2 < y.2)) :
    Ctr Try.prog 176 [v, .int .i64 L.length, fnV 168] [] [F]
      (fun _ M' => ∃ F' S, M' = [F'] ∧ S.Perm L ∧ S.Pairwise lt ∧ OwnT F' v S) := by
  refine Ctr.intro Try.func176 (by kernel_rfl) rfl (by conv => lhs; whnf) rfl fun W => ?_
  repeat' (first | (apply Wpc.seqK; intro K hK) | apply Wpc.region | apply Wpl.nil | (apply hK; clear hK K) | (apply Wpl.mv; exact rfl; (conv => lhs; whnf)) | (apply Wpl.asg; exact rfl; (conv => lhs; whnf)) | apply Wpc.block)
  refine Wpc.loop (ι := List (List TI × List TI) × Frag) (fun i => (∀ p ∈ i.1, Bk 20 p) ∧ i.1.length * 20 ≤ L.length ∧ f2 i.1 = L.take (i.1.length * 20) ∧ OwnT i.2 v (f1 i.1 ++ L.drop (i.1.length * 20)))
    (fun i => [(0, v), (1, .int .i64 L.length), (2, fnV 168), (6, .int .i64 20), (7, .int .i64 ((i.1.length * 20 : Nat) : Int)), (8, .int .i64 ((i.1.length * 20 + 20 : Nat) : Int))]) (fun i => [i.2]) (fun i => L.length - i.1.length * 20) ([], F)
    ⟨fun p hp => absurd hp List.not_mem_nil, by simp, by simp [f2], by simpa [f1] using hv⟩ ⟨rfl, rfl, rfl, rfl, rfl, rfl, trivial⟩ (Sel.refl _) ?_
  rintro ⟨ps, F1⟩ g ⟨hps, hpl, hf2, hv1⟩
  dsimp only at hps hpl hf2 hv1 ⊢
  have hl1 := f1_len hps
  generalize ha : ps.length * 20 = a at *
  have hda : (f1 ps ++ L.drop a).drop a = L.drop a := by rw [← hl1]; exact List.drop_left
  have hta : (f1 ps ++ L.drop a).take a = f1 ps := by rw [← hl1]; exact List.take_left
  have hLc : (f1 ps ++ L.drop a).length = L.length := by rw [List.length_append, List.length_drop, hl1]; omega
  have hslc : ∀ x ∈ f1 ps ++ L.drop a, isSl x.1.2 := fun x hx => by
    rcases List.mem_append.1 hx with h | h
    · have := (f12_perm hps).mem_iff.1 h
      rw [hf2] at this
      exact hsl x (List.mem_of_mem_take this)
    · exact hsl x (List.mem_of_mem_drop h)
  have hdb : ∀ b, a ≤ b → (f1 ps ++ L.drop a).drop b = L.drop b := fun b h => by
    have : b = a + (b - a) := by omega
    rw [this, ← List.drop_drop, hda, List.drop_drop]
  have hins := fun (b : Nat) (h1 : a ≤ b) (h2 : b ≤ L.length) => insertion_spec F1 v (f1 ps ++ L.drop a) a b hv1 (by omega) h1 (by omega) hslc (by
    rw [hda]
    exact (htag.sublist (List.drop_sublist _ _)).sublist (List.take_sublist _ _))
  rw [hda, hta] at hins
  repeat' (first | (apply Wpc.seqK; intro K hK) | apply Wpc.region | apply Wpl.nil | (apply hK; clear hK K) | (apply Wpl.mv; exact rfl; (conv => lhs; whnf)) | (apply Wpc.cond_true; exact rfl) | (apply Wpc.cond_false; exact rfl) | apply Wpc.skip | apply Wpc.exit | (apply Wpl.leq; exact rfl; exact rfl; exact rfl; all_goals (intro h; try (exfalso; omega))) | ((conv => whnf); clear hK K; apply hK; clear hK K))
  · have hb : a + 20 ≤ L.length := by omega
    have h1 := hins (a + 20) (by omega) hb
    refine Wpc.block ?_
    repeat' (first | (apply Wpc.seqK; intro K hK) | apply Wpc.region | (apply Wpl.mv; exact rfl; (conv => lhs; whnf)))
    refine Wpl.callM rfl rfl rfl h1 (Pk.cons 0 rfl (Pk.nil _)) HasF.nil ?_
    rintro _ _ ⟨F2, seg, rfl, hp, hw, hv2⟩
    rw [hdb (a + 20) (by omega)] at hv2
    rw [show a + 20 - a = 20 by omega] at hp
    have hsegl : seg.length = 20 := by rw [hp.length_eq, List.length_take, List.length_drop]; omega
    repeat' (first | (apply Wpc.seqK; intro K hK) | apply Wpc.region | apply Wpl.nil | (apply hK; clear hK K) | (apply Wpl.mv; exact rfl; (conv => lhs; whnf)) | (apply Wpl.asg; exact rfl; (conv => lhs; whnf)) | (apply Wpl.add; exact rfl; exact rfl; exact rfl; omega))
    have e20 : (ps ++ [(seg, (L.drop a).take 20)]).length * 20 = a + 20 := by rw [List.length_append, List.length_singleton, Nat.add_mul, ha]
    refine ⟨(ps ++ [(seg, (L.drop a).take 20)], F2), ⟨Bk_snoc hps ⟨hp, hw, hsegl⟩, by show _ * 20 ≤ _; rw [e20]; exact hb, ?_, ?_⟩, by show L.length - _ * 20 < L.length - a; rw [e20]; omega, ⟨rfl, rfl, rfl, rfl, congrArg (fun x : Nat => Value.int .i64 x) e20.symm, congrArg (fun x : Nat => Value.int .i64 (x + 20 : Nat)) e20.symm, trivial⟩, Sel.refl _, fun _ h => h⟩
    · show f2 _ = L.take (_ * 20)
      rw [f2_snoc, hf2, e20, List.take_add]
    · show OwnT F2 v (f1 _ ++ L.drop (_ * 20))
      rw [f1_snoc, e20, List.append_assoc]
      refine OwnRow.cast hv2 ?_ rfl
      simp only [List.length_append, List.length_drop, hsegl, hl1]; omega
  · have hb : L.length < a + 20 := by omega
    have h1 := hins L.length hpl (Nat.le_refl _)
    skip
    refine Wpl.callM rfl rfl rfl h1 (Pk.cons 0 rfl (Pk.nil _)) HasF.nil ?_
    rintro _ _ ⟨F2, seg, rfl, hp, hw, hv2⟩
    rw [hdb L.length hpl, List.drop_length, List.append_nil] at hv2
    rw [List.take_of_length_le (by rw [List.length_drop]; omega)] at hp
    have hsegl : seg.length = L.length - a := by rw [hp.length_eq, List.length_drop]
    have hblk : Blk 20 (f1 ps ++ seg) L := ⟨ps, seg, L.drop a, hps, rfl, by rw [hf2, List.take_append_drop], hp, hw, by omega⟩
    have hv3 : OwnT F2 v (f1 ps ++ seg) := OwnRow.cast hv2 (by simp only [List.length_append, List.length_drop, hsegl, hl1]) rfl
    clear hv1 hv2 hins hdb hda hta hLc hslc
    generalize f1 ps ++ seg = M0 at *
    repeat' (first | apply Wpl.nil | (apply hK; clear hK K))
    refine Wpc.block ?_
    refine Wpc.loop (ι := Nat × List TI × Frag) (fun i => 20 ≤ i.1 ∧ i.1 ≤ 1000000000 ∧ Blk i.1 i.2.1 L ∧ OwnT i.2.2 v i.2.1)
      (fun i => [(0, v), (1, .int .i64 L.length), (2, fnV 168), (6, .int .i64 i.1)]) (fun i => [i.2.2]) (fun i => L.length - i.1) (20, M0, F2)
      ⟨Nat.le_refl _, by omega, hblk, hv3⟩ ⟨rfl, rfl, rfl, rfl, trivial⟩ (Sel.refl _) ?_
    clear hblk hv3 hw hp hsegl hps hpl hf2 hl1 ha
    rintro ⟨bs, M, F1⟩ g ⟨hb20, hb9, ⟨ps, S, T, hps, rfl, hLe, hST, hS, hSl⟩, hv1⟩
    dsimp only at hb20 hb9 hps hLe hv1 ⊢
    have hl1 := f1_len hps
    have hl2 := f2_len hps
    have hTl := hST.length_eq
    have hLl : L.length = ps.length * bs + S.length := by rw [hLe, List.length_append, hl2, hTl]
    repeat' (first | (apply Wpc.seqK; intro K hK) | apply Wpc.region | apply Wpl.nil | (apply hK; clear hK K) | (apply Wpl.mv; exact rfl; (conv => lhs; whnf)) | (apply Wpc.cond_true; exact rfl) | (apply Wpc.cond_false; exact rfl) | apply Wpc.skip | apply Wpc.exit | (apply Wpl.lss; exact rfl; exact rfl; exact rfl; all_goals (intro h; try (exfalso; omega))))
    · have hbn : bs < L.length := by omega
      refine Wpc.block ?_
      repeat' (first | (apply Wpc.seqK; intro K hK) | apply Wpc.region | (apply Wpl.mv; exact rfl; (conv => lhs; whnf)))
      refine Wpl.mul rfl rfl rfl (by omega) ?_
      repeat' (first | (apply Wpc.seqK; intro K hK) | apply Wpl.nil | (apply hK; clear hK K) | (apply Wpl.asg; exact rfl; (conv => lhs; whnf)))
      refine Wpc.block ?_
      refine Wpc.loop (ι := List (List TI × List TI) × List (List TI × List TI) × Frag) (fun i => (∀ p ∈ i.1, Bk (2 * bs) p) ∧ (∀ p ∈ i.2.1, Bk bs p) ∧ L = f2 i.1 ++ (f2 i.2.1 ++ T) ∧ OwnT i.2.2 v (f1 i.1 ++ (f1 i.2.1 ++ S)))
        (fun i => [(0, v), (1, .int .i64 L.length), (2, fnV 168), (6, .int .i64 bs), (7, .int .i64 ((i.1.length * (2 * bs) : Nat) : Int)), (8, .int .i64 ((i.1.length * (2 * bs) + 2 * bs : Nat) : Int))]) (fun i => [i.2.2]) (fun i => i.2.1.length) ([], ps, F1)
        ⟨fun p hp => absurd hp List.not_mem_nil, hps, hLe, hv1⟩ ⟨rfl, rfl, rfl, rfl, congrArg (Value.int .i64) (by simp), congrArg (Value.int .i64) (by simp), trivial⟩ (Sel.refl _) ?_
      clear hLe hv1 hl1 hl2 hLl hps
      rintro ⟨qs, ps, F1⟩ g ⟨hqs, hps, hLe, hv1⟩
      dsimp only at hqs hps hLe hv1 ⊢
      have hl1 := f1_len hps
      have hl2 := f2_len hps
      have hk1 := f1_len hqs
      have hk2 := f2_len hqs
      have hLl : L.length = qs.length * (2 * bs) + (ps.length * bs + S.length) := by rw [hLe, List.length_append, List.length_append, hl2, hk2, hTl]
      have hvl : (f1 qs ++ (f1 ps ++ S)).length = L.length := by simp only [List.length_append]; omega
      generalize haq : qs.length * (2 * bs) = a at *
      have hslc : ∀ x ∈ f1 qs ++ (f1 ps ++ S), isSl x.1.2 := by
        intro x hx
        refine hsl x ?_
        rw [hLe]
        have hp := ((f12_perm hqs).append ((f12_perm hps).append hST))
        exact hp.mem_iff.1 hx
      repeat' (first | (apply Wpc.seqK; intro K hK) | apply Wpc.region | apply Wpl.nil | (apply hK; clear hK K) | (apply Wpl.mv; exact rfl; (conv => lhs; whnf)) | (apply Wpl.asg; exact rfl; (conv => lhs; whnf)) | (apply Wpc.cond_true; exact rfl) | (apply Wpc.cond_false; exact rfl) | apply Wpc.skip | apply Wpc.exit | (apply Wpl.lss; exact rfl; exact rfl; exact rfl; all_goals (intro h; try (exfalso; omega))) | (apply Wpl.leq; exact rfl; exact rfl; exact rfl; all_goals (intro h; try (exfalso; omega))) | (apply Wpl.add; exact rfl; exact rfl; exact rfl; omega) | ((conv => whnf); clear hK K; apply hK; clear hK K))
      · have hab : a + 2 * bs ≤ L.length := by omega
        refine Wpc.block ?_
        have h2 : 2 ≤ ps.length := by
          refine Nat.le_of_not_lt fun h => ?_
          have : ps.length * bs ≤ 1 * bs := Nat.mul_le_mul_right _ (by omega)
          omega
        match ps, h2, hps, hLe, hv1, hl1, hl2, hLl, hvl, hslc with
        | p :: q :: ps, _, hps, hLe, hv1, hl1, hl2, hLl, hvl, hslc =>
        have hp := hps p List.mem_cons_self
        have hq := hps q (List.mem_cons_of_mem _ List.mem_cons_self)
        have htpq : ∀ x ∈ p.1, ∀ y ∈ q.1, x.2 < y.2 := by
          intro x hx y hy
          rw [hLe, f2_cons, f2_cons] at htag
          have h1 := (List.pairwise_append.1 htag).2.1
          rw [List.append_assoc] at h1
          refine (List.pairwise_append.1 h1).2.2 x (hp.1.mem_iff.1 hx) y ?_
          exact List.mem_append_left _ (List.mem_append_left _ (hq.1.mem_iff.1 hy))
        have e1 : f1 qs ++ (f1 (p :: q :: ps) ++ S) = f1 qs ++ (p.1 ++ (q.1 ++ (f1 ps ++ S))) := by rw [f1_cons, f1_cons]; simp
        rw [e1] at hv1 hvl hslc
        have hsym := symMerge_spec (2 * bs) F1 v (f1 qs) p.1 q.1 (f1 ps ++ S) a (a + bs) (a + 2 * bs) (by omega) hk1 (by rw [hp.2.2]) (by rw [hq.2.2]; omega) (by rw [hp.2.2]; omega) (by rw [hq.2.2]; omega) hv1 (by omega) hslc hp.2.1 hq.2.1 htpq
        repeat' (first | (apply Wpc.seqK; intro K hK) | apply Wpc.region | (apply Wpl.mv; exact rfl; (conv => lhs; whnf)) | (apply Wpl.add; exact rfl; exact rfl; exact rfl; omega))
        refine Wpl.callM rfl rfl rfl hsym (Pk.cons 0 rfl (Pk.nil _)) HasF.nil ?_
        rintro _ _ ⟨F2, S2, rfl, hpp, hww, hv2⟩
        repeat' (first | (apply Wpc.seqK; intro K hK) | apply Wpc.region | apply Wpl.nil | (apply hK; clear hK K) | (apply Wpl.mv; exact rfl; (conv => lhs; whnf)) | (apply Wpl.asg; exact rfl; (conv => lhs; whnf)))
        refine Wpl.mul rfl rfl rfl (by omega) ?_
        repeat' (first | apply Wpl.nil | (apply Wpl.asg; exact rfl; (conv => lhs; whnf)) | (apply Wpl.add; exact rfl; exact rfl; exact rfl; omega))
        have e20 : (qs ++ [(S2, p.2 ++ q.2)]).length * (2 * bs) = a + 2 * bs := by rw [List.length_append, List.length_singleton, Nat.add_mul, haq]; omega
        refine ⟨(qs ++ [(S2, p.2 ++ q.2)], ps, F2), ⟨Bk_snoc hqs ⟨hpp.trans (hp.1.append hq.1), hww, by show S2.length = _; rw [hpp.length_eq, List.length_append, hp.2.2, hq.2.2]; omega⟩, fun r hr => hps r (List.mem_cons_of_mem _ (List.mem_cons_of_mem _ hr)), ?_, ?_⟩, by show ps.length < ps.length + 1 + 1; omega,
          ⟨rfl, rfl, rfl, rfl, congrArg (Value.int .i64) (by show ((a + 2 * bs : Nat) : Int) = _; rw [e20]), congrArg (Value.int .i64) (by show ((a + 2 * bs : Nat) : Int) + 2 * (bs : Int) = _; rw [e20]; omega), trivial⟩, Sel.refl _, fun _ h => h⟩
        · show L = f2 _ ++ (f2 ps ++ T)
          rw [f2_snoc, hLe, f2_cons, f2_cons]; simp
        · show OwnT F2 v (f1 _ ++ (f1 ps ++ S))
          rw [f1_snoc]
          exact hv2.eq (by simp)
      · have hab : L.length < a + 2 * bs := by omega
        have hmn : a + bs < L.length := by omega
        have h2 : ps.length = 1 := by
          have h3 : ps.length ≤ 1 := by
            refine Nat.le_of_not_lt fun h => ?_
            have : 2 * bs ≤ ps.length * bs := Nat.mul_le_mul_right _ h
            omega
          rcases Nat.eq_zero_or_pos ps.length with h4 | h4
          · rw [h4] at hLl; omega
          · omega
        have hb2 : 20 ≤ bs * 2 ∧ bs * 2 ≤ 1000000000 := by omega
        match ps, h2, hps, hLe, hv1, hl1, hl2, hLl, hvl, hslc with
        | [p], _, hps, hLe, hv1, hl1, hl2, hLl, hvl, hslc =>
          have hp := hps p List.mem_cons_self
          simp only [List.length_singleton, Nat.one_mul] at hLl
          have e1 : f1 qs ++ (f1 [p] ++ S) = f1 qs ++ (p.1 ++ (S ++ [])) := by simp [f1]
          rw [e1] at hv1 hvl hslc
          have htpq : ∀ x ∈ p.1, ∀ y ∈ S, x.2 < y.2 := by
            intro x hx y hy
            rw [hLe, f2_cons] at htag
            have h1 := (List.pairwise_append.1 htag).2.1
            rw [List.append_assoc] at h1
            refine (List.pairwise_append.1 h1).2.2 x (hp.1.mem_iff.1 hx) y ?_
            exact List.mem_append_right _ (hST.mem_iff.1 hy)
          have hsym := symMerge_spec (2 * bs) F1 v (f1 qs) p.1 S [] a (a + bs) L.length (by omega) hk1 (by rw [hp.2.2]) (by omega) (by rw [hp.2.2]; omega) (by omega) hv1 (by omega) hslc hp.2.1 hS htpq
          refine Wpl.callM rfl rfl rfl hsym (Pk.cons 0 rfl (Pk.nil _)) HasF.nil ?_
          rintro _ _ ⟨F2, S2, rfl, hpp, hww, hv2⟩
          repeat' (first | apply Wpc.region | apply Wpl.nil | (apply hK; clear hK K) | (apply Wpl.mv; exact rfl; (conv => lhs; whnf)))
          refine Wpl.mul rfl rfl rfl (by omega) ?_
          repeat' (first | apply Wpl.nil | (apply Wpl.asg; exact rfl; (conv => lhs; whnf)))
          exact ⟨(bs * 2, f1 qs ++ S2, F2), ⟨hb2.1, hb2.2, ⟨qs, S2, p.2 ++ T, fun p hp => by rw [Nat.mul_comm]; exact hqs p hp, rfl, by rw [hLe]; simp [f2], hpp.trans (hp.1.append hST), hww, by rw [hpp.length_eq, List.length_append, hp.2.2]; omega⟩, hv2.eq (by simp)⟩, by show L.length - bs * 2 < L.length - bs; omega, ⟨rfl, rfl, rfl, rfl, trivial⟩, Sel.refl _, fun _ h => h⟩
      · have hab : L.length < a + 2 * bs := by omega
        have hmn : L.length ≤ a + bs := by omega
        have h2 : ps.length ≤ 1 := by
          refine Nat.le_of_not_lt fun h => ?_
          have : 2 * bs ≤ ps.length * bs := Nat.mul_le_mul_right _ h
          omega
        have hb2 : 20 ≤ bs * 2 ∧ bs * 2 ≤ 1000000000 := by omega
        refine Wpl.mul rfl rfl rfl (by omega) ?_
        repeat' (first | apply Wpl.nil | (apply Wpl.asg; exact rfl; (conv => lhs; whnf)))
        match ps, h2, hps, hLe, hv1, hl1, hl2, hLl, hvl, hslc with
        | [], _, hps, hLe, hv1, hl1, hl2, hLl, hvl, hslc =>
          exact ⟨(bs * 2, f1 qs ++ S, F1), ⟨hb2.1, hb2.2, ⟨qs, S, T, fun p hp => by rw [Nat.mul_comm]; exact hqs p hp, rfl, by rw [hLe]; simp [f2], hST, hS, by omega⟩, hv1.eq (by simp [f1])⟩, by show L.length - bs * 2 < L.length - bs; omega, ⟨rfl, rfl, rfl, rfl, trivial⟩, Sel.refl _, fun _ h => h⟩
        | [p], _, hps, hLe, hv1, hl1, hl2, hLl, hvl, hslc =>
          have hp := hps p List.mem_cons_self
          simp only [List.length_singleton, Nat.one_mul] at hLl
          have hs0 : S = [] := List.eq_nil_of_length_eq_zero (by omega)
          have ht0 : T = [] := List.eq_nil_of_length_eq_zero (by rw [← hTl, hs0]; rfl)
          exact ⟨(bs * 2, f1 qs ++ p.1, F1), ⟨hb2.1, hb2.2, ⟨qs, p.1, p.2, fun p hp => by rw [Nat.mul_comm]; exact hqs p hp, rfl, by rw [hLe, ht0]; simp [f2], hp.1, hp.2.1, by rw [hp.2.2]; omega⟩, hv1.eq (by rw [hs0]; simp [f1])⟩, by show L.length - bs * 2 < L.length - bs; omega, ⟨rfl, rfl, rfl, rfl, trivial⟩, Sel.refl _, fun _ h => h⟩
    · have hbn : L.length ≤ bs := by omega
      have hps0 : ps.length ≤ 1 := by
        refine Nat.le_of_not_lt fun h => ?_
        have : 2 * bs ≤ ps.length * bs := Nat.mul_le_mul_right _ h
        omega
      match ps, hps0 with
      | [], _ =>
        have e1 : f1 [] ++ S = S := rfl
        have e2 : L = T := hLe
        exact ⟨[], _, trivial, Sel.refl _, fun _ h => h, F1, S, rfl, by rw [e2]; exact hST, hS, hv1⟩
      | [p], _ =>
        have hp := hps p List.mem_cons_self
        have hs0 : S = [] := List.eq_nil_of_length_eq_zero (by simp only [List.length_singleton, Nat.one_mul] at hLl; omega)
        have ht0 : T = [] := List.eq_nil_of_length_eq_zero (by rw [← hTl, hs0]; rfl)
        subst hs0 ht0
        have e1 : f1 [p] ++ [] = p.1 := by simp [f1]
        have e2 : L = p.2 := by rw [hLe]; simp [f2]
        rw [e1] at hv1
        exact ⟨[], _, trivial, Sel.refl _, fun _ h => h, F1, p.1, rfl, by rw [e2]; exact hp.1, hp.2.1, hv1⟩
theorem sortStable_spec (F : Frag) (v : Value) (L : List TI) (hv : OwnT F v L) (hl : L.length ≤ 100000000) (hsl : ∀ x ∈ L, isSl x.1.2) (htag : L.Pairwise (fun x y => x.2 < y.2)) :
    Ctr Try.prog 167 [v, fnV 168] [] [F]
      (fun _ M' => ∃ F' S, M' = [F'] ∧ S.Perm L ∧ S.Pairwise lt ∧ OwnT F' v S) := by
  have h := stable_spec F v L hv hl hsl htag
  obtain ⟨a1, c1, rfl⟩ := hv.row.len
  refine Ctr.intro Try.func167 (by kernel_rfl) rfl (by conv => lhs; whnf) rfl fun W => ?_
  repeat' (first | apply Wpc.region | (apply Wpl.mv; exact rfl; (conv => lhs; whnf)) | (apply Wpl.len; exact rfl; exact rfl))
  refine Wpl.callM rfl rfl rfl h (Pk.cons 0 rfl (Pk.nil _)) HasF.nil ?_
  rintro _ _ ⟨F2, S2, rfl, hpp, hww, hv2⟩
  repeat' (apply Wpl.nil)
  exact ⟨[], _, trivial, Sel.refl _, fun _ h => h, F2, S2, rfl, hpp, hww, hv2⟩
end Go.Proofs.Ytmfcgffdijnokaa
set_option maxRecDepth 100000
set_option maxHeartbeats 4000000
namespace Go.Proofs.Ytmfcgffdijnokaa
open Go.SL Go.RowKit
attribute [local irreducible] Wpl Wpc Wph
/-! slices.Grow of nil, slices.Concat: at ints and at items -/
section
variable {q : Md} {C : Cx} {ops : Array Oper} {rest : List Oper} {Q : Exit → Env → List Frag → List Frag → Prop} {f : Env} {R M : List Frag}
variable {d : Nat} {ty T : TypeId} {pos : String} {af : Array Edge} {x y : Operand}
theorem Wpl.capS {E : TypeId} [hT : SliceT C.P T E] {a : Option Addr} {n c : Nat} (hd : Nat.blt d C.n = true) (hx : f.ev x = .slice a n c)
    (k1 : Wpl q C ops rest Q (f.upd d (.int .i64 (c : Int))) R M) : Wpl q C ops (⟨some d, .call ⟨.builtin .cap, #[x], #[T]⟩, ty, pos, af, none⟩ :: rest) Q f R M :=
  Wpl.val rfl hd _ (fun w _ => by simp [execOp, resolve, invoke, builtin, hx, Builtin.cap_, run_underlying hT.h, goInt]) k1
theorem Wpl.sliceNil {E : TypeId} {kk by_ : Nat} {z : Value} {kh : IntKind} {h : Int} [hT : SliceT C.P T E] [hE : AnyT C.P E kk z by_] (hd : Nat.blt d C.n = true) (hx : f.ev x = .slice none 0 0) (hy : f.ev y = .int kh h) (h0 : h = 0)
    (k1 : Wpl q C ops rest Q (f.upd d (.slice none 0 0)) R M) : Wpl q C ops (⟨some d, .slice T x none (some y) none, ty, pos, af, none⟩ :: rest) Q f R M :=
  Wpl.val rfl hd _ (fun w _ => by
    obtain ⟨agg, hE'⟩ := hE.h
    subst h0
    have he : C.P.underlying T = some (.slice (C.P.elem T)) := by have := hT.h; simp [Program.elem, this]
    have he2 : C.P.elem T = E := by have := hT.h; simp [Program.elem, this]
    simp [execOp, hx, hy, run_sliceAt_slice w T _ _ _ _ he, run_slice_h w T _ _ _ he kh 0 (Int.le_refl _) (Int.le_refl _), he2, hE'.run_size, sliced]) k1
/-- append(nil, make([]T, n)...) -/
theorem Wpl.appZ {E tn : TypeId} {k bytes : Nat} {z : Value} {kn : IntKind} {n : Int} [hT : SliceT C.P T E] [hn : IntT C.P tn kn] [hE : AnyT C.P E k z bytes] (hd : Nat.blt d C.n = true) (hx : f.ev x = .slice none 0 0) (hy : f.ev y = .int kn n)
    (h0 : 0 < n) (hk : 0 < k) (h63 : n ≤ 9223372036854775807) (h48 : n.toNat * bytes ≤ 281474976710656)
    (k1 : ∀ b cap c, n.toNat ≤ cap → cap ≤ maxLen → c.size = cap * k → Wpl .seq C ops rest Q (f.upd d (.slice (some ⟨b, 0, none⟩) n.toNat cap)) R ([(b, .cells c E (0, 0))] :: M)) :
    Wpl .seq C ops (⟨some d, .call ⟨.builtin .append, #[x, y], #[T, tn]⟩, ty, pos, af, none⟩ :: rest) Q f R M := by
  refine Wpl.chg rfl hd fun w hw => ?_
  obtain ⟨agg, hE'⟩ := hE.h
  obtain ⟨i, hi, hz, hsz, hby⟩ := hE'.info
  subst hsz hby
  have hzs := hE'.zs
  have hnn : ((n.toNat : Nat) : Int) = n := by omega
  have hr := Lib.run_append_nil_zeros w T tn ty E i z kn kn hT.h hn.h hi hz n.toNat (by omega) hk (by omega) h48
  have hge := grownCap_ge w n.toNat 0 E
  have hle := grownCap_le_maxLen w n.toNat 0 E (by unfold maxLen; omega)
  rw [hnn] at hr
  refine ⟨_, w.drew.alloc (.cells (Builtin.zeroCells z.cells n.toNat ++ Builtin.zeroCells z.cells (grownCap w n.toNat 0 E - n.toNat)) E), R, _, ?_, ((hw.of_heap rfl rfl rfl rfl : Sat C R M w.drew).alloc _), k1 _ _ _ hge hle ?_⟩
  · simp [execOp, resolve, invoke, builtin, hx, hy, hr]
  · simp only [Array.size_append, size_zeroCells, hzs, ← Nat.add_mul]
    congr 1; omega
/-- a value out of a row of values -/
theorem Wpl.idxVN {s i : Operand} {d2 : Nat} {E ty2 : TypeId} {pos2 : String} {af2 : Array Edge} {by_ : Nat} {z : Value} [hT : SliceT C.P T E] [hE : CellT C.P E z by_] {F : Frag} {v u : Value} {ki : IntKind} {m : Nat} {l : List Value} {n : Nat}
    (hd : Nat.blt d C.n = true) (hd2 : Nat.blt d2 C.n = true) (hs : f.ev s = v) (hi : f.ev i = .int ki (m : Int)) (hrow : Row F 1 v n l) (hF : HasF R M F) (h1 : m < n) (hu : l[m]? = some u)
    (k1 : ∀ p, Wpl q C ops rest Q ((f.upd d p).upd d2 u) R M) :
    Wpl q C ops (⟨some d, .indexAddr T s i, ty, pos, af, none⟩ :: ⟨some d2, .load E (.tmp d), ty2, pos2, af2, none⟩ :: rest) Q f R M :=
  Wpl.indexLoad (u := u) hd hd2 hT.h hE.h hF hs hrow hi ⟨by omega, by omega⟩ (by simpa using hu) k1
end
theorem growI_spec (n : Nat) (hn : n ≤ 1000000000) :
    Ctr Try.prog 144 [.slice none 0 0, .int .i64 n] [] [] (fun r M' => ∃ F', M' = [F'] ∧ OwnRow 3 1 F' r 0 []) := by
  refine Ctr.intro Try.func144 (by kernel_rfl) rfl (by conv => lhs; whnf) rfl fun W => ?_
  refine Wpc.addNil ?_
  repeat' (first | (apply Wpl.capS; exact rfl; exact rfl) | (apply Wpl.sliceNil; exact rfl; exact rfl; exact rfl; rfl) | (apply Wpc.seqK; intro K hK) | apply Wpc.region | apply Wpl.nil | (apply hK; clear hK K) | (apply Wpl.mv; exact rfl; (conv => lhs; whnf)) | (apply Wpl.asg; exact rfl; (conv => lhs; whnf)) | (apply Wpc.cond_true; exact rfl) | (apply Wpc.cond_false; exact rfl) | apply Wpc.skip | apply Wpc.ret | (apply Wpl.lss; exact rfl; exact rfl; exact rfl; all_goals (intro h; try (exfalso; omega))) | (apply Wpl.gtr; exact rfl; exact rfl; exact rfl; all_goals (intro h; try (exfalso; omega))) | (apply Wpl.sub; exact rfl; exact rfl; exact rfl; omega) | (apply Wpl.len; exact rfl; exact rfl))
  · refine Wpl.appZ rfl rfl rfl (by omega) (by decide) (by omega) (by omega) (fun b cap c h1 h2 h3 => ?_)
    repeat' (first | (apply Wpc.seqK; intro K hK) | apply Wpc.region | apply Wpl.nil | (apply hK; clear hK K) | (apply Wpl.mv; exact rfl; (conv => lhs; whnf)) | (apply Wpl.asg; exact rfl; (conv => lhs; whnf)) | apply Wpc.ret | (apply Wpl.sliceH; exact rfl; exact rfl; exact rfl; omega; omega) | (apply Wpl.len; exact rfl; exact rfl))
    exact ⟨[_], _, ⟨rfl, trivial⟩, Sel.cons 0 rfl (Sel.nil _), fun _ h => h, _, rfl, rfl, .inr ⟨b, cap, c, rfl, rfl, Nat.zero_le _, h2, h3, by simp⟩⟩
  · exact ⟨[_], _, ⟨rfl, trivial⟩, Sel.refl _, fun _ h => h, _, rfl, OwnRow.nil _ _⟩
theorem growT_spec (n : Nat) (hn : n ≤ 1000000000) :
    Ctr Try.prog 179 [.slice none 0 0, .int .i64 n] [] [] (fun r M' => ∃ F', M' = [F'] ∧ OwnRow 245 2 F' r 0 []) := by
  refine Ctr.intro Try.func179 (by kernel_rfl) rfl (by conv => lhs; whnf) rfl fun W => ?_
  refine Wpc.addNil ?_
  repeat' (first | (apply Wpl.capS; exact rfl; exact rfl) | (apply Wpl.sliceNil; exact rfl; exact rfl; exact rfl; rfl) | (apply Wpc.seqK; intro K hK) | apply Wpc.region | apply Wpl.nil | (apply hK; clear hK K) | (apply Wpl.mv; exact rfl; (conv => lhs; whnf)) | (apply Wpl.asg; exact rfl; (conv => lhs; whnf)) | (apply Wpc.cond_true; exact rfl) | (apply Wpc.cond_false; exact rfl) | apply Wpc.skip | apply Wpc.ret | (apply Wpl.lss; exact rfl; exact rfl; exact rfl; all_goals (intro h; try (exfalso; omega))) | (apply Wpl.gtr; exact rfl; exact rfl; exact rfl; all_goals (intro h; try (exfalso; omega))) | (apply Wpl.sub; exact rfl; exact rfl; exact rfl; omega) | (apply Wpl.len; exact rfl; exact rfl))
  · refine Wpl.appZ rfl rfl rfl (by omega) (by decide) (by omega) (by omega) (fun b cap c h1 h2 h3 => ?_)
    repeat' (first | (apply Wpc.seqK; intro K hK) | apply Wpc.region | apply Wpl.nil | (apply hK; clear hK K) | (apply Wpl.mv; exact rfl; (conv => lhs; whnf)) | (apply Wpl.asg; exact rfl; (conv => lhs; whnf)) | apply Wpc.ret | (apply Wpl.sliceH; exact rfl; exact rfl; exact rfl; omega; omega) | (apply Wpl.len; exact rfl; exact rfl))
    exact ⟨[_], _, ⟨rfl, trivial⟩, Sel.cons 0 rfl (Sel.nil _), fun _ h => h, _, rfl, rfl, .inr ⟨b, cap, c, rfl, rfl, Nat.zero_le _, h2, h3, by simp⟩⟩
  · exact ⟨[_], _, ⟨rfl, trivial⟩, Sel.refl _, fun _ h => h, _, rfl, OwnRow.nil _ _⟩
/-- what is concatenated: its piece, its value, how many elements, their cells -/
structure Src where
  F : Frag
  v : Value
  n : Nat
  xs : List Value
def srcN (l : List Src) : Nat := (l.map (·.n)).sum
def srcX (l : List Src) : List Value := l.flatMap (·.xs)
theorem srcN_snoc {l : List Src} {k : Nat} (h : k < l.length) : srcN (l.take (k + 1)) = srcN (l.take k) + l[k].n := by
  rw [take_snoc l k h]; simp only [srcN, List.map_append, List.map_cons, List.map_nil, List.sum_append, List.sum_cons, List.sum_nil]; omega
theorem srcX_snoc {l : List Src} {k : Nat} (h : k < l.length) : srcX (l.take (k + 1)) = srcX (l.take k) ++ l[k].xs := by
  rw [take_snoc l k h]; simp only [srcX, List.flatMap_append, List.flatMap_cons, List.flatMap_nil, List.append_nil]
theorem srcN_take (l : List Src) (k : Nat) : srcN (l.take k) ≤ srcN l := by
  have : srcN l = srcN (l.take k) + srcN (l.drop k) := by
    simp only [srcN]
    rw [← List.sum_append, ← List.map_append, List.take_append_drop]
  omega
theorem concatI_spec (F : Frag) (v : Value) (ss : List Src) (hv : Row F 1 v ss.length (ss.map (·.v))) (hs : ∀ s ∈ ss, Row s.F 1 s.v s.n s.xs ∧ ∀ u ∈ s.xs, u.oneCell' = true) (hl : ss.length ≤ 1000000) (ht : srcN ss ≤ 1000000000) :
    Ctr Try.prog 107 [v] (F :: ss.map (·.F)) [] (fun r M' => ∃ F', M' = [F'] ∧ OwnRow 3 1 F' r (srcN ss) (srcX ss)) := by
  obtain ⟨a1, c1, rfl⟩ := hv.len
  refine Ctr.intro Try.func107 (by kernel_rfl) rfl (by conv => lhs; whnf) rfl fun W => ?_
  repeat' (first | (apply Wpc.seqK; intro K hK) | apply Wpc.region | apply Wpl.nil | (apply hK; clear hK K) | (apply Wpl.mv; exact rfl; (conv => lhs; whnf)) | (apply Wpl.asg; exact rfl; (conv => lhs; whnf)) | apply Wpc.block | (apply Wpl.len; exact rfl; exact rfl))
  refine Wpc.loop (ι := Nat) (fun k => k ≤ ss.length) (fun k => [(0, .slice a1 ss.length c1), (3, .int .i64 ((srcN (ss.take k) : Nat) : Int)), (9, .slice a1 ss.length c1), (10, .int .i64 ss.length), (11, .int .i64 k)]) (fun _ => []) (fun k => ss.length - k) 0 (Nat.zero_le _)
    ⟨rfl, rfl, rfl, rfl, rfl, trivial⟩ (Sel.refl _) ?_
  rintro k g hk
  repeat' (first | (apply Wpc.seqK; intro K hK) | apply Wpc.region | apply Wpl.nil | (apply hK; clear hK K) | (apply Wpl.mv; exact rfl; (conv => lhs; whnf)) | (apply Wpc.cond_true; exact rfl) | (apply Wpc.cond_false; exact rfl) | apply Wpc.skip | apply Wpc.exit | (apply Wpl.lss; exact rfl; exact rfl; exact rfl; all_goals (intro h; try (exfalso; omega))) | ((conv => whnf); clear hK K; apply hK; clear hK K))
  · have hkl : k < ss.length := by omega
    have hsk := hs ss[k] (List.getElem_mem hkl)
    have htk := srcN_take ss (k + 1)
    rw [srcN_snoc hkl] at htk
    refine Wpc.block ?_
    repeat' (first | (apply Wpc.seqK; intro K hK) | apply Wpc.region)
    refine Wpl.idxVN (u := ss[k].v) rfl rfl rfl rfl hv (HasF.r 0 rfl) hkl (by simp [hkl]) (fun _ => ?_)
    repeat' (first | (apply Wpc.seqK; intro K hK) | apply Wpc.region | apply Wpl.nil | (apply hK; clear hK K) | (apply Wpl.mv; exact rfl; (conv => lhs; whnf)) | (apply Wpl.asg; exact rfl; (conv => lhs; whnf)))
    refine Wpl.lenRow rfl rfl hsk.1 ?_
    repeat' (first | (apply Wpc.seqK; intro K hK) | apply Wpc.region | apply Wpl.nil | (apply hK; clear hK K) | (apply Wpl.mv; exact rfl; (conv => lhs; whnf)) | (apply Wpl.asg; exact rfl; (conv => lhs; whnf)) | (apply Wpc.cond_false; exact rfl) | apply Wpc.skip | (apply Wpl.lss; exact rfl; exact rfl; exact rfl; all_goals (intro h; try (exfalso; omega))) | (apply Wpl.add; exact rfl; exact rfl; exact rfl; omega))
    exact ⟨k + 1, by omega, by omega, ⟨rfl, congrArg (Value.int .i64) (by rw [srcN_snoc hkl]; omega), rfl, rfl, rfl, trivial⟩, Sel.refl _, fun _ h => h⟩
  · have hkn : k = ss.length := by omega
    subst hkn
    rw [List.take_length]
    skip
    refine Wpl.callM rfl rfl rfl (growI_spec (srcN ss) ht) (Pk.nil _) HasF.nil ?_
    rintro v0 _ ⟨F0, rfl, hv0⟩
    repeat' (first | (apply Wpc.seqK; intro K hK) | apply Wpc.region | apply Wpl.nil | (apply hK; clear hK K) | (apply Wpl.mv; exact rfl; (conv => lhs; whnf)) | (apply Wpl.asg; exact rfl; (conv => lhs; whnf)) | apply Wpc.block | (apply Wpl.len; exact rfl; exact rfl))
    refine Wpc.loop (ι := Nat × Value × Frag) (fun i => i.1 ≤ ss.length ∧ OwnRow 3 1 i.2.2 i.2.1 (srcN (ss.take i.1)) (srcX (ss.take i.1))) (fun i => [(6, i.2.1), (25, .slice a1 ss.length c1), (26, .int .i64 ss.length), (27, .int .i64 i.1)]) (fun i => [i.2.2]) (fun i => ss.length - i.1) (0, v0, F0) ⟨Nat.zero_le _, hv0⟩
      ⟨rfl, rfl, rfl, rfl, trivial⟩ (Sel.refl _) ?_
    rintro ⟨k, vk, Fk⟩ g ⟨hk, hvk⟩
    dsimp only at hk hvk ⊢
    repeat' (first | (apply Wpc.seqK; intro K hK) | apply Wpc.region | apply Wpl.nil | (apply hK; clear hK K) | (apply Wpl.mv; exact rfl; (conv => lhs; whnf)) | (apply Wpl.asg; exact rfl; (conv => lhs; whnf)) | (apply Wpc.cond_true; exact rfl) | (apply Wpc.cond_false; exact rfl) | apply Wpc.skip | apply Wpc.exit | apply Wpc.ret | (apply Wpl.lss; exact rfl; exact rfl; exact rfl; all_goals (intro h; try (exfalso; omega))) | ((conv => whnf); clear hK K; apply hK; clear hK K))
    · have hkl : k < ss.length := by omega
      have hsk := hs ss[k] (List.getElem_mem hkl)
      have htk := srcN_take ss (k + 1)
      rw [srcN_snoc hkl] at htk
      refine Wpc.block ?_
      repeat' (first | (apply Wpc.seqK; intro K hK) | apply Wpc.region)
      refine Wpl.idxVN (u := ss[k].v) rfl rfl rfl rfl hv (HasF.r 0 rfl) hkl (by simp [hkl]) (fun _ => ?_)
      repeat' (first | apply Wpc.region | apply Wpl.nil | (apply hK; clear hK K) | (apply Wpl.mv; exact rfl; (conv => lhs; whnf)) | (apply Wpl.asg; exact rfl; (conv => lhs; whnf)))
      refine Wpl.append 0 rfl hvk rfl rfl rfl hsk.1 (.inl (List.mem_cons_of_mem _ (List.mem_map_of_mem (List.getElem_mem hkl)))) (by decide) hsk.2 (by omega) (by unfold maxLen; omega) (fun v' F' hv' => ?_)
      repeat' (first | apply Wpc.region | apply Wpl.nil | (apply hK; clear hK K) | (apply Wpl.mv; exact rfl; (conv => lhs; whnf)) | (apply Wpl.asg; exact rfl; (conv => lhs; whnf)) | (apply Wpl.add; exact rfl; exact rfl; exact rfl; omega))
      exact ⟨(k + 1, v', F'), ⟨by omega, OwnRow.cast hv' (srcN_snoc hkl).symm (srcX_snoc hkl).symm⟩, by show ss.length - (k + 1) < ss.length - k; omega, ⟨rfl, rfl, rfl, rfl, trivial⟩, Sel.refl _, fun _ h => h⟩
    · have hkn : k = ss.length := by omega
      subst hkn
      rw [List.take_length] at hvk
      skip
      exact ⟨[_], _, ⟨rfl, trivial⟩, Sel.refl _, fun _ h => h, Fk, rfl, hvk⟩
theorem concatT_spec (F : Frag) (v : Value) (ss : List Src) (hv : Row F 1 v ss.length (ss.map (·.v))) (hs : ∀ s ∈ ss, Row s.F 2 s.v s.n s.xs ∧ ∀ u ∈ s.xs, u.oneCell' = true) (hl : ss.length ≤ 1000000) (ht : srcN ss ≤ 1000000000) :
    Ctr Try.prog 169 [v] (F :: ss.map (·.F)) [] (fun r M' => ∃ F', M' = [F'] ∧ OwnRow 245 2 F' r (srcN ss) (srcX ss)) := by
  obtain ⟨a1, c1, rfl⟩ := hv.len
  refine Ctr.intro Try.func169 (by kernel_rfl) rfl (by conv => lhs; whnf) rfl fun W => ?_
  repeat' (first | (apply Wpc.seqK; intro K hK) | apply Wpc.region | apply Wpl.nil | (apply hK; clear hK K) | (apply Wpl.mv; exact rfl; (conv => lhs; whnf)) | (apply Wpl.asg; exact rfl; (conv => lhs; whnf)) | apply Wpc.block | (apply Wpl.len; exact rfl; exact rfl))
  refine Wpc.loop (ι := Nat) (fun k => k ≤ ss.length) (fun k => [(0, .slice a1 ss.length c1), (3, .int .i64 ((srcN (ss.take k) : Nat) : Int)), (9, .slice a1 ss.length c1), (10, .int .i64 ss.length), (11, .int .i64 k)]) (fun _ => []) (fun k => ss.length - k) 0 (Nat.zero_le _)
    ⟨rfl, rfl, rfl, rfl, rfl, trivial⟩ (Sel.refl _) ?_
  rintro k g hk
  repeat' (first | (apply Wpc.seqK; intro K hK) | apply Wpc.region | apply Wpl.nil | (apply hK; clear hK K) | (apply Wpl.mv; exact rfl; (conv => lhs; whnf)) | (apply Wpc.cond_true; exact rfl) | (apply Wpc.cond_false; exact rfl) | apply Wpc.skip | apply Wpc.exit | (apply Wpl.lss; exact rfl; exact rfl; exact rfl; all_goals (intro h; try (exfalso; omega))) | ((conv => whnf); clear hK K; apply hK; clear hK K))
  · have hkl : k < ss.length := by omega
    have hsk := hs ss[k] (List.getElem_mem hkl)
    have htk := srcN_take ss (k + 1)
    rw [srcN_snoc hkl] at htk
    refine Wpc.block ?_
    repeat' (first | (apply Wpc.seqK; intro K hK) | apply Wpc.region)
    refine Wpl.idxVN (u := ss[k].v) rfl rfl rfl rfl hv (HasF.r 0 rfl) hkl (by simp [hkl]) (fun _ => ?_)
    repeat' (first | (apply Wpc.seqK; intro K hK) | apply Wpc.region | apply Wpl.nil | (apply hK; clear hK K) | (apply Wpl.mv; exact rfl; (conv => lhs; whnf)) | (apply Wpl.asg; exact rfl; (conv => lhs; whnf)))
    refine Wpl.lenRow rfl rfl hsk.1 ?_
    repeat' (first | (apply Wpc.seqK; intro K hK) | apply Wpc.region | apply Wpl.nil | (apply hK; clear hK K) | (apply Wpl.mv; exact rfl; (conv => lhs; whnf)) | (apply Wpl.asg; exact rfl; (conv => lhs; whnf)) | (apply Wpc.cond_false; exact rfl) | apply Wpc.skip | (apply Wpl.lss; exact rfl; exact rfl; exact rfl; all_goals (intro h; try (exfalso; omega))) | (apply Wpl.add; exact rfl; exact rfl; exact rfl; omega))
    exact ⟨k + 1, by omega, by omega, ⟨rfl, congrArg (Value.int .i64) (by rw [srcN_snoc hkl]; omega), rfl, rfl, rfl, trivial⟩, Sel.refl _, fun _ h => h⟩
  · have hkn : k = ss.length := by omega
    subst hkn
    rw [List.take_length]
    skip
    refine Wpl.callM rfl rfl rfl (growT_spec (srcN ss) ht) (Pk.nil _) HasF.nil ?_
    rintro v0 _ ⟨F0, rfl, hv0⟩
    repeat' (first | (apply Wpc.seqK; intro K hK) | apply Wpc.region | apply Wpl.nil | (apply hK; clear hK K) | (apply Wpl.mv; exact rfl; (conv => lhs; whnf)) | (apply Wpl.asg; exact rfl; (conv => lhs; whnf)) | apply Wpc.block | (apply Wpl.len; exact rfl; exact rfl))
    refine Wpc.loop (ι := Nat × Value × Frag) (fun i => i.1 ≤ ss.length ∧ OwnRow 245 2 i.2.2 i.2.1 (srcN (ss.take i.1)) (srcX (ss.take i.1))) (fun i => [(6, i.2.1), (25, .slice a1 ss.length c1), (26, .int .i64 ss.length), (27, .int .i64 i.1)]) (fun i => [i.2.2]) (fun i => ss.length - i.1) (0, v0, F0) ⟨Nat.zero_le _, hv0⟩
      ⟨rfl, rfl, rfl, rfl, trivial⟩ (Sel.refl _) ?_
    rintro ⟨k, vk, Fk⟩ g ⟨hk, hvk⟩
    dsimp only at hk hvk ⊢
    repeat' (first | (apply Wpc.seqK; intro K hK) | apply Wpc.region | apply Wpl.nil | (apply hK; clear hK K) | (apply Wpl.mv; exact rfl; (conv => lhs; whnf)) | (apply Wpl.asg; exact rfl; (conv => lhs; whnf)) | (apply Wpc.cond_true; exact rfl) | (apply Wpc.cond_false; exact rfl) | apply Wpc.skip | apply Wpc.exit | apply Wpc.ret | (apply Wpl.lss; exact rfl; exact rfl; exact rfl; all_goals (intro h; try (exfalso; omega))) | ((conv => whnf); clear hK K; apply hK; clear hK K))
    · have hkl : k < ss.length := by omega
      have hsk := hs ss[k] (List.getElem_mem hkl)
      have htk := srcN_take ss (k + 1)
      rw [srcN_snoc hkl] at htk
      refine Wpc.block ?_
      repeat' (first | (apply Wpc.seqK; intro K hK) | apply Wpc.region)
      refine Wpl.idxVN (u := ss[k].v) rfl rfl rfl rfl hv (HasF.r 0 rfl) hkl (by simp [hkl]) (fun _ => ?_)
      repeat' (first | apply Wpc.region | apply Wpl.nil | (apply hK; clear hK K) | (apply Wpl.mv; exact rfl; (conv => lhs; whnf)) | (apply Wpl.asg; exact rfl; (conv => lhs; whnf)))
      refine Wpl.append 0 rfl hvk rfl rfl rfl hsk.1 (.inl (List.mem_cons_of_mem _ (List.mem_map_of_mem (List.getElem_mem hkl)))) (by decide) hsk.2 (by omega) (by unfold maxLen; omega) (fun v' F' hv' => ?_)
      repeat' (first | apply Wpc.region | apply Wpl.nil | (apply hK; clear hK K) | (apply Wpl.mv; exact rfl; (conv => lhs; whnf)) | (apply Wpl.asg; exact rfl; (conv => lhs; whnf)) | (apply Wpl.add; exact rfl; exact rfl; exact rfl; omega))
      exact ⟨(k + 1, v', F'), ⟨by omega, OwnRow.cast hv' (srcN_snoc hkl).symm (srcX_snoc hkl).symm⟩, by show ss.length - (k + 1) < ss.length - k; omega, ⟨rfl, rfl, rfl, rfl, trivial⟩, Sel.refl _, fun _ h => h⟩
    · have hkn : k = ss.length := by omega
      subst hkn
      rw [List.take_length] at hvk
      skip
      exact ⟨[_], _, ⟨rfl, trivial⟩, Sel.refl _, fun _ h => h, Fk, rfl, hvk⟩
end Go.Proofs.Ytmfcgffdijnokaa
