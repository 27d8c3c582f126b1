/- contracts: sorting helpers, assigning and ordering of codes, rotation, insertion sort, pens -/
import Derived.Test.YtmfcgffdijnokaaPf
set_option linter.unusedVariables false
set_option linter.unusedSimpArgs false
set_option linter.unusedSectionVars false
set_option maxRecDepth 100000
set_option maxHeartbeats 4000000
namespace Go.Proofs.Ytmfcgffdijnokaa
open Go.SL Go.RowKit
attribute [local irreducible] Wpl Wpc Wph
/-! elements of several cells in one's own slice -/
section
variable {q : Md} {C : Cx} {ops : Array Oper} {rest : List Oper} {Q : Exit → Env → List Frag → List Frag → Prop} {f : Env} {R M : List Frag}
variable {d : Nat} {ty T T2 : TypeId} {pos : String} {af : Array Edge} {x y : Operand}
theorem Wpl.idxK {s : Operand} {E : TypeId} {k by_ n cap b : Nat} {z : Value} {ki : IntKind} {m : Int} {o : Nat} [hT : SliceT C.P T E] [hE : AnyT C.P E k z by_] (hd : Nat.blt d C.n = true)
    (hs : f.ev s = .slice (some ⟨b, 0, none⟩) n cap) (hx : f.ev x = .int ki m) (h0 : 0 ≤ m) (h1 : m < n) (ho : m.toNat * k = o)
    (k1 : Wpl q C ops rest Q (f.upd d (.pointer (some ⟨b, o, none⟩))) R M) :
    Wpl q C ops (⟨some d, .indexAddr T s x, ty, pos, af, none⟩ :: rest) Q f R M :=
  Wpl.val rfl hd (.pointer (some ⟨b, o, none⟩)) (fun w hw => by
    obtain ⟨agg, hE'⟩ := hE.h
    subst ho
    simp [execOp, hs, hx, Instr.indexAt, asIntOf, run_underlying hT.h, h0, h1, hE'.run_size, addr_add]) k1
theorem Wpl.stK {E : TypeId} {by_ n : Nat} {z : Value} [hT : AggT C.P T n z by_] {b off : Nat} {F : Frag} {c cs : Array Value}
    (hx : f.ev x = .pointer (some ⟨b, off, none⟩)) (hi : M[0]? = some F) (hj : F[0]? = some (b, .cells c E (0, 0))) (hy : f.ev y = .agg cs) (hn : cs.size = n) (hone : ∀ u ∈ cs.toList, u.oneCell' = true) (hc : off + n ≤ c.size)
    (k : Wpl .seq C ops rest Q f R (M.set 0 (F.set 0 (b, .cells (c.toList.take off ++ cs.toList ++ c.toList.drop (off + cs.size)).toArray E (0, 0))))) :
    Wpl .seq C ops (⟨none, .store T x y, ty, pos, af, none⟩ :: rest) Q f R M :=
  Wpl.storeCells (i := 0) (j := 0) (v := .agg cs) (c := c) (E := E) hx hy (fun w => by simp only [Value.cells]; rw [hn]; exact hT.h.run_size w) hi hj hone (by simp only [Value.cells]; omega) k
end
def itemC (t : Int × Value) : List Value := [.int .i64 t.1, t.2]
theorem itemC_len (t : Int × Value) : (itemC t).length = 2 := rfl
/-- the cells c hold the items l at their beginning -/
def Holds2 (c : Array Value) (l : List (Int × Value)) : Prop := l.length * 2 ≤ c.size ∧ c.toList.take (l.length * 2) = flat itemC l
theorem Holds2.get {c : Array Value} {l : List (Int × Value)} (h : Holds2 c l) {m : Nat} (hm : m < l.length) : (c.toList.drop (m * 2)).take 2 = itemC l[m] := by
  have h1 := flat_at itemC_len l m hm
  rw [← h.2, List.drop_take, List.take_take] at h1
  rw [← h1]
  congr 1
  omega
theorem Holds2.set {c : Array Value} {l : List (Int × Value)} (h : Holds2 c l) {m : Nat} (hm : m < l.length) (t : Int × Value) :
    Holds2 (c.toList.take (m * 2) ++ itemC t ++ c.toList.drop (m * 2 + 2)).toArray (l.set m t) := by
  have hc : c.toList.length = c.size := by simp
  have h1 := h.1
  refine ⟨by simp [itemC_len]; omega, ?_⟩
  rw [List.length_set]
  have e : l.set m t = l.take m ++ t :: l.drop (m + 1) := by rw [List.set_eq_take_append_cons_drop, if_pos hm]
  have e1 : flat itemC (l.take m) = (c.toList.take (m * 2)) := by
    rw [← flat_take itemC_len, ← h.2, List.take_take]
    congr 1
    omega
  have e2 : flat itemC (l.drop (m + 1)) = (c.toList.drop (m * 2 + 2)).take (l.length * 2 - (m * 2 + 2)) := by
    rw [← flat_drop itemC_len, ← h.2, List.drop_take, show (m + 1) * 2 = m * 2 + 2 by omega]
  have hl1 : (c.toList.take (m * 2)).length = m * 2 := by rw [List.length_take]; omega
  have e4 : flat itemC (l.take m ++ t :: l.drop (m + 1)) = flat itemC (l.take m) ++ (itemC t ++ flat itemC (l.drop (m + 1))) := by simp [flat]
  rw [e, e4, e1, e2]
  show List.take (l.length * 2) (List.take (m * 2) c.toList ++ itemC t ++ List.drop (m * 2 + 2) c.toList) = _
  have t1 : List.take (l.length * 2) (List.take (m * 2) c.toList) = List.take (m * 2) c.toList := List.take_of_length_le (by omega)
  have t2 : List.take (l.length * 2 - m * 2) (itemC t) = itemC t := List.take_of_length_le (by rw [itemC_len]; omega)
  rw [List.append_assoc, List.take_append, t1, hl1, List.take_append, t2, itemC_len]
  rw [show l.length * 2 - m * 2 - 2 = l.length * 2 - (m * 2 + 2) by omega]

/-- items in one's own slice -/
theorem own_items {F : Frag} {v : Value} {l : List (Int × Value)} (h : OwnRow 245 2 F v l.length (flat itemC l)) (hp : 0 < l.length) :
    ∃ b c cap, F = [(b, .cells c 245 (0, 0))] ∧ v = .slice (some ⟨b, 0, none⟩) l.length cap ∧ Holds2 c l ∧ c.size = cap * 2 ∧ l.length ≤ cap ∧ cap ≤ maxLen := by
  obtain ⟨hl, ⟨_, h0, _⟩ | ⟨b, cap, c, rfl, rfl, h1, h2, h3, h4⟩⟩ := h
  · omega
  · exact ⟨b, c, cap, rfl, rfl, ⟨by rw [h3]; omega, h4⟩, h3, h1, h2⟩
theorem items_own {b cap : Nat} {c : Array Value} {l : List (Int × Value)} (h : Holds2 c l) (h3 : c.size = cap * 2) (h1 : l.length ≤ cap) (h2 : cap ≤ maxLen) :
    OwnRow 245 2 [(b, .cells c 245 (0, 0))] (.slice (some ⟨b, 0, none⟩) l.length cap) l.length (flat itemC l) :=
  ⟨by rw [flat_length itemC_len], .inr ⟨b, cap, c, rfl, rfl, h1, h2, h3, h.2⟩⟩

/-- the first n of two runs change places -/
def swapR (l : List (Int × Value)) (a b : Nat) : Nat → List (Int × Value)
  | 0 => l
  | n + 1 => let m := swapR l a b n
    (m.set (a + n) (m[b + n]?.getD (0, undef))).set (b + n) (m[a + n]?.getD (0, undef))
theorem swapR_len (l : List (Int × Value)) (a b : Nat) : ∀ n, (swapR l a b n).length = l.length
  | 0 => rfl
  | n + 1 => by simp [swapR, swapR_len l a b n]
theorem swapRange_spec (F : Frag) (v fv : Value) (l : List (Int × Value)) (a b n : Nat) (hv : OwnRow 245 2 F v l.length (flat itemC l)) (hl : l.length ≤ 1000000000) (ha : a + n ≤ l.length) (hb : b + n ≤ l.length) (hone : ∀ t ∈ l, t.2.oneCell' = true) :
    Ctr Try.prog 185 [v, .int .i64 a, .int .i64 b, .int .i64 n, fv] [] [F] (fun _ M' => ∃ F', M' = [F'] ∧ OwnRow 245 2 F' v l.length (flat itemC (swapR l a b n))) := by
  refine Ctr.intro Try.func185 (by kernel_rfl) rfl (by conv => lhs; whnf) rfl fun W => ?_
  repeat' (first | (apply Wpc.seqK; intro K hK) | apply Wpc.region | apply Wpl.nil | (apply hK; clear hK K) | (apply Wpl.asg; exact rfl; (conv => lhs; whnf)) | apply Wpc.block)
  refine Wpc.loop (ι := Nat × Frag) (fun i => i.1 ≤ n ∧ OwnRow 245 2 i.2 v l.length (flat itemC (swapR l a b i.1)) ∧ ∀ t ∈ swapR l a b i.1, t.2.oneCell' = true)
    (fun i => [(0, v), (1, .int .i64 a), (2, .int .i64 b), (3, .int .i64 n), (4, fv), (10, .int .i64 i.1)]) (fun i => [i.2]) (fun i => n - i.1) (0, F) ⟨by omega, hv, hone⟩ ⟨rfl, rfl, rfl, rfl, rfl, rfl, trivial⟩ (Sel.refl _) ?_
  rintro ⟨k, F'⟩ g ⟨hk, hv', ho'⟩
  dsimp only at hk hv' ho' ⊢
  have hsl := swapR_len l a b k
  repeat' (first | (apply Wpc.seqK; intro K hK) | apply Wpc.region | apply Wpl.nil | (apply hK; clear hK K) | (apply Wpl.mv; exact rfl; (conv => lhs; whnf)) | (apply Wpc.cond_true; exact rfl) | (apply Wpc.cond_false; exact rfl) | apply Wpc.skip | apply Wpc.exit | (apply Wpl.lss; exact rfl; exact rfl; exact rfl; all_goals (intro h; try (exfalso; omega))))
  · have hkn : k < n := by omega
    rw [← hsl] at hv'
    obtain ⟨bb, c, cap, rfl, rfl, hh, hc, hcap, hmax⟩ := own_items hv' (by omega)
    refine Wpc.block ?_
    skip
    refine Wpc.region_u 20 24 [4, 5, 6, 7] (by kernel_rfl) rfl rfl ?_
    have hba : b + k < (swapR l a b k).length := by omega
    have haa : a + k < (swapR l a b k).length := by omega
    (refine Wpu.take0 4 rfl (by kernel_rfl) rfl (fun _ _ _ _ h => h) ?_; (repeat' (first | apply Wpl.nil | (apply Wpl.mv; exact rfl; (conv => lhs; whnf))))); (refine Wpu.take0 5 rfl (by kernel_rfl) rfl (fun _ _ _ _ h => h) ?_; (repeat' (first | apply Wpl.nil | (apply Wpl.mv; exact rfl; (conv => lhs; whnf))))); (refine Wpu.take0 6 rfl (by kernel_rfl) rfl (fun _ _ _ _ h => h) ?_; (repeat' (first | apply Wpl.nil | (apply Wpl.mv; exact rfl; (conv => lhs; whnf))))); (refine Wpu.take0 7 rfl (by kernel_rfl) rfl (fun _ _ _ _ h => h) ?_; (repeat' (first | apply Wpl.nil | (apply Wpl.add; exact rfl; exact rfl; exact rfl; omega)))); skip
    (refine Wpu.take 0 rfl (by kernel_rfl) rfl (fun _ _ _ _ h => h) (fun _ h => h) (by first | exact Sel.refl _ | exact Sel.tail _ _ | exact Sel.nil _ | exact (Sel.tail _ _).trans (Sel.tail _ _) | exact (Sel.tail _ _).trans ((Sel.tail _ _).trans (Sel.tail _ _))) ?_; (repeat' (first | apply Wpl.nil | (apply Wpl.mv; exact rfl; (conv => lhs; whnf))))); (refine Wpu.take 1 rfl (by kernel_rfl) rfl (fun _ _ _ _ h => h) (fun _ h => h) (by first | exact Sel.refl _ | exact Sel.tail _ _ | exact Sel.nil _ | exact (Sel.tail _ _).trans (Sel.tail _ _) | exact (Sel.tail _ _).trans ((Sel.tail _ _).trans (Sel.tail _ _))) ?_; (repeat' (first | apply Wpl.nil | (apply Wpl.mv; exact rfl; (conv => lhs; whnf))))); (refine Wpu.take 2 rfl (by kernel_rfl) rfl (fun _ _ _ _ h => h) (fun _ h => h) (by first | exact Sel.refl _ | exact Sel.tail _ _ | exact Sel.nil _ | exact (Sel.tail _ _).trans (Sel.tail _ _) | exact (Sel.tail _ _).trans ((Sel.tail _ _).trans (Sel.tail _ _))) ?_; (repeat' (first | apply Wpl.nil | (apply Wpl.mv; exact rfl; (conv => lhs; whnf))))); (refine Wpu.take 3 rfl (by kernel_rfl) rfl (fun _ _ _ _ h => h) (fun _ h => h) (by first | exact Sel.refl _ | exact Sel.tail _ _ | exact Sel.nil _ | exact (Sel.tail _ _).trans (Sel.tail _ _) | exact (Sel.tail _ _).trans ((Sel.tail _ _).trans (Sel.tail _ _))) ?_; (repeat' (first | apply Wpl.nil | (apply Wpl.add; exact rfl; exact rfl; exact rfl; omega)))); (refine Wpu.take 8 rfl (by kernel_rfl) rfl (fun _ _ _ _ h => h) (fun _ h => h) (by first | exact Sel.refl _ | exact Sel.tail _ _ | exact Sel.nil _ | exact (Sel.tail _ _).trans (Sel.tail _ _) | exact (Sel.tail _ _).trans ((Sel.tail _ _).trans (Sel.tail _ _))) ?_; (repeat' (first | apply Wpl.nil | (apply Wpl.mv; exact rfl; (conv => lhs; whnf))))); (refine Wpu.take 9 rfl (by kernel_rfl) rfl (fun _ _ _ _ h => h) (fun _ h => h) (by first | exact Sel.refl _ | exact Sel.tail _ _ | exact Sel.nil _ | exact (Sel.tail _ _).trans (Sel.tail _ _) | exact (Sel.tail _ _).trans ((Sel.tail _ _).trans (Sel.tail _ _))) ?_; (repeat' (first | apply Wpl.nil | (apply Wpl.mv; exact rfl; (conv => lhs; whnf))))); (refine Wpu.take 10 rfl (by kernel_rfl) rfl (fun _ _ _ _ h => h) (fun _ h => h) (by first | exact Sel.refl _ | exact Sel.tail _ _ | exact Sel.nil _ | exact (Sel.tail _ _).trans (Sel.tail _ _) | exact (Sel.tail _ _).trans ((Sel.tail _ _).trans (Sel.tail _ _))) ?_; (repeat' (first | apply Wpl.nil | (apply Wpl.mv; exact rfl; (conv => lhs; whnf))))); (refine Wpu.take 11 rfl (by kernel_rfl) rfl (fun _ _ _ _ h => h) (fun _ h => h) (by first | exact Sel.refl _ | exact Sel.tail _ _ | exact Sel.nil _ | exact (Sel.tail _ _).trans (Sel.tail _ _) | exact (Sel.tail _ _).trans ((Sel.tail _ _).trans (Sel.tail _ _))) ?_; (repeat' (first | apply Wpl.nil | (apply Wpl.add; exact rfl; exact rfl; exact rfl; omega)))); skip
    refine Wpu.take 12 rfl (by kernel_rfl) rfl (fun _ _ _ _ h => h) (fun _ h => h) (by first | exact Sel.refl _ | exact Sel.tail _ _ | exact Sel.nil _ | exact (Sel.tail _ _).trans (Sel.tail _ _) | exact (Sel.tail _ _).trans ((Sel.tail _ _).trans (Sel.tail _ _))) ?_
    refine Wpl.idxK (o := (b + k) * 2) rfl rfl rfl (by omega) (by omega) (by omega) ?_
    repeat' (apply Wpl.nil)
    refine Wpu.take 13 rfl (by kernel_rfl) rfl (fun _ _ _ _ h => h) (fun _ h => h) (by first | exact Sel.refl _ | exact Sel.tail _ _ | exact Sel.nil _ | exact (Sel.tail _ _).trans (Sel.tail _ _) | exact (Sel.tail _ _).trans ((Sel.tail _ _).trans (Sel.tail _ _))) ?_
    refine Wpl.ldAgg 0 0 rfl rfl rfl (hh.get hba) rfl ?_
    repeat' (apply Wpl.nil)
    (refine Wpu.take 14 rfl (by kernel_rfl) rfl (fun _ _ _ _ h => h) (fun _ h => h) (by first | exact Sel.refl _ | exact Sel.tail _ _ | exact Sel.nil _ | exact (Sel.tail _ _).trans (Sel.tail _ _) | exact (Sel.tail _ _).trans ((Sel.tail _ _).trans (Sel.tail _ _))) ?_; (repeat' (first | apply Wpl.nil | (apply Wpl.mv; exact rfl; (conv => lhs; whnf))))); (refine Wpu.take 15 rfl (by kernel_rfl) rfl (fun _ _ _ _ h => h) (fun _ h => h) (by first | exact Sel.refl _ | exact Sel.tail _ _ | exact Sel.nil _ | exact (Sel.tail _ _).trans (Sel.tail _ _) | exact (Sel.tail _ _).trans ((Sel.tail _ _).trans (Sel.tail _ _))) ?_; (repeat' (first | apply Wpl.nil | (apply Wpl.mv; exact rfl; (conv => lhs; whnf))))); (refine Wpu.take 16 rfl (by kernel_rfl) rfl (fun _ _ _ _ h => h) (fun _ h => h) (by first | exact Sel.refl _ | exact Sel.tail _ _ | exact Sel.nil _ | exact (Sel.tail _ _).trans (Sel.tail _ _) | exact (Sel.tail _ _).trans ((Sel.tail _ _).trans (Sel.tail _ _))) ?_; (repeat' (first | apply Wpl.nil | (apply Wpl.mv; exact rfl; (conv => lhs; whnf))))); (refine Wpu.take 17 rfl (by kernel_rfl) rfl (fun _ _ _ _ h => h) (fun _ h => h) (by first | exact Sel.refl _ | exact Sel.tail _ _ | exact Sel.nil _ | exact (Sel.tail _ _).trans (Sel.tail _ _) | exact (Sel.tail _ _).trans ((Sel.tail _ _).trans (Sel.tail _ _))) ?_; (repeat' (first | apply Wpl.nil | (apply Wpl.add; exact rfl; exact rfl; exact rfl; omega)))); skip
    refine Wpu.take 18 rfl (by kernel_rfl) rfl (fun _ _ _ _ h => h) (fun _ h => h) (by first | exact Sel.refl _ | exact Sel.tail _ _ | exact Sel.nil _ | exact (Sel.tail _ _).trans (Sel.tail _ _) | exact (Sel.tail _ _).trans ((Sel.tail _ _).trans (Sel.tail _ _))) ?_
    refine Wpl.idxK (o := (a + k) * 2) rfl rfl rfl (by omega) (by omega) (by omega) ?_
    repeat' (apply Wpl.nil)
    refine Wpu.take 19 rfl (by kernel_rfl) rfl (fun _ _ _ _ h => h) (fun _ h => h) (by first | exact Sel.refl _ | exact Sel.tail _ _ | exact Sel.nil _ | exact (Sel.tail _ _).trans (Sel.tail _ _) | exact (Sel.tail _ _).trans ((Sel.tail _ _).trans (Sel.tail _ _))) ?_
    refine Wpl.ldAgg 0 0 rfl rfl rfl (hh.get haa) rfl ?_
    repeat' (apply Wpl.nil)
    refine Wpu.tl 20 (by kernel_rfl) rfl rfl ?_
    refine Wpl.idxK (o := (a + k) * 2) rfl rfl rfl (by omega) (by omega) (by omega) ?_
    repeat' (apply Wpl.nil)
    refine Wpu.tl 21 (by kernel_rfl) rfl rfl ?_
    have hs1 := hh.set haa ((swapR l a b k)[b + k])
    have hs2 := hs1.set (m := b + k) (by rw [List.length_set]; exact hba) ((swapR l a b k)[a + k])
    have hsz := hs1.1
    rw [List.length_set] at hsz
    have hob := ho' _ (List.getElem_mem hba)
    have hoa := ho' _ (List.getElem_mem haa)
    refine Wpl.stK rfl rfl rfl rfl rfl (one_cons rfl (one_cons hob one_nil)) (by show (a + k) * 2 + 2 ≤ c.size; omega) ?_
    repeat' (apply Wpl.nil)
    refine Wpu.tl 22 (by kernel_rfl) rfl rfl ?_
    refine Wpl.idxK (o := (b + k) * 2) rfl rfl rfl (by omega) (by omega) (by omega) ?_
    repeat' (apply Wpl.nil)
    refine Wpu.tl 23 (by kernel_rfl) rfl rfl ?_
    refine Wpl.stK rfl rfl rfl rfl rfl (one_cons rfl (one_cons hoa one_nil)) (by show (b + k) * 2 + 2 ≤ _; exact Nat.le_trans (by omega) hsz) ?_
    repeat' (apply Wpl.nil)
    refine Wpu.done (by kernel_rfl) ?_
    repeat' (first | apply Wpc.region | apply Wpl.nil | (apply hK; clear hK K) | (apply Wpl.mv; exact rfl; (conv => lhs; whnf)) | (apply Wpl.asg; exact rfl; (conv => lhs; whnf)) | (apply Wpl.add; exact rfl; exact rfl; exact rfl; omega))
    have est : swapR l a b (k + 1) = ((swapR l a b k).set (a + k) ((swapR l a b k)[b + k])).set (b + k) ((swapR l a b k)[a + k]) := by
      simp [swapR, hba, haa]
    have hsize : ∀ (c : Array Value) (o : Nat) (t : Int × Value), o + 2 ≤ c.size → (List.take o c.toList ++ itemC t ++ List.drop (o + 2) c.toList).toArray.size = c.size := fun c o t h => by
      simp [itemC_len]; omega
    have hz1 := hsize c ((a + k) * 2) ((swapR l a b k)[b + k]) (by omega)
    have hz2 := hsize _ ((b + k) * 2) ((swapR l a b k)[a + k]) (show (b + k) * 2 + 2 ≤ (List.take ((a + k) * 2) c.toList ++ itemC ((swapR l a b k)[b + k]) ++ List.drop ((a + k) * 2 + 2) c.toList).toArray.size by rw [hz1]; omega)
    have hown := items_own (b := bb) hs2 (hz2.trans (hz1.trans hc)) (by rw [List.length_set, List.length_set]; exact hcap) hmax
    refine ⟨(k + 1, _), ⟨by omega, ?_, ?_⟩, by show n - (k + 1) < n - k; omega, ⟨rfl, rfl, rfl, rfl, rfl, rfl, trivial⟩, Sel.refl _, fun _ h => h⟩
    · rw [est]
      rw [List.length_set, List.length_set] at hown
      exact hown.cast hsl rfl
    · rw [est]
      intro t ht
      rcases List.mem_or_eq_of_mem_set ht with ht | rfl
      · rcases List.mem_or_eq_of_mem_set ht with ht | rfl
        · exact ho' t ht
        · exact hob
      · exact hoa
  · have hkn : k = n := by omega
    subst hkn
    exact ⟨[], _, trivial, Sel.refl _, fun _ h => h, F', rfl, hv'⟩
end Go.Proofs.Ytmfcgffdijnokaa
set_option maxRecDepth 100000
set_option maxHeartbeats 4000000
namespace Go.Proofs.Ytmfcgffdijnokaa
open Go.SL Go.RowKit
attribute [local irreducible] Wpl Wpc Wph
/-! canon.assign, order -/
def asgStep (l : List Int) (p : List Int × Int × Int) (s : Int) : List Int × Int × Int :=
  (p.1.set s.toNat (p.2.1 * 2 ^ (l[s.toNat]?.getD 0 - p.2.2).toNat), p.2.1 * 2 ^ (l[s.toNat]?.getD 0 - p.2.2).toNat + 1, l[s.toNat]?.getD 0)
def asg (l ord : List Int) : List Int × Int × Int := ord.foldl (asgStep l) (List.replicate l.length 0, 0, 0)
theorem asg_snoc (l ord : List Int) (s : Int) : asg l (ord ++ [s]) = asgStep l (asg l ord) s := by simp [asg]
theorem asg_len (l ord : List Int) : (asg l ord).1.length = l.length := by
  have : ∀ (ord : List Int) (p : List Int × Int × Int), (ord.foldl (asgStep l) p).1.length = p.1.length := by
    intro ord
    induction ord with
    | nil => intro p; rfl
    | cons s ord ih => intro p; simp [ih, asgStep]
  have h := this ord (List.replicate l.length 0, 0, 0)
  exact h.trans (by simp)
/-- the codes stay in bounds -/
def AsgOk (l ord : List Int) : Prop := (∀ s ∈ ord, 0 ≤ s ∧ s < l.length) ∧ ∀ k (h : k < ord.length),
  0 ≤ (asg l (ord.take k)).2.1 ∧ (asg l (ord.take k)).2.2 ≤ l[(ord[k]).toNat]?.getD 0 ∧ l[(ord[k]).toNat]?.getD 0 ≤ 16 ∧ 0 ≤ (asg l (ord.take k)).2.2 ∧
  0 ≤ (asg l (ord.take k)).2.1 * 2 ^ (l[(ord[k]).toNat]?.getD 0 - (asg l (ord.take k)).2.2).toNat ∧ (asg l (ord.take k)).2.1 * 2 ^ (l[(ord[k]).toNat]?.getD 0 - (asg l (ord.take k)).2.2).toNat ≤ 65536
theorem assign_spec (F G : Frag) (v u : Value) (l ord : List Int) (hv : Row F 1 v l.length (ints .i64 l)) (hu : Row G 1 u ord.length (ints .i64 ord)) (hl : l.length ≤ 16777216) (ho : ord.length ≤ 1000000000) (hok : AsgOk l ord) :
    Ctr Try.prog 175 [v, u] [F, G] [] (fun r M' => ∃ F', M' = [F'] ∧ OwnRow 3 1 F' r l.length (ints .i64 (asg l ord).1)) := by
  obtain ⟨a1, c1, rfl⟩ := hv.len
  obtain ⟨a2, c2, rfl⟩ := hu.len
  refine Ctr.intro Try.func175 (by kernel_rfl) rfl (by conv => lhs; whnf) rfl fun W => ?_
  repeat' (first | (apply Wpc.seqK; intro K hK) | apply Wpc.region | apply Wpl.nil | (apply hK; clear hK K) | (apply Wpl.mv; exact rfl; (conv => lhs; whnf)) | (apply Wpl.asg; exact rfl; (conv => lhs; whnf)) | (apply Wpl.len; exact rfl; exact rfl))
  refine Wpl.mk1 rfl rfl rfl (by omega) (by omega) (by omega) rfl (fun vc Fc hc => ?_)
  have hc0 : OwnRow 3 1 Fc vc l.length (ints .i64 (asg l []).1) := hc.cast (by omega) (by rw [ints_replicate]; rfl)
  repeat' (first | (apply Wpc.seqK; intro K hK) | apply Wpc.region | apply Wpl.nil | (apply hK; clear hK K) | (apply Wpl.mv; exact rfl; (conv => lhs; whnf)) | (apply Wpl.asg; exact rfl; (conv => lhs; whnf)) | apply Wpc.block | (apply Wpl.len; exact rfl; exact rfl))
  refine Wpc.loop (ι := Nat × Frag) (fun i => i.1 ≤ ord.length ∧ OwnRow 3 1 i.2 vc l.length (ints .i64 (asg l (ord.take i.1)).1))
    (fun i => [(0, .slice a1 l.length c1), (5, vc), (6, .int .i64 (asg l (ord.take i.1)).2.1), (7, .int .i64 (asg l (ord.take i.1)).2.2), (13, .slice a2 ord.length c2), (14, .int .i64 ord.length), (15, .int .i64 i.1)]) (fun i => [i.2]) (fun i => ord.length - i.1) (0, Fc) ⟨by omega, hc0⟩ ⟨rfl, rfl, rfl, rfl, rfl, rfl, rfl, trivial⟩ (Sel.refl _) ?_
  rintro ⟨k, F'⟩ g ⟨hk, hv'⟩
  dsimp only at hk hv' ⊢
  have hlen := asg_len l (ord.take k)
  have hrow' := hv'.row
  repeat' (first | (apply Wpc.seqK; intro K hK) | apply Wpc.region | apply Wpl.nil | (apply hK; clear hK K) | (apply Wpl.mv; exact rfl; (conv => lhs; whnf)) | (apply Wpl.asg; exact rfl; (conv => lhs; whnf)) | (apply Wpc.cond_true; exact rfl) | (apply Wpc.cond_false; exact rfl) | apply Wpc.skip | apply Wpc.exit | apply Wpc.ret | (apply Wpl.lss; exact rfl; exact rfl; exact rfl; all_goals (intro h; try (exfalso; omega))) | ((conv => whnf); clear hK K; apply hK; clear hK K))
  · have hkl : k < ord.length := by omega
    have hsb := hok.1 _ (List.getElem_mem hkl)
    have hb := hok.2 k hkl
    have hsn : (ord[k]).toNat < l.length := by omega
    have hgs := getD_get hsn
    rw [hgs] at hb
    have hst : (asg l (ord.take (k + 1))) = asgStep l (asg l (ord.take k)) ord[k] := by rw [take_snoc ord k hkl, asg_snoc]
    refine Wpc.block ?_
    repeat' (first | (apply Wpc.seqK; intro K hK) | apply Wpc.region | apply Wpl.nil | (apply hK; clear hK K) | (apply Wpl.mv; exact rfl; (conv => lhs; whnf)) | (apply Wpl.asg; exact rfl; (conv => lhs; whnf)) | (apply Wpl.sub; exact rfl; exact rfl; exact rfl; omega) | (apply Wpl.idxN; exact rfl; exact rfl; exact rfl; exact rfl; assumption; (exact HasF.r 1 rfl); omega; intro _ _) | (apply Wpl.idx; exact rfl; exact rfl; exact rfl; exact rfl; assumption; (exact HasF.r 0 rfl); omega; omega; intro _ _))
    refine Wpl.shlV rfl rfl rfl (by omega) rfl (by omega) ?_
    repeat' (first | (apply Wpc.seqK; intro K hK) | apply Wpc.region | apply Wpl.nil | (apply hK; clear hK K) | (apply Wpl.mv; exact rfl; (conv => lhs; whnf)) | (apply Wpl.asg; exact rfl; (conv => lhs; whnf)) | (apply Wpl.idx; exact rfl; exact rfl; exact rfl; exact rfl; assumption; (exact HasF.r 0 rfl); omega; omega; intro _ _))
    refine Wpl.idxSt 0 rfl hv' rfl rfl rfl (by omega) (by omega) (fun _ => rfl) rfl (fun _ F2 hv2 => ?_)
    rw [ints_set] at hv2
    repeat' (first | apply Wpc.region | apply Wpl.nil | (apply hK; clear hK K) | (apply Wpl.mv; exact rfl; (conv => lhs; whnf)) | (apply Wpl.asg; exact rfl; (conv => lhs; whnf)) | (apply Wpl.add; exact rfl; exact rfl; exact rfl; omega))
    refine ⟨(k + 1, F2), ⟨by omega, ?_⟩, by show ord.length - (k + 1) < ord.length - k; omega, ⟨rfl, rfl, ?_, ?_, rfl, rfl, rfl, trivial⟩, Sel.refl _, fun _ h => h⟩
    · rw [hst, asgStep, hgs]
      exact hv2
    · refine congrArg (Value.int .i64) ?_
      rw [hst, asgStep, hgs]
    · refine congrArg (Value.int .i64) ?_
      rw [hst, asgStep, hgs]
  · have hkn : k = ord.length := by omega
    subst hkn
    rw [List.take_length] at hv'
    exact ⟨[_], _, ⟨rfl, trivial⟩, Sel.refl _, fun _ h => h, F', rfl, hv'⟩
end Go.Proofs.Ytmfcgffdijnokaa
set_option maxRecDepth 100000
set_option maxHeartbeats 4000000
namespace Go.Proofs.Ytmfcgffdijnokaa
open Go.SL Go.RowKit
attribute [local irreducible] Wpl Wpc Wph
/-! canon.order -/
def idxU (l : List Int) (n : Nat) : Nat → List Int
  | 0 => []
  | k + 1 => if l[k]?.getD 0 = n then idxU l n k ++ [(k : Int)] else idxU l n k
def ordU (l : List Int) : Nat → List Int
  | 0 => []
  | n + 1 => ordU l n ++ idxU l (n + 1) l.length
theorem idxU_len (l : List Int) (n : Nat) : ∀ k, (idxU l n k).length ≤ k
  | 0 => Nat.le_refl _
  | k + 1 => by have := idxU_len l n k; unfold idxU; split <;> simp <;> omega
theorem ordU_len (l : List Int) : ∀ n, (ordU l n).length ≤ n * l.length
  | 0 => by simp [ordU]
  | n + 1 => by have := ordU_len l n; have := idxU_len l (n + 1) l.length; rw [ordU, List.length_append, Nat.add_mul]; omega
theorem corder_spec (F : Frag) (v : Value) (l : List Int) (hv : Row F 1 v l.length (ints .i64 l)) (hl : l.length ≤ 1000000) :
    Ctr Try.prog 164 [v] [F] [] (fun r M' => ∃ F', M' = [F'] ∧ OwnRow 3 1 F' r (ordU l 16).length (ints .i64 (ordU l 16))) := by
  obtain ⟨a1, c1, rfl⟩ := hv.len
  refine Ctr.intro Try.func164 (by kernel_rfl) rfl (by conv => lhs; whnf) rfl fun W => ?_
  refine Wpc.addNil ?_
  repeat' (first | (apply Wpc.seqK; intro K hK) | apply Wpc.region | apply Wpl.nil | (apply hK; clear hK K) | (apply Wpl.asg; exact rfl; (conv => lhs; whnf)) | apply Wpc.block)
  refine Wpc.loop (ι := Nat × Value × Frag) (fun i => i.1 ≤ 16 ∧ OwnRow 3 1 i.2.2 i.2.1 (ordU l i.1).length (ints .i64 (ordU l i.1)))
    (fun i => [(0, .slice a1 l.length c1), (3, i.2.1), (4, .int .i64 (i.1 + 1 : Nat))]) (fun i => [i.2.2]) (fun i => 16 - i.1) (0, .slice none 0 0, []) ⟨by omega, OwnRow.nil _ _⟩ ⟨rfl, rfl, rfl, trivial⟩ (Sel.refl _) ?_
  rintro ⟨n, va, Fa⟩ g ⟨hn, hva⟩
  dsimp only at hn hva ⊢
  repeat' (first | (apply Wpc.seqK; intro K hK) | apply Wpc.region | apply Wpl.nil | (apply hK; clear hK K) | (apply Wpl.mv; exact rfl; (conv => lhs; whnf)) | (apply Wpl.asg; exact rfl; (conv => lhs; whnf)) | (apply Wpc.cond_true; exact rfl) | (apply Wpc.cond_false; exact rfl) | apply Wpc.block | apply Wpc.skip | apply Wpc.exit | apply Wpc.ret | (apply Wpl.leq; exact rfl; exact rfl; exact rfl; all_goals (intro h; try (exfalso; omega))) | (apply Wpl.len; exact rfl; exact rfl) | ((conv => whnf); clear hK K; apply hK; clear hK K))
  · have hn16 : n < 16 := by omega
    have hol := ordU_len l n
    have hol2 : n * l.length ≤ 16 * l.length := Nat.mul_le_mul_right _ hn
    refine Wpc.loop (ι := Nat × Value × Frag) (fun i => i.1 ≤ l.length ∧ OwnRow 3 1 i.2.2 i.2.1 (ordU l n ++ idxU l (n + 1) i.1).length (ints .i64 (ordU l n ++ idxU l (n + 1) i.1)))
      (fun i => [(0, .slice a1 l.length c1), (3, i.2.1), (4, .int .i64 (n + 1 : Nat)), (11, .slice a1 l.length c1), (12, .int .i64 l.length), (13, .int .i64 i.1)]) (fun i => [i.2.2]) (fun i => l.length - i.1) (0, va, Fa) ⟨by omega, by simpa [idxU] using hva⟩ ⟨rfl, rfl, rfl, rfl, rfl, rfl, trivial⟩ (Sel.refl _) ?_
    rintro ⟨k, vb, Fb⟩ g ⟨hk, hvb⟩
    dsimp only at hk hvb ⊢
    have hil := idxU_len l (n + 1) k
    have hall : (ordU l n ++ idxU l (n + 1) k).length ≤ 17000000 := by rw [List.length_append]; omega
    repeat' (first | (apply Wpc.seqK; intro K hK) | apply Wpc.region | apply Wpl.nil | (apply hK; clear hK K) | (apply Wpl.mv; exact rfl; (conv => lhs; whnf)) | (apply Wpl.asg; exact rfl; (conv => lhs; whnf)) | (apply Wpc.cond_true; exact rfl) | (apply Wpc.cond_false; exact rfl) | apply Wpc.block | apply Wpc.skip | apply Wpc.exit | (apply Wpl.lss; exact rfl; exact rfl; exact rfl; all_goals (intro h; try (exfalso; omega))) | (apply Wpl.eql; exact rfl; exact rfl; exact rfl; all_goals (intro h; try (exfalso; omega))) | (apply Wpl.add; exact rfl; exact rfl; exact rfl; omega) | (apply Wpl.idxN; exact rfl; exact rfl; exact rfl; exact rfl; assumption; (exact HasF.r 0 rfl); omega; intro _ _) | ((conv => whnf); clear hK K; apply hK; clear hK K))
    · have heq : l[k]?.getD 0 = ((n + 1 : Nat) : Int) := by rw [getD_get (by omega)]; assumption
      have est : ordU l n ++ idxU l (n + 1) (k + 1) = (ordU l n ++ idxU l (n + 1) k) ++ [(k : Int)] := by rw [idxU, if_pos heq, List.append_assoc]
      refine Wpl.appI 0 rfl rfl rfl rfl rfl rfl hvb (by omega) (by omega) (fun p v' F' hv' => ?_)
      repeat' (first | apply Wpc.region | apply Wpl.nil | (apply hK; clear hK K) | (apply Wpl.mv; exact rfl; (conv => lhs; whnf)) | (apply Wpl.asg; exact rfl; (conv => lhs; whnf)) | (apply Wpl.add; exact rfl; exact rfl; exact rfl; omega))
      exact ⟨(k + 1, v', F'), ⟨by omega, hv'.cast (by rw [est, List.length_append (bs := [(k : Int)])]; rfl) (by rw [est])⟩, by show l.length - (k + 1) < l.length - k; omega, ⟨rfl, rfl, rfl, rfl, rfl, rfl, trivial⟩, Sel.refl _, fun _ h => h⟩
    · have hne : ¬ l[k]?.getD 0 = ((n + 1 : Nat) : Int) := by rw [getD_get (by omega)]; assumption
      have est : ordU l n ++ idxU l (n + 1) (k + 1) = ordU l n ++ idxU l (n + 1) k := by rw [idxU, if_neg hne]
      exact ⟨(k + 1, vb, Fb), ⟨by omega, hvb.cast (by rw [est]) (by rw [est])⟩, by show l.length - (k + 1) < l.length - k; omega, ⟨rfl, rfl, rfl, rfl, rfl, rfl, trivial⟩, Sel.refl _, fun _ h => h⟩
    · have hkl : k = l.length := by omega
      subst hkl
      exact ⟨(n + 1, vb, Fb), ⟨by omega, hvb⟩, by show 16 - (n + 1) < 16 - n; omega, ⟨rfl, rfl, rfl, trivial⟩, Sel.refl _, fun _ h => h⟩
  · have hn16 : n = 16 := by omega
    subst hn16
    exact ⟨[_], _, ⟨rfl, trivial⟩, Sel.refl _, fun _ h => h, Fa, rfl, hva⟩
end Go.Proofs.Ytmfcgffdijnokaa
set_option maxRecDepth 100000
set_option maxHeartbeats 4000000
namespace Go.Proofs.Ytmfcgffdijnokaa
open Go.SL Go.RowKit
attribute [local irreducible] Wpl Wpc Wph
/-! rotate -/
theorem swapR_get (l : List (Int × Value)) (a b : Nat) : ∀ n, a + n ≤ b → b + n ≤ l.length → ∀ i, (swapR l a b n)[i]? = if a ≤ i ∧ i < a + n then l[i + (b - a)]? else if b ≤ i ∧ i < b + n then l[i - (b - a)]? else l[i]?
  | 0, _, _, i => by
    rw [swapR, if_neg (by omega), if_neg (by omega)]
  | n + 1, h1, h2, i => by
    have ih := swapR_get l a b n (by omega) (by omega)
    have hl := swapR_len l a b n
    have e1 : (swapR l a b n)[b + n]? = l[b + n]? := by rw [ih, if_neg (by omega), if_neg (by omega)]
    have e2 : (swapR l a b n)[a + n]? = l[a + n]? := by rw [ih, if_neg (by omega), if_neg (by omega)]
    have g1 : l[b + n]? = some (l[b + n]'(by omega)) := List.getElem?_eq_getElem _
    have g2 : l[a + n]? = some (l[a + n]'(by omega)) := List.getElem?_eq_getElem _
    simp only [swapR, e1, e2, g1, g2, Option.getD_some]
    rw [List.getElem?_set, List.getElem?_set]
    simp only [List.length_set, hl]
    by_cases hi1 : b + n = i
    · subst hi1
      rw [if_pos rfl, if_pos (by omega), if_neg (by omega), if_pos (by omega), ← g2]
      congr 1; omega
    · rw [if_neg hi1]
      by_cases hi2 : a + n = i
      · subst hi2
        rw [if_pos rfl, if_pos (by omega), if_pos (by omega), ← g1]
        congr 1; omega
      · rw [if_neg hi2, ih]
        by_cases c1 : a ≤ i ∧ i < a + n
        · rw [if_pos c1, if_pos (by omega)]
        · rw [if_neg c1, if_neg (show ¬ (a ≤ i ∧ i < a + (n + 1)) by omega)]
          by_cases c2 : b ≤ i ∧ i < b + n
          · rw [if_pos c2, if_pos (by omega)]
          · rw [if_neg c2, if_neg (by omega)]
/-- two runs of one length change places -/
theorem swapR_parts {P U W V S : List (Int × Value)} (h : U.length = V.length) :
    swapR (P ++ (U ++ (W ++ (V ++ S)))) P.length (P.length + U.length + W.length) U.length = P ++ (V ++ (W ++ (U ++ S))) := by
  apply List.ext_getElem?
  intro i
  rw [swapR_get _ _ _ _ (by omega) (by simp; omega)]
  simp only [List.getElem?_append]
  split
  · rename_i c
    repeat' split
    all_goals first | omega | rfl | (congr 1; omega)
  · split
    · repeat' split
      all_goals first | omega | rfl | (congr 1; omega)
    · repeat' split
      all_goals first | omega | rfl | (congr 1; omega)
def rotM (l : List (Int × Value)) (a m b : Nat) : List (Int × Value) := l.take a ++ ((l.drop m).take (b - m) ++ ((l.drop a).take (m - a) ++ l.drop b))
theorem rotate_spec (F : Frag) (v fv : Value) (l : List (Int × Value)) (a m b : Nat) (hv : OwnRow 245 2 F v l.length (flat itemC l)) (hl : l.length ≤ 1000000000) (ha : a < m) (hb : m < b) (hbl : b ≤ l.length) (hone : ∀ t ∈ l, t.2.oneCell' = true) :
    Ctr Try.prog 184 [v, .int .i64 a, .int .i64 m, .int .i64 b, fv] [] [F] (fun _ M' => ∃ F', M' = [F'] ∧ OwnRow 245 2 F' v l.length (flat itemC (rotM l a m b))) := by
  have hsplit : l = l.take a ++ ((l.drop a).take (m - a) ++ ((l.drop m).take (b - m) ++ l.drop b)) := by
    have e1 : l.drop a = (l.drop a).take (m - a) ++ l.drop m := by
      have := (List.take_append_drop (m - a) (l.drop a)).symm
      rw [List.drop_drop, show a + (m - a) = m by omega] at this
      exact this
    have e2 : l.drop m = (l.drop m).take (b - m) ++ l.drop b := by
      have := (List.take_append_drop (b - m) (l.drop m)).symm
      rw [List.drop_drop, show m + (b - m) = b by omega] at this
      exact this
    rw [← e2, ← e1, List.take_append_drop]
  refine Ctr.intro Try.func184 (by kernel_rfl) rfl (by conv => lhs; whnf) rfl fun W => ?_
  repeat' (first | (apply Wpc.seqK; intro K hK) | apply Wpc.region | apply Wpl.nil | (apply hK; clear hK K) | (apply Wpl.mv; exact rfl; (conv => lhs; whnf)) | (apply Wpl.asg; exact rfl; (conv => lhs; whnf)) | apply Wpc.block | (apply Wpl.sub; exact rfl; exact rfl; exact rfl; omega))
  refine Wpc.loop (ι := (Nat × Nat) × (List (Int × Value) × List (Int × Value) × List (Int × Value) × List (Int × Value)) × Frag)
    (fun i => 0 < i.1.1 ∧ 0 < i.1.2 ∧ i.2.1.2.1.length = i.1.1 ∧ i.2.1.2.2.1.length = i.1.2 ∧ i.2.1.1.length + i.1.1 = m ∧ i.2.1.1.length + i.1.1 + i.1.2 + i.2.1.2.2.2.length = l.length ∧
      rotM l a m b = i.2.1.1 ++ (i.2.1.2.2.1 ++ (i.2.1.2.1 ++ i.2.1.2.2.2)) ∧ (∀ t ∈ i.2.1.1 ++ (i.2.1.2.1 ++ (i.2.1.2.2.1 ++ i.2.1.2.2.2)), t.2.oneCell' = true) ∧
      OwnRow 245 2 i.2.2 v l.length (flat itemC (i.2.1.1 ++ (i.2.1.2.1 ++ (i.2.1.2.2.1 ++ i.2.1.2.2.2)))))
    (fun i => [(0, v), (2, .int .i64 m), (4, fv), (10, .int .i64 i.1.1), (11, .int .i64 i.1.2)]) (fun i => [i.2.2]) (fun i => i.1.1 + i.1.2) ((m - a, b - m), (l.take a, (l.drop a).take (m - a), (l.drop m).take (b - m), l.drop b), F)
    ⟨by show 0 < m - a; omega, by show 0 < b - m; omega, by simp; omega, by simp; omega, by simp; omega, by simp; omega, rfl, by rw [← hsplit]; exact hone, by rw [← hsplit]; exact hv⟩
    ⟨rfl, rfl, rfl, congrArg (Value.int .i64) (by show (m : Int) - a = ((m - a : Nat) : Int); omega), congrArg (Value.int .i64) (by show (b : Int) - m = ((b - m : Nat) : Int); omega), trivial⟩ (Sel.refl _) ?_
  rintro ⟨⟨i, j⟩, ⟨P, U, V, S⟩, F'⟩ g ⟨hi, hj, hU, hV, hP, hS, ht, ho, hv'⟩
  dsimp only at hi hj hU hV hP hS ht ho hv' ⊢
  have hlen : (P ++ (U ++ (V ++ S))).length = l.length := by simp; omega
  have hmi : (m : Int) - i = ((P.length : Nat) : Int) := by omega
  have hvc := hv'.cast hlen.symm rfl
  repeat' (first | (apply Wpc.seqK; intro K hK) | apply Wpc.region | apply Wpl.nil | (apply hK; clear hK K) | (apply Wpl.mv; exact rfl; (conv => lhs; whnf)) | (apply Wpc.cond_true; exact rfl) | (apply Wpc.cond_false; exact rfl) | apply Wpc.block | apply Wpc.skip | apply Wpc.exit | (apply Wpl.gtr; exact rfl; exact rfl; exact rfl; all_goals (intro h; try (exfalso; omega))) | (apply Wpl.neq; exact rfl; exact rfl; exact rfl; all_goals (intro h; try (exfalso; omega))) | (apply Wpl.add; exact rfl; exact rfl; exact rfl; omega) | (apply Wpl.sub; exact rfl; exact rfl; exact rfl; omega) | ((conv => whnf); clear hK K; apply hK; clear hK K))
  · have hji : j < i := by omega
    have l1 : (U.take j).length = j := by rw [List.length_take]; omega
    have l2 : (U.drop j).length = i - j := by rw [List.length_drop]; omega
    have e : swapR (P ++ (U ++ (V ++ S))) P.length m j = P ++ (V ++ (U.drop j ++ (U.take j ++ S))) := by
      have h := swapR_parts (P := P) (U := U.take j) (W := U.drop j) (V := V) (S := S) (by omega)
      rw [← List.append_assoc (U.take j) (U.drop j), List.take_append_drop, l1, show P.length + j + (U.drop j).length = m by omega] at h
      exact h
    refine Wpl.callM rfl rfl (congrArg (fun x => [v, Value.int .i64 x, .int .i64 m, .int .i64 j, fv]) hmi) (swapRange_spec F' v fv _ P.length m j hvc (by omega) (by omega) (by omega) ho) (Pk.cons 0 rfl (Pk.nil _)) HasF.nil ?_
    rintro _ _ ⟨F2, rfl, hv2⟩
    rw [e] at hv2
    repeat' (first | apply Wpc.region | apply Wpl.nil | (apply hK; clear hK K) | (apply Wpl.mv; exact rfl; (conv => lhs; whnf)) | (apply Wpl.asg; exact rfl; (conv => lhs; whnf)) | (apply Wpl.sub; exact rfl; exact rfl; exact rfl; omega))
    refine ⟨((i - j, j), (P ++ V, U.drop j, U.take j, S), F2), ⟨by show 0 < i - j; omega, hj, l2, l1, by show (P ++ V).length + (i - j) = m; rw [List.length_append]; omega, by show (P ++ V).length + (i - j) + j + S.length = l.length; rw [List.length_append]; omega, ?_, ?_, ?_⟩, by show i - j + j < i + j; omega, ⟨rfl, rfl, rfl, congrArg (Value.int .i64) (by show (i : Int) - j = ((i - j : Nat) : Int); omega), rfl, trivial⟩, Sel.refl _, fun _ h => h⟩
    · show rotM l a m b = (P ++ V) ++ (U.take j ++ (U.drop j ++ S))
      rw [ht, ← List.append_assoc (U.take j), List.take_append_drop, List.append_assoc]
    · intro t htm
      refine ho t ?_
      simp only [List.mem_append] at htm ⊢
      rcases htm with (h | h) | h | h | h
      · exact .inl h
      · exact .inr (.inr (.inl h))
      · exact .inr (.inl (List.mem_of_mem_drop h))
      · exact .inr (.inl (List.mem_of_mem_take h))
      · exact .inr (.inr (.inr h))
    · show OwnRow 245 2 F2 v l.length (flat itemC ((P ++ V) ++ (U.drop j ++ (U.take j ++ S))))
      rw [List.append_assoc]
      exact hv2.cast hlen rfl
  · have hij : i < j := by omega
    have l1 : (V.take (j - i)).length = j - i := by rw [List.length_take]; omega
    have l2 : (V.drop (j - i)).length = i := by rw [List.length_drop]; omega
    have hmj : (m : Int) + j - i = ((m + j - i : Nat) : Int) := by omega
    have e : swapR (P ++ (U ++ (V ++ S))) P.length (m + j - i) i = P ++ (V.drop (j - i) ++ (V.take (j - i) ++ (U ++ S))) := by
      have h := swapR_parts (P := P) (U := U) (W := V.take (j - i)) (V := V.drop (j - i)) (S := S) (by omega)
      rw [← List.append_assoc (V.take (j - i)) (V.drop (j - i)), List.take_append_drop, hU, l1, show P.length + i + (j - i) = m + j - i by omega] at h
      exact h
    have harg : [v, Value.int .i64 ((m : Int) - i), .int .i64 ((m : Int) + j - i), .int .i64 i, fv] = [v, .int .i64 ((P.length : Nat) : Int), .int .i64 ((m + j - i : Nat) : Int), .int .i64 i, fv] := by rw [hmi, hmj]
    refine Wpl.callM rfl rfl harg (swapRange_spec F' v fv _ P.length (m + j - i) i hvc (by omega) (by omega) (by omega) ho) (Pk.cons 0 rfl (Pk.nil _)) HasF.nil ?_
    rintro _ _ ⟨F2, rfl, hv2⟩
    rw [e] at hv2
    repeat' (first | apply Wpc.region | apply Wpl.nil | (apply hK; clear hK K) | (apply Wpl.mv; exact rfl; (conv => lhs; whnf)) | (apply Wpl.asg; exact rfl; (conv => lhs; whnf)) | (apply Wpl.sub; exact rfl; exact rfl; exact rfl; omega))
    refine ⟨((i, j - i), (P, V.drop (j - i), V.take (j - i), U ++ S), F2), ⟨hi, by show 0 < j - i; omega, l2, l1, hP, by show P.length + i + (j - i) + (U ++ S).length = l.length; rw [List.length_append]; omega, ?_, ?_, hv2.cast hlen rfl⟩, by show i + (j - i) < i + j; omega, ⟨rfl, rfl, rfl, rfl, congrArg (Value.int .i64) (by show (j : Int) - i = ((j - i : Nat) : Int); omega), trivial⟩, Sel.refl _, fun _ h => h⟩
    · show rotM l a m b = P ++ (V.take (j - i) ++ (V.drop (j - i) ++ (U ++ S)))
      rw [ht, ← List.append_assoc (V.take (j - i)), List.take_append_drop]
    · intro t htm
      refine ho t ?_
      simp only [List.mem_append] at htm ⊢
      rcases htm with h | h | h | h | h
      · exact .inl h
      · exact .inr (.inr (.inl (List.mem_of_mem_drop h)))
      · exact .inr (.inr (.inl (List.mem_of_mem_take h)))
      · exact .inr (.inl h)
      · exact .inr (.inr (.inr h))
  · have hij : i = j := by omega
    subst hij
    have e : swapR (P ++ (U ++ (V ++ S))) P.length m i = rotM l a m b := by
      have h := swapR_parts (P := P) (U := U) (W := []) (V := V) (S := S) (by omega)
      rw [List.nil_append, List.nil_append, hU, show P.length + i + ([] : List (Int × Value)).length = m by simp; omega] at h
      rw [h, ht]
    refine Wpl.callM rfl rfl (congrArg (fun x => [v, Value.int .i64 x, .int .i64 m, .int .i64 i, fv]) hmi) (swapRange_spec F' v fv _ P.length m i hvc (by omega) (by omega) (by omega) ho) (Pk.cons 0 rfl (Pk.nil _)) HasF.nil ?_
    rintro _ _ ⟨F2, rfl, hv2⟩
    rw [e] at hv2
    repeat' (apply Wpl.nil)
    exact ⟨[], _, trivial, Sel.refl _, fun _ h => h, F2, rfl, hv2.cast hlen rfl⟩
end Go.Proofs.Ytmfcgffdijnokaa
set_option maxRecDepth 100000
set_option maxHeartbeats 4000000
namespace Go.Proofs.Ytmfcgffdijnokaa
open Go.SL Go.RowKit
attribute [local irreducible] Wpl Wpc Wph
/-! the stable sort: order, insertionSort -/
def slen : Value → Nat
  | .slice _ n _ => n
  | _ => 0
def isSl (v : Value) : Prop := ∃ a n c, v = .slice a n c
def less (x y : Int × Value) : Prop := x.1 < y.1 ∨ (x.1 = y.1 ∧ slen x.2 < slen y.2)
def cmpI (x y : Int × Value) : Int := orM (cmpM x.1 y.1) (cmpM (slen x.2) (slen y.2))
theorem cmpI_lt (x y : Int × Value) : cmpI x y < 0 ↔ less x y := by
  unfold cmpI less orM cmpM
  split <;> split <;> (try split) <;> (try split) <;> omega
theorem byW_spec {x y : Int × Value} (hx : isSl x.2) (hy : isSl y.2) : PSpec Try.prog 168 [.agg (itemC x).toArray, .agg (itemC y).toArray] [] (.int .i64 (cmpI x y)) := by
  obtain ⟨w1, s1⟩ := x
  obtain ⟨w2, s2⟩ := y
  obtain ⟨p1, n1, c1, rfl⟩ := hx
  obtain ⟨p2, n2, c2, rfl⟩ := hy
  exact byWeight_spec w1 w2 p1 p2 n1 c1 n2 c2
abbrev TI := (Int × Value) × Nat
def lt (x y : TI) : Prop := less x.1 y.1 ∨ (¬ less y.1 x.1 ∧ x.2 < y.2)
theorem lt_trans {x y z : TI} (h1 : lt x y) (h2 : lt y z) : lt x z := by
  unfold lt less at *
  omega
theorem lt_of_not {x y : TI} (h : ¬ less x.1 y.1) (ht : y.2 < x.2) : lt y x := .inr ⟨h, ht⟩
theorem lt_irrefl (x : TI) : ¬ lt x x := by unfold lt less; omega
theorem lt_asymm {x y : TI} (h : lt x y) : ¬ lt y x := fun k => lt_irrefl x (lt_trans h k)
def its (L : List TI) : List (Int × Value) := L.map (·.1)
theorem its_len (L : List TI) : (its L).length = L.length := by simp [its]
theorem its_get (L : List TI) (k : Nat) (h : k < L.length) : (its L)[k]'(by rw [its_len]; exact h) = L[k].1 := by simp [its]
theorem its_one {L : List TI} (h : ∀ x ∈ L, isSl x.1.2) : ∀ t ∈ its L, t.2.oneCell' = true := by
  intro t ht
  obtain ⟨x, hx, rfl⟩ := List.mem_map.1 ht
  obtain ⟨a, n, c, he⟩ := h x hx
  rw [he]; rfl
/-- two neighbours change places -/
theorem set_swap {A B : List (Int × Value)} {x y : Int × Value} {k : Nat} (h : A.length = k) : (((A ++ (y :: x :: B)).set (k + 1) y).set k x) = A ++ (x :: y :: B) := by
  subst h
  simp [List.set_append]
theorem insertion_spec (F : Frag) (v : Value) (L : List TI) (a b : Nat) (hv : OwnRow 245 2 F v L.length (flat itemC (its L))) (hl : L.length ≤ 1000000000) (hab : a ≤ b) (hb : b ≤ L.length) (hsl : ∀ x ∈ L, isSl x.1.2)
    (htag : ((L.drop a).take (b - a)).Pairwise (fun x y => x.2 < y.2)) :
    Ctr Try.prog 181 [v, .int .i64 a, .int .i64 b, fnV 168] [] [F]
      (fun _ M' => ∃ F' seg, M' = [F'] ∧ seg.Perm ((L.drop a).take (b - a)) ∧ seg.Pairwise lt ∧ OwnRow 245 2 F' v L.length (flat itemC (its (L.take a ++ (seg ++ L.drop b))))) := by
  refine Ctr.intro Try.func181 (by kernel_rfl) rfl (by conv => lhs; whnf) rfl fun W => ?_
  repeat' (first | (apply Wpc.seqK; intro K hK) | apply Wpc.region | apply Wpl.nil | (apply hK; clear hK K) | (apply Wpl.mv; exact rfl; (conv => lhs; whnf)) | (apply Wpl.asg; exact rfl; (conv => lhs; whnf)) | apply Wpc.block | (apply Wpl.add; exact rfl; exact rfl; exact rfl; omega))
  by_cases hlt : a < b
  · refine Wpc.loop (ι := Nat × List TI × Frag) (fun i => a < i.1 ∧ i.1 ≤ b ∧ i.2.1.Perm ((L.drop a).take (i.1 - a)) ∧ i.2.1.Pairwise lt ∧ OwnRow 245 2 i.2.2 v L.length (flat itemC (its (L.take a ++ (i.2.1 ++ L.drop i.1)))))
      (fun i => [(0, v), (1, .int .i64 a), (2, .int .i64 b), (3, fnV 168), (8, .int .i64 i.1)]) (fun i => [i.2.2]) (fun i => b - i.1) (a + 1, [L[a]'(by omega)], F)
      ⟨by omega, by omega, ?_, ?_, ?_⟩ ⟨rfl, rfl, rfl, rfl, rfl, trivial⟩ (Sel.refl _) ?_
    · show [L[a]'(by omega)].Perm ((L.drop a).take (a + 1 - a))
      rw [show a + 1 - a = 1 by omega, List.drop_eq_getElem_cons (by omega)]
      exact List.Perm.refl _
    · exact List.pairwise_singleton _ _
    · show OwnRow 245 2 F v L.length (flat itemC (its (L.take a ++ ([L[a]'(by omega)] ++ L.drop (a + 1)))))
      rw [List.singleton_append, ← List.drop_eq_getElem_cons, List.take_append_drop]
      exact hv
    rintro ⟨i, seg, F'⟩ g ⟨hi1, hi2, hperm, hpw, hv'⟩
    dsimp only at hi1 hi2 hperm hpw hv' ⊢
    repeat' (first | (apply Wpc.seqK; intro K hK) | apply Wpc.region | apply Wpl.nil | (apply hK; clear hK K) | (apply Wpl.mv; exact rfl; (conv => lhs; whnf)) | (apply Wpl.asg; exact rfl; (conv => lhs; whnf)) | (apply Wpc.cond_true; exact rfl) | (apply Wpc.cond_false; exact rfl) | apply Wpc.block | apply Wpc.skip | apply Wpc.exit | (apply Wpl.lss; exact rfl; exact rfl; exact rfl; all_goals (intro h; try (exfalso; omega))))
    · have hib : i < b := by omega
      have hiL : i < L.length := by omega
      have hdr : L.drop i = L[i] :: L.drop (i + 1) := List.drop_eq_getElem_cons hiL
      have hsegl : seg.length = i - a := by rw [hperm.length_eq, List.length_take, List.length_drop]; omega
      have htx : ∀ y ∈ seg, y.2 < L[i].2 := by
        intro y hy
        have hy' := hperm.mem_iff.1 hy
        have e : (L.drop a).take (b - a) = (L.drop a).take (i - a) ++ (L.drop i).take (b - i) := by
          rw [show b - a = (i - a) + (b - i) by omega, List.take_add, List.drop_drop, show a + (i - a) = i by omega]
        rw [e] at htag
        refine (List.pairwise_append.1 htag).2.2 y hy' _ ?_
        rw [hdr, show b - i = (b - i - 1) + 1 by omega, List.take_succ_cons]
        exact List.mem_cons_self
      have hsx : isSl L[i].1.2 := hsl _ (List.getElem_mem _)
      have hsy : ∀ y ∈ seg, isSl y.1.2 := fun y hy => hsl y (List.mem_of_mem_drop (List.mem_of_mem_take (hperm.mem_iff.1 hy)))
      have hpx : (L[i] :: seg).Perm ((L.drop a).take (i + 1 - a)) := by
        have e : (L.drop a).take (i + 1 - a) = (L.drop a).take (i - a) ++ [L[i]] := by
          rw [show i + 1 - a = (i - a) + 1 by omega, take_snoc _ _ (by rw [List.length_drop]; omega), List.getElem_drop]
          congr 2
          congr 1
          omega
        rw [e]
        exact (List.Perm.cons _ hperm).trans (List.perm_append_comm (l₁ := [L[i]]))
      generalize hxx : L[i] = x at *
      rw [hdr] at hv'
      refine Wpc.loop (ι := Nat × List TI × List TI × Frag) (fun s => s.2.1.length = s.1 ∧ s.2.1 ++ s.2.2.1 = seg ∧ (∀ y ∈ s.2.2.1, lt x y) ∧ OwnRow 245 2 s.2.2.2 v L.length (flat itemC (its (L.take a ++ (s.2.1 ++ (x :: (s.2.2.1 ++ L.drop (i + 1))))))))
        (fun s => [(0, v), (1, .int .i64 a), (2, .int .i64 b), (3, fnV 168), (8, .int .i64 i), (9, .int .i64 ((a + s.1 : Nat) : Int))]) (fun s => [s.2.2.2]) (fun s => s.1) (seg.length, seg, [], F')
        ⟨rfl, List.append_nil _, fun y hy => absurd hy List.not_mem_nil, hv'⟩ ⟨rfl, rfl, rfl, rfl, rfl, congrArg (Value.int .i64) (by show (i : Int) = ((a + seg.length : Nat) : Int); omega), trivial⟩ (Sel.refl _) ?_
      rintro ⟨nn, S1, S2, F2⟩ g ⟨hnn, hS, hlx, hv2⟩
      dsimp only at hnn hS hlx hv2 ⊢
      have hlen12 : S1.length + S2.length = i - a := by rw [← hsegl, ← hS, List.length_append]
      rcases List.eq_nil_or_concat S1 with rfl | ⟨S1', y, hcon⟩
      · have hn0 : nn = 0 := by rw [← hnn]; rfl
        subst hn0
        rw [List.nil_append] at hS
        subst hS
        repeat' (first | (apply Wpc.region_draw; kernel_rfl; kernel_rfl) | (apply Wpc.seqK; intro K hK) | apply Wpc.region | apply Wpl.nil | (apply hK; clear hK K) | (apply Wpl.mv; exact rfl; (conv => lhs; whnf)) | (apply Wpl.asg; exact rfl; (conv => lhs; whnf)) | (apply Wpl.guard_skip; exact rfl; exact rfl; exact rfl) | (apply Wpl.pickF; exact rfl; exact rfl; (conv => lhs; whnf)) | (apply Wpc.cond_false; exact rfl) | apply Wpc.exit | (apply Wpl.gtr; exact rfl; exact rfl; exact rfl; all_goals (intro h; try (exfalso; omega))) | (apply Wpl.add; exact rfl; exact rfl; exact rfl; omega) | ((conv => whnf); clear hK K; apply hK; clear hK K))
        exact ⟨(i + 1, x :: S2, F2), ⟨by omega, by omega, hpx, List.pairwise_cons.2 ⟨hlx, hpw⟩, hv2⟩, by show b - (i + 1) < b - i; omega, ⟨rfl, rfl, rfl, rfl, rfl, trivial⟩, Sel.refl _, fun _ h => h⟩
      · rw [List.concat_eq_append] at hcon
        subst hcon
        have hnS : nn = S1'.length + 1 := by rw [← hnn]; simp
        subst hnS
        have hsyy : isSl y.1.2 := hsy y (by rw [← hS]; simp)
        have hcmp := byW_spec hsx hsyy
        have hcl := cmpI_lt x.1 y.1
        rw [List.length_append, List.length_singleton] at hlen12
        have hcur : L.take a ++ ((S1' ++ [y]) ++ (x :: (S2 ++ L.drop (i + 1)))) = (L.take a ++ S1') ++ (y :: x :: (S2 ++ L.drop (i + 1))) := by simp
        have hcl2 : (its ((L.take a ++ S1') ++ (y :: x :: (S2 ++ L.drop (i + 1))))).length = L.length := by simp [its]; omega
        rw [hcur] at hv2
        generalize hAdef : L.take a ++ S1' = A at *
        have hA : A.length = a + S1'.length := by rw [← hAdef, List.length_append, List.length_take]; omega
        generalize hBdef : S2 ++ L.drop (i + 1) = B at *
        have hi0 : (its (A ++ (y :: x :: B)))[a + S1'.length]? = some y.1 := by simp [its, List.getElem?_append, hA]
        have hi1 : (its (A ++ (y :: x :: B)))[a + S1'.length + 1]? = some x.1 := by simp [its, List.getElem?_append, hA]
        obtain ⟨bb, c, cap, rfl, rfl, hh, hc, hcap, hmax⟩ := own_items (hv2.cast hcl2.symm rfl) (by rw [hcl2]; omega)
        obtain ⟨hb0, hi0'⟩ := List.getElem?_eq_some_iff.1 hi0
        obtain ⟨hb1, hi1'⟩ := List.getElem?_eq_some_iff.1 hi1
        have hgy : (c.toList.drop ((a + S1'.length) * 2)).take 2 = itemC y.1 := by have h := hh.get hb0; rw [hi0'] at h; exact h
        have hgx : (c.toList.drop ((a + (S1'.length + 1)) * 2)).take 2 = itemC x.1 := by have h := hh.get hb1; rw [hi1'] at h; exact h
        repeat' (first | (apply Wpc.region_draw; kernel_rfl; kernel_rfl) | (apply Wpc.seqK; intro K hK) | (apply Wpl.mv; exact rfl; (conv => lhs; whnf)) | (apply Wpl.guard_run; exact rfl; exact rfl) | (apply Wpl.gtr; exact rfl; exact rfl; exact rfl; all_goals (intro h; try (exfalso; omega))))
        refine Wpl.idxK (o := (a + (S1'.length + 1)) * 2) rfl rfl rfl (by omega) (by omega) (by omega) ?_
        repeat' (apply Wpl.guard_run; exact rfl; exact rfl)
        refine Wpl.ldAgg 0 0 rfl rfl rfl hgx rfl ?_
        repeat' (first | (apply Wpl.mv; exact rfl; (conv => lhs; whnf)) | (apply Wpl.guard_run; exact rfl; exact rfl) | (apply Wpl.sub; exact rfl; exact rfl; exact rfl; omega))
        refine Wpl.idxK (o := (a + S1'.length) * 2) rfl rfl rfl (by omega) (by omega) (by omega) ?_
        repeat' (apply Wpl.guard_run; exact rfl; exact rfl)
        refine Wpl.ldAgg 0 0 rfl rfl rfl hgy rfl ?_
        have hpw2 : ((S1' ++ [y]) ++ S2).Pairwise lt := by rw [hS]; exact hpw
        have hys : y ∈ seg := by rw [← hS]; simp
        repeat' (first | (apply Wpl.callP; exact rfl; exact rfl; exact rfl; exact rfl; (exact hcmp); (exact HasF.nil)) | (apply Wpc.seqK; intro K hK) | apply Wpc.region | apply Wpl.nil | (apply hK; clear hK K) | (apply Wpl.mv; exact rfl; (conv => lhs; whnf)) | (apply Wpl.asg; exact rfl; (conv => lhs; whnf)) | (apply Wpl.guard_run; exact rfl; exact rfl) | (apply Wpl.pickT; exact rfl; exact rfl; (conv => lhs; whnf)) | (apply Wpc.cond_true; exact rfl) | (apply Wpc.cond_false; exact rfl) | apply Wpc.skip | apply Wpc.exit | (apply Wpl.lss; exact rfl; exact rfl; exact rfl; all_goals (intro h; try (exfalso; omega))) | (apply Wpl.add; exact rfl; exact rfl; exact rfl; omega) | ((conv => whnf); clear hK K; apply hK; clear hK K))
        · have hless : less x.1 y.1 := hcl.1 (by assumption)
          have hone := its_one hsl
          have hob : y.1.2.oneCell' = true := by obtain ⟨p, n, c, he⟩ := hsyy; rw [he]; rfl
          have hoa : x.1.2.oneCell' = true := by obtain ⟨p, n, c, he⟩ := hsx; rw [he]; rfl
          have hs1 := hh.set hb1 y.1
          have hs2 := hs1.set (m := a + S1'.length) (by rw [List.length_set]; exact hb0) x.1
          have hsz := hs1.1
          rw [List.length_set] at hsz
          have hsize : ∀ (c : Array Value) (o : Nat) (t : Int × Value), o + 2 ≤ c.size → (List.take o c.toList ++ itemC t ++ List.drop (o + 2) c.toList).toArray.size = c.size := fun c o t h => by
            simp [itemC_len]; omega
          have hz1 := hsize c ((a + S1'.length + 1) * 2) y.1 (by omega)
          have hz2 := hsize _ ((a + S1'.length) * 2) x.1 (show (a + S1'.length) * 2 + 2 ≤ (List.take ((a + S1'.length + 1) * 2) c.toList ++ itemC y.1 ++ List.drop ((a + S1'.length + 1) * 2 + 2) c.toList).toArray.size by rw [hz1]; omega)
          have hown := items_own (b := bb) hs2 (hz2.trans (hz1.trans hc)) (by rw [List.length_set, List.length_set]; exact hcap) hmax
          refine Wpc.block ?_
          skip
          refine Wpc.region_u 14 18 [2, 3, 4] (by kernel_rfl) rfl rfl ?_
          (refine Wpu.take0 2 rfl (by kernel_rfl) rfl (fun _ _ _ _ h => h) ?_; (repeat' (first | apply Wpl.nil | (apply Wpl.mv; exact rfl; (conv => lhs; whnf))))); (refine Wpu.take0 3 rfl (by kernel_rfl) rfl (fun _ _ _ _ h => h) ?_; (repeat' (first | apply Wpl.nil | (apply Wpl.mv; exact rfl; (conv => lhs; whnf))))); (refine Wpu.take0 4 rfl (by kernel_rfl) rfl (fun _ _ _ _ h => h) ?_; (repeat' (first | apply Wpl.nil | (apply Wpl.sub; exact rfl; exact rfl; exact rfl; omega)))); skip
          (refine Wpu.take 0 rfl (by kernel_rfl) rfl (fun _ _ _ _ h => h) (fun _ h => h) (by first | exact Sel.refl _ | exact Sel.tail _ _ | exact Sel.nil _ | exact (Sel.tail _ _).trans (Sel.tail _ _) | exact (Sel.tail _ _).trans ((Sel.tail _ _).trans (Sel.tail _ _))) ?_; (repeat' (first | apply Wpl.nil | (apply Wpl.mv; exact rfl; (conv => lhs; whnf))))); (refine Wpu.take 1 rfl (by kernel_rfl) rfl (fun _ _ _ _ h => h) (fun _ h => h) (by first | exact Sel.refl _ | exact Sel.tail _ _ | exact Sel.nil _ | exact (Sel.tail _ _).trans (Sel.tail _ _) | exact (Sel.tail _ _).trans ((Sel.tail _ _).trans (Sel.tail _ _))) ?_; (repeat' (first | apply Wpl.nil | (apply Wpl.mv; exact rfl; (conv => lhs; whnf))))); (refine Wpu.take 5 rfl (by kernel_rfl) rfl (fun _ _ _ _ h => h) (fun _ h => h) (by first | exact Sel.refl _ | exact Sel.tail _ _ | exact Sel.nil _ | exact (Sel.tail _ _).trans (Sel.tail _ _) | exact (Sel.tail _ _).trans ((Sel.tail _ _).trans (Sel.tail _ _))) ?_; (repeat' (first | apply Wpl.nil | (apply Wpl.mv; exact rfl; (conv => lhs; whnf))))); (refine Wpu.take 6 rfl (by kernel_rfl) rfl (fun _ _ _ _ h => h) (fun _ h => h) (by first | exact Sel.refl _ | exact Sel.tail _ _ | exact Sel.nil _ | exact (Sel.tail _ _).trans (Sel.tail _ _) | exact (Sel.tail _ _).trans ((Sel.tail _ _).trans (Sel.tail _ _))) ?_; (repeat' (first | apply Wpl.nil | (apply Wpl.mv; exact rfl; (conv => lhs; whnf))))); (refine Wpu.take 7 rfl (by kernel_rfl) rfl (fun _ _ _ _ h => h) (fun _ h => h) (by first | exact Sel.refl _ | exact Sel.tail _ _ | exact Sel.nil _ | exact (Sel.tail _ _).trans (Sel.tail _ _) | exact (Sel.tail _ _).trans ((Sel.tail _ _).trans (Sel.tail _ _))) ?_; (repeat' (first | apply Wpl.nil | (apply Wpl.sub; exact rfl; exact rfl; exact rfl; omega)))); skip
          refine Wpu.take 8 rfl (by kernel_rfl) rfl (fun _ _ _ _ h => h) (fun _ h => h) (by first | exact Sel.refl _ | exact Sel.tail _ _ | exact Sel.nil _ | exact (Sel.tail _ _).trans (Sel.tail _ _) | exact (Sel.tail _ _).trans ((Sel.tail _ _).trans (Sel.tail _ _))) ?_
          refine Wpl.idxK (o := (a + S1'.length) * 2) rfl rfl rfl (by omega) (by omega) (by omega) ?_
          repeat' (apply Wpl.nil)
          refine Wpu.take 9 rfl (by kernel_rfl) rfl (fun _ _ _ _ h => h) (fun _ h => h) (by first | exact Sel.refl _ | exact Sel.tail _ _ | exact Sel.nil _ | exact (Sel.tail _ _).trans (Sel.tail _ _) | exact (Sel.tail _ _).trans ((Sel.tail _ _).trans (Sel.tail _ _))) ?_
          refine Wpl.ldAgg 0 0 rfl rfl rfl hgy rfl ?_
          repeat' (apply Wpl.nil)
          (refine Wpu.take 10 rfl (by kernel_rfl) rfl (fun _ _ _ _ h => h) (fun _ h => h) (by first | exact Sel.refl _ | exact Sel.tail _ _ | exact Sel.nil _ | exact (Sel.tail _ _).trans (Sel.tail _ _) | exact (Sel.tail _ _).trans ((Sel.tail _ _).trans (Sel.tail _ _))) ?_; (repeat' (first | apply Wpl.nil | (apply Wpl.mv; exact rfl; (conv => lhs; whnf))))); (refine Wpu.take 11 rfl (by kernel_rfl) rfl (fun _ _ _ _ h => h) (fun _ h => h) (by first | exact Sel.refl _ | exact Sel.tail _ _ | exact Sel.nil _ | exact (Sel.tail _ _).trans (Sel.tail _ _) | exact (Sel.tail _ _).trans ((Sel.tail _ _).trans (Sel.tail _ _))) ?_; (repeat' (first | apply Wpl.nil | (apply Wpl.mv; exact rfl; (conv => lhs; whnf))))); skip
          refine Wpu.take 12 rfl (by kernel_rfl) rfl (fun _ _ _ _ h => h) (fun _ h => h) (by first | exact Sel.refl _ | exact Sel.tail _ _ | exact Sel.nil _ | exact (Sel.tail _ _).trans (Sel.tail _ _) | exact (Sel.tail _ _).trans ((Sel.tail _ _).trans (Sel.tail _ _))) ?_
          refine Wpl.idxK (o := (a + S1'.length + 1) * 2) rfl rfl rfl (by omega) (by omega) (by omega) ?_
          repeat' (apply Wpl.nil)
          refine Wpu.take 13 rfl (by kernel_rfl) rfl (fun _ _ _ _ h => h) (fun _ h => h) (by first | exact Sel.refl _ | exact Sel.tail _ _ | exact Sel.nil _ | exact (Sel.tail _ _).trans (Sel.tail _ _) | exact (Sel.tail _ _).trans ((Sel.tail _ _).trans (Sel.tail _ _))) ?_
          refine Wpl.ldAgg 0 0 rfl rfl rfl hgx rfl ?_
          repeat' (apply Wpl.nil)
          refine Wpu.tl 14 (by kernel_rfl) rfl rfl ?_
          refine Wpl.idxK (o := (a + S1'.length + 1) * 2) rfl rfl rfl (by omega) (by omega) (by omega) ?_
          repeat' (apply Wpl.nil)
          refine Wpu.tl 15 (by kernel_rfl) rfl rfl ?_
          refine Wpl.stK rfl rfl rfl rfl rfl (one_cons rfl (one_cons hob one_nil)) (by show (a + S1'.length + 1) * 2 + 2 ≤ c.size; omega) ?_
          repeat' (apply Wpl.nil)
          refine Wpu.tl 16 (by kernel_rfl) rfl rfl ?_
          refine Wpl.idxK (o := (a + S1'.length) * 2) rfl rfl rfl (by omega) (by omega) (by omega) ?_
          repeat' (apply Wpl.nil)
          refine Wpu.tl 17 (by kernel_rfl) rfl rfl ?_
          refine Wpl.stK rfl rfl rfl rfl rfl (one_cons rfl (one_cons hoa one_nil)) (by show (a + S1'.length) * 2 + 2 ≤ _; exact Nat.le_trans (by omega) hsz) ?_
          repeat' (apply Wpl.nil)
          refine Wpu.done (by kernel_rfl) ?_
          repeat' (first | apply Wpc.region | apply Wpl.nil | (apply hK; clear hK K) | (apply Wpl.mv; exact rfl; (conv => lhs; whnf)) | (apply Wpl.asg; exact rfl; (conv => lhs; whnf)) | (apply Wpl.sub; exact rfl; exact rfl; exact rfl; omega))
          have hitA : (its A).length = a + S1'.length := by rw [its_len, hA]
          have hfin : ((its (A ++ y :: x :: B)).set (a + S1'.length + 1) y.1).set (a + S1'.length) x.1 = its (L.take a ++ (S1' ++ (x :: ((y :: S2) ++ L.drop (i + 1))))) := by
            have e1 : its (A ++ y :: x :: B) = its A ++ (y.1 :: x.1 :: its B) := by simp [its]
            have e2 : its (L.take a ++ (S1' ++ (x :: ((y :: S2) ++ L.drop (i + 1))))) = its A ++ (x.1 :: y.1 :: its B) := by rw [← hAdef, ← hBdef]; simp [its]
            rw [e1, e2, set_swap hitA]
          rw [List.length_set, List.length_set] at hown
          exact ⟨(S1'.length, S1', y :: S2, _), ⟨rfl, by rw [← hS]; simp, fun z hz => by
            rcases List.mem_cons.1 hz with rfl | hz
            · exact .inl hless
            · exact hlx z hz, hown.cast hcl2 (by rw [hfin])⟩, by show S1'.length < S1'.length + 1; omega, ⟨rfl, rfl, rfl, rfl, rfl, congrArg (Value.int .i64) (by show ((a + (S1'.length + 1) : Nat) : Int) - 1 = ((a + S1'.length : Nat) : Int); omega), trivial⟩, Sel.refl _, fun _ h => h⟩
        · have hnl : ¬ less x.1 y.1 := fun h => by have := hcl.2 h; omega
          have hyx : lt y x := lt_of_not hnl (htx y hys)
          obtain ⟨q1, q2, q3⟩ := List.pairwise_append.1 hpw2
          obtain ⟨r1, r2, r3⟩ := List.pairwise_append.1 q1
          refine ⟨(i + 1, (S1' ++ [y]) ++ (x :: S2), _), ⟨by omega, by omega, ?_, ?_, ?_⟩, by show b - (i + 1) < b - i; omega, ⟨rfl, rfl, rfl, rfl, rfl, trivial⟩, Sel.refl _, fun _ h => h⟩
          · refine List.Perm.trans ?_ hpx
            rw [← hS]
            exact List.perm_middle
          · refine List.pairwise_append.2 ⟨q1, List.pairwise_cons.2 ⟨hlx, q2⟩, fun u hu z hz => ?_⟩
            rcases List.mem_cons.1 hz with rfl | hz
            · rcases List.mem_append.1 hu with hu | hu
              · exact lt_trans (r3 u hu y (List.mem_singleton.2 rfl)) hyx
              · rw [List.mem_singleton.1 hu]; exact hyx
            · exact q3 u hu z hz
          · refine hv2.cast rfl ?_
            rw [← hcur, ← hBdef]
            simp
    · have hib : i = b := by omega
      subst hib
      exact ⟨[], _, trivial, Sel.refl _, fun _ h => h, F', seg, rfl, hperm, hpw, hv'⟩
  · have hab' : a = b := by omega
    subst hab'
    refine Wpc.loop (ι := Unit) (fun _ => True) (fun _ => [(0, v), (1, .int .i64 a), (2, .int .i64 a), (8, .int .i64 ((a + 1 : Nat) : Int))]) (fun _ => [F]) (fun _ => 0) () trivial ⟨rfl, rfl, rfl, rfl, trivial⟩ (Sel.refl _) ?_
    rintro _ g _
    repeat' (first | (apply Wpc.seqK; intro K hK) | apply Wpc.region | apply Wpl.nil | (apply hK; clear hK K) | (apply Wpl.mv; exact rfl; (conv => lhs; whnf)) | (apply Wpc.cond_false; exact rfl) | apply Wpc.exit | (apply Wpl.lss; exact rfl; exact rfl; exact rfl; all_goals (intro h; try (exfalso; omega))))
    exact ⟨[], _, trivial, Sel.refl _, fun _ h => h, F, [], rfl, by simp, List.Pairwise.nil, by rw [List.nil_append, List.take_append_drop]; exact hv⟩
end Go.Proofs.Ytmfcgffdijnokaa
set_option maxRecDepth 100000
set_option maxHeartbeats 4000000
namespace Go.Proofs.Ytmfcgffdijnokaa
open Go.SL Go.RowKit
attribute [local irreducible] Wpl Wpc Wph
/-! block.pen.put -/
def penF (bp : Nat) (vw e : Value) : Frag := [(bp, .cells #[vw, e] 96 (0, 0))]
def penV (bp : Nat) : Value := .pointer (some ⟨bp, 0, none⟩)
theorem penPut_spec {hi : Bool} {bs : List Int} {n : Nat} {vw : Value} {FW FB : Frag} {bp : Nat} {a c : Int} (h0 : Wr hi bs n vw FW FB) (hn : n ≤ 900000000000000) (hc : 0 ≤ c ∧ c ≤ 32) (ha : 0 ≤ a ∧ a ≤ 9223372036854775807) (hz : a / 2 ^ c.toNat = 0) :
    Ctr Try.prog 38 [penV bp, .int .i64 a, .int .i64 c] [] [penF bp vw .nilIface, FW, FB]
      (fun _ M' => ∃ FW' FB', M' = [penF bp vw .nilIface, FW', FB'] ∧ Wr hi (putB hi a c c.toNat bs n) (n + c.toNat) vw FW' FB') := by
  have hw := put_spec h0 hn hc ha hz
  refine Ctr.intro Try.func38 (by kernel_rfl) rfl (by conv => lhs; whnf) rfl fun W => ?_
  unfold penF penV
  repeat' (first | (apply Wpc.seqK; intro K hK) | apply Wpc.region | apply Wpl.nil | (apply hK; clear hK K) | (apply Wpl.mv; exact rfl; (conv => lhs; whnf)) | (apply Wpc.cond_true; exact rfl) | (apply Wpl.nilCheck; exact rfl; exact rfl) | (apply Wpl.fldS; exact rfl; exact rfl; exact rfl; exact rfl) | (apply Wpl.ld0x0; exact rfl; exact rfl; exact rfl; exact rfl) | (apply Wpl.errEqNil; exact rfl; exact rfl))
  refine Wpl.callM rfl rfl rfl hw (Pk.cons 1 rfl (Pk.cons 1 rfl (Pk.nil _))) HasF.nil ?_
  rintro _ _ ⟨FW2, FB2, rfl, rfl, h2⟩
  repeat' (first | (apply Wpl.nilCheck; exact rfl; exact rfl) | (apply Wpl.fldS; exact rfl; exact rfl; exact rfl; exact rfl))
  refine Wpl.st2_0 rfl rfl rfl rfl rfl (by simp) ?_
  repeat' (apply Wpl.nil)
  exact ⟨[], _, trivial, Sel.cons 2 rfl (Sel.cons 0 rfl (Sel.cons 0 rfl (Sel.nil _))), fun _ h => h, FW2, FB2, rfl, h2⟩
theorem penPut_err {vw : Value} {bp : Nat} {t : TypeId} {e : Value} (a c : Int) :
    Ctr Try.prog 38 [penV bp, .int .i64 a, .int .i64 c] [] [penF bp vw (.iface t e)]
      (fun _ M' => M' = [penF bp vw (.iface t e)]) := by
  refine Ctr.intro Try.func38 (by kernel_rfl) rfl (by conv => lhs; whnf) rfl fun W => ?_
  unfold penF penV
  repeat' (first | (apply Wpc.seqK; intro K hK) | apply Wpc.region | apply Wpl.nil | (apply hK; clear hK K) | (apply Wpl.mv; exact rfl; (conv => lhs; whnf)) | (apply Wpc.cond_false; exact rfl) | apply Wpc.skip | (apply Wpl.nilCheck; exact rfl; exact rfl) | (apply Wpl.fldS; exact rfl; exact rfl; exact rfl; exact rfl) | (apply Wpl.ld0x0; exact rfl; exact rfl; exact rfl; exact rfl) | (apply Wpl.errEq; exact rfl; exact rfl))
  exact ⟨[], _, trivial, Sel.refl _, fun _ h => h, rfl⟩

/-! canon.Book: the cells of a book: lengths, codes, order, and the 17 levels -/
theorem wbytes_nil_spec : PSpec Try.prog 33 [.pointer none] [] (.slice none 0 0) := by
  refine Ctr.intro Try.func33 (by kernel_rfl) rfl (by conv => lhs; whnf) rfl fun W => ?_
  repeat' (first | (apply Wpc.seqK; intro K hK) | apply Wpc.region | apply Wpl.nil | (apply hK; clear hK K) | (apply Wpl.mv; exact rfl; (conv => lhs; whnf)) | (apply Wpl.asg; exact rfl; (conv => lhs; whnf)) | (apply Wpc.cond_true; exact rfl) | apply Wpc.ret | (apply Wpl.ptrEq; exact rfl; exact rfl; exact rfl; exact rfl))
  exact ⟨[_], [], ⟨rfl, trivial⟩, Sel.nil _, fun _ h => h, rfl, rfl⟩
end Go.Proofs.Ytmfcgffdijnokaa
set_option maxRecDepth 100000
set_option maxHeartbeats 4000000
namespace Go.Proofs.Ytmfcgffdijnokaa
open Go.SL Go.RowKit
attribute [local irreducible] Wpl Wpc Wph
/-! bits.Writer.Bytes -/
theorem wbytes_spec {hi : Bool} {bs : List Int} {n : Nat} {v : Value} {FW FB : Frag} (h0 : Wr hi bs n v FW FB) (hn : n ≤ 900000000000) :
    Ctr Try.prog 33 [v] [FW, FB] [] (fun r M' => ∃ F', M' = [F'] ∧ OwnRow 5 1 F' r (alignB hi (alignK n) bs n).length (ints .u8 (alignB hi (alignK n) bs n))) := by
  obtain ⟨b, vs, rfl, rfl, hr⟩ := h0.at_
  have hlen := h0.len
  have hcl := clone_bytes_spec FB vs bs bs.length hr.row (by omega)
  refine Ctr.intro Try.func33 (by kernel_rfl) rfl (by conv => lhs; whnf) rfl fun W => ?_
  repeat' (first | (apply Wpc.seqK; intro K hK) | apply Wpc.region | apply Wpl.nil | (apply hK; clear hK K) | (apply Wpl.mv; exact rfl; (conv => lhs; whnf)) | (apply Wpl.asg; exact rfl; (conv => lhs; whnf)) | (apply Wpc.cond_false; exact rfl) | apply Wpc.skip | (apply Wpl.ptrEq; exact rfl; exact rfl; exact rfl; exact rfl))
  refine Wpc.region_held (by kernel_rfl) [[(b, .cells #[.bool hi, vs, .int .i64 n] 85 (0, 0))], FB] [] 16 rfl _ rfl ?_
  (refine Wph.take 0 rfl (by kernel_rfl) rfl (fun _ _ _ _ h => h) (fun _ h => h) (by first | exact Sel.refl _ | exact Sel.tail _ _ | exact Sel.nil _ | exact (Sel.tail _ _).trans (Sel.tail _ _) | exact (Sel.tail _ _).trans ((Sel.tail _ _).trans (Sel.tail _ _))) ?_; (repeat' (first | apply Wpl.nil | (apply Wpl.mv; exact rfl; (conv => lhs; whnf))))); (refine Wph.take 1 rfl (by kernel_rfl) rfl (fun _ _ _ _ h => h) (fun _ h => h) (by first | exact Sel.refl _ | exact Sel.tail _ _ | exact Sel.nil _ | exact (Sel.tail _ _).trans (Sel.tail _ _) | exact (Sel.tail _ _).trans ((Sel.tail _ _).trans (Sel.tail _ _))) ?_; (repeat' (first | apply Wpl.nil | (apply Wpl.nilCheck; exact rfl; exact rfl)))); (refine Wph.take 2 rfl (by kernel_rfl) rfl (fun _ _ _ _ h => h) (fun _ h => h) (by first | exact Sel.refl _ | exact Sel.tail _ _ | exact Sel.nil _ | exact (Sel.tail _ _).trans (Sel.tail _ _) | exact (Sel.tail _ _).trans ((Sel.tail _ _).trans (Sel.tail _ _))) ?_; (repeat' (first | apply Wpl.nil | (apply Wpl.fldS; exact rfl; exact rfl; exact rfl; exact rfl)))); (refine Wph.take 3 rfl (by kernel_rfl) rfl (fun _ _ _ _ h => h) (fun _ h => h) (by first | exact Sel.refl _ | exact Sel.tail _ _ | exact Sel.nil _ | exact (Sel.tail _ _).trans (Sel.tail _ _) | exact (Sel.tail _ _).trans ((Sel.tail _ _).trans (Sel.tail _ _))) ?_; (repeat' (first | apply Wpl.nil | (apply Wpl.ldR0; exact rfl; exact rfl; exact rfl; exact rfl)))); (refine Wph.take 4 rfl (by kernel_rfl) rfl (fun _ _ _ _ h => h) (fun _ h => h) (by first | exact Sel.refl _ | exact Sel.tail _ _ | exact Sel.nil _ | exact (Sel.tail _ _).trans (Sel.tail _ _) | exact (Sel.tail _ _).trans ((Sel.tail _ _).trans (Sel.tail _ _))) ?_; (repeat' (first | apply Wpl.nil | (apply Wpl.mv; exact rfl; (conv => lhs; whnf))))); (refine Wph.take 5 rfl (by kernel_rfl) rfl (fun _ _ _ _ h => h) (fun _ h => h) (by first | exact Sel.refl _ | exact Sel.tail _ _ | exact Sel.nil _ | exact (Sel.tail _ _).trans (Sel.tail _ _) | exact (Sel.tail _ _).trans ((Sel.tail _ _).trans (Sel.tail _ _))) ?_; (repeat' (first | apply Wpl.nil | (apply Wpl.nilCheck; exact rfl; exact rfl)))); (refine Wph.take 6 rfl (by kernel_rfl) rfl (fun _ _ _ _ h => h) (fun _ h => h) (by first | exact Sel.refl _ | exact Sel.tail _ _ | exact Sel.nil _ | exact (Sel.tail _ _).trans (Sel.tail _ _) | exact (Sel.tail _ _).trans ((Sel.tail _ _).trans (Sel.tail _ _))) ?_; (repeat' (first | apply Wpl.nil | (apply Wpl.fldS; exact rfl; exact rfl; exact rfl; exact rfl)))); (refine Wph.take 7 rfl (by kernel_rfl) rfl (fun _ _ _ _ h => h) (fun _ h => h) (by first | exact Sel.refl _ | exact Sel.tail _ _ | exact Sel.nil _ | exact (Sel.tail _ _).trans (Sel.tail _ _) | exact (Sel.tail _ _).trans ((Sel.tail _ _).trans (Sel.tail _ _))) ?_; (repeat' (first | apply Wpl.nil | (apply Wpl.ldR0; exact rfl; exact rfl; exact rfl; exact rfl)))); (refine Wph.take 9 rfl (by kernel_rfl) rfl (fun _ _ _ _ h => h) (fun _ h => h) (by first | exact Sel.refl _ | exact Sel.tail _ _ | exact Sel.nil _ | exact (Sel.tail _ _).trans (Sel.tail _ _) | exact (Sel.tail _ _).trans ((Sel.tail _ _).trans (Sel.tail _ _))) ?_; (repeat' (first | apply Wpl.nil | (apply Wpl.mv; exact rfl; (conv => lhs; whnf))))); (refine Wph.take 10 rfl (by kernel_rfl) rfl (fun _ _ _ _ h => h) (fun _ h => h) (by first | exact Sel.refl _ | exact Sel.tail _ _ | exact Sel.nil _ | exact (Sel.tail _ _).trans (Sel.tail _ _) | exact (Sel.tail _ _).trans ((Sel.tail _ _).trans (Sel.tail _ _))) ?_; (repeat' (first | apply Wpl.nil | (apply Wpl.nilCheck; exact rfl; exact rfl)))); (refine Wph.take 11 rfl (by kernel_rfl) rfl (fun _ _ _ _ h => h) (fun _ h => h) (by first | exact Sel.refl _ | exact Sel.tail _ _ | exact Sel.nil _ | exact (Sel.tail _ _).trans (Sel.tail _ _) | exact (Sel.tail _ _).trans ((Sel.tail _ _).trans (Sel.tail _ _))) ?_; (repeat' (first | apply Wpl.nil | (apply Wpl.fldS; exact rfl; exact rfl; exact rfl; exact rfl)))); (refine Wph.take 12 rfl (by kernel_rfl) rfl (fun _ _ _ _ h => h) (fun _ h => h) (by first | exact Sel.refl _ | exact Sel.tail _ _ | exact Sel.nil _ | exact (Sel.tail _ _).trans (Sel.tail _ _) | exact (Sel.tail _ _).trans ((Sel.tail _ _).trans (Sel.tail _ _))) ?_; (repeat' (first | apply Wpl.nil | (apply Wpl.ldR0; exact rfl; exact rfl; exact rfl; exact rfl)))); skip
  have hfin : ∀ (b3 : Nat) (F3 : Frag) (v3 : Value), OwnRow 5 1 F3 v3 bs.length (ints .u8 bs) → Wr hi bs n (.pointer (some ⟨b3, 0, none⟩)) [(b3, .cells #[.bool hi, v3, .int .i64 n] 85 (0, 0))] F3 :=
    fun b3 F3 v3 h => ⟨⟨b3, v3, rfl, rfl, h⟩, h0.len, h0.bd⟩
  refine Wph.two 8 14 (by kernel_rfl) rfl rfl rfl rfl ?_ ?_
  · refine Wpl.callM rfl rfl rfl hcl (Pk.nil _) (HasF.cons (HasF.r 1 rfl) HasF.nil) ?_
    rintro v3 _ ⟨F3, rfl, hr3⟩
    have h31 := hr3.row.one
    obtain ⟨p3, q3, he3⟩ := hr3.row.len
    refine Wpl.nil ⟨fun _ h => h, Sel.nil _, ?_⟩
    refine Wph.take 13 rfl (by kernel_rfl) rfl (fun _ _ _ _ h => h) (fun _ h => h) (by first | exact Sel.refl _ | exact Sel.tail _ _ | exact Sel.nil _ | exact (Sel.tail _ _).trans (Sel.tail _ _) | exact (Sel.tail _ _).trans ((Sel.tail _ _).trans (Sel.tail _ _))) ?_
    refine Wpl.build (cs := [.bool hi, v3, .int .i64 n]) rfl (by subst he3; rfl) ?_
    repeat' (apply Wpl.nil)
    refine Wph.one 14 (by kernel_rfl) rfl rfl ?_
    refine Wpl.new rfl (fun b3 => ?_)
    refine Wpl.nil ⟨fun _ h => h, Sel.nil _, ?_⟩
    refine Wph.one 15 (by kernel_rfl) rfl rfl ?_
    refine Wpl.stAgg0 (cs := #[.bool hi, v3, .int .i64 n]) rfl rfl rfl rfl rfl (one_cons rfl (one_cons hr3.row.one (one_cons rfl one_nil))) rfl ?_
    refine Wpl.nil ⟨fun _ h => h, Sel.nil _, ?_⟩
    refine Wph.done (by kernel_rfl) ?_
    repeat' (first | (apply Wpc.seqK; intro K hK) | apply Wpc.region | (apply hK; clear hK K))
    refine Wpl.callM rfl rfl rfl (align_spec (hfin b3 F3 v3 hr3) (by omega)) (Pk.cons 0 rfl (Pk.cons 0 rfl (Pk.nil _))) HasF.nil ?_
    rintro _ _ ⟨FW4, FB4, rfl, h4⟩
    obtain ⟨b5, v5, hb5, rfl, hr5⟩ := h4.at_
    cases hb5
    repeat' (first | (apply Wpc.seqK; intro K hK) | apply Wpc.region | apply Wpl.nil | (apply hK; clear hK K) | (apply Wpl.asg; exact rfl; (conv => lhs; whnf)) | apply Wpc.ret | (apply Wpl.fldS; exact rfl; exact rfl; exact rfl; exact rfl) | (apply Wpl.ld0x0; exact rfl; exact rfl; exact rfl; exact rfl))
    exact ⟨[_], _, ⟨rfl, trivial⟩, Sel.cons 1 rfl (Sel.nil _), fun _ h => h, FB4, rfl, hr5⟩
  · refine Wpl.new rfl (fun b3 => ?_)
    refine Wpl.nil ⟨fun _ h => h, Sel.nil _, ?_⟩
    refine Wph.one 8 (by kernel_rfl) rfl rfl ?_
    refine Wpl.callM rfl rfl rfl hcl (Pk.nil _) (HasF.cons (HasF.r 1 rfl) HasF.nil) ?_
    rintro v3 _ ⟨F3, rfl, hr3⟩
    have h31 := hr3.row.one
    obtain ⟨p3, q3, he3⟩ := hr3.row.len
    refine Wpl.nil ⟨fun _ h => h, Sel.nil _, ?_⟩
    refine Wph.take 13 rfl (by kernel_rfl) rfl (fun _ _ _ _ h => h) (fun _ h => h) (by first | exact Sel.refl _ | exact Sel.tail _ _ | exact Sel.nil _ | exact (Sel.tail _ _).trans (Sel.tail _ _) | exact (Sel.tail _ _).trans ((Sel.tail _ _).trans (Sel.tail _ _))) ?_
    refine Wpl.build (cs := [.bool hi, v3, .int .i64 n]) rfl (by subst he3; rfl) ?_
    repeat' (apply Wpl.nil)
    refine Wph.one 15 (by kernel_rfl) rfl rfl ?_
    refine Wpl.stAgg 1 0 (cs := #[.bool hi, v3, .int .i64 n]) rfl rfl rfl rfl rfl (one_cons rfl (one_cons hr3.row.one (one_cons rfl one_nil))) rfl ?_
    refine Wpl.nil ⟨fun _ h => h, Sel.nil _, ?_⟩
    refine Wph.done (by kernel_rfl) ?_
    repeat' (first | (apply Wpc.seqK; intro K hK) | apply Wpc.region | (apply hK; clear hK K))
    refine Wpl.callM rfl rfl rfl (align_spec (hfin b3 F3 v3 hr3) (by omega)) (Pk.cons 1 rfl (Pk.cons 0 rfl (Pk.nil _))) HasF.nil ?_
    rintro _ _ ⟨FW4, FB4, rfl, h4⟩
    obtain ⟨b5, v5, hb5, rfl, hr5⟩ := h4.at_
    cases hb5
    repeat' (first | (apply Wpc.seqK; intro K hK) | apply Wpc.region | apply Wpl.nil | (apply hK; clear hK K) | (apply Wpl.asg; exact rfl; (conv => lhs; whnf)) | apply Wpc.ret | (apply Wpl.fldS; exact rfl; exact rfl; exact rfl; exact rfl) | (apply Wpl.ld0x0; exact rfl; exact rfl; exact rfl; exact rfl))
    exact ⟨[_], _, ⟨rfl, trivial⟩, Sel.cons 1 rfl (Sel.nil _), fun _ h => h, FB4, rfl, hr5⟩
end Go.Proofs.Ytmfcgffdijnokaa
set_option maxRecDepth 100000
set_option maxHeartbeats 4000000
namespace Go.Proofs.Ytmfcgffdijnokaa
open Go.SL Go.RowKit
attribute [local irreducible] Wpl Wpc Wph
/-! block.pen.stored -/
def putP (hi : Bool) (p : List Int × Nat) (v : Int) (c : Nat) : List Int × Nat := (putB hi v c c p.1 p.2, p.2 + c)
def padP (hi : Bool) (p : List Int × Nat) : Nat → List Int × Nat
  | 0 => p
  | k + 1 => putP hi (padP hi p k) 0 1
theorem padP_n (hi : Bool) (p : List Int × Nat) : ∀ k, (padP hi p k).2 = p.2 + k
  | 0 => rfl
  | k + 1 => by show (padP hi p k).2 + 1 = _; rw [padP_n hi p k]; omega
def headP (hi : Bool) (p : List Int × Nat) (n : Nat) : List Int × Nat := putP hi (putP hi (padP hi p (alignK p.2)) n 16) (65535 - n) 16
def bytesP (hi : Bool) (p : List Int × Nat) (st : List Int) : List Int × Nat := st.foldl (fun p b => putP hi p b 8) p
theorem bytesP_snoc (hi : Bool) (p : List Int × Nat) (st : List Int) (b : Int) : bytesP hi p (st ++ [b]) = putP hi (bytesP hi p st) b 8 := by simp [bytesP]
theorem bytesP_n (hi : Bool) (p : List Int × Nat) (st : List Int) : (bytesP hi p st).2 = p.2 + 8 * st.length := by
  induction st generalizing p with
  | nil => rfl
  | cons b st ih => show (bytesP hi (putP hi p b 8) st).2 = _; rw [ih]; show p.2 + 8 + 8 * st.length = _; rw [List.length_cons]; omega
/-- pen.put in terms of states -/
theorem penPut_P {hi : Bool} {p : List Int × Nat} {vw : Value} {FW FB : Frag} {bp : Nat} (a : Int) (c : Nat) (h0 : Wr hi p.1 p.2 vw FW FB) (hn : p.2 ≤ 900000000000000) (hc : c ≤ 32) (ha : 0 ≤ a ∧ a < 2 ^ c) :
    Ctr Try.prog 38 [penV bp, .int .i64 a, .int .i64 (c : Int)] [] [penF bp vw .nilIface, FW, FB]
      (fun _ M' => ∃ FW' FB', M' = [penF bp vw .nilIface, FW', FB'] ∧ Wr hi (putP hi p a c).1 (putP hi p a c).2 vw FW' FB') := by
  have h32 : (2 : Int) ^ c ≤ 2 ^ 32 := by exact_mod_cast Nat.pow_le_pow_right (by decide) hc
  exact penPut_spec (a := a) (c := (c : Int)) h0 hn (by omega) ⟨ha.1, by omega⟩ (Int.ediv_eq_zero_of_lt ha.1 ha.2)
theorem stored_spec {hi : Bool} {p : List Int × Nat} {vw vs : Value} {FW FB Fs : Frag} {bp : Nat} {st : List Int} (h0 : Wr hi p.1 p.2 vw FW FB) (hn : p.2 ≤ 800000000000000) (hs : Row Fs 1 vs st.length (ints .u8 st)) (h8 : bytes8 st) (hl : st.length ≤ 65535) :
    Ctr Try.prog 39 [penV bp, vs] [Fs] [penF bp vw .nilIface, FW, FB]
      (fun _ M' => ∃ FW' FB', M' = [penF bp vw .nilIface, FW', FB'] ∧ Wr hi (bytesP hi (headP hi p st.length) st).1 (bytesP hi (headP hi p st.length) st).2 vw FW' FB') := by
  obtain ⟨a2, c2, rfl⟩ := hs.len
  have hal : alignK p.2 ≤ 7 ∧ (p.2 + alignK p.2) % 8 = 0 := by unfold alignK; omega
  refine Ctr.intro Try.func39 (by kernel_rfl) rfl (by conv => lhs; whnf) rfl fun W => ?_
  repeat' (apply Wpc.seqK; intro K hK)
  refine Wpc.block ?_
  refine Wpc.loop (ι := Nat × Frag × Frag) (fun i => i.1 ≤ alignK p.2 ∧ Wr hi (padP hi p i.1).1 (padP hi p i.1).2 vw i.2.1 i.2.2)
    (fun i => [(0, penV bp), (1, .slice a2 st.length c2)]) (fun i => [penF bp vw .nilIface, i.2.1, i.2.2]) (fun i => alignK p.2 - i.1) (0, FW, FB) ⟨by omega, h0⟩ ⟨rfl, rfl, trivial⟩ (Sel.refl _) ?_
  rintro ⟨k, FW', FB'⟩ g ⟨hk, h'⟩
  dsimp only at hk h' ⊢
  have hpn := padP_n hi p k
  have hwl := wlen_spec h'
  unfold penF penV
  repeat' (first | (apply Wpl.callP; exact rfl; exact rfl; exact rfl; exact rfl; (exact hwl); (refine HasF.cons (by (exact HasF.m 1 rfl)) HasF.nil)) | (apply Wpc.seqK; intro K hK) | apply Wpc.region | apply Wpl.nil | (apply hK; clear hK K) | (apply Wpl.mv; exact rfl; (conv => lhs; whnf)) | (apply Wpc.cond_true; exact rfl) | (apply Wpc.cond_false; exact rfl) | apply Wpc.block | apply Wpc.skip | apply Wpc.exit | (apply Wpl.nilCheck; exact rfl; exact rfl) | (apply Wpl.fldS; exact rfl; exact rfl; exact rfl; exact rfl) | (apply Wpl.ld0x0; exact rfl; exact rfl; exact rfl; exact rfl) | (apply Wpl.neq; exact rfl; exact rfl; exact rfl; all_goals (intro h; try (exfalso; omega))) | (apply Wpl.rem; exact rfl; exact rfl; exact rfl; omega) | (apply Wpl.len; exact rfl; exact rfl) | ((conv => whnf); clear hK K; apply hK; clear hK K))
  · refine Wpl.callM rfl rfl rfl (penPut_P (c := 1) 0 h' (by omega) (by omega) (by decide)) (Pk.cons 0 rfl (Pk.cons 0 rfl (Pk.cons 0 rfl (Pk.nil _)))) HasF.nil ?_
    rintro _ _ ⟨FW2, FB2, rfl, h2⟩
    repeat' (apply Wpl.nil)
    exact ⟨(k + 1, FW2, FB2), ⟨by unfold alignK at *; omega, h2⟩, by show alignK p.2 - (k + 1) < alignK p.2 - k; unfold alignK at *; omega, ⟨rfl, rfl, trivial⟩, Sel.refl _, fun _ h => h⟩
  have hka : k = alignK p.2 := by unfold alignK at *; omega
  subst hka
  refine Wpl.callM rfl rfl rfl (penPut_P (c := 16) (st.length : Int) h' (by omega) (by omega) (by omega)) (Pk.cons 0 rfl (Pk.cons 0 rfl (Pk.cons 0 rfl (Pk.nil _)))) HasF.nil ?_
  rintro _ _ ⟨FW2, FB2, rfl, h2⟩
  have hn2 : (putP hi (padP hi p (alignK p.2)) (st.length : Int) 16).2 = (padP hi p (alignK p.2)).2 + 16 := rfl
  repeat' (first | (apply Wpc.seqK; intro K hK) | apply Wpc.region | apply Wpl.nil | (apply hK; clear hK K) | (apply Wpl.mv; exact rfl; (conv => lhs; whnf)) | (apply Wpl.sub; exact rfl; exact rfl; exact rfl; omega) | (apply Wpl.len; exact rfl; exact rfl))
  refine Wpl.callM rfl rfl rfl (penPut_P (c := 16) (65535 - (st.length : Int)) h2 (by omega) (by omega) (by omega)) (Pk.cons 0 rfl (Pk.cons 0 rfl (Pk.cons 0 rfl (Pk.nil _)))) HasF.nil ?_
  rintro _ _ ⟨FW3, FB3, rfl, h3⟩
  repeat' (first | (apply Wpc.seqK; intro K hK) | apply Wpc.region | apply Wpl.nil | (apply hK; clear hK K) | (apply Wpl.mv; exact rfl; (conv => lhs; whnf)) | apply Wpc.block | (apply Wpl.len; exact rfl; exact rfl))
  have hn3 : (headP hi p st.length).2 = (padP hi p (alignK p.2)).2 + 16 + 16 := rfl
  refine Wpc.loop (ι := Nat × Frag × Frag) (fun i => i.1 ≤ st.length ∧ Wr hi (bytesP hi (headP hi p st.length) (st.take i.1)).1 (bytesP hi (headP hi p st.length) (st.take i.1)).2 vw i.2.1 i.2.2)
    (fun i => [(0, penV bp), (1, .slice a2 st.length c2), (24, .slice a2 st.length c2), (25, .int .i64 st.length), (26, .int .i64 i.1)]) (fun i => [penF bp vw .nilIface, i.2.1, i.2.2]) (fun i => st.length - i.1) (0, FW3, FB3) ⟨by omega, h3⟩ ⟨rfl, rfl, rfl, rfl, rfl, trivial⟩ (Sel.refl _) ?_
  rintro ⟨j, FW4, FB4⟩ g ⟨hj, h4⟩
  dsimp only at hj h4 ⊢
  have hbn := bytesP_n hi (headP hi p st.length) (st.take j)
  have hjl : (st.take j).length ≤ j := List.length_take_le _ _
  unfold penF penV
  repeat' (first | (apply Wpl.idxByteN; exact rfl; exact rfl; exact rfl; exact rfl; assumption; assumption; (exact HasF.r 0 rfl); omega; intro _ _ _) | (apply Wpc.seqK; intro K hK) | apply Wpc.region | apply Wpl.nil | (apply hK; clear hK K) | (apply Wpl.mv; exact rfl; (conv => lhs; whnf)) | (apply Wpl.asg; exact rfl; (conv => lhs; whnf)) | (apply Wpc.cond_true; exact rfl) | (apply Wpc.cond_false; exact rfl) | apply Wpc.block | apply Wpc.skip | apply Wpc.exit | (apply Wpl.lss; exact rfl; exact rfl; exact rfl; all_goals (intro h; try (exfalso; omega))) | (apply Wpl.i64; exact rfl; exact rfl; omega))
  · have hjs : j < st.length := by omega
    have hb := h8 st[j] (List.getElem_mem hjs)
    refine Wpl.callM rfl rfl rfl (penPut_P (c := 8) st[j] h4 (by omega) (by omega) ⟨hb.1, by omega⟩) (Pk.cons 0 rfl (Pk.cons 0 rfl (Pk.cons 0 rfl (Pk.nil _)))) HasF.nil ?_
    rintro _ _ ⟨FW5, FB5, rfl, h5⟩
    repeat' (first | apply Wpc.region | apply Wpl.nil | (apply hK; clear hK K) | (apply Wpl.mv; exact rfl; (conv => lhs; whnf)) | (apply Wpl.add; exact rfl; exact rfl; exact rfl; omega))
    exact ⟨(j + 1, FW5, FB5), ⟨by omega, by rw [take_snoc st j hjs, bytesP_snoc]; exact h5⟩, by show st.length - (j + 1) < st.length - j; omega, ⟨rfl, rfl, rfl, rfl, rfl, trivial⟩, Sel.refl _, fun _ h => h⟩
  · have hjs : j = st.length := by omega
    subst hjs
    rw [List.take_length] at h4
    exact ⟨[], _, trivial, Sel.refl _, fun _ h => h, FW4, FB4, rfl, h4⟩
end Go.Proofs.Ytmfcgffdijnokaa
set_option maxRecDepth 100000
set_option maxHeartbeats 4000000
namespace Go.Proofs.Ytmfcgffdijnokaa
open Go.SL Go.RowKit
attribute [local irreducible] Wpl Wpc Wph
/-! canon.Book: has -/
structure BookR (b : Nat) (FK FL FC : Frag) (l codes : List Int) : Prop where
  at_ : ∃ c vl vc, FK = [(b, .cells c 243 (0, 0))] ∧ c.toList[0]? = some vl ∧ c.toList[1]? = some vc ∧ Row FL 1 vl l.length (ints .i64 l) ∧ Row FC 1 vc l.length (ints .i64 codes)
def bookV (b : Nat) : Value := .pointer (some ⟨b, 0, none⟩)
theorem has_spec {b : Nat} {FK FL FC : Frag} {l codes : List Int} (hb : BookR b FK FL FC l codes) (s : Int) (hs : 0 ≤ s ∧ s < l.length) (hp : 0 < l[s.toNat]'(by omega)) :
    PSpec Try.prog 165 [bookV b, .int .i64 s] [FK, FL] (.bool true) := by
  obtain ⟨c, vl, vc, rfl, h0, h1, hl, hc⟩ := hb.at_
  obtain ⟨a1, c1, rfl⟩ := hl.len
  refine Ctr.intro Try.func165 (by kernel_rfl) rfl (by conv => lhs; whnf) rfl fun W => ?_
  unfold bookV
  repeat' (first | (apply Wpl.ldR0; exact rfl; exact rfl; exact rfl; assumption) | (apply Wpc.seqK; intro K hK) | apply Wpc.region | apply Wpl.nil | (apply hK; clear hK K) | (apply Wpl.mv; exact rfl; (conv => lhs; whnf)) | (apply Wpl.asg; exact rfl; (conv => lhs; whnf)) | (apply Wpl.guard_run; exact rfl; exact rfl) | (apply Wpl.pickT; exact rfl; exact rfl; (conv => lhs; whnf)) | apply Wpc.ret | (apply Wpl.nilCheck; exact rfl; exact rfl) | (apply Wpl.fldS; exact rfl; exact rfl; exact rfl; exact rfl) | (apply Wpl.lss; exact rfl; exact rfl; exact rfl; all_goals (intro h; try (exfalso; omega))) | (apply Wpl.gtr; exact rfl; exact rfl; exact rfl; all_goals (intro h; try (exfalso; omega))) | (apply Wpl.geq; exact rfl; exact rfl; exact rfl; all_goals (intro h; try (exfalso; omega))) | (apply Wpl.ptrNe; exact rfl; exact rfl; exact rfl; exact rfl) | (apply Wpl.len; exact rfl; exact rfl) | (apply Wpl.idxA; exact rfl; exact rfl; exact rfl; assumption; omega; omega; intro _ _ _) | (apply Wpl.ldP; exact rfl; exact rfl; assumption; (exact HasF.r 1 rfl)))
  exact ⟨[_], [], ⟨rfl, trivial⟩, Sel.nil _, fun _ h => h, rfl, rfl⟩
/-- the bits of a code, the highest first: k of its n bits are done -/
def codeP (hi : Bool) (v : Int) (n : Nat) (p : List Int × Nat) : Nat → List Int × Nat
  | 0 => p
  | k + 1 => putP hi (codeP hi v n p k) (((v / 2 ^ (n - 1 - k)).toNat &&& (1 : Int).toNat : Nat) : Int) 1
theorem codeP_n (hi : Bool) (v : Int) (n : Nat) (p : List Int × Nat) : ∀ k, (codeP hi v n p k).2 = p.2 + k
  | 0 => rfl
  | k + 1 => by show (codeP hi v n p k).2 + 1 = _; rw [codeP_n hi v n p k]; omega
theorem bit_bd (v : Int) (m : Nat) : 0 ≤ (((v / 2 ^ m).toNat &&& (1 : Int).toNat : Nat) : Int) ∧ (((v / 2 ^ m).toNat &&& (1 : Int).toNat : Nat) : Int) ≤ 1 := by
  have : (v / 2 ^ m).toNat &&& (1 : Int).toNat ≤ (1 : Int).toNat := Nat.and_le_right
  have e : (1 : Int).toNat = 1 := rfl
  omega
theorem put_P {hi : Bool} {p : List Int × Nat} {vw : Value} {FW FB : Frag} (a : Int) (c : Nat) (h0 : Wr hi p.1 p.2 vw FW FB) (hn : p.2 ≤ 900000000000000) (hc : c ≤ 32) (ha : 0 ≤ a ∧ a < 2 ^ c) :
    Ctr Try.prog 93 [vw, .int .i64 a, .int .i64 (c : Int)] [] [FW, FB]
      (fun r M' => ∃ FW' FB', r = .nilIface ∧ M' = [FW', FB'] ∧ Wr hi (putP hi p a c).1 (putP hi p a c).2 vw FW' FB') := by
  have h32 : (2 : Int) ^ c ≤ 2 ^ 32 := by exact_mod_cast Nat.pow_le_pow_right (by decide) hc
  exact put_spec (a := a) (c := (c : Int)) h0 hn (by omega) ⟨ha.1, by omega⟩ (Int.ediv_eq_zero_of_lt ha.1 ha.2)
theorem bookWrite_spec {b : Nat} {FK FL FC FW FB : Frag} {l codes : List Int} {hi : Bool} {p : List Int × Nat} {vw : Value} (hb : BookR b FK FL FC l codes) (h0 : Wr hi p.1 p.2 vw FW FB) (hn : p.2 ≤ 800000000000000) (s : Int) (hs : 0 ≤ s ∧ s < l.length) (hcl : codes.length = l.length)
    (hp : 0 < l[s.toNat]'(by omega) ∧ l[s.toNat]'(by omega) ≤ 16) (hv : 0 ≤ codes[s.toNat]'(by omega) ∧ codes[s.toNat]'(by omega) ≤ 65536) :
    Ctr Try.prog 138 [bookV b, vw, .int .i64 s] [FK, FL, FC] [FW, FB]
      (fun r M' => ∃ FW' FB', r = .nilIface ∧ M' = [FW', FB'] ∧ Wr hi (codeP hi (codes[s.toNat]'(by omega)) (l[s.toNat]'(by omega)).toNat p (l[s.toNat]'(by omega)).toNat).1 (codeP hi (codes[s.toNat]'(by omega)) (l[s.toNat]'(by omega)).toNat p (l[s.toNat]'(by omega)).toNat).2 vw FW' FB') := by
  have hhas := has_spec hb s hs hp.1
  obtain ⟨c, vl, vc, rfl, hc0, hc1, hl, hc⟩ := hb.at_
  obtain ⟨a1, c1, rfl⟩ := hl.len
  obtain ⟨b5, v5, hv5, hFW, hr5⟩ := h0.at_
  refine Ctr.intro Try.func138 (by kernel_rfl) rfl (by conv => lhs; whnf) rfl fun W => ?_
  unfold bookV
  subst hv5
  repeat' (first | (apply Wpl.callP; exact rfl; exact rfl; exact rfl; exact rfl; (exact hhas); (refine HasF.cons (by (exact HasF.r 0 rfl)) (HasF.cons (by (exact HasF.r 1 rfl)) HasF.nil))) | (apply Wpl.ldR0; exact rfl; exact rfl; exact rfl; assumption) | (apply Wpc.seqK; intro K hK) | apply Wpc.region | apply Wpl.nil | (apply hK; clear hK K) | (apply Wpl.mv; exact rfl; (conv => lhs; whnf)) | (apply Wpl.asg; exact rfl; (conv => lhs; whnf)) | (apply Wpl.guard_run; exact rfl; exact rfl) | (apply Wpl.pickF; exact rfl; exact rfl; (conv => lhs; whnf)) | (apply Wpc.cond_false; exact rfl) | apply Wpc.block | apply Wpc.skip | (apply Wpl.unNot; exact rfl; exact rfl) | (apply Wpl.nilCheck; exact rfl; exact rfl) | (apply Wpl.fldS; exact rfl; exact rfl; exact rfl; exact rfl) | (apply Wpl.sub; exact rfl; exact rfl; exact rfl; omega) | (apply Wpl.ptrEq; exact rfl; exact rfl; exact rfl; exact rfl) | (apply Wpl.idx; exact rfl; exact rfl; exact rfl; exact rfl; assumption; (exact HasF.r 1 rfl); omega; omega; intro _ _))
  generalize hge : l[s.toNat]'(by omega) = ln at *
  generalize hgc : codes[s.toNat]'(by omega) = cv at *
  refine Wpc.loop (ι := Nat × Frag × Frag) (fun i => i.1 ≤ ln.toNat ∧ Wr hi (codeP hi cv ln.toNat p i.1).1 (codeP hi cv ln.toNat p i.1).2 (.pointer (some ⟨b5, 0, none⟩)) i.2.1 i.2.2)
    (fun i => [(0, .pointer (some ⟨b, 0, none⟩)), (1, .pointer (some ⟨b5, 0, none⟩)), (2, .int .i64 s), (7, .int .i64 (ln - 1 - i.1))]) (fun i => [i.2.1, i.2.2]) (fun i => ln.toNat - i.1) (0, FW, FB) ⟨by omega, h0⟩ ⟨rfl, rfl, rfl, congrArg (Value.int .i64) (by show ln - 1 = ln - 1 - ((0 : Nat) : Int); omega), trivial⟩ (Sel.refl _) ?_
  rintro ⟨k, FW', FB'⟩ g ⟨hk, h'⟩
  dsimp only at hk h' ⊢
  have hcn := codeP_n hi cv ln.toNat p k
  have hcl2 : s < codes.length := by omega
  repeat' (first | (apply Wpl.ldR0; exact rfl; exact rfl; exact rfl; assumption) | (apply Wpc.seqK; intro K hK) | apply Wpc.region | apply Wpl.nil | (apply hK; clear hK K) | (apply Wpl.mv; exact rfl; (conv => lhs; whnf)) | (apply Wpl.asg; exact rfl; (conv => lhs; whnf)) | (apply Wpc.cond_true; exact rfl) | (apply Wpc.cond_false; exact rfl) | apply Wpc.block | apply Wpc.skip | apply Wpc.exit | apply Wpc.ret | (apply Wpl.nilCheck; exact rfl; exact rfl) | (apply Wpl.fldS; exact rfl; exact rfl; exact rfl; exact rfl) | (apply Wpl.geq; exact rfl; exact rfl; exact rfl; all_goals (intro h; try (exfalso; omega))) | (apply Wpl.idx; exact rfl; exact rfl; exact rfl; exact rfl; assumption; (exact HasF.r 2 rfl); omega; omega; intro _ _) | ((conv => whnf); clear hK K; apply hK; clear hK K))
  · have hkn : k < ln.toNat := by omega
    have hsh : (codes[s.toNat]'(by omega)) / 2 ^ (ln - 1 - (k : Int)).toNat = cv / 2 ^ (ln.toNat - 1 - k) := by
      rw [hgc, show (ln - 1 - (k : Int)).toNat = ln.toNat - 1 - k by omega]
    have hbb := bit_bd cv (ln.toNat - 1 - k)
    have hdv : 0 ≤ cv / 2 ^ (ln.toNat - 1 - k) := Int.ediv_nonneg hv.1 (Int.le_of_lt (Int.pow_pos (by decide)))
    have hdl : cv / 2 ^ (ln.toNat - 1 - k) ≤ cv := Int.ediv_le_self _ hv.1
    refine Wpl.shrV rfl rfl rfl (by show 0 ≤ ln - 1 - (k : Int) ∧ ln - 1 - (k : Int) ≤ 64; omega) hsh ?_
    refine Wpl.and rfl rfl rfl (by omega) (by omega) ?_
    refine Wpl.callM rfl rfl rfl (put_P (c := 1) _ h' (by omega) (by omega) ⟨hbb.1, by omega⟩) (Pk.cons 0 rfl (Pk.cons 0 rfl (Pk.nil _))) HasF.nil ?_
    rintro _ _ ⟨FW2, FB2, rfl, rfl, h2⟩
    repeat' (first | (apply Wpc.seqK; intro K hK) | apply Wpc.region | apply Wpl.nil | (apply hK; clear hK K) | (apply Wpl.mv; exact rfl; (conv => lhs; whnf)) | (apply Wpl.asg; exact rfl; (conv => lhs; whnf)) | (apply Wpc.cond_false; exact rfl) | apply Wpc.skip | (apply Wpl.sub; exact rfl; exact rfl; exact rfl; omega) | (apply Wpl.errNeNil; exact rfl; exact rfl))
    exact ⟨(k + 1, FW2, FB2), ⟨by omega, h2⟩, by show ln.toNat - (k + 1) < ln.toNat - k; omega, ⟨rfl, rfl, rfl, congrArg (Value.int .i64) (by show ln - 1 - (k : Int) - 1 = ln - 1 - ((k + 1 : Nat) : Int); omega), trivial⟩, Sel.refl _, fun _ h => h⟩
  · have hkn : k = ln.toNat := by omega
    subst hkn
    exact ⟨[_], _, ⟨rfl, trivial⟩, Sel.refl _, fun _ h => h, FW', FB', rfl, rfl, h'⟩
end Go.Proofs.Ytmfcgffdijnokaa
set_option maxRecDepth 100000
set_option maxHeartbeats 4000000
namespace Go.Proofs.Ytmfcgffdijnokaa
open Go.SL Go.RowKit
attribute [local irreducible] Wpl Wpc Wph
/-! block.pen.symbol -/
theorem symbol_spec {b bp : Nat} {FK FL FC FW FB : Frag} {l codes : List Int} {hi : Bool} {p : List Int × Nat} {vw : Value} (hb : BookR b FK FL FC l codes) (h0 : Wr hi p.1 p.2 vw FW FB) (hn : p.2 ≤ 800000000000000) (s : Int) (hs : 0 ≤ s ∧ s < l.length) (hcl : codes.length = l.length)
    (hp : 0 < l[s.toNat]'(by omega) ∧ l[s.toNat]'(by omega) ≤ 16) (hv : 0 ≤ codes[s.toNat]'(by omega) ∧ codes[s.toNat]'(by omega) ≤ 65536) :
    Ctr Try.prog 98 [penV bp, bookV b, .int .i64 s] [FK, FL, FC] [penF bp vw .nilIface, FW, FB]
      (fun r M' => ∃ FW' FB', M' = [penF bp vw .nilIface, FW', FB'] ∧ Wr hi (codeP hi (codes[s.toNat]'(by omega)) (l[s.toNat]'(by omega)).toNat p (l[s.toNat]'(by omega)).toNat).1 (codeP hi (codes[s.toNat]'(by omega)) (l[s.toNat]'(by omega)).toNat p (l[s.toNat]'(by omega)).toNat).2 vw FW' FB') := by
  have hw := bookWrite_spec hb h0 hn s hs hcl hp hv
  refine Ctr.intro Try.func98 (by kernel_rfl) rfl (by conv => lhs; whnf) rfl fun W => ?_
  unfold penF penV
  repeat' (first | (apply Wpc.seqK; intro K hK) | apply Wpc.region | apply Wpl.nil | (apply hK; clear hK K) | (apply Wpl.mv; exact rfl; (conv => lhs; whnf)) | (apply Wpc.cond_true; exact rfl) | (apply Wpl.nilCheck; exact rfl; exact rfl) | (apply Wpl.fldS; exact rfl; exact rfl; exact rfl; exact rfl) | (apply Wpl.ld0x0; exact rfl; exact rfl; exact rfl; exact rfl) | (apply Wpl.errEqNil; exact rfl; exact rfl))
  refine Wpl.callM rfl rfl rfl hw (Pk.cons 1 rfl (Pk.cons 1 rfl (Pk.nil _))) (HasF.cons (HasF.r 0 rfl) (HasF.cons (HasF.r 1 rfl) (HasF.cons (HasF.r 2 rfl) HasF.nil))) ?_
  rintro _ _ ⟨FW2, FB2, rfl, rfl, h2⟩
  repeat' (first | (apply Wpl.nilCheck; exact rfl; exact rfl) | (apply Wpl.fldS; exact rfl; exact rfl; exact rfl; exact rfl))
  refine Wpl.st2_0 rfl rfl rfl rfl rfl (by simp) ?_
  repeat' (apply Wpl.nil)
  exact ⟨[], _, trivial, Sel.cons 2 rfl (Sel.cons 0 rfl (Sel.cons 0 rfl (Sel.nil _))), fun _ h => h, FW2, FB2, rfl, h2⟩
end Go.Proofs.Ytmfcgffdijnokaa
