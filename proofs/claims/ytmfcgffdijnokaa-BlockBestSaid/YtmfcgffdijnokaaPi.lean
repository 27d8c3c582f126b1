/- contracts: items, packages, best packages, lengths -/
import Derived.Test.YtmfcgffdijnokaaPh
set_option linter.unusedVariables false
set_option linter.unusedSimpArgs false
set_option linter.unusedSectionVars false
set_option maxRecDepth 100000
set_option maxHeartbeats 4000000
namespace Go.Proofs.Ytmfcgffdijnokaa
open Go.SL Go.RowKit
attribute [local irreducible] Wpl Wpc Wph
/-! merge.items, merge.packages -/
section
variable {q : Md} {C : Cx} {ops : Array Oper} {rest : List Oper} {Q : Exit → Env → List Frag → List Frag → Prop} {f : Env} {R M : List Frag}
variable {d : Nat} {ty T : TypeId} {pos : String} {af : Array Edge} {x y : Operand}
theorem Sat.joinM {F1 F2 : Frag} {w : World} (h : Sat C R (F1 :: F2 :: M) w) : Sat C R ((F1 ++ F2) :: M) w := by
  have e : keys ((F1 ++ F2) :: M) = keys (F1 :: F2 :: M) := by simp [keys]
  refine ⟨h.os, h.tape, h.output, h.size, h.keep, h.ro, fun F hF => ?_, by rw [e]; exact h.nodup, fun F hF p hp => by rw [e]; exact h.apart F hF p hp, fun k hk => h.dirty k (by rw [← e]; exact hk)⟩
  rcases List.mem_cons.1 hF with rfl | hF
  · intro p hp
    rcases List.mem_append.1 hp with hp | hp
    · exact h.mu F1 (by simp) p hp
    · exact h.mu F2 (by simp) p hp
  · exact h.mu F (by simp [hF])
theorem Wpl.joinM {F1 F2 : Frag} (k : Wpl .seq C ops rest Q f R ((F1 ++ F2) :: M)) : Wpl .seq C ops rest Q f R (F1 :: F2 :: M) := by
  unfold Wpl at k ⊢
  exact fun a w ha hw => k a w ha (Sat.joinM hw)
theorem Wpc.joinM {c : Code} {F1 F2 : Frag} (k : Wpc C c Q f R ((F1 ++ F2) :: M)) : Wpc C c Q f R (F1 :: F2 :: M) := by
  unfold Wpc at k ⊢
  exact fun a w ha hw => k a w ha (Sat.joinM hw)
/-- the address of an item: of its weight, and of its symbols -/
theorem Wpl.idxItem {F : Frag} {v : Value} {E by_ : TypeId} {z : Value} {l : List (Int × Value)} {n : Nat} {m : Nat} {ki : IntKind} {mi : Int} [hT : SliceT C.P T E] [hE : AggT C.P E 2 z by_] (hd : Nat.blt d C.n = true) (hs : f.ev x = v) (hrow : Row F 2 v n (flat itemC l)) (hi : f.ev y = .int ki mi) (hm : m < l.length) (hmi : mi = (m : Int))
    (k : ∀ b off, Pts F (.pointer (some ⟨b, off + 0, none⟩)) (.int .i64 (l[m]'hm).1) → Pts F (.pointer (some ⟨b, off + 1, none⟩)) (l[m]'hm).2 → Wpl q C ops rest Q (f.upd d (.pointer (some ⟨b, off, none⟩))) R M) :
    Wpl q C ops (⟨some d, .indexAddr T x y, ty, pos, af, none⟩ :: rest) Q f R M := by
  subst hmi
  have hn : n = l.length := by
    have := hrow.1
    rw [flat_length itemC_len] at this
    omega
  have hat := flat_at itemC_len l m hm
  have hlen : (flat itemC l).length = l.length * 2 := flat_length itemC_len l
  refine Wpl.indexAddr hd hT.h hE.h hs hrow hi ⟨by omega, by omega⟩ fun b off c E' fz hp hc => k b off ⟨b, off + 0, c, E', fz, rfl, hp, ?_⟩ ⟨b, off + 1, c, E', fz, rfl, hp, ?_⟩
  · have h0 := hc 0 (by omega)
    have e : (flat itemC l)[m * 2 + 0]? = some (.int .i64 l[m].1) := by
      have : (((flat itemC l).drop (m * 2)).take 2)[0]? = (itemC l[m])[0]? := by rw [hat]
      rw [List.getElem?_take, if_pos (by omega), List.getElem?_drop] at this
      exact this
    rw [show ((m : Int).toNat) = m from rfl, e] at h0
    simpa using h0
  · have h0 := hc 1 (by omega)
    have e : (flat itemC l)[m * 2 + 1]? = some l[m].2 := by
      have : (((flat itemC l).drop (m * 2)).take 2)[1]? = (itemC l[m])[1]? := by rw [hat]
      rw [List.getElem?_take, if_pos (by omega), List.getElem?_drop] at this
      exact this
    rw [show ((m : Int).toNat) = m from rfl, e] at h0
    simpa using h0
end
/-- items, and what they stand for; their symbols lie in S -/
abbrev GI := (Int × Value) × Pm.It
def Rep (S : Frag) (z : GI) : Prop := z.1.1 = z.2.1 ∧ Row S 1 z.1.2 z.2.2.length (ints .i64 z.2.2)
def RepL (S : Frag) (Z : List GI) : Prop := ∀ z ∈ Z, Rep S z
def gv (Z : List GI) : List (Int × Value) := Z.map (·.1)
def gm (Z : List GI) : List Pm.It := Z.map (·.2)
theorem gv_len (Z : List GI) : (gv Z).length = Z.length := by simp [gv]
theorem gm_len (Z : List GI) : (gm Z).length = Z.length := by simp [gm]
theorem gv_append (A B : List GI) : gv (A ++ B) = gv A ++ gv B := by simp [gv]
theorem gm_append (A B : List GI) : gm (A ++ B) = gm A ++ gm B := by simp [gm]
theorem Rep.mono {S S' : Frag} {z : GI} (h : Rep S z) (hs : ∀ p ∈ S, p ∈ S') : Rep S' z := ⟨h.1, h.2.mono hs⟩
theorem RepL.mono {S S' : Frag} {Z : List GI} (h : RepL S Z) (hs : ∀ p ∈ S, p ∈ S') : RepL S' Z := fun z hz => (h z hz).mono hs
theorem Rep.sl {S : Frag} {z : GI} (h : Rep S z) : isSl z.1.2 := by obtain ⟨a, c, e⟩ := h.2.len; exact ⟨a, _, c, e⟩
theorem Rep.slen {S : Frag} {z : GI} (h : Rep S z) : slen z.1.2 = z.2.2.length := by obtain ⟨a, c, e⟩ := h.2.len; rw [e]; rfl
def OwnG (F : Frag) (v : Value) (Z : List GI) : Prop := OwnRow 245 2 F v Z.length (flat itemC (gv Z))
theorem rep_less {S : Frag} {z w : GI} (hz : Rep S z) (hw : Rep S w) : less z.1 w.1 ↔ Pm.less z.2 w.2 := by
  unfold less Pm.less
  rw [hz.1, hw.1, hz.slen, hw.slen]
/-- the stable sort of items -/
theorem sortG_spec (F S : Frag) (v : Value) (Z : List GI) (hv : OwnG F v Z) (hl : Z.length ≤ 100000000) (hr : RepL S Z) :
    Ctr Try.prog 167 [v, fnV 168] [] [F]
      (fun _ M' => ∃ (F' : Frag) (Z' : List GI) (X : List Pm.TIt), M' = [F'] ∧ RepL S Z' ∧ OwnG F' v Z' ∧ gm Z' = X.map (·.1) ∧ X.Perm ((gm Z).zipIdx) ∧ X.Pairwise Pm.tlt) := by
  have e1 : ((gv Z).zipIdx).map (·.1) = gv Z := List.zipIdx_map_fst 0 _
  have hlz : ((gv Z).zipIdx).length = Z.length := by rw [List.length_zipIdx, gv_len]
  have hzm : ∀ x ∈ (gv Z).zipIdx, ∃ h : x.2 < Z.length, x.1 = (Z[x.2]).1 := by
    intro x hx
    have h := List.mem_zipIdx hx
    have hl := gv_len Z
    refine ⟨by omega, ?_⟩
    have := h.2.2
    simpa [gv] using this
  have hsl : ∀ x ∈ (gv Z).zipIdx, isSl x.1.2 := fun x hx => by
    obtain ⟨h, e⟩ := hzm x hx
    rw [e]
    exact (hr _ (List.getElem_mem _)).sl
  have htag : ((gv Z).zipIdx).Pairwise (fun x y => x.2 < y.2) := by
    have h : ((gv Z).zipIdx).map (·.2) = List.range' 0 (gv Z).length := List.zipIdx_map_snd 0 _
    have h2 := List.pairwise_lt_range' (s := 0) (n := (gv Z).length) 1 (by decide)
    rw [← h, List.pairwise_map] at h2
    exact h2
  have hov : OwnT F v ((gv Z).zipIdx) := by
    unfold OwnT its
    rw [e1, hlz]
    exact hv
  refine (sortStable_spec F v ((gv Z).zipIdx) hov (by omega) hsl htag).mono ?_
  rintro _ _ ⟨F', S1, rfl, hp, hw, hv'⟩
  have hd : ∀ x ∈ S1, ∃ h : x.2 < Z.length, x.1 = (Z[x.2]).1 := fun x hx => hzm x (hp.mem_iff.1 hx)
  have hget : ∀ x ∈ S1, ∀ h : x.2 < Z.length, Z[x.2]?.getD ((0, undef), (0, [])) = Z[x.2] := fun x hx h => by simp [h]
  let g : TI → GI := fun x => Z[x.2]?.getD ((0, undef), (0, []))
  have hg1 : ∀ x ∈ S1, (g x).1 = x.1 := fun x hx => by obtain ⟨h, e⟩ := hd x hx; show (Z[x.2]?.getD _).1 = _; rw [hget x hx h, e]
  have hgr : ∀ x ∈ S1, Rep S (g x) := fun x hx => by obtain ⟨h, e⟩ := hd x hx; show Rep S (Z[x.2]?.getD _); rw [hget x hx h]; exact hr _ (List.getElem_mem _)
  have hgv : gv (S1.map g) = its S1 := by
    simp only [gv, its, List.map_map]
    exact List.map_congr_left fun x hx => hg1 x hx
  refine ⟨F', S1.map g, S1.map (fun x => ((g x).2, x.2)), rfl, fun z hz => ?_, ?_, ?_, ?_, ?_⟩
  · obtain ⟨x, hx, rfl⟩ := List.mem_map.1 hz
    exact hgr x hx
  · unfold OwnG
    rw [hgv]
    exact OwnRow.cast hv' (by simp) rfl
  · simp [gm]
  · refine (hp.map (fun x => ((g x).2, x.2))).trans ?_
    have : ((gv Z).zipIdx).map (fun x => ((g x).2, x.2)) = (gm Z).zipIdx := by
      apply List.ext_getElem
      · simp [gv, gm]
      · intro i h1 h2
        have hi : i < Z.length := by simpa [gv] using h1
        simp only [List.getElem_map, List.getElem_zipIdx, Nat.zero_add, gm]
        show ((Z[i]?.getD _).2, i) = _
        simp [hi]
    rw [this]
  · rw [List.pairwise_map]
    refine List.Pairwise.imp_of_mem ?_ hw
    intro x y hx hy h
    unfold lt at h
    unfold Pm.tlt
    rw [← hg1 x hx, ← hg1 y hy, rep_less (hgr x hx) (hgr y hy), rep_less (hgr y hy) (hgr x hx)] at h
    exact h
theorem gv_snoc (Z : List GI) (z : GI) : gv (Z ++ [z]) = gv Z ++ [z.1] := by simp [gv]
theorem flat_snoc (l : List (Int × Value)) (t : Int × Value) : flat itemC (l ++ [t]) = flat itemC l ++ itemC t := by simp [flat]
theorem items_spec (F : Frag) (v : Value) (l : List Int) (hv : Row F 1 v l.length (ints .i64 l)) (hl : l.length ≤ 1000000) :
    Ctr Try.prog 140 [v] [F] [] (fun r M' => ∃ (F' S : Frag) (Z : List GI), M' = [F', S] ∧ RepL S Z ∧ OwnG F' r Z ∧ gm Z = Pm.leaves (Pm.sortP (Pm.lvs l))) := by
  obtain ⟨a1, c1, rfl⟩ := hv.len
  refine Ctr.intro Try.func140 (by kernel_rfl) rfl (by conv => lhs; whnf) rfl fun W => ?_
  refine Wpc.addNil ?_
  refine Wpc.addNil ?_
  repeat' (first | (apply Wpc.seqK; intro K hK) | apply Wpc.region | apply Wpl.nil | (apply hK; clear hK K) | (apply Wpl.mv; exact rfl; (conv => lhs; whnf)) | (apply Wpl.asg; exact rfl; (conv => lhs; whnf)) | apply Wpc.block | (apply Wpl.len; exact rfl; exact rfl))
  refine Wpc.loop (ι := Nat × List GI × Value × Frag × Frag) (fun i => i.1 ≤ l.length ∧ gm i.2.1 = Pm.leaves (Pm.lvsU l i.1) ∧ RepL i.2.2.2.1 i.2.1 ∧ OwnG i.2.2.2.2 i.2.2.1 i.2.1)
    (fun i => [(3, i.2.2.1), (6, .slice a1 l.length c1), (7, .int .i64 l.length), (8, .int .i64 i.1)]) (fun i => [i.2.2.2.1, i.2.2.2.2]) (fun i => l.length - i.1) (0, [], .slice none 0 0, [], []) ⟨by omega, rfl, fun z hz => absurd hz List.not_mem_nil, OwnRow.nil _ _⟩
    ⟨rfl, rfl, rfl, rfl, trivial⟩ (Sel.refl _) ?_
  rintro ⟨k, Z, vz, S, Fz⟩ g ⟨hk, hm, hr, hz⟩
  dsimp only at hk hm hr hz ⊢
  have hZl : Z.length = (Pm.lvsU l k).length := by rw [← gm_len, hm, Pm.leaves_len]
  have hZk := Pm.lvsU_len l k
  repeat' (first | (apply Wpc.seqK; intro K hK) | apply Wpc.region | apply Wpl.nil | (apply hK; clear hK K) | (apply Wpl.mv; exact rfl; (conv => lhs; whnf)) | (apply Wpc.cond_true; exact rfl) | (apply Wpc.cond_false; exact rfl) | apply Wpc.skip | apply Wpc.exit | (apply Wpl.lss; exact rfl; exact rfl; exact rfl; all_goals (intro h; try (exfalso; omega))) | ((conv => whnf); clear hK K; apply hK; clear hK K))
  · have hkl : k < l.length := by omega
    have hgk : l[k]?.getD 0 = l[k] := getD_get hkl
    refine Wpc.block ?_
    repeat' (first | (apply Wpc.seqK; intro K hK) | apply Wpc.region | apply Wpl.nil | (apply hK; clear hK K) | (apply Wpl.mv; exact rfl; (conv => lhs; whnf)) | (apply Wpl.asg; exact rfl; (conv => lhs; whnf)) | (apply Wpc.cond_true; exact rfl) | (apply Wpc.cond_false; exact rfl) | apply Wpc.skip | (apply Wpl.gtr; exact rfl; exact rfl; exact rfl; all_goals (intro h; try (exfalso; omega))) | (apply Wpl.add; exact rfl; exact rfl; exact rfl; omega) | (apply Wpl.idxN; exact rfl; exact rfl; exact rfl; exact rfl; assumption; (exact HasF.r 0 rfl); omega; intro _ _))
    · have hpos : 0 < l[k] := by omega
      refine Wpl.lit1 (cs := ints .i64 [(k : Int)]) rfl (by decide) (by decide) rfl rfl (fun vs Fs hs => ?_)
      have hsr := hs.row
      obtain ⟨p3, c3, rfl⟩ := hsr.len
      skip
      refine Wpl.build (cs := [.int .i64 l[k], .slice p3 1 c3]) rfl rfl ?_
      refine Wpl.app1 2 rfl rfl hz rfl rfl rfl (us := itemC (l[k], .slice p3 1 c3)) rfl rfl (by decide) rfl (one_cons rfl (one_cons rfl one_nil)) (by omega) (by unfold maxLen; omega) (fun p v' F' hv' => ?_)
      refine Wpl.joinM ?_
      repeat' (first | apply Wpc.region | apply Wpl.nil | (apply hK; clear hK K) | (apply Wpl.mv; exact rfl; (conv => lhs; whnf)) | (apply Wpl.asg; exact rfl; (conv => lhs; whnf)) | (apply Wpl.add; exact rfl; exact rfl; exact rfl; omega))
      refine ⟨(k + 1, Z ++ [((l[k], .slice p3 1 c3), (l[k], [(k : Int)]))], v', Fs ++ S, F'), ⟨by omega, ?_, ?_, ?_⟩, by show l.length - (k + 1) < l.length - k; omega, ⟨rfl, rfl, rfl, rfl, trivial⟩, Sel.refl _, fun _ h => h⟩
      · show gm _ = Pm.leaves (Pm.lvsU l (k + 1))
        rw [gm_append, hm, Pm.lvsU, hgk, if_pos hpos]
        simp [gm, Pm.leaves, Pm.leaf]
      · intro z hz'
        rcases List.mem_append.1 hz' with hz' | hz'
        · exact (hr z hz').mono fun p hp => List.mem_append_right _ hp
        · rw [List.mem_singleton.1 hz']
          exact ⟨rfl, hsr.mono fun p hp => List.mem_append_left _ hp⟩
      · show OwnRow 245 2 F' v' _ (flat itemC (gv _))
        rw [gv_snoc, flat_snoc]
        exact OwnRow.cast hv' (by simp) rfl
    · have hpos : ¬ 0 < l[k] := by omega
      refine ⟨(k + 1, Z, vz, S, Fz), ⟨by omega, ?_, hr, hz⟩, by show l.length - (k + 1) < l.length - k; omega, ⟨rfl, rfl, rfl, rfl, trivial⟩, Sel.refl _, fun _ h => h⟩
      show gm Z = Pm.leaves (Pm.lvsU l (k + 1))
      rw [hm, Pm.lvsU, hgk, if_neg hpos]
  · have hkn : k = l.length := by omega
    subst hkn
    have hsort := sortG_spec Fz S vz Z hz (by omega) hr
    skip
    refine Wpl.callM rfl rfl rfl hsort (Pk.cons 1 rfl (Pk.nil _)) HasF.nil ?_
    rintro _ _ ⟨F2, Z2, X, rfl, hr2, hz2, e1, e2, e3⟩
    repeat' (first | (apply Wpc.seqK; intro K hK) | apply Wpc.region | apply Wpl.nil | (apply hK; clear hK K) | (apply Wpl.mv; exact rfl; (conv => lhs; whnf)) | (apply Wpl.asg; exact rfl; (conv => lhs; whnf)) | apply Wpc.ret)
    refine ⟨[_], _, ⟨rfl, trivial⟩, Sel.refl _, fun _ h => h, F2, S, Z2, rfl, hr2, hz2, ?_⟩
    rw [e1]
    rw [hm] at e2
    exact Pm.leaves_unique (Pm.lvsU_pw l _) e2 e3
end Go.Proofs.Ytmfcgffdijnokaa
set_option maxRecDepth 100000
set_option maxHeartbeats 4000000
namespace Go.Proofs.Ytmfcgffdijnokaa
open Go.SL Go.RowKit
attribute [local irreducible] Wpl Wpc Wph
/-! merge.packages -/
section
variable {q : Md} {C : Cx} {ops : Array Oper} {rest : List Oper} {Q : Exit → Env → List Frag → List Frag → Prop} {f : Env} {R M : List Frag}
variable {d : Nat} {ty T : TypeId} {pos : String} {af : Array Edge} {x y : Operand}
theorem Wpl.litE {E : TypeId} {k bytes : Nat} {z u : Value} {us : List Value} [hT : SliceT C.P T E] [hE : AnyT C.P E k z bytes] (hd : Nat.blt d C.n = true) (hx : f.ev x = u) (hu : u.cells.toList = us) (hk : 0 < k ∧ k ≤ 16777216) (hul : us.length = k)
    (k1 : ∀ b F, Row F k (.slice (some ⟨b, 0, none⟩) 1 1) 1 us → Wpl .seq C ops rest Q (f.upd d (.slice (some ⟨b, 0, none⟩) 1 1)) R (F :: M)) :
    Wpl .seq C ops (⟨some d, .buildSlice T 1 #[(0, x)], ty, pos, af, none⟩ :: rest) Q f R M := by
  have hsz : u.cells.size = k := by rw [← hul, ← hu]; simp
  obtain ⟨agg, hE'⟩ := hE.h
  refine Wpl.lit (cs := u.cells) hd (by omega) (by omega) ?_ fun b => k1 b _ ⟨by omega, _, _, rfl, Nat.le_refl _, by unfold maxLen; omega, fun _ => ⟨b, 0, u.cells, E, (0, 0), rfl, List.mem_singleton.2 rfl, fun j hj => ?_⟩⟩
  · show Instr.fill _ _ [(0, f.ev x)] = _
    rw [hx]
    exact fill_one (by simp) rfl hsz
  · rw [← hu]
    simp
end
theorem packs_get : ∀ (l : List Pm.It) (j : Nat) (h : j < (Pm.packs l).length), (Pm.packs l)[j] = ((l[2 * j]'(by rw [Pm.packs_length] at h; omega)).1 + (l[2 * j + 1]'(by rw [Pm.packs_length] at h; omega)).1, (l[2 * j]'(by rw [Pm.packs_length] at h; omega)).2 ++ (l[2 * j + 1]'(by rw [Pm.packs_length] at h; omega)).2)
  | [], j, h => by simp [Pm.packs] at h
  | [x], j, h => by simp [Pm.packs] at h
  | x :: y :: l, 0, h => rfl
  | x :: y :: l, j + 1, h => by
    have ih := packs_get l j (by simpa [Pm.packs] using h)
    simp only [Pm.packs, List.getElem_cons_succ, ih]
    rfl
theorem packages_spec (Fz S : Frag) (v : Value) (Z : List GI) (hz : Row Fz 2 v Z.length (flat itemC (gv Z))) (hr : RepL S Z) (hl : Z.length ≤ 1000000) (hb : ∀ z ∈ Z, 0 ≤ z.2.1 ∧ z.2.1 ≤ 1152921504606846976 ∧ z.2.2.length ≤ 100000000) :
    Ctr Try.prog 170 [v] [Fz, S] [] (fun r M' => ∃ (F' S' : Frag) (Z' : List GI), M' = [F', S'] ∧ RepL S' Z' ∧ OwnG F' r Z' ∧ gm Z' = Pm.packs (gm Z)) := by
  obtain ⟨a1, c1, rfl⟩ := hz.len
  have hpl : (Pm.packs (gm Z)).length = Z.length / 2 := by rw [Pm.packs_length, gm_len]
  refine Ctr.intro Try.func170 (by kernel_rfl) rfl (by conv => lhs; whnf) rfl fun W => ?_
  refine Wpc.addNil ?_
  refine Wpc.addNil ?_
  repeat' (first | (apply Wpc.seqK; intro K hK) | apply Wpc.region | apply Wpl.nil | (apply hK; clear hK K) | (apply Wpl.asg; exact rfl; (conv => lhs; whnf)) | apply Wpc.block)
  refine Wpc.loop (ι := Nat × List GI × Value × Frag × Frag) (fun i => 2 * i.1 ≤ Z.length ∧ gm i.2.1 = (Pm.packs (gm Z)).take i.1 ∧ RepL i.2.2.2.1 i.2.1 ∧ OwnG i.2.2.2.2 i.2.2.1 i.2.1)
    (fun i => [(0, .slice a1 Z.length c1), (3, i.2.2.1), (4, .int .i64 ((2 * i.1 : Nat) : Int))]) (fun i => [i.2.2.2.1, i.2.2.2.2]) (fun i => Z.length - i.1) (0, [], .slice none 0 0, [], []) ⟨by omega, by simp [gm], fun z hz => absurd hz List.not_mem_nil, OwnRow.nil _ _⟩
    ⟨rfl, rfl, rfl, trivial⟩ (Sel.refl _) ?_
  rintro ⟨j, Y, vy, S', Fy⟩ g ⟨hj, hm, hry, hy⟩
  dsimp only at hj hm hry hy ⊢
  have hYl : Y.length = j := by rw [← gm_len, hm, List.length_take, hpl]; omega
  repeat' (first | (apply Wpc.seqK; intro K hK) | apply Wpc.region | apply Wpl.nil | (apply hK; clear hK K) | (apply Wpl.mv; exact rfl; (conv => lhs; whnf)) | (apply Wpl.asg; exact rfl; (conv => lhs; whnf)) | (apply Wpc.cond_true; exact rfl) | (apply Wpc.cond_false; exact rfl) | apply Wpc.skip | apply Wpc.exit | apply Wpc.ret | (apply Wpl.lss; exact rfl; exact rfl; exact rfl; all_goals (intro h; try (exfalso; omega))) | (apply Wpl.add; exact rfl; exact rfl; exact rfl; omega) | (apply Wpl.len; exact rfl; exact rfl) | ((conv => whnf); clear hK K; apply hK; clear hK K))
  · have hj2 : 2 * j + 1 < Z.length := by omega
    have hjp : j < (Pm.packs (gm Z)).length := by rw [hpl]; omega
    have hpg := packs_get (gm Z) j hjp
    have hlg := gv_len Z
    have hi0 : (gv Z)[2 * j]'(by omega) = (Z[2 * j]).1 := by simp [gv]
    have hi1 : (gv Z)[2 * j + 1]'(by omega) = (Z[2 * j + 1]).1 := by simp [gv]
    have hm0 : (gm Z)[2 * j]'(by rw [gm_len]; omega) = (Z[2 * j]).2 := by simp [gm]
    have hm1 : (gm Z)[2 * j + 1]'(by rw [gm_len]; omega) = (Z[2 * j + 1]).2 := by simp [gm]
    rw [hm0, hm1] at hpg
    have hrx := hr _ (List.getElem_mem (show 2 * j < Z.length by omega))
    have hry' := hr _ (List.getElem_mem hj2)
    have hbx := hb _ (List.getElem_mem (show 2 * j < Z.length by omega))
    have hby := hb _ (List.getElem_mem hj2)
    generalize hxd : Z[2 * j]'(by omega) = zx at *
    generalize hyd : Z[2 * j + 1]'(by omega) = zy at *
    obtain ⟨⟨wx, vx⟩, ⟨mx, sx⟩⟩ := zx
    obtain ⟨⟨wy, vy2⟩, ⟨my, sy⟩⟩ := zy
    obtain ⟨e1, hrx⟩ := hrx
    obtain ⟨e2, hry2⟩ := hry'
    dsimp only at e1 e2 hi0 hi1
    subst e1 e2
    dsimp only at hrx hry2 hbx hby hpg
    obtain ⟨px, cx, rfl⟩ := hrx.len
    obtain ⟨py, cy, rfl⟩ := hry2.len
    refine Wpc.block ?_
    skip
    refine Wpc.region_held (by kernel_rfl) [Fz, S] [] 30 rfl _ rfl ?_
    (refine Wph.take 0 rfl (by kernel_rfl) rfl (fun _ _ _ _ h => h) (fun _ h => h) (by first | exact Sel.refl _ | exact Sel.tail _ _ | exact Sel.nil _ | exact (Sel.tail _ _).trans (Sel.tail _ _) | exact (Sel.tail _ _).trans ((Sel.tail _ _).trans (Sel.tail _ _))) ?_; (repeat' (first | apply Wpl.nil | (apply Wpl.mv; exact rfl; (conv => lhs; whnf))))); (refine Wph.take 1 rfl (by kernel_rfl) rfl (fun _ _ _ _ h => h) (fun _ h => h) (by first | exact Sel.refl _ | exact Sel.tail _ _ | exact Sel.nil _ | exact (Sel.tail _ _).trans (Sel.tail _ _) | exact (Sel.tail _ _).trans ((Sel.tail _ _).trans (Sel.tail _ _))) ?_; (repeat' (first | apply Wpl.nil | (apply Wpl.mv; exact rfl; (conv => lhs; whnf))))); (refine Wph.take 2 rfl (by kernel_rfl) rfl (fun _ _ _ _ h => h) (fun _ h => h) (by first | exact Sel.refl _ | exact Sel.tail _ _ | exact Sel.nil _ | exact (Sel.tail _ _).trans (Sel.tail _ _) | exact (Sel.tail _ _).trans ((Sel.tail _ _).trans (Sel.tail _ _))) ?_; (repeat' (first | apply Wpl.nil | (apply Wpl.mv; exact rfl; (conv => lhs; whnf))))); skip
    refine Wph.take 3 rfl (by kernel_rfl) rfl (fun _ _ _ _ h => h) (fun _ h => h) (by first | exact Sel.refl _ | exact Sel.tail _ _ | exact Sel.nil _ | exact (Sel.tail _ _).trans (Sel.tail _ _) | exact (Sel.tail _ _).trans ((Sel.tail _ _).trans (Sel.tail _ _))) ?_
    refine Wpl.idxItem (m := 2 * j) rfl rfl hz rfl (by omega) (by omega) (fun b1 o1 p1 p1' => ?_)
    rw [hi0] at p1 p1'
    dsimp only at p1 p1'
    repeat' (apply Wpl.nil)
    (refine Wph.take 4 rfl (by kernel_rfl) rfl (fun _ _ _ _ h => h) (fun _ h => h) (by first | exact Sel.refl _ | exact Sel.tail _ _ | exact Sel.nil _ | exact (Sel.tail _ _).trans (Sel.tail _ _) | exact (Sel.tail _ _).trans ((Sel.tail _ _).trans (Sel.tail _ _))) ?_; (repeat' (first | apply Wpl.nil | (apply Wpl.fldS; exact rfl; exact rfl; exact rfl; exact rfl)))); (refine Wph.take 5 rfl (by kernel_rfl) rfl (fun _ _ _ _ h => h) (fun _ h => h) (by first | exact Sel.refl _ | exact Sel.tail _ _ | exact Sel.nil _ | exact (Sel.tail _ _).trans (Sel.tail _ _) | exact (Sel.tail _ _).trans ((Sel.tail _ _).trans (Sel.tail _ _))) ?_; (repeat' (first | apply Wpl.nil | (apply Wpl.ldP; exact rfl; exact rfl; assumption; (exact HasF.r 0 rfl))))); (refine Wph.take 6 rfl (by kernel_rfl) rfl (fun _ _ _ _ h => h) (fun _ h => h) (by first | exact Sel.refl _ | exact Sel.tail _ _ | exact Sel.nil _ | exact (Sel.tail _ _).trans (Sel.tail _ _) | exact (Sel.tail _ _).trans ((Sel.tail _ _).trans (Sel.tail _ _))) ?_; (repeat' (first | apply Wpl.nil | (apply Wpl.mv; exact rfl; (conv => lhs; whnf))))); (refine Wph.take 7 rfl (by kernel_rfl) rfl (fun _ _ _ _ h => h) (fun _ h => h) (by first | exact Sel.refl _ | exact Sel.tail _ _ | exact Sel.nil _ | exact (Sel.tail _ _).trans (Sel.tail _ _) | exact (Sel.tail _ _).trans ((Sel.tail _ _).trans (Sel.tail _ _))) ?_; (repeat' (first | apply Wpl.nil | (apply Wpl.mv; exact rfl; (conv => lhs; whnf))))); (refine Wph.take 8 rfl (by kernel_rfl) rfl (fun _ _ _ _ h => h) (fun _ h => h) (by first | exact Sel.refl _ | exact Sel.tail _ _ | exact Sel.nil _ | exact (Sel.tail _ _).trans (Sel.tail _ _) | exact (Sel.tail _ _).trans ((Sel.tail _ _).trans (Sel.tail _ _))) ?_; (repeat' (first | apply Wpl.nil | (apply Wpl.add; exact rfl; exact rfl; exact rfl; omega)))); skip
    refine Wph.take 9 rfl (by kernel_rfl) rfl (fun _ _ _ _ h => h) (fun _ h => h) (by first | exact Sel.refl _ | exact Sel.tail _ _ | exact Sel.nil _ | exact (Sel.tail _ _).trans (Sel.tail _ _) | exact (Sel.tail _ _).trans ((Sel.tail _ _).trans (Sel.tail _ _))) ?_
    refine Wpl.idxItem (m := 2 * j + 1) rfl rfl hz rfl (by omega) (by omega) (fun b2 o2 p2 p2' => ?_)
    rw [hi1] at p2 p2'
    dsimp only at p2 p2'
    repeat' (apply Wpl.nil)
    (refine Wph.take 10 rfl (by kernel_rfl) rfl (fun _ _ _ _ h => h) (fun _ h => h) (by first | exact Sel.refl _ | exact Sel.tail _ _ | exact Sel.nil _ | exact (Sel.tail _ _).trans (Sel.tail _ _) | exact (Sel.tail _ _).trans ((Sel.tail _ _).trans (Sel.tail _ _))) ?_; (repeat' (first | apply Wpl.nil | (apply Wpl.fldS; exact rfl; exact rfl; exact rfl; exact rfl)))); (refine Wph.take 11 rfl (by kernel_rfl) rfl (fun _ _ _ _ h => h) (fun _ h => h) (by first | exact Sel.refl _ | exact Sel.tail _ _ | exact Sel.nil _ | exact (Sel.tail _ _).trans (Sel.tail _ _) | exact (Sel.tail _ _).trans ((Sel.tail _ _).trans (Sel.tail _ _))) ?_; (repeat' (first | apply Wpl.nil | (apply Wpl.ldP; exact rfl; exact rfl; assumption; (exact HasF.r 0 rfl))))); (refine Wph.take 12 rfl (by kernel_rfl) rfl (fun _ _ _ _ h => h) (fun _ h => h) (by first | exact Sel.refl _ | exact Sel.tail _ _ | exact Sel.nil _ | exact (Sel.tail _ _).trans (Sel.tail _ _) | exact (Sel.tail _ _).trans ((Sel.tail _ _).trans (Sel.tail _ _))) ?_; (repeat' (first | apply Wpl.nil | (apply Wpl.add; exact rfl; exact rfl; exact rfl; omega)))); (refine Wph.take 13 rfl (by kernel_rfl) rfl (fun _ _ _ _ h => h) (fun _ h => h) (by first | exact Sel.refl _ | exact Sel.tail _ _ | exact Sel.nil _ | exact (Sel.tail _ _).trans (Sel.tail _ _) | exact (Sel.tail _ _).trans ((Sel.tail _ _).trans (Sel.tail _ _))) ?_; (repeat' (first | apply Wpl.nil | (apply Wpl.mv; exact rfl; (conv => lhs; whnf))))); (refine Wph.take 14 rfl (by kernel_rfl) rfl (fun _ _ _ _ h => h) (fun _ h => h) (by first | exact Sel.refl _ | exact Sel.tail _ _ | exact Sel.nil _ | exact (Sel.tail _ _).trans (Sel.tail _ _) | exact (Sel.tail _ _).trans ((Sel.tail _ _).trans (Sel.tail _ _))) ?_; (repeat' (first | apply Wpl.nil | (apply Wpl.mv; exact rfl; (conv => lhs; whnf))))); skip
    refine Wph.take 15 rfl (by kernel_rfl) rfl (fun _ _ _ _ h => h) (fun _ h => h) (by first | exact Sel.refl _ | exact Sel.tail _ _ | exact Sel.nil _ | exact (Sel.tail _ _).trans (Sel.tail _ _) | exact (Sel.tail _ _).trans ((Sel.tail _ _).trans (Sel.tail _ _))) ?_
    refine Wpl.idxItem (m := 2 * j) rfl rfl hz rfl (by omega) (by omega) (fun b3 o3 p3 p3' => ?_)
    rw [hi0] at p3 p3'
    dsimp only at p3 p3'
    repeat' (apply Wpl.nil)
    (refine Wph.take 16 rfl (by kernel_rfl) rfl (fun _ _ _ _ h => h) (fun _ h => h) (by first | exact Sel.refl _ | exact Sel.tail _ _ | exact Sel.nil _ | exact (Sel.tail _ _).trans (Sel.tail _ _) | exact (Sel.tail _ _).trans ((Sel.tail _ _).trans (Sel.tail _ _))) ?_; (repeat' (first | apply Wpl.nil | (apply Wpl.fldS; exact rfl; exact rfl; exact rfl; exact rfl)))); (refine Wph.take 17 rfl (by kernel_rfl) rfl (fun _ _ _ _ h => h) (fun _ h => h) (by first | exact Sel.refl _ | exact Sel.tail _ _ | exact Sel.nil _ | exact (Sel.tail _ _).trans (Sel.tail _ _) | exact (Sel.tail _ _).trans ((Sel.tail _ _).trans (Sel.tail _ _))) ?_; (repeat' (first | apply Wpl.nil | (apply Wpl.ldP; exact rfl; exact rfl; assumption; (exact HasF.r 0 rfl))))); (refine Wph.take 18 rfl (by kernel_rfl) rfl (fun _ _ _ _ h => h) (fun _ h => h) (by first | exact Sel.refl _ | exact Sel.tail _ _ | exact Sel.nil _ | exact (Sel.tail _ _).trans (Sel.tail _ _) | exact (Sel.tail _ _).trans ((Sel.tail _ _).trans (Sel.tail _ _))) ?_; (repeat' (first | apply Wpl.nil | (apply Wpl.mv; exact rfl; (conv => lhs; whnf))))); (refine Wph.take 19 rfl (by kernel_rfl) rfl (fun _ _ _ _ h => h) (fun _ h => h) (by first | exact Sel.refl _ | exact Sel.tail _ _ | exact Sel.nil _ | exact (Sel.tail _ _).trans (Sel.tail _ _) | exact (Sel.tail _ _).trans ((Sel.tail _ _).trans (Sel.tail _ _))) ?_; (repeat' (first | apply Wpl.nil | (apply Wpl.mv; exact rfl; (conv => lhs; whnf))))); (refine Wph.take 20 rfl (by kernel_rfl) rfl (fun _ _ _ _ h => h) (fun _ h => h) (by first | exact Sel.refl _ | exact Sel.tail _ _ | exact Sel.nil _ | exact (Sel.tail _ _).trans (Sel.tail _ _) | exact (Sel.tail _ _).trans ((Sel.tail _ _).trans (Sel.tail _ _))) ?_; (repeat' (first | apply Wpl.nil | (apply Wpl.add; exact rfl; exact rfl; exact rfl; omega)))); skip
    refine Wph.take 21 rfl (by kernel_rfl) rfl (fun _ _ _ _ h => h) (fun _ h => h) (by first | exact Sel.refl _ | exact Sel.tail _ _ | exact Sel.nil _ | exact (Sel.tail _ _).trans (Sel.tail _ _) | exact (Sel.tail _ _).trans ((Sel.tail _ _).trans (Sel.tail _ _))) ?_
    refine Wpl.idxItem (m := 2 * j + 1) rfl rfl hz rfl (by omega) (by omega) (fun b4 o4 p4 p4' => ?_)
    rw [hi1] at p4 p4'
    dsimp only at p4 p4'
    repeat' (apply Wpl.nil)
    (refine Wph.take 22 rfl (by kernel_rfl) rfl (fun _ _ _ _ h => h) (fun _ h => h) (by first | exact Sel.refl _ | exact Sel.tail _ _ | exact Sel.nil _ | exact (Sel.tail _ _).trans (Sel.tail _ _) | exact (Sel.tail _ _).trans ((Sel.tail _ _).trans (Sel.tail _ _))) ?_; (repeat' (first | apply Wpl.nil | (apply Wpl.fldS; exact rfl; exact rfl; exact rfl; exact rfl)))); (refine Wph.take 23 rfl (by kernel_rfl) rfl (fun _ _ _ _ h => h) (fun _ h => h) (by first | exact Sel.refl _ | exact Sel.tail _ _ | exact Sel.nil _ | exact (Sel.tail _ _).trans (Sel.tail _ _) | exact (Sel.tail _ _).trans ((Sel.tail _ _).trans (Sel.tail _ _))) ?_; (repeat' (first | apply Wpl.nil | (apply Wpl.ldP; exact rfl; exact rfl; assumption; (exact HasF.r 0 rfl))))); skip
    refine Wph.one 24 (by kernel_rfl) rfl rfl ?_
    refine Wpl.lit1 (cs := [.slice px sx.length cx, .slice py sy.length cy]) rfl (by decide) (by decide) rfl rfl (fun va Fa hva => ?_)
    refine Wpl.nil ⟨fun _ h => h, Sel.nil _, ?_⟩
    have hcat := concatI_spec Fa va [⟨S, .slice px sx.length cx, sx.length, ints .i64 sx⟩, ⟨S, .slice py sy.length cy, sy.length, ints .i64 sy⟩] hva.row (fun s hs => by
      rcases List.mem_cons.1 hs with rfl | hs
      · exact ⟨hrx, ints_one _ _⟩
      · rw [List.mem_singleton.1 hs]; exact ⟨hry2, ints_one _ _⟩) (by show 2 ≤ 1000000; omega) (by show sx.length + (sy.length + 0) ≤ _; omega)
    refine Wph.one 25 (by kernel_rfl) rfl rfl ?_
    refine Wpl.callM rfl rfl rfl hcat (Pk.nil _) (HasF.cons (HasF.m 0 rfl) (HasF.cons (HasF.r 1 rfl) (HasF.cons (HasF.r 1 rfl) HasF.nil))) ?_
    rintro vc _ ⟨Fc, rfl, hvc⟩
    have hcr : Row Fc 1 vc (sx ++ sy).length (ints .i64 (sx ++ sy)) := by
      have h := hvc.row
      have e1 : srcN [⟨S, .slice px sx.length cx, sx.length, ints .i64 sx⟩, ⟨S, .slice py sy.length cy, sy.length, ints .i64 sy⟩] = (sx ++ sy).length := by simp [srcN]
      have e2 : srcX [⟨S, .slice px sx.length cx, sx.length, ints .i64 sx⟩, ⟨S, .slice py sy.length cy, sy.length, ints .i64 sy⟩] = ints .i64 (sx ++ sy) := by simp [srcX, ints]
      rw [e1, e2] at h
      exact h
    obtain ⟨pc, cc, rfl⟩ := hcr.len
    refine Wpl.nil ⟨fun _ h => h, Sel.nil _, ?_⟩
    refine Wph.take 26 rfl (by kernel_rfl) rfl (fun _ _ _ _ h => h) (fun _ h => h) (by first | exact Sel.refl _ | exact Sel.tail _ _ | exact Sel.nil _ | exact (Sel.tail _ _).trans (Sel.tail _ _) | exact (Sel.tail _ _).trans ((Sel.tail _ _).trans (Sel.tail _ _))) ?_
    refine Wpl.build (cs := [.int .i64 (wx + wy), .slice pc (sx ++ sy).length cc]) rfl rfl ?_
    repeat' (apply Wpl.nil)
    refine Wph.one 27 (by kernel_rfl) rfl rfl ?_
    refine Wpl.litE (k := 2) (u := .agg #[.int .i64 (wx + wy), .slice pc (sx ++ sy).length cc]) (us := itemC (wx + wy, .slice pc (sx ++ sy).length cc)) rfl rfl rfl (by decide) rfl (fun b5 F5 h5 => ?_)
    refine Wpl.nil ⟨fun _ h => h, Sel.nil _, ?_⟩
    refine Wph.one 28 (by kernel_rfl) rfl rfl ?_
    refine Wpl.append 4 rfl hy rfl rfl rfl h5 (HasF.m 0 rfl) (by decide) (one_cons rfl (one_cons rfl one_nil)) (by omega) (by unfold maxLen; omega) (fun v' F' hv' => ?_)
    refine Wpl.sel (Sel.cons 1 rfl (Sel.cons 2 rfl (Sel.cons 2 rfl (Sel.nil _)))) ?_
    refine Wpl.joinM ?_
    refine Wpl.nil ⟨fun _ h => h, Sel.nil _, ?_⟩
    (refine Wph.take 29 rfl (by kernel_rfl) rfl (fun _ _ _ _ h => h) (fun _ h => h) (by first | exact Sel.refl _ | exact Sel.tail _ _ | exact Sel.nil _ | exact (Sel.tail _ _).trans (Sel.tail _ _) | exact (Sel.tail _ _).trans ((Sel.tail _ _).trans (Sel.tail _ _))) ?_; (repeat' (first | apply Wpl.nil | (apply Wpl.asg; exact rfl; (conv => lhs; whnf))))); skip
    refine Wph.done (by kernel_rfl) ?_
    repeat' (first | apply Wpc.region | apply Wpl.nil | (apply hK; clear hK K) | (apply Wpl.mv; exact rfl; (conv => lhs; whnf)) | (apply Wpl.asg; exact rfl; (conv => lhs; whnf)) | (apply Wpl.add; exact rfl; exact rfl; exact rfl; omega))
    refine ⟨(j + 1, Y ++ [((wx + wy, .slice pc (sx ++ sy).length cc), (wx + wy, sx ++ sy))], v', Fc ++ S', F'), ⟨by omega, ?_, ?_, ?_⟩, by show Z.length - (j + 1) < Z.length - j; omega, ⟨rfl, rfl, congrArg (Value.int .i64) (by show ((2 * j : Nat) : Int) + 2 = ((2 * (j + 1) : Nat) : Int); omega), trivial⟩, Sel.refl _, fun _ h => h⟩
    · show gm _ = (Pm.packs (gm Z)).take (j + 1)
      rw [gm_append, hm, take_snoc _ j hjp, hpg]
      rfl
    · intro z hz'
      rcases List.mem_append.1 hz' with hz' | hz'
      · exact (hry z hz').mono fun p hp => List.mem_append_right _ hp
      · rw [List.mem_singleton.1 hz']
        exact ⟨rfl, hcr.mono fun p hp => List.mem_append_left _ hp⟩
    · show OwnRow 245 2 F' v' _ (flat itemC (gv _))
      rw [gv_snoc, flat_snoc]
      exact OwnRow.cast hv' (by simp) rfl
  · have hj2 : Z.length ≤ 2 * j + 1 := by omega
    rw [List.take_of_length_le (by rw [hpl]; omega)] at hm
    skip
    exact ⟨[_], _, ⟨rfl, trivial⟩, Sel.cons 1 rfl (Sel.cons 0 rfl (Sel.nil _)), fun _ h => h, Fy, S', Y, rfl, hry, hy, hm⟩
end Go.Proofs.Ytmfcgffdijnokaa
set_option maxRecDepth 100000
set_option maxHeartbeats 4000000
namespace Go.Proofs.Ytmfcgffdijnokaa
open Go.SL Go.RowKit
attribute [local irreducible] Wpl Wpc Wph
/-! merge.best -/
section
variable {q : Md} {C : Cx} {ops : Array Oper} {rest : List Oper} {Q : Exit → Env → List Frag → List Frag → Prop} {f : Env} {R M : List Frag}
variable {d : Nat} {ty T : TypeId} {pos : String} {af : Array Edge} {x y : Operand}
/-- s[:h] of a row -/
theorem Wpl.sliceR {E : TypeId} {kk by_ : Nat} {z v : Value} {F : Frag} {n : Nat} {xs : List Value} {kh : IntKind} {h : Int} {hn : Nat} [hT : SliceT C.P T E] [hE : AnyT C.P E kk z by_] (hd : Nat.blt d C.n = true) (hx : f.ev x = v) (hy : f.ev y = .int kh h) (hr : Row F kk v n xs) (hh : h = (hn : Int)) (h1 : hn ≤ n)
    (k1 : ∀ a c, Row F kk (.slice a hn c) hn (xs.take (hn * kk)) → Wpl q C ops rest Q (f.upd d (.slice a hn c)) R M) : Wpl q C ops (⟨some d, .slice T x none (some y) none, ty, pos, af, none⟩ :: rest) Q f R M := by
  subst hh
  obtain ⟨hl, a, cap, rfl, h2, h3, h4⟩ := hr
  have hrow : Row F kk (.slice a n cap) n xs := ⟨hl, a, cap, rfl, h2, h3, h4⟩
  have hc1 : (hn : Int) ≤ (cap : Int) := by omega
  have hrun : ∀ w, (execOp f.ev ⟨some d, .slice T x none (some y) none, ty, pos, af, none⟩).run C.P w = .ok (.value (sliced a 0 hn cap kk)) w := fun w => by
    obtain ⟨agg, hE'⟩ := hE.h
    have he : C.P.underlying T = some (.slice (C.P.elem T)) := by have := hT.h; simp [Program.elem, this]
    have he2 : C.P.elem T = E := by have := hT.h; simp [Program.elem, this]
    simp [execOp, hx, hy, run_sliceAt_slice w T _ _ _ _ he, run_slice_h w T _ _ _ he kh (hn : Int) (by omega) hc1, he2, hE'.run_size]
  by_cases hz : n = 0
  · have hn0 : hn = 0 := by omega
    subst hz hn0
    refine Wpl.val rfl hd _ (fun w _ => hrun w) (k1 _ _ ⟨by simp, _, _, rfl, Nat.zero_le _, by omega, fun h => absurd h (by omega)⟩)
  · obtain ⟨b, off, c, E', fz, rfl, _⟩ := h4 (by omega)
    refine Wpl.val rfl hd (.slice (some ⟨b, off, none⟩) hn cap) (fun w _ => ?_) (k1 _ _ (hrow.take h1))
    rw [hrun]
    simp [sliced, addr_add]
end
def cntO (size : Nat) (l : List Int) : List Int := (List.range size).map fun (s : Nat) => ((l.count (s : Int) : Nat) : Int)
theorem cntO_len (size : Nat) (l : List Int) : (cntO size l).length = size := by simp [cntO]
theorem cntO_get {size : Nat} {l : List Int} {s : Nat} (h : s < (cntO size l).length) : (cntO size l)[s] = ((l.count (s : Int) : Nat) : Int) := by simp [cntO]
theorem cntO_snoc (size : Nat) (l : List Int) (s : Int) (h0 : 0 ≤ s) (h1 : s < size) : (cntO size l).set s.toNat ((l.count s : Nat) + 1 : Int) = cntO size (l ++ [s]) := by
  apply List.ext_getElem
  · simp [cntO]
  · intro i h2 h3
    rw [List.getElem_set]
    have hs : ((s.toNat : Nat) : Int) = s := by omega
    split
    · rename_i e
      subst e
      simp only [cntO, List.getElem_map, List.getElem_range, hs, List.count_append]
      simp
    · rename_i e
      simp only [cntO, List.getElem_map, List.getElem_range, List.count_append]
      have : List.count (i : Int) [s] = 0 := by
        rw [List.count_eq_zero]; intro hm; have := List.mem_singleton.1 hm; omega
      rw [this]; simp
theorem cntO_nil (size : Nat) : cntO size [] = List.replicate size 0 := by
  apply List.ext_getElem <;> simp [cntO]
def bestS (P : List (Int × Int)) (most : Nat) : List Int := if P.length = 1 then P.map (·.2) else Pm.syms ((Pm.row (Pm.leaves P) (most - 1)).take (2 * P.length - 2))
theorem gvm_append (A B : List GI) : flat itemC (gv (A ++ B)) = flat itemC (gv A) ++ flat itemC (gv B) := by simp [flat, gv]
theorem row_le (P : List (Int × Int)) (k : Nat) : (Pm.row (Pm.leaves P) k).length ≤ 2 * P.length := by
  rcases Nat.eq_zero_or_pos P.length with h | h
  · have hp : P = [] := List.eq_nil_of_length_eq_zero h
    subst hp
    induction k with
    | zero => simp [Pm.row, Pm.leaves]
    | succ k ih =>
      have : (Pm.row (Pm.leaves []) (k + 1)).length = 0 + (Pm.row (Pm.leaves []) k).length / 2 := by
        rw [show Pm.row (Pm.leaves []) (k + 1) = Pm.mrg (Pm.leaves []) (Pm.packs (Pm.row (Pm.leaves []) k)) from rfl, Pm.mrg_length, Pm.leaves_len, Pm.packs_length]; rfl
      rw [this]; simp at ih; rw [ih]; simp
  · have := Pm.row_upper P h k; omega
theorem row_syms {P : List (Int × Int)} : ∀ k, ∀ x ∈ Pm.row (Pm.leaves P) k, ∀ s ∈ x.2, ∃ p ∈ P, p.2 = s
  | 0, x, hx, s, hs => by
    obtain ⟨p, hp, rfl⟩ := List.mem_map.1 hx
    exact ⟨p, hp, by have h : s = p.2 := by simpa [Pm.leaf] using hs
                     exact h.symm⟩
  | k + 1, x, hx, s, hs => by
    rcases Pm.mrg_mem.1 hx with hx | hx
    · exact row_syms 0 x hx s hs
    · obtain ⟨u, v, hu, hv, rfl⟩ := Pm.mem_packs hx
      rcases List.mem_append.1 hs with hs | hs
      · exact row_syms k u hu s hs
      · exact row_syms k v hv s hs
theorem syms_snoc (l : List Pm.It) (k : Nat) (h : k < l.length) : Pm.syms (l.take (k + 1)) = Pm.syms (l.take k) ++ l[k].2 := by
  rw [take_snoc l k h]
  simp only [Pm.syms, List.flatMap_append, List.flatMap_cons, List.flatMap_nil, List.append_nil]
theorem syms_len {l : List Pm.It} {b : Nat} (h : ∀ x ∈ l, x.2.length ≤ b) : (Pm.syms l).length ≤ l.length * b := by
  induction l with
  | nil => simp [Pm.syms]
  | cons x l ih =>
    have h1 := ih fun y hy => h y (List.mem_cons_of_mem _ hy)
    have h2 := h x List.mem_cons_self
    simp only [Pm.syms, List.flatMap_cons, List.length_append, List.length_cons, Nat.add_mul] at *
    omega
theorem best_spec (Fz S : Frag) (v : Value) (Z : List GI) (P : List (Int × Int)) (size most : Nat) (hz : Row Fz 2 v Z.length (flat itemC (gv Z))) (hr : RepL S Z) (hP : gm Z = Pm.leaves P) (hl : P.length ≤ 1000) (hw : ∀ p ∈ P, 0 ≤ p.1 ∧ p.1 ≤ 1099511627776)
    (hs : ∀ p ∈ P, 0 ≤ p.2 ∧ p.2 < size) (hsz : size ≤ 1000000) (hm : 1 ≤ most ∧ most ≤ 16) (hlm : P.length ≤ 2 ^ most) (hsrt : Pm.Sorted (Pm.leaves P)) :
    Ctr Try.prog 141 [v, .int .i64 size, .int .i64 most] [Fz] [S] (fun r M' => ∃ F', M' = [F'] ∧ OwnRow 3 1 F' r size (ints .i64 (cntO size (bestS P most)))) := by
  obtain ⟨a1, c1, rfl⟩ := hz.len
  have hZP : Z.length = P.length := by rw [← gm_len, hP, Pm.leaves_len]
  have hrowbd := fun k => Pm.row_bd (P := P) (w := 1099511627776) hw k
  refine Ctr.intro Try.func141 (by kernel_rfl) rfl (by conv => lhs; whnf) rfl fun W => ?_
  repeat' (first | (apply Wpc.seqK; intro K hK) | apply Wpc.region | apply Wpl.nil | (apply hK; clear hK K) | (apply Wpl.mv; exact rfl; (conv => lhs; whnf)) | (apply Wpl.asg; exact rfl; (conv => lhs; whnf)))
  refine Wpl.mk1 rfl rfl rfl (by omega) (by omega) (by omega) rfl (fun vo Fo ho => ?_)
  have ho0 : OwnRow 3 1 Fo vo size (ints .i64 (cntO size [])) := OwnRow.cast ho (by omega) (by rw [cntO_nil, ints_replicate]; rfl)
  clear ho
  repeat' (first | (apply Wpc.seqK; intro K hK) | apply Wpc.region | apply Wpl.nil | (apply hK; clear hK K) | (apply Wpl.mv; exact rfl; (conv => lhs; whnf)) | (apply Wpl.asg; exact rfl; (conv => lhs; whnf)) | (apply Wpc.cond_true; exact rfl) | (apply Wpc.cond_false; exact rfl) | apply Wpc.block | apply Wpc.skip | (apply Wpl.eql; exact rfl; exact rfl; exact rfl; all_goals (intro h; try (exfalso; omega))) | (apply Wpl.sub; exact rfl; exact rfl; exact rfl; omega) | (apply Wpl.len; exact rfl; exact rfl))
  · have hn1 : Z.length = 1 := by omega
    have hP1 : P.length = 1 := by omega
    obtain ⟨p, rfl⟩ : ∃ p, P = [p] := List.length_eq_one_iff.1 hP1
    obtain ⟨z, rfl⟩ : ∃ z, Z = [z] := List.length_eq_one_iff.1 hn1
    obtain ⟨⟨wz, vz⟩, mz⟩ := z
    have hmz : mz = Pm.leaf p := by simpa [gm, Pm.leaves] using hP
    subst hmz
    obtain ⟨e1, hrz⟩ := hr _ List.mem_cons_self
    have hrz' : Row S 1 vz 1 (ints .i64 [p.2]) := hrz
    obtain ⟨pz, cz, rfl⟩ := hrz'.len
    have hp := hs p List.mem_cons_self
    refine Wpl.idxItem (m := 0) rfl rfl hz rfl (by show 0 < 1; omega) rfl (fun b1 o1 p1 p1' => ?_)
    have p2 : Pts Fz (.pointer (some ⟨b1, o1 + 1, none⟩)) (.slice pz 1 cz) := p1'
    clear p1 p1'
    repeat' (first | (apply Wpl.fldS; exact rfl; exact rfl; exact rfl; exact rfl) | (apply Wpl.ldP; exact rfl; exact rfl; assumption; (exact HasF.r 0 rfl)))
    refine Wpl.idx rfl rfl rfl rfl hrz' (HasF.m 1 rfl) (by decide) (by show (0 : Int) < 1; decide) (fun _ _ => ?_)
    skip
    refine Wpl.idxSt 0 (m := p.2) (u := .int .i64 1) rfl ho0 rfl rfl rfl hp.1 hp.2 (fun _ => rfl) rfl (fun _ F2 hv2 => ?_)
    rw [ints_set] at hv2
    have e2 := cntO_snoc size [] p.2 hp.1 hp.2
    rw [show ((List.count p.2 [] : Nat) : Int) + 1 = 1 from rfl] at e2
    rw [e2] at hv2
    repeat' (first | (apply Wpc.seqK; intro K hK) | apply Wpc.region | apply Wpl.nil | (apply hK; clear hK K) | (apply Wpl.mv; exact rfl; (conv => lhs; whnf)) | (apply Wpl.asg; exact rfl; (conv => lhs; whnf)) | apply Wpc.ret)
    exact ⟨[_], _, ⟨rfl, trivial⟩, Sel.cons 0 rfl (Sel.nil _), fun _ h => h, F2, rfl, hv2⟩
  · have hn1 : Z.length ≠ 1 := by omega
    refine Wpc.addNil ?_
    refine Wpc.loop (ι := Nat × List GI × Value × Frag × Frag × Frag) (fun i => i.1 ≤ most - 1 ∧ gm i.2.1 = Pm.row (Pm.leaves P) i.1 ∧ RepL i.2.2.2.1 i.2.1 ∧ RepL i.2.2.2.1 Z ∧ (i.2.2.2.2.2 = Fz ∨ i.2.2.2.2.2 = i.2.2.2.2.1) ∧ Row i.2.2.2.2.2 2 i.2.2.1 i.2.1.length (flat itemC (gv i.2.1)))
      (fun i => [(0, .slice a1 Z.length c1), (1, .int .i64 size), (2, .int .i64 most), (7, vo), (8, i.2.2.1), (29, .int .i64 ((most - 1 : Nat) : Int)), (30, .int .i64 i.1)]) (fun i => [i.2.2.2.1, Fo, i.2.2.2.2.1]) (fun i => most - 1 - i.1) (0, Z, .slice a1 Z.length c1, S, [], Fz)
      ⟨Nat.zero_le _, hP, hr, hr, .inl rfl, hz⟩ ⟨rfl, rfl, rfl, rfl, rfl, congrArg (Value.int .i64) (by omega), rfl, trivial⟩ (Sel.cons 2 rfl (Sel.cons 1 rfl (Sel.cons 0 rfl (Sel.nil _)))) ?_
    rintro ⟨k, Y, vy, S', Fr, G⟩ g ⟨hk, hm2, hry, hrz, hG, hy⟩
    dsimp only at hk hm2 hry hrz hG hy ⊢
    have hYl : Y.length = (Pm.row (Pm.leaves P) k).length := by rw [← gm_len, hm2]
    have hYle := row_le P k
    have hGF : HasF [Fz] [S', Fo, Fr] G := by
      rcases hG with rfl | rfl
      · exact HasF.r 0 rfl
      · exact HasF.m 2 rfl
    have hbk : ∀ z ∈ Y, 0 ≤ z.2.1 ∧ z.2.1 ≤ 1152921504606846976 ∧ z.2.2.length ≤ 32768 ∧ ∀ s ∈ z.2.2, 0 ≤ s ∧ s < size := fun z hz => by
      have hmem : z.2 ∈ Pm.row (Pm.leaves P) k := by rw [← hm2]; exact List.mem_map_of_mem hz
      have h := hrowbd k _ hmem
      have h1 : (2 : Int) ^ k ≤ 2 ^ 15 := by exact_mod_cast Nat.pow_le_pow_right (by decide) (show k ≤ 15 by omega)
      have h2 : (2 : Nat) ^ k ≤ 2 ^ 15 := Nat.pow_le_pow_right (by decide) (by omega)
      refine ⟨h.1, by omega, by omega, fun s hs' => ?_⟩
      obtain ⟨p, hp, rfl⟩ := row_syms k _ hmem s hs'
      exact hs p hp
    repeat' (first | (apply Wpc.seqK; intro K hK) | apply Wpc.region | apply Wpl.nil | (apply hK; clear hK K) | (apply Wpl.mv; exact rfl; (conv => lhs; whnf)) | (apply Wpc.cond_true; exact rfl) | (apply Wpc.cond_false; exact rfl) | apply Wpc.skip | apply Wpc.exit | (apply Wpl.lss; exact rfl; exact rfl; exact rfl; all_goals (intro h; try (exfalso; omega))) | (apply Wpl.len; exact rfl; exact rfl) | ((conv => whnf); clear hK K; apply hK; clear hK K))
    · have hkl : k < most - 1 := by omega
      refine Wpc.block ?_
      repeat' (first | (apply Wpc.seqK; intro K hK) | apply Wpc.region | (apply Wpl.mv; exact rfl; (conv => lhs; whnf)))
      have hpk := packages_spec G S' vy Y hy hry (by omega) (fun z hz => ⟨(hbk z hz).1, (hbk z hz).2.1, by have := (hbk z hz).2.2.1; omega⟩)
      refine Wpl.callM rfl rfl rfl hpk (Pk.nil _) (HasF.cons hGF (HasF.cons (HasF.m 0 rfl) HasF.nil)) ?_
      rintro vp _ ⟨Fp, Sp, Yp, rfl, hrp, hyp, hmp⟩
      have hypr := hyp.row
      obtain ⟨pp, cp, rfl⟩ := hypr.len
      have hYpl : Yp.length = Y.length / 2 := by rw [← gm_len, hmp, Pm.packs_length, gm_len]
      skip
      refine Wpl.lit1 (cs := [.slice a1 Z.length c1, .slice pp Yp.length cp]) rfl (by decide) (by decide) rfl rfl (fun vl Fl hl2 => ?_)
      have hone : ∀ (W : List GI) (T : Frag), RepL T W → ∀ u ∈ flat itemC (gv W), u.oneCell' = true := by
        intro W T hW u hu
        simp only [flat, List.mem_flatMap, gv, List.mem_map] at hu
        obtain ⟨_, ⟨z, hz, rfl⟩, hu⟩ := hu
        simp only [itemC, List.mem_cons, List.not_mem_nil, or_false] at hu
        rcases hu with rfl | rfl
        · rfl
        · obtain ⟨a, n, c, e⟩ := (hW z hz).sl; rw [e]; rfl
      have hcat := concatT_spec Fl vl [⟨Fz, .slice a1 Z.length c1, Z.length, flat itemC (gv Z)⟩, ⟨Fp, .slice pp Yp.length cp, Yp.length, flat itemC (gv Yp)⟩] hl2.row (fun s hs => by
        rcases List.mem_cons.1 hs with rfl | hs
        · exact ⟨hz, hone Z S hr⟩
        · rw [List.mem_singleton.1 hs]; exact ⟨hypr, hone Yp Sp hrp⟩) (by show 2 ≤ 1000000; omega) (by show Z.length + (Yp.length + 0) ≤ _; omega)
      skip
      refine Wpl.callM rfl rfl rfl hcat (Pk.nil _) (HasF.cons (HasF.m 0 rfl) (HasF.cons (HasF.r 0 rfl) (HasF.cons (HasF.m 1 rfl) HasF.nil))) ?_
      rintro vc _ ⟨Fc, rfl, hvc⟩
      have hvc2 : OwnG Fc vc (Z ++ Yp) := by
        unfold OwnG
        rw [gvm_append]
        exact OwnRow.cast hvc (by simp [srcN]) (by simp [srcX])
      have hrall : RepL (Sp ++ S') (Z ++ Yp) := fun z hz => by
        rcases List.mem_append.1 hz with hz | hz
        · exact (hrz z hz).mono fun p hp => List.mem_append_right _ hp
        · exact (hrp z hz).mono fun p hp => List.mem_append_left _ hp
      have hsort := sortG_spec Fc (Sp ++ S') vc (Z ++ Yp) hvc2 (by rw [List.length_append]; omega) hrall
      repeat' (first | apply Wpc.region | apply Wpl.nil | (apply hK; clear hK K) | (apply Wpl.mv; exact rfl; (conv => lhs; whnf)) | (apply Wpl.asg; exact rfl; (conv => lhs; whnf)))
      refine Wpl.callM rfl rfl rfl hsort (Pk.cons 0 rfl (Pk.nil _)) HasF.nil ?_
      rintro _ _ ⟨F2, Y2, X, rfl, hr2, hy2, e1, e2, e3⟩
      refine Wpl.sel (Sel.cons 3 rfl (Sel.cons 3 rfl (Sel.cons 3 rfl (Sel.cons 0 rfl (Sel.nil _))))) ?_
      refine Wpl.joinM ?_
      repeat' (first | apply Wpc.region | apply Wpl.nil | (apply hK; clear hK K) | (apply Wpl.mv; exact rfl; (conv => lhs; whnf)) | (apply Wpl.add; exact rfl; exact rfl; exact rfl; omega))
      have hm3 : gm Y2 = Pm.row (Pm.leaves P) (k + 1) := by
        rw [e1]
        rw [gm_append, hP, hmp, hm2] at e2
        exact Pm.mrg_unique hsrt (Pm.packs_sorted (Pm.row_sorted hsrt k)) e2 e3
      refine ⟨(k + 1, Y2, vc, Sp ++ S', F2, F2), ⟨by omega, hm3, hr2, fun z hz => hrall z (List.mem_append_left _ hz), .inr rfl, hy2.row⟩, by show most - 1 - (k + 1) < most - 1 - k; omega, ⟨rfl, rfl, rfl, rfl, rfl, rfl, rfl, trivial⟩, Sel.refl _, fun _ h => h⟩
    · have hkn : k = most - 1 := by omega
      subst hkn
      obtain ⟨py, cy, rfl⟩ := hy.len
      refine Wpl.mul rfl rfl rfl (by omega) ?_
      repeat' (first | (apply Wpl.sub; exact rfl; exact rfl; exact rfl; omega) | (apply Wpl.maxI; exact rfl; exact rfl; exact rfl))
      have hlow : 2 * P.length - 2 ≤ Y.length := by
        rw [hYl]
        exact Pm.row_lower P (most - 1) (by rw [show most - 1 + 1 = most by omega]; exact hlm)
      refine Wpl.sliceR (hn := 2 * P.length - 2) rfl rfl rfl hy (by omega) hlow (fun ay cy2 hy2 => ?_)
      have hbS : bestS P most = Pm.syms ((gm Y).take (2 * P.length - 2)) := by rw [bestS, if_neg (by omega), hm2]
      generalize hmm : 2 * P.length - 2 = m at *
      rw [flat_take itemC_len] at hy2
      have hgl : ((gv Y).take m).length = m := by rw [List.length_take, gv_len]; omega
      repeat' (first | apply Wpl.nil | (apply hK; clear hK K) | (apply Wpl.mv; exact rfl; (conv => lhs; whnf)) | (apply Wpl.len; exact rfl; exact rfl))
      refine Wpc.block ?_
      refine Wpc.loop (ι := Nat × Frag) (fun i => i.1 ≤ m ∧ OwnRow 3 1 i.2 vo size (ints .i64 (cntO size (Pm.syms ((gm Y).take i.1)))))
        (fun i => [(7, vo), (46, .slice ay m cy2), (47, .int .i64 m), (48, .int .i64 i.1)]) (fun i => [i.2, S', Fr]) (fun i => m - i.1) (0, Fo) ⟨Nat.zero_le _, by rw [List.take_zero]; exact ho0⟩ ⟨rfl, rfl, rfl, rfl, trivial⟩ (Sel.cons 1 rfl (Sel.cons 0 rfl (Sel.cons 0 rfl (Sel.nil _)))) ?_
      rintro ⟨k, Fk⟩ g ⟨hk, hvk⟩
      dsimp only at hk hvk ⊢
      repeat' (first | (apply Wpc.seqK; intro K hK) | apply Wpc.region | apply Wpl.nil | (apply hK; clear hK K) | (apply Wpl.mv; exact rfl; (conv => lhs; whnf)) | (apply Wpl.asg; exact rfl; (conv => lhs; whnf)) | (apply Wpc.cond_true; exact rfl) | (apply Wpc.cond_false; exact rfl) | apply Wpc.skip | apply Wpc.exit | apply Wpc.ret | (apply Wpl.lss; exact rfl; exact rfl; exact rfl; all_goals (intro h; try (exfalso; omega))) | ((conv => whnf); clear hK K; apply hK; clear hK K))
      · have hkm : k < m := by omega
        have hkY : k < Y.length := by omega
        have hzk : ((gv Y).take m)[k]'(by omega) = (Y[k]).1 := by simp [gv]
        have hzm : (gm Y)[k]'(by rw [gm_len]; exact hkY) = (Y[k]).2 := by simp [gm]
        have hrk := hry _ (List.getElem_mem hkY)
        have hbz := hbk _ (List.getElem_mem hkY)
        have hsn := syms_snoc (gm Y) k (by rw [gm_len]; exact hkY)
        rw [hzm] at hsn
        have hsl : (Pm.syms ((gm Y).take k)).length ≤ k * 32768 := by
          have h := syms_len (l := (gm Y).take k) (b := 32768) (fun x hx => by
            obtain ⟨z, hz, rfl⟩ := List.mem_map.1 (List.mem_of_mem_take hx)
            exact (hbk z hz).2.2.1)
          refine Nat.le_trans h (Nat.mul_le_mul_right _ (List.length_take_le _ _))
        generalize Y[k]'hkY = z at *
        obtain ⟨⟨wz, vz⟩, ⟨mz, sz⟩⟩ := z
        obtain ⟨e1, hrz2⟩ := hrk
        dsimp only at e1 hrz2 hbz hsn hzk
        obtain ⟨pz, cz, rfl⟩ := hrz2.len
        refine Wpc.block ?_
        repeat' (first | (apply Wpc.seqK; intro K hK) | apply Wpc.region)
        refine Wpl.idxAgg (g := itemC) rfl rfl rfl rfl hy2 itemC_len (by
          rcases hG with rfl | rfl
          · exact HasF.r 0 rfl
          · exact HasF.m 2 rfl) (by omega) (by omega) (by decide) (fun _ _ => ?_)
        have e : (k : Int).toNat = k := rfl
        simp only [e, hzk]
        refine Wpl.new rfl (fun b => ?_)
        refine Wpl.stAgg 0 0 rfl rfl rfl rfl rfl (one_cons rfl (one_cons rfl one_nil)) rfl ?_
        repeat' (first | (apply Wpc.seqK; intro K hK) | apply Wpc.region | apply Wpl.nil | (apply hK; clear hK K) | (apply Wpl.mv; exact rfl; (conv => lhs; whnf)) | (apply Wpl.fldS; exact rfl; exact rfl; exact rfl; exact rfl) | (apply Wpl.ld0x0; exact rfl; exact rfl; exact rfl; exact rfl) | (apply Wpl.len; exact rfl; exact rfl))
        refine Wpc.block ?_
        refine Wpc.loop (ι := Nat × Frag) (fun i => i.1 ≤ sz.length ∧ OwnRow 3 1 i.2 vo size (ints .i64 (cntO size (Pm.syms ((gm Y).take k) ++ sz.take i.1))))
          (fun i => [(7, vo), (46, .slice ay m cy2), (47, .int .i64 m), (48, .int .i64 k), (53, .slice pz sz.length cz), (54, .int .i64 sz.length), (55, .int .i64 i.1)]) (fun i => [i.2, S', Fr]) (fun i => sz.length - i.1) (0, Fk) ⟨Nat.zero_le _, by rw [List.take_zero, List.append_nil]; exact hvk⟩ ⟨rfl, rfl, rfl, rfl, rfl, rfl, rfl, trivial⟩ (Sel.tail _ _) ?_
        rintro ⟨j, Fj⟩ g ⟨hj, hvj⟩
        dsimp only at hj hvj ⊢
        repeat' (first | (apply Wpc.seqK; intro K hK) | apply Wpc.region | apply Wpl.nil | (apply hK; clear hK K) | (apply Wpl.mv; exact rfl; (conv => lhs; whnf)) | (apply Wpc.cond_true; exact rfl) | (apply Wpc.cond_false; exact rfl) | apply Wpc.skip | apply Wpc.exit | (apply Wpl.lss; exact rfl; exact rfl; exact rfl; all_goals (intro h; try (exfalso; omega))) | (apply Wpl.add; exact rfl; exact rfl; exact rfl; omega) | ((conv => whnf); clear hK K; apply hK; clear hK K))
        · have hjl : j < sz.length := by omega
          have hsj := hbz.2.2.2 _ (List.getElem_mem hjl)
          have htk := take_snoc sz j hjl
          have hvr := hvj.row
          have hcl := cntO_len size (Pm.syms ((gm Y).take k) ++ sz.take j)
          have hcg := fun (h : (sz[j]'hjl).toNat < (cntO size (Pm.syms ((gm Y).take k) ++ sz.take j)).length) => cntO_get (size := size) (l := Pm.syms ((gm Y).take k) ++ sz.take j) (s := (sz[j]'hjl).toNat) h
          have hcs := cntO_snoc size (Pm.syms ((gm Y).take k) ++ sz.take j) (sz[j]) hsj.1 hsj.2
          have hcb := List.count_le_length (a := ((sz[j]).toNat : Int)) (l := Pm.syms ((gm Y).take k) ++ sz.take j)
          rw [List.length_append, List.length_take] at hcb
          have hsn2 : (((sz[j]).toNat : Nat) : Int) = sz[j] := by omega
          rw [hsn2] at hcb
          refine Wpc.block ?_
          repeat' (first | (apply Wpc.seqK; intro K hK) | apply Wpc.region | apply Wpl.nil | (apply hK; clear hK K) | (apply Wpl.mv; exact rfl; (conv => lhs; whnf)) | (apply Wpl.asg; exact rfl; (conv => lhs; whnf)) | (apply Wpl.idxN; exact rfl; exact rfl; exact rfl; exact rfl; assumption; (exact HasF.m 1 rfl); omega; intro _ _) | (apply Wpl.idx; exact rfl; exact rfl; exact rfl; exact rfl; assumption; (exact HasF.m 0 rfl); omega; omega; intro _ _))
          have hcg' := hcg (by rw [hcl]; omega)
          rw [hsn2] at hcg'
          generalize (cntO size (Pm.syms ((gm Y).take k) ++ sz.take j))[(sz[j]'hjl).toNat]'(by rw [hcl]; omega) = cv at *
          subst hcg'
          repeat' (apply Wpl.add; exact rfl; exact rfl; exact rfl; omega)
          refine Wpl.idxSt 0 rfl hvj rfl rfl rfl hsj.1 hsj.2 (fun _ => rfl) rfl (fun _ F2 hv2 => ?_)
          rw [ints_set, hcs] at hv2
          repeat' (first | apply Wpc.region | apply Wpl.nil | (apply hK; clear hK K) | (apply Wpl.mv; exact rfl; (conv => lhs; whnf)) | (apply Wpl.add; exact rfl; exact rfl; exact rfl; omega))
          exact ⟨(j + 1, F2), ⟨by omega, by show OwnRow 3 1 F2 vo size (ints .i64 (cntO size (_ ++ sz.take (j + 1)))); rw [htk, ← List.append_assoc]; exact hv2⟩, by show sz.length - (j + 1) < sz.length - j; omega, ⟨rfl, rfl, rfl, rfl, rfl, rfl, rfl, trivial⟩, Sel.refl _, fun _ h => h⟩
        · have hjn : j = sz.length := by omega
          subst hjn
          rw [List.take_length] at hvj
          skip
          exact ⟨(k + 1, Fj), ⟨by omega, by show OwnRow 3 1 Fj vo size (ints .i64 (cntO size (Pm.syms ((gm Y).take (k + 1))))); rw [hsn]; exact hvj⟩, by show m - (k + 1) < m - k; omega, ⟨rfl, rfl, rfl, rfl, trivial⟩, Sel.refl _, fun _ h => h⟩
      · have hkn : k = m := by omega
        subst hkn
        rw [← hbS] at hvk
        skip
        exact ⟨[_], _, ⟨rfl, trivial⟩, Sel.cons 0 rfl (Sel.nil _), fun _ h => h, Fk, rfl, hvk⟩
end Go.Proofs.Ytmfcgffdijnokaa
set_option maxRecDepth 100000
set_option maxHeartbeats 4000000
namespace Go.Proofs.Ytmfcgffdijnokaa
open Go.SL Go.RowKit
attribute [local irreducible] Wpl Wpc Wph
/-! merge.Lengths -/
def lensM (l : List Int) (high : Nat) : List Int := cntO l.length (bestS (Pm.sortP (Pm.lvs l)) high)
theorem lensM_len (l : List Int) (high : Nat) : (lensM l high).length = l.length := cntO_len _ _
theorem lvs_mem {l : List Int} {p : Int × Int} (h : p ∈ Pm.sortP (Pm.lvs l)) : ∃ i, ∃ hi : i < l.length, 0 < l[i] ∧ p = (l[i], (i : Int)) := by
  obtain ⟨i, h1, h2, h3⟩ := (Pm.lvsU_mem l p l.length).1 ((Pm.sortP_perm _).mem_iff.1 h)
  rw [getD_get h1] at h2 h3
  exact ⟨i, h1, h2, h3⟩
theorem lengths_spec (F : Frag) (v : Value) (l : List Int) (high : Nat) (hv : Row F 1 v l.length (ints .i64 l)) (hl : l.length ≤ 300) (h0 : ∀ x ∈ l, 0 ≤ x ∧ x ≤ 1099511627776) (hh : 1 ≤ high ∧ high ≤ 16) (hn : l.length ≤ 2 ^ high) :
    Ctr Try.prog 103 [v, .int .i64 high] [F] [] (fun r M' => ∃ (F' : Frag) (v' : Value), M' = [F'] ∧ r = .tuple #[v', .nilIface] ∧ OwnRow 3 1 F' v' l.length (ints .i64 (lensM l high))) := by
  have hso := msound_spec F v l 300 hv (by omega)
  have hit := items_spec F v l hv (by omega)
  have hany : l.any (fun n => decide (n < 0 ∨ 1099511627776 < n)) = false := by
    rw [List.any_eq_false]
    intro x hx
    have := h0 x hx
    simp; omega
  rw [hany, decide_eq_true (by omega)] at hso
  have hPl : (Pm.sortP (Pm.lvs l)).length ≤ l.length := by rw [Pm.sortP_len]; exact Pm.lvsU_len _ _
  have h2 : (2 : Int) ^ high ≤ 2 ^ 16 := by exact_mod_cast Nat.pow_le_pow_right (by decide) hh.2
  have h2n : ((2 ^ high : Nat) : Int) = (2 : Int) ^ high := by push_cast; rfl
  obtain ⟨a1, c1, rfl⟩ := hv.len
  refine Ctr.intro Try.func103 (by kernel_rfl) rfl (by conv => lhs; whnf) rfl fun W => ?_
  repeat' (first | (apply Wpl.callP; exact rfl; exact rfl; exact rfl; exact rfl; (exact hso); (refine HasF.cons (by (exact HasF.r 0 rfl)) HasF.nil)) | (apply Wpc.seqK; intro K hK) | apply Wpc.region | apply Wpl.nil | (apply hK; clear hK K) | (apply Wpl.mv; exact rfl; (conv => lhs; whnf)) | (apply Wpl.asg; exact rfl; (conv => lhs; whnf)) | (apply Wpc.cond_false; exact rfl) | apply Wpc.skip | (apply Wpl.unNot; exact rfl; exact rfl))
  refine Wpl.callM rfl rfl rfl hit (Pk.nil _) (HasF.cons (HasF.r 0 rfl) HasF.nil) ?_
  rintro vi _ ⟨Fi, S, Z, rfl, hr, hz, hm⟩
  have hzr := hz.row
  obtain ⟨pz, cz, rfl⟩ := hzr.len
  have hZl : Z.length = (Pm.sortP (Pm.lvs l)).length := by rw [← gm_len, hm, Pm.leaves_len]
  have hbest := best_spec Fi S _ Z (Pm.sortP (Pm.lvs l)) l.length high hzr hr hm (by omega) (fun p hp => by obtain ⟨i, hi, h1, rfl⟩ := lvs_mem hp; have := h0 _ (List.getElem_mem hi); exact ⟨this.1, this.2⟩)
    (fun p hp => by obtain ⟨i, hi, h1, rfl⟩ := lvs_mem hp; exact ⟨by show 0 ≤ (i : Int); omega, by show (i : Int) < _; omega⟩) (by omega) hh (by omega) (Pm.sortP_sorted _)
  repeat' (first | (apply Wpc.seqK; intro K hK) | apply Wpc.region | apply Wpl.nil | (apply hK; clear hK K) | (apply Wpl.mv; exact rfl; (conv => lhs; whnf)) | (apply Wpl.asg; exact rfl; (conv => lhs; whnf)) | (apply Wpl.guard_run; exact rfl; exact rfl) | (apply Wpl.pickF; exact rfl; exact rfl; (conv => lhs; whnf)) | (apply Wpl.lss; exact rfl; exact rfl; exact rfl; all_goals (intro h; try (exfalso; omega))) | (apply Wpl.gtr; exact rfl; exact rfl; exact rfl; all_goals (intro h; try (exfalso; omega))) | (apply Wpl.len; exact rfl; exact rfl))
  refine Wpl.shlV (w := 2 ^ high) rfl rfl rfl (by omega) (by rw [Int.one_mul]; rfl) (by omega) ?_
  repeat' (first | (apply Wpc.seqK; intro K hK) | apply Wpc.region | apply Wpl.nil | (apply hK; clear hK K) | (apply Wpl.mv; exact rfl; (conv => lhs; whnf)) | (apply Wpl.guard_run; exact rfl; exact rfl) | (apply Wpl.pickF; exact rfl; exact rfl; (conv => lhs; whnf)) | (apply Wpc.cond_false; exact rfl) | apply Wpc.skip | (apply Wpl.gtr; exact rfl; exact rfl; exact rfl; all_goals (intro h; try (exfalso; omega))) | (apply Wpl.len; exact rfl; exact rfl))
  refine Wpl.callM rfl rfl rfl hbest (Pk.cons 1 rfl (Pk.nil _)) (HasF.cons (HasF.m 0 rfl) HasF.nil) ?_
  rintro vr _ ⟨Fr, rfl, hvr⟩
  repeat' (first | apply Wpl.nil | (apply hK; clear hK K) | (apply Wpl.asg; exact rfl; (conv => lhs; whnf)) | apply Wpc.ret)
  exact ⟨[_, _], _, ⟨rfl, rfl, trivial⟩, Sel.cons 0 rfl (Sel.nil _), fun _ h => h, Fr, vr, rfl, rfl, hvr⟩
end Go.Proofs.Ytmfcgffdijnokaa
set_option maxRecDepth 100000
set_option maxHeartbeats 4000000
namespace Go.Proofs.Ytmfcgffdijnokaa
open Go.SL Go.RowKit
attribute [local irreducible] Wpl Wpc Wph
/-! plain laws: best lengths are in form for canon; codes stay in bounds -/
/-- Kraft's sum of lengths up to N, in 65536ths -/
def hsum (N : Nat) (l : List Int) : Nat := (l.map fun (x : Int) => if 0 < x ∧ x ≤ (N : Int) then 2 ^ (16 - x.toNat) else 0).sum
theorem hsum_cons (N : Nat) (x : Int) (l : List Int) : hsum N (x :: l) = (if 0 < x ∧ x ≤ N then 2 ^ (16 - x.toNat) else 0) + hsum N l := by simp [hsum]
theorem hsum_append (N : Nat) (A B : List Int) : hsum N (A ++ B) = hsum N A + hsum N B := by simp [hsum]
theorem hsum_zero (l : List Int) : hsum 0 l = 0 := by
  induction l with
  | nil => rfl
  | cons x l ih => rw [hsum_cons, ih, if_neg (by omega)]
theorem hsum_succ (N : Nat) (l : List Int) : hsum (N + 1) l = hsum N l + l.count ((N + 1 : Nat) : Int) * 2 ^ (16 - (N + 1)) := by
  induction l with
  | nil => simp [hsum]
  | cons x l ih =>
    rw [hsum_cons, hsum_cons, ih, List.count_cons]
    by_cases e : x = ((N + 1 : Nat) : Int)
    · subst e
      rw [if_pos (by omega), if_neg (by omega), if_pos (by simp), show (((N + 1 : Nat) : Int)).toNat = N + 1 from rfl, Nat.add_mul, Nat.one_mul]
      omega
    · rw [if_neg (show ¬ (x == ((N + 1 : Nat) : Int)) = true by simpa using e)]
      by_cases h : 0 < x ∧ x ≤ N
      · rw [if_pos h, if_pos (by omega)]; simp only [Nat.add_zero]; omega
      · rw [if_neg h, if_neg (by omega)]; simp only [Nat.add_zero]; omega
theorem p16 {n : Nat} (h : n ≤ 16) : (65536 : Int) / 2 ^ n = ((2 ^ (16 - n) : Nat) : Int) := by
  have e : (65536 : Int) = ((2 ^ (16 - n) : Nat) : Int) * 2 ^ n := by
    have : (2 : Nat) ^ (16 - n) * 2 ^ n = 65536 := by rw [← Nat.pow_add, show 16 - n + n = 16 by omega]
    have h2 : (((2 : Nat) ^ (16 - n) * 2 ^ n : Nat) : Int) = 65536 := by rw [this]; rfl
    rw [← h2]; push_cast; rfl
  rw [e]
  exact Int.mul_ediv_cancel _ (by have : (0 : Int) < 2 ^ n := Int.pow_pos (by decide); omega)
theorem leftAfter_hsum (l : List Int) (h : ∀ x ∈ l, 0 ≤ x ∧ x ≤ 16) : leftAfter l = 65536 - (hsum 16 l : Int) := by
  have key : ∀ (l : List Int) (a : Int), (∀ x ∈ l, 0 ≤ x ∧ x ≤ 16) → l.foldl (fun a n => if n > 0 then a - 65536 / 2 ^ n.toNat else a) a = a - (hsum 16 l : Int) := by
    intro l
    induction l with
    | nil => intro a _; simp [hsum]
    | cons x l ih =>
      intro a h
      have hx := h x List.mem_cons_self
      rw [List.foldl_cons, ih _ (fun y hy => h y (List.mem_cons_of_mem _ hy)), hsum_cons]
      by_cases hp : 0 < x
      · rw [if_pos hp, if_pos (show 0 < x ∧ x ≤ ((16 : Nat) : Int) from ⟨hp, hx.2⟩), p16 (by omega)]; push_cast; omega
      · rw [if_neg hp, if_neg (show ¬ (0 < x ∧ x ≤ ((16 : Nat) : Int)) by omega)]; simp
  exact key l 65536 h

/-! the order of the codes -/
theorem idxU_mem (l : List Int) (n : Nat) (s : Int) : ∀ k, s ∈ idxU l n k ↔ ∃ i, i < k ∧ l[i]?.getD 0 = n ∧ s = (i : Int)
  | 0 => by simp [idxU]
  | k + 1 => by
    have ih := idxU_mem l n s k
    unfold idxU
    split
    · rename_i h
      rw [List.mem_append, ih, List.mem_singleton]
      constructor
      · rintro (⟨i, h1, h2, h3⟩ | h1)
        · exact ⟨i, by omega, h2, h3⟩
        · exact ⟨k, by omega, h, h1⟩
      · rintro ⟨i, h1, h2, h3⟩
        by_cases e : i = k
        · subst e; exact .inr h3
        · exact .inl ⟨i, by omega, h2, h3⟩
    · rename_i h
      rw [ih]
      constructor
      · rintro ⟨i, h1, h2, h3⟩; exact ⟨i, by omega, h2, h3⟩
      · rintro ⟨i, h1, h2, h3⟩
        by_cases e : i = k
        · subst e; exact absurd h2 h
        · exact ⟨i, by omega, h2, h3⟩
theorem idxU_count (l : List Int) (n : Nat) : ∀ k, k ≤ l.length → (idxU l n k).length = (l.take k).count (n : Int)
  | 0, _ => by simp [idxU]
  | k + 1, h => by
    have ih := idxU_count l n k (by omega)
    rw [take_snoc l k (by omega), List.count_append, ← ih]
    show (if l[k]?.getD 0 = n then idxU l n k ++ [(k : Int)] else idxU l n k).length = _
    rw [getD_get (show k < l.length by omega)]
    by_cases e : l[k] = (n : Int)
    · rw [if_pos e, e]; simp
    · rw [if_neg e]
      have : List.count (n : Int) [l[k]] = 0 := by rw [List.count_eq_zero]; intro hm; exact e (List.mem_singleton.1 hm).symm
      rw [this, Nat.add_zero]
theorem ordU_mem (l : List Int) (s : Int) : ∀ N, s ∈ ordU l N ↔ ∃ i n, i < l.length ∧ 1 ≤ n ∧ n ≤ N ∧ l[i]?.getD 0 = ((n : Nat) : Int) ∧ s = (i : Int)
  | 0 => by
    simp only [ordU, List.not_mem_nil, false_iff]
    rintro ⟨i, n, h1, h2, h3, _⟩; omega
  | N + 1 => by
    rw [ordU, List.mem_append, ordU_mem l s N, idxU_mem]
    constructor
    · rintro (⟨i, n, h1, h2, h3, h4⟩ | ⟨i, h1, h2, h3⟩)
      · exact ⟨i, n, h1, h2, by omega, h4⟩
      · exact ⟨i, N + 1, h1, by omega, by omega, h2, h3⟩
    · rintro ⟨i, n, h1, h2, h3, h4, h5⟩
      by_cases e : n = N + 1
      · subst e; exact .inr ⟨i, h1, h4, h5⟩
      · exact .inl ⟨i, n, h1, h2, by omega, h4, h5⟩
def lenOf (l : List Int) (s : Int) : Int := l[s.toNat]?.getD 0
theorem ordU_lens (l : List Int) : ∀ N, ∀ s ∈ ordU l N, 0 ≤ s ∧ s < l.length ∧ 1 ≤ lenOf l s ∧ lenOf l s ≤ N := by
  intro N s hs
  obtain ⟨i, n, h1, h2, h3, h4, rfl⟩ := (ordU_mem l s N).1 hs
  unfold lenOf
  rw [show ((i : Int)).toNat = i from rfl, h4]
  omega
theorem ordU_pw (l : List Int) : ∀ N, (ordU l N).Pairwise (fun a b => lenOf l a ≤ lenOf l b)
  | 0 => List.Pairwise.nil
  | N + 1 => by
    have hidx : ∀ s ∈ idxU l (N + 1) l.length, lenOf l s = ((N + 1 : Nat) : Int) := fun s hs => by
      obtain ⟨i, h1, h2, rfl⟩ := (idxU_mem l (N + 1) s l.length).1 hs
      exact h2
    rw [ordU]
    refine List.pairwise_append.2 ⟨ordU_pw l N, ?_, fun a ha b hb => ?_⟩
    · refine List.Pairwise.imp_of_mem (R := fun _ _ => True) (fun ha hb _ => ?_) (List.pairwise_of_forall fun _ _ => trivial)
      rw [hidx _ ha, hidx _ hb]; exact Int.le_refl _
    · have h1 := (ordU_lens l N a ha).2.2.2
      rw [hidx b hb]
      omega
/-- Kraft's sum along an order -/
def osum (l ord : List Int) : Nat := (ord.map fun (s : Int) => 2 ^ (16 - (lenOf l s).toNat)).sum
theorem osum_append (l A B : List Int) : osum l (A ++ B) = osum l A + osum l B := by simp [osum]
theorem osum_const (l : List Int) (n : Nat) : ∀ (A : List Int), (∀ s ∈ A, lenOf l s = (n : Int)) → osum l A = A.length * 2 ^ (16 - n)
  | [], _ => by simp [osum]
  | s :: A, h => by
    have ih := osum_const l n A fun t ht => h t (List.mem_cons_of_mem _ ht)
    have hs := h s List.mem_cons_self
    simp only [osum, List.map_cons, List.sum_cons, List.length_cons] at *
    rw [ih, hs, Nat.add_mul, Nat.one_mul]
    show 2 ^ (16 - n) + _ = _
    omega
theorem osum_ordU (l : List Int) : ∀ N, osum l (ordU l N) = hsum N l
  | 0 => by rw [hsum_zero]; rfl
  | N + 1 => by
    rw [ordU, osum_append, osum_ordU l N, hsum_succ, osum_const l (N + 1) (idxU l (N + 1) l.length) (fun s hs => by
      obtain ⟨i, h1, h2, rfl⟩ := (idxU_mem l (N + 1) s l.length).1 hs
      exact h2), idxU_count l (N + 1) l.length (Nat.le_refl _), List.take_length]
/-- what is assigned, along an order in which the lengths grow -/
theorem asg_inv (l ord : List Int) (hl : ∀ s ∈ ord, 0 ≤ s ∧ s < l.length ∧ 1 ≤ lenOf l s ∧ lenOf l s ≤ 16) (hpw : ord.Pairwise (fun a b => lenOf l a ≤ lenOf l b)) (hk : osum l ord ≤ 65536) :
    ∀ k, k ≤ ord.length → 0 ≤ (asg l (ord.take k)).2.1 ∧ 0 ≤ (asg l (ord.take k)).2.2 ∧ (asg l (ord.take k)).2.2 ≤ 16 ∧ (∀ (h : k < ord.length), (asg l (ord.take k)).2.2 ≤ lenOf l ord[k]) ∧
      (asg l (ord.take k)).2.1 * 2 ^ (16 - (asg l (ord.take k)).2.2.toNat) = ((osum l (ord.take k) : Nat) : Int)
  | 0, _ => by
    refine ⟨by simp [asg], by simp [asg], by simp [asg], fun h => ?_, by simp [asg, osum]⟩
    have := (hl _ (List.getElem_mem h)).2.2.1
    show (0 : Int) ≤ _
    omega
  | k + 1, h => by
    have hkl : k < ord.length := h
    obtain ⟨i1, i2, i3, i4, i5⟩ := asg_inv l ord hl hpw hk k (by omega)
    have i4 := i4 hkl
    have hs := hl _ (List.getElem_mem hkl)
    rw [take_snoc ord k hkl, asg_snoc, asgStep]
    dsimp only
    generalize hn : (asg l (ord.take k)).2.1 = nx at *
    generalize hla : (asg l (ord.take k)).2.2 = la at *
    have hgs : l[(ord[k]).toNat]?.getD 0 = lenOf l ord[k] := rfl
    rw [hgs]
    generalize hln : lenOf l ord[k] = ln at *
    have hpp : (0 : Int) ≤ 2 ^ (ln - la).toNat := Int.le_of_lt (Int.pow_pos (by decide))
    have hnn : 0 ≤ nx * 2 ^ (ln - la).toNat := Int.mul_nonneg i1 hpp
    refine ⟨by omega, by omega, hs.2.2.2, fun h2 => ?_, ?_⟩
    · have := (List.pairwise_iff_getElem.1 hpw) k (k + 1) hkl h2 (by omega)
      rw [hln] at this; exact this
    · rw [osum_append]
      have e1 : osum l [ord[k]] = 2 ^ (16 - ln.toNat) := by simp only [osum, List.map_cons, List.map_nil, List.sum_cons, List.sum_nil, hln, Nat.add_zero]
      rw [e1, Int.add_mul, Int.one_mul, Int.mul_assoc, ← Int.pow_add, show (ln - la).toNat + (16 - ln.toNat) = 16 - la.toNat by omega, i5]
      push_cast; rfl
theorem asg_code_bd (l ord : List Int) (hl : ∀ s ∈ ord, 0 ≤ s ∧ s < l.length ∧ 1 ≤ lenOf l s ∧ lenOf l s ≤ 16) (hpw : ord.Pairwise (fun a b => lenOf l a ≤ lenOf l b)) (hk : osum l ord ≤ 65536) (k : Nat) (h : k < ord.length) :
    0 ≤ (asg l (ord.take k)).2.1 * 2 ^ (lenOf l ord[k] - (asg l (ord.take k)).2.2).toNat ∧ (asg l (ord.take k)).2.1 * 2 ^ (lenOf l ord[k] - (asg l (ord.take k)).2.2).toNat < 2 ^ (lenOf l ord[k]).toNat := by
  obtain ⟨i1, i2, i3, i4, i5⟩ := asg_inv l ord hl hpw hk k (by omega)
  have i4 := i4 h
  have hs := hl _ (List.getElem_mem h)
  have hle : osum l (ord.take k) + 2 ^ (16 - (lenOf l ord[k]).toNat) ≤ 65536 := by
    have e : osum l ord = osum l (ord.take k) + osum l (ord.drop k) := by rw [← osum_append, List.take_append_drop]
    have e2 : ord.drop k = ord[k] :: ord.drop (k + 1) := List.drop_eq_getElem_cons h
    have e3 : osum l (ord[k] :: ord.drop (k + 1)) = 2 ^ (16 - (lenOf l ord[k]).toNat) + osum l (ord.drop (k + 1)) := by simp only [osum, List.map_cons, List.sum_cons]
    rw [e, e2, e3] at hk
    omega
  generalize hn : (asg l (ord.take k)).2.1 = nx at *
  generalize hla : (asg l (ord.take k)).2.2 = la at *
  generalize hln : lenOf l ord[k] = ln at *
  have hpp : (0 : Int) ≤ 2 ^ (ln - la).toNat := Int.le_of_lt (Int.pow_pos (by decide))
  refine ⟨Int.mul_nonneg i1 hpp, ?_⟩
  have e : nx * 2 ^ (ln - la).toNat * 2 ^ (16 - ln.toNat) = ((osum l (ord.take k) : Nat) : Int) := by
    rw [Int.mul_assoc, ← Int.pow_add, show (ln - la).toNat + (16 - ln.toNat) = 16 - la.toNat by omega, i5]
  have hq : (0 : Int) < 2 ^ (16 - ln.toNat) := Int.pow_pos (by decide)
  refine Int.lt_of_mul_lt_mul_right (a := 2 ^ (16 - ln.toNat)) ?_ (Int.le_of_lt hq)
  rw [e, ← Int.pow_add, show ln.toNat + (16 - ln.toNat) = 16 by omega]
  have hc : ((osum l (ord.take k) : Nat) : Int) + 2 ^ (16 - ln.toNat) ≤ 65536 := by
    have h := Int.ofNat_le.2 hle
    rw [Int.natCast_add, Int.natCast_pow] at h
    exact h
  have : (2 : Int) ^ 16 = 65536 := rfl
  omega
theorem asgOk_of (l : List Int) (h : ∀ x ∈ l, 0 ≤ x ∧ x ≤ 16) (hk : hsum 16 l ≤ 65536) : AsgOk l (ordU l 16) := by
  have hl := ordU_lens l 16
  have hpw := ordU_pw l 16
  have hk' : osum l (ordU l 16) ≤ 65536 := by rw [osum_ordU]; exact hk
  refine ⟨fun s hs => ⟨(hl s hs).1, (hl s hs).2.1⟩, fun k hk2 => ?_⟩
  obtain ⟨i1, i2, i3, i4, i5⟩ := asg_inv l _ hl hpw hk' k (by omega)
  have hb := asg_code_bd l _ hl hpw hk' k hk2
  have hs := hl _ (List.getElem_mem hk2)
  have h16 : (2 : Int) ^ (lenOf l (ordU l 16)[k]).toNat ≤ 2 ^ 16 := by exact_mod_cast Nat.pow_le_pow_right (by decide) (show (lenOf l (ordU l 16)[k]).toNat ≤ 16 by omega)
  exact ⟨i1, i4 hk2, hs.2.2.2, i2, hb.1, by have := hb.2; unfold lenOf at *; omega⟩

/-! best lengths -/
theorem bestS_facts (l : List Int) (high : Nat) (h0 : ∀ x ∈ l, 0 ≤ x) (hh : 1 ≤ high) (hn : l.length ≤ 2 ^ high) :
    (∀ s, (bestS (Pm.sortP (Pm.lvs l)) high).count s ≤ high) ∧ (∀ p ∈ Pm.sortP (Pm.lvs l), 0 < (bestS (Pm.sortP (Pm.lvs l)) high).count p.2) ∧
    (∀ s, 0 < (bestS (Pm.sortP (Pm.lvs l)) high).count s → ∃ p ∈ Pm.sortP (Pm.lvs l), p.2 = s) ∧
    ((Pm.sortP (Pm.lvs l)).map fun p => 2 ^ (high - (bestS (Pm.sortP (Pm.lvs l)) high).count p.2)).sum ≤ 2 ^ high := by
  have hnd : ((Pm.sortP (Pm.lvs l)).map (·.2)).Nodup := Pm.sortP_nodup (Pm.lvsU_pw l l.length)
  have hsrt := Pm.sortP_sorted (Pm.lvs l)
  have hw : ∀ p ∈ Pm.sortP (Pm.lvs l), 0 ≤ p.1 := fun p hp => by obtain ⟨i, hi, h1, rfl⟩ := lvs_mem hp; exact Int.le_of_lt h1
  have hPl : (Pm.sortP (Pm.lvs l)).length ≤ 2 ^ high := by rw [Pm.sortP_len]; exact Nat.le_trans (Pm.lvsU_len _ _) hn
  generalize Pm.sortP (Pm.lvs l) = P at *
  by_cases h1 : P.length = 1
  · obtain ⟨p, rfl⟩ := List.length_eq_one_iff.1 h1
    have e : bestS [p] high = [p.2] := rfl
    rw [e]
    have hc : List.count p.2 [p.2] = 1 := by simp
    refine ⟨fun s => Nat.le_trans List.count_le_length (by simpa using hh), fun q hq => ?_, fun s hs => ?_, ?_⟩
    · rw [List.mem_singleton.1 hq, hc]; decide
    · exact ⟨p, List.mem_singleton.2 rfl, (List.mem_singleton.1 (List.count_pos_iff.1 hs)).symm⟩
    · simp only [List.map_cons, List.map_nil, List.sum_cons, List.sum_nil, Nat.add_zero]
      exact Nat.pow_le_pow_right (by decide) (by omega)
  · have e : bestS P high = Pm.syms ((Pm.row (Pm.leaves P) (high - 1)).take (2 * P.length - 2)) := by rw [bestS, if_neg h1]
    have hco : ∀ s, (bestS P high).count s = Pm.occ s ((Pm.row (Pm.leaves P) (high - 1)).take (2 * P.length - 2)) := fun s => by rw [e]; rfl
    have hk1 : high - 1 + 1 = high := by omega
    by_cases h2 : 2 ≤ P.length
    · have hrl := Pm.row_lower P (high - 1) (by rw [hk1]; exact hPl)
      obtain ⟨a, _, _, _, h4, _⟩ := Pm.main hw hnd hsrt (high - 1) (2 * P.length - 2) hrl
      have hin := Pm.last_in hw hnd hsrt h2 (high - 1)
      have hkr := Pm.kraft hw hnd hsrt h2 (high - 1) (by rw [hk1]; exact hPl)
      rw [hk1] at h4 hkr
      refine ⟨fun s => by rw [hco]; exact h4 s, fun p hp => by rw [hco]; exact hin p hp, fun s hs => ?_, ?_⟩
      · rw [hco] at hs
        obtain ⟨x, hx, hsx⟩ := Pm.occ_mem.1 hs
        exact row_syms _ x (List.mem_of_mem_take hx) s hsx
      · simp only [hco]
        exact Nat.le_of_eq hkr
    · have hP : P = [] := List.eq_nil_of_length_eq_zero (by omega)
      subst hP
      have hz : ∀ s, (bestS [] high).count s = 0 := fun s => by rw [e]; simp [Pm.syms]
      exact ⟨fun s => by rw [hz]; omega, fun p hp => absurd hp List.not_mem_nil, fun s hs => by rw [hz] at hs; omega, by simp⟩
theorem lensM_get (l : List Int) (high s : Nat) (h : s < l.length) : (lensM l high)[s]'(by rw [lensM_len]; exact h) = (((bestS (Pm.sortP (Pm.lvs l)) high).count (s : Int) : Nat) : Int) := cntO_get _
theorem lvs_in {l : List Int} {s : Nat} (h : s < l.length) (hp : 0 < l[s]) : (l[s], (s : Int)) ∈ Pm.sortP (Pm.lvs l) :=
  (Pm.sortP_perm _).mem_iff.2 ((Pm.lvsU_mem l _ _).2 ⟨s, h, by rw [getD_get h]; exact hp, by rw [getD_get h]⟩)
theorem lensM_bd (l : List Int) (high : Nat) (h0 : ∀ x ∈ l, 0 ≤ x) (hh : 1 ≤ high) (hn : l.length ≤ 2 ^ high) : ∀ x ∈ lensM l high, 0 ≤ x ∧ x ≤ high := by
  intro x hx
  obtain ⟨s, hs, rfl⟩ := List.getElem_of_mem hx
  rw [lensM_len] at hs
  rw [lensM_get l high s hs]
  have := (bestS_facts l high h0 hh hn).1 (s : Int)
  omega
theorem lensM_pos (l : List Int) (high : Nat) (h0 : ∀ x ∈ l, 0 ≤ x) (hh : 1 ≤ high) (hn : l.length ≤ 2 ^ high) (s : Nat) (h : s < l.length) : 0 < (lensM l high)[s]'(by rw [lensM_len]; exact h) ↔ 0 < l[s] := by
  rw [lensM_get l high s h]
  obtain ⟨_, h2, h3, _⟩ := bestS_facts l high h0 hh hn
  constructor
  · intro hp
    obtain ⟨p, hp, e⟩ := h3 (s : Int) (by omega)
    obtain ⟨i, hi, h1, rfl⟩ := lvs_mem hp
    have : i = s := by have : ((i : Nat) : Int) = s := e
                       omega
    subst this; exact h1
  · intro hp
    have := h2 _ (lvs_in h hp)
    dsimp only at this
    omega
theorem lensM_kraft (l : List Int) (high : Nat) (h0 : ∀ x ∈ l, 0 ≤ x) (hh : 1 ≤ high ∧ high ≤ 16) (hn : l.length ≤ 2 ^ high) : hsum 16 (lensM l high) ≤ 65536 := by
  obtain ⟨f1, f2, f3, f4⟩ := bestS_facts l high h0 hh.1 hn
  have hbd := lensM_bd l high h0 hh.1 hn
  have hpos := lensM_pos l high h0 hh.1 hn
  have hget := lensM_get l high
  have hlen := lensM_len l high
  -- along the places
  have key : ∀ k, k ≤ l.length → hsum 16 ((lensM l high).take k) = ((Pm.lvsU l k).map fun p => 2 ^ (16 - (bestS (Pm.sortP (Pm.lvs l)) high).count p.2)).sum := by
    intro k
    induction k with
    | zero => intro _; simp [hsum, Pm.lvsU]
    | succ k ih =>
      intro hk
      have hkl : k < l.length := hk
      rw [take_snoc _ k (by rw [hlen]; exact hkl), hsum_append, ih (by omega), hsum_cons]
      have hx := hbd _ (List.getElem_mem (show k < (lensM l high).length by rw [hlen]; exact hkl))
      have hpk := hpos k hkl
      have hgk := hget k hkl
      show _ = ((if 0 < l[k]?.getD 0 then Pm.lvsU l k ++ [(l[k]?.getD 0, (k : Int))] else Pm.lvsU l k).map fun p => 2 ^ (16 - (bestS (Pm.sortP (Pm.lvs l)) high).count p.2)).sum
      rw [getD_get hkl]
      by_cases hp : 0 < l[k]
      · rw [if_pos hp, if_pos ⟨hpk.2 hp, by omega⟩, hgk, List.map_append, List.sum_append]
        simp [hsum]
      · rw [if_neg hp, if_neg (fun h => hp (hpk.1 h.1))]
        simp [hsum]
  have e1 := key l.length (Nat.le_refl _)
  rw [← hlen, List.take_length, hlen] at e1
  rw [e1]
  have e2 : ((Pm.lvsU l l.length).map fun p => 2 ^ (16 - (bestS (Pm.sortP (Pm.lvs l)) high).count p.2)).sum = ((Pm.sortP (Pm.lvs l)).map fun p => 2 ^ (16 - (bestS (Pm.sortP (Pm.lvs l)) high).count p.2)).sum :=
    ((Pm.sortP_perm (Pm.lvs l)).symm.map _).sum_nat
  rw [e2]
  have e3 : ∀ (P : List (Int × Int)) (c : Int → Nat), (∀ s, c s ≤ high) → (P.map fun p => 2 ^ (16 - c p.2)).sum = 2 ^ (16 - high) * (P.map fun p => 2 ^ (high - c p.2)).sum := by
    intro P c hc
    induction P with
    | nil => simp
    | cons p P ih =>
      simp only [List.map_cons, List.sum_cons] at *
      rw [ih, Nat.mul_add, ← Nat.pow_add]
      have := hc p.2
      rw [show 16 - high + (high - c p.2) = 16 - c p.2 by omega]
  rw [e3 _ _ f1]
  have : 2 ^ (16 - high) * 2 ^ high = 65536 := by rw [← Nat.pow_add, show 16 - high + high = 16 by omega]
  have h5 := Nat.mul_le_mul_left (2 ^ (16 - high)) f4
  omega
end Go.Proofs.Ytmfcgffdijnokaa
