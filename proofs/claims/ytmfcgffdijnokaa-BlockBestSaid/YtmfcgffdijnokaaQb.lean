/- contracts: literals, expanding, the text of a case, equal tokens and bytes -/
import Derived.Test.YtmfcgffdijnokaaQa
import Derived.Laws.StructEq
import Derived.Laws.BytesArg
set_option linter.unusedVariables false
set_option linter.unusedSimpArgs false
set_option linter.unusedSectionVars false
set_option maxRecDepth 100000
set_option maxHeartbeats 4000000
namespace Go.Proofs.Ytmfcgffdijnokaa
open Go.SL Go.RowKit
attribute [local irreducible] Wpl Wpc Wph
/-! burnishref10.Literals -/
def litsOf (st : List Int) : List (Int × Int) := st.map fun x => (0, x)
theorem litsOf_len (st : List Int) : (litsOf st).length = st.length := by simp [litsOf]
theorem flat_tok_snoc (l : List (Int × Int)) (t : Int × Int) : flat tokC (l ++ [t]) = flat tokC l ++ tokC t := by simp [flat]
theorem litsOf_snoc (l : List Int) (x : Int) : litsOf (l ++ [x]) = litsOf l ++ [(0, x)] := by simp [litsOf]
theorem literals_spec (Fs : Frag) (vs : Value) (st : List Int) (hs : Row Fs 1 vs st.length (ints .u8 st)) (h8 : bytes8 st) (hl : st.length ≤ 1000000000) :
    Ctr Try.prog 47 [vs] [Fs] [] (fun r M' => ∃ F', M' = [F'] ∧ OwnRow 54 2 F' r st.length (flat tokC (litsOf st))) := by
  obtain ⟨a1, c1, rfl⟩ := hs.len
  refine Ctr.intro Try.func47 (by kernel_rfl) rfl (by conv => lhs; whnf) rfl fun W => ?_
  refine Wpc.addNil ?_
  repeat' (first | (apply Wpc.seqK; intro K hK) | apply Wpc.region | apply Wpl.nil | (apply hK; clear hK K) | (apply Wpl.asg; exact rfl; (conv => lhs; whnf)) | apply Wpc.block)
  refine Wpc.loop (ι := Nat × Value × Frag) (fun i => i.1 ≤ st.length ∧ OwnRow 54 2 i.2.2 i.2.1 i.1 (flat tokC (litsOf (st.take i.1))))
    (fun i => [(0, .slice a1 st.length c1), (3, i.2.1), (4, .int .i64 i.1)]) (fun i => [i.2.2]) (fun i => st.length - i.1) (0, .slice none 0 0, [])
    ⟨Nat.zero_le _, OwnRow.nil _ _⟩ ⟨rfl, rfl, rfl, trivial⟩ (Sel.refl _) ?_
  rintro ⟨k, v, F⟩ g ⟨hk, hr⟩
  dsimp only at hk hr ⊢
  repeat' (first | (apply Wpl.idxByteN; exact rfl; exact rfl; exact rfl; exact rfl; assumption; assumption; (exact HasF.r 0 rfl); omega; intro _ _ _) | (apply Wpc.seqK; intro K hK) | apply Wpc.region | apply Wpl.nil | (apply hK; clear hK K) | (apply Wpl.mv; exact rfl; (conv => lhs; whnf)) | (apply Wpl.asg; exact rfl; (conv => lhs; whnf)) | (apply Wpc.cond_true; exact rfl) | (apply Wpc.cond_false; exact rfl) | apply Wpc.block | apply Wpc.skip | apply Wpc.exit | apply Wpc.ret | (apply Wpl.lss; exact rfl; exact rfl; exact rfl; all_goals (intro h; try (exfalso; omega))) | (apply Wpl.len; exact rfl; exact rfl) | (apply Wpl.i64; exact rfl; exact rfl; omega) | ((conv => whnf); clear hK K; apply hK; clear hK K))
  · have hkl : k < st.length := by omega
    refine Wpl.build (cs := [.int .i64 0, .int .i64 (st[k]'hkl)]) rfl rfl ?_
    refine Wpl.app1 0 rfl rfl hr rfl rfl (u := .agg #[.int .i64 0, .int .i64 (st[k]'hkl)]) rfl (us := tokC (0, st[k]'hkl)) rfl rfl (by decide) rfl (one_cons rfl (one_cons rfl one_nil)) (by omega) (by unfold maxLen; omega) (fun p v' F' hv' => ?_)
    repeat' (first | apply Wpc.region | apply Wpl.nil | (apply hK; clear hK K) | (apply Wpl.mv; exact rfl; (conv => lhs; whnf)) | (apply Wpl.asg; exact rfl; (conv => lhs; whnf)) | (apply Wpl.add; exact rfl; exact rfl; exact rfl; omega))
    exact ⟨(k + 1, v', F'), ⟨by show k + 1 ≤ st.length; omega, hv'.cast rfl (by show _ = flat tokC (litsOf (st.take (k + 1))); rw [take_snoc st k hkl, litsOf_snoc, flat_tok_snoc])⟩, by show st.length - (k + 1) < st.length - k; omega, ⟨rfl, rfl, rfl, trivial⟩, Sel.refl _, fun _ h => h⟩
  · have hkl : k = st.length := by omega
    subst hkl
    rw [List.take_length] at hr
    exact ⟨[_], _, ⟨rfl, trivial⟩, Sel.refl _, fun _ h => h, F, rfl, hr⟩
end Go.Proofs.Ytmfcgffdijnokaa
set_option maxRecDepth 100000
set_option maxHeartbeats 4000000
namespace Go.Proofs.Ytmfcgffdijnokaa
open Go.SL Go.RowKit
attribute [local irreducible] Wpl Wpc Wph
/-! burnishref06.Expand: what it makes fits its tokens -/
theorem len_snoc {α : Type} (l : List α) (x : α) : (l ++ [x]).length = l.length + 1 := by simp
theorem okAt_more {st ext : List Int} {t : Int × Int} {k : Nat} (h : okAt st t k) (hd : t.1 ≠ 0 → 0 ≤ t.2) (hk : k < st.length) : okAt (st ++ ext) t k := by
  refine ⟨fun h0 => ?_, fun h0 h2 => ?_⟩
  · rw [List.getElem?_append_left hk]; exact h.1 h0
  · have := hd h0
    rw [List.getElem?_append_left hk, List.getElem?_append_left (by omega)]; exact h.2 h0 h2
theorem good_dist {t : Int × Int} (h : goodTok t = true) (h0 : t.1 ≠ 0) : 0 ≤ t.2 := by have := (good_match h0).1 h; omega
theorem fits_snoc (ext : List Int) (t : Int × Int) : ∀ (ts : List (Int × Int)) (st : List Int) (a : Nat), fitsFrom st ts a → goodTok t = true → ext.length = tlen t → (∀ k, st.length ≤ k → k < st.length + tlen t → okAt (st ++ ext) t k) → fitsFrom (st ++ ext) (ts ++ [t]) a
  | [], st, a, h, hg, he, ho => by
    have ha : a = st.length := h
    subst ha
    exact ⟨⟨hg, by simp; omega, ho⟩, by show st.length + tlen t = (st ++ ext).length; simp; omega⟩
  | u :: ts, st, a, ⟨⟨h1, h2, h3⟩, h⟩, hg, he, ho =>
    ⟨⟨h1, by simp; omega, fun k a1 a2 => okAt_more (h3 k a1 a2) (good_dist h1) (by omega)⟩, fits_snoc ext t ts st _ h hg he ho⟩
theorem fits_tail : ∀ (us ts : List (Int × Int)) (st : List Int) (a : Nat), fitsFrom st (us ++ ts) a → fitsFrom st ts (a + (us.map tlen).sum)
  | [], ts, st, a, h => by simpa using h
  | u :: us, ts, st, a, ⟨_, h⟩ => by
    have := fits_tail us ts st _ h
    rwa [List.map_cons, List.sum_cons, ← Nat.add_assoc]
theorem fits_drop (m : Nat) : ∀ (ts : List (Int × Int)) (st : List Int) (a : Nat), m ≤ a → fitsFrom st ts a → fitsFrom (st.drop m) ts (a - m)
  | [], st, a, ha, h => by
    have h1 : a = st.length := h
    show a - m = (st.drop m).length
    rw [List.length_drop]; omega
  | t :: ts, st, a, ha, ⟨⟨h1, h2, h3⟩, h⟩ => by
    refine ⟨⟨h1, by rw [List.length_drop]; omega, fun k a1 a2 => ?_⟩, ?_⟩
    · have h4 := h3 (m + k) (by omega) (by omega)
      refine ⟨fun h0 => ?_, fun h0 h5 => ?_⟩
      · rw [List.getElem?_drop]; exact h4.1 h0
      · have := good_dist h1 h0
        rw [List.getElem?_drop, List.getElem?_drop, h4.2 h0 (by omega)]
        congr 2
        omega
    · have := fits_drop m ts st (a + tlen t) (by omega) h
      rwa [show a + tlen t - m = a - m + tlen t by omega] at this
theorem lits_tlen (st : List Int) : ((litsOf st).map tlen).sum = st.length := by
  induction st with
  | nil => rfl
  | cons x st ih => simp only [litsOf, List.map_cons, List.sum_cons, List.length_cons] at ih ⊢; rw [ih]; show 1 + st.length = _; omega
/-- tokens behind a text that they don't name -/
theorem fits_behind {before all : List Int} {ts : List (Int × Int)} (h : fits (litsOf before ++ ts) all) : fits ts (all.drop before.length) ∧ before.length ≤ all.length := by
  have h1 := fits_tail (litsOf before) ts all 0 h
  rw [lits_tlen, Nat.zero_add] at h1
  have h2 := fits_drop before.length ts all before.length (Nat.le_refl _) h1
  rw [Nat.sub_self] at h2
  refine ⟨h2, ?_⟩
  have key : ∀ (ts : List (Int × Int)) (st : List Int) (a : Nat), fitsFrom st ts a → a ≤ st.length := fun ts => by
    induction ts with
    | nil => intro st a h; exact Nat.le_of_eq h
    | cons t ts ih => intro st a h; have := h.1.2.1; omega
  exact key _ _ _ h1
theorem expand_spec (Ft : Frag) (vt : Value) (ts : List (Int × Int)) (most : Int) (ht : Row Ft 2 vt ts.length (flat tokC ts)) (hl : ts.length ≤ 1000000000) (hm : 0 ≤ most ∧ most ≤ 4194304) :
    Ctr Try.prog 46 [vt, .int .i64 most] [Ft] [] (fun r M' => ∃ (e : Int) (v : Value) (F : Frag) (all : List Int), r = .tuple #[v, .int .i64 e] ∧ M' = [F] ∧ OwnRow 5 1 F v all.length (ints .u8 all) ∧ bytes8 all ∧ (all.length : Int) ≤ most ∧ (e = 0 → fits ts all)) := by
  obtain ⟨a1, c1, rfl⟩ := ht.len
  have hnil : ∀ e : Int, e ≠ 0 → ∃ (e' : Int) (v : Value) (F : Frag) (all : List Int), Value.tuple #[.slice none 0 0, .int .i64 e] = .tuple #[v, .int .i64 e'] ∧ [([] : Frag)] = [F] ∧ OwnRow 5 1 F v all.length (ints .u8 all) ∧ bytes8 all ∧ (all.length : Int) ≤ most ∧ (e' = 0 → fits ts all) :=
    fun e he => ⟨e, .slice none 0 0, [], [], rfl, rfl, OwnRow.nil _ _, fun x hx => absurd hx List.not_mem_nil, hm.1, fun h => absurd h he⟩
  refine Ctr.intro Try.func46 (by kernel_rfl) rfl (by conv => lhs; whnf) rfl fun W => ?_
  refine Wpc.addNil ?_
  refine Wpc.addNil ?_
  repeat' (first | (apply Wpc.seqK; intro K hK) | apply Wpc.region | apply Wpl.nil | (apply hK; clear hK K) | (apply Wpl.mv; exact rfl; (conv => lhs; whnf)) | (apply Wpl.asg; exact rfl; (conv => lhs; whnf)) | (apply Wpl.guard_run; exact rfl; exact rfl) | (apply Wpl.pickF; exact rfl; exact rfl; (conv => lhs; whnf)) | (apply Wpc.cond_false; exact rfl) | apply Wpc.skip | (apply Wpl.lss; exact rfl; exact rfl; exact rfl; all_goals (intro h; try (exfalso; omega))) | (apply Wpl.gtr; exact rfl; exact rfl; exact rfl; all_goals (intro h; try (exfalso; omega))))
  refine Wpc.block ?_
  refine Wpc.loop (ι := Nat × List Int × Value × Frag) (fun i => i.1 ≤ ts.length ∧ OwnRow 5 1 i.2.2.2 i.2.2.1 i.2.1.length (ints .u8 i.2.1) ∧ bytes8 i.2.1 ∧ (i.2.1.length : Int) ≤ most ∧ fits (ts.take i.1) i.2.1)
    (fun i => [(0, .slice a1 ts.length c1), (1, .int .i64 most), (6, i.2.2.1), (7, .int .i64 i.1)]) (fun i => [i.2.2.2, []]) (fun i => ts.length - i.1) (0, [], .slice none 0 0, [])
    ⟨Nat.zero_le _, OwnRow.nil _ _, fun x hx => absurd hx List.not_mem_nil, hm.1, rfl⟩ ⟨rfl, rfl, rfl, rfl, trivial⟩ (Sel.refl _) ?_
  rintro ⟨k, out, v, F⟩ g ⟨hk, hr, h8, hom, hft⟩
  dsimp only at hk hr h8 hom hft ⊢
  repeat' (first | (apply Wpc.seqK; intro K hK) | apply Wpc.region | apply Wpl.nil | (apply hK; clear hK K) | (apply Wpl.mv; exact rfl; (conv => lhs; whnf)) | (apply Wpl.asg; exact rfl; (conv => lhs; whnf)) | (apply Wpc.cond_true; exact rfl) | (apply Wpc.cond_false; exact rfl) | apply Wpc.skip | apply Wpc.exit | apply Wpc.ret | (apply Wpl.lss; exact rfl; exact rfl; exact rfl; all_goals (intro h; try (exfalso; omega))) | (apply Wpl.len; exact rfl; exact rfl) | ((conv => whnf); clear hK K; apply hK; clear hK K))
  · have hkt : k < ts.length := by omega
    refine Wpc.block ?_
    repeat' (first | (apply Wpc.seqK; intro K hK) | apply Wpc.region | (apply Wpl.mv; exact rfl; (conv => lhs; whnf)))
    refine Wpl.idxAgg (g := tokC) rfl rfl rfl rfl ht tokC_len (HasF.r 0 rfl) (by omega) (by omega) (by decide) (fun _ _ => ?_)
    have e : (k : Int).toNat = k := rfl
    simp only [e]
    have htake := take_snoc ts k hkt
    generalize ts[k]'hkt = tk at *
    have hgs := good_spec tk
    obtain ⟨tl, td⟩ := tk
    refine Wpl.new rfl (fun b => ?_)
    refine Wpl.stAgg 0 0 (cs := #[.int .i64 tl, .int .i64 td]) rfl rfl rfl rfl rfl (one_cons rfl (one_cons rfl one_nil)) rfl ?_
    by_cases hgd : goodTok (tl, td) = true
    · rw [hgd] at hgs
      have hrow := hr.row
      obtain ⟨p2, c2, rfl⟩ := hrow.len
      by_cases h0 : tl = 0
      have hd0 := (good_lit h0).1 hgd
      have htln : tlen (tl, td) = 1 := if_pos h0
      dsimp only at hd0
      repeat' (first | (apply Wpc.seqK; intro K hK) | apply Wpc.region | apply Wpl.nil | (apply hK; clear hK K))
      refine Wpl.ldAgg 0 0 (cs := [.int .i64 tl, .int .i64 td]) rfl rfl rfl rfl rfl ?_
      repeat' (first | (apply Wpl.callP; exact rfl; exact rfl; exact rfl; exact rfl; (exact hgs); (exact HasF.nil)) | (apply Wpc.seqK; intro K hK) | apply Wpc.region | apply Wpl.nil | (apply hK; clear hK K) | (apply Wpl.mv; exact rfl; (conv => lhs; whnf)) | (apply Wpl.asg; exact rfl; (conv => lhs; whnf)) | (apply Wpc.cond_true; exact rfl) | (apply Wpc.cond_false; exact rfl) | apply Wpc.skip | apply Wpc.ret | (apply Wpl.unNot; exact rfl; exact rfl) | (apply Wpl.fldS; exact rfl; exact rfl; exact rfl; exact rfl) | (apply Wpl.ld0x0; exact rfl; exact rfl; exact rfl; exact rfl) | (apply Wpl.gtr; exact rfl; exact rfl; exact rfl; all_goals (intro h; try (exfalso; omega))) | (apply Wpl.add; exact rfl; exact rfl; exact rfl; omega) | (apply Wpl.len; exact rfl; exact rfl))
      · exact ⟨[_, _], [[]], ⟨rfl, rfl, trivial⟩, Sel.cons 2 rfl (Sel.nil _), fun _ h => h, hnil 4 (by decide)⟩
      have hroom : (out.length : Int) + 1 ≤ most := by omega
      refine Wpc.block ?_
      refine Wpc.loop (ι := Nat × List Int × Value × Frag) (fun j => j.1 ≤ 1 ∧ OwnRow 5 1 j.2.2.2 j.2.2.1 (out ++ j.2.1).length (ints .u8 (out ++ j.2.1)) ∧ j.2.1.length = j.1 ∧ bytes8 (out ++ j.2.1) ∧ ∀ x, out.length ≤ x → x < out.length + j.1 → okAt (out ++ j.2.1) (tl, td) x)
        (fun j => [(0, .slice a1 ts.length c1), (1, .int .i64 most), (6, j.2.2.1), (7, .int .i64 k), (8, .pointer (some ⟨b, 0, none⟩)), (9, .int .i64 1), (10, .int .i64 j.1)]) (fun j => [[(b, .cells #[.int .i64 tl, .int .i64 td] 54 (0, 0))], j.2.2.2, []]) (fun j => 1 - j.1) (0, [], .slice p2 out.length c2, F)
        ⟨Nat.zero_le _, hr.cast (by simp) (by simp), rfl, by simpa using h8, fun x a b => absurd a (by show ¬ out.length ≤ x; have : x < out.length + 0 := b; omega)⟩ ⟨rfl, rfl, rfl, rfl, rfl, rfl, rfl, trivial⟩ (Sel.refl _) ?_
      rintro ⟨j, ext, v2, F2⟩ g2 ⟨hj, hr2, hel, h82, hok⟩
      dsimp only at hj hr2 hel h82 hok ⊢
      have hrow2 := hr2.row
      have hll : (out ++ ext).length = out.length + j := by rw [List.length_append, hel]
      obtain ⟨p3, c3, rfl⟩ := hrow2.len
      repeat' (first | (apply Wpc.seqK; intro K hK) | apply Wpc.region | apply Wpl.nil | (apply hK; clear hK K) | (apply Wpl.mv; exact rfl; (conv => lhs; whnf)) | (apply Wpl.asg; exact rfl; (conv => lhs; whnf)) | (apply Wpc.cond_true; exact rfl) | (apply Wpc.cond_false; exact rfl) | apply Wpc.skip | apply Wpc.exit | (apply Wpl.lss; exact rfl; exact rfl; exact rfl; all_goals (intro h; try (exfalso; omega))) | (apply Wpl.add; exact rfl; exact rfl; exact rfl; omega) | ((conv => whnf); clear hK K; apply hK; clear hK K))
      · refine Wpc.block ?_
        repeat' (first | (apply Wpc.seqK; intro K hK) | apply Wpc.region | (apply Wpl.fldS; exact rfl; exact rfl; exact rfl; exact rfl) | (apply Wpl.ld0x0; exact rfl; exact rfl; exact rfl; exact rfl))
        refine Wpl.u8in rfl rfl (by omega) ?_
        repeat' (first | (apply Wpc.seqK; intro K hK) | apply Wpc.region | apply Wpl.nil | (apply hK; clear hK K) | (apply Wpl.mv; exact rfl; (conv => lhs; whnf)) | (apply Wpl.asg; exact rfl; (conv => lhs; whnf)) | (apply Wpc.cond_false; exact rfl) | apply Wpc.skip | (apply Wpl.fldS; exact rfl; exact rfl; exact rfl; exact rfl) | (apply Wpl.ld0x0; exact rfl; exact rfl; exact rfl; exact rfl) | (apply Wpl.gtr; exact rfl; exact rfl; exact rfl; all_goals (intro h; try (exfalso; omega))))
        refine Wpl.appI 1 rfl rfl rfl rfl rfl rfl hr2 (by omega) (by omega) (fun p v' F' hv' => ?_)
        repeat' (first | apply Wpc.region | apply Wpl.nil | (apply hK; clear hK K) | (apply Wpl.mv; exact rfl; (conv => lhs; whnf)) | (apply Wpl.asg; exact rfl; (conv => lhs; whnf)) | (apply Wpl.add; exact rfl; exact rfl; exact rfl; omega))
        have hx : out ++ (ext ++ [td]) = out ++ ext ++ [td] := by rw [List.append_assoc]
        exact ⟨(j + 1, ext ++ [td], v', F'), ⟨by show j + 1 ≤ 1; omega, hv'.cast (by show (out ++ ext).length + 1 = (out ++ (ext ++ [td])).length; rw [hx]; exact (len_snoc _ _).symm) (by show _ = ints .u8 (out ++ (ext ++ [td])); rw [hx]), by simp [hel], by
          show bytes8 (out ++ (ext ++ [td]))
          rw [hx]
          intro y hy
          rcases List.mem_append.1 hy with hy | hy
          · exact h82 y hy
          · rw [List.mem_singleton.1 hy]; omega, fun x a b2 => by
          have b : x < out.length + (j + 1) := b2
          show okAt (out ++ (ext ++ [td])) (tl, td) x
          rw [hx]
          refine ⟨fun _ => ?_, fun h => absurd h0 h⟩
          have : x = (out ++ ext).length := by omega
          rw [this, List.getElem?_append_right (Nat.le_refl _), Nat.sub_self]
          rfl⟩, by show 1 - (j + 1) < 1 - j; omega, ⟨rfl, rfl, rfl, rfl, rfl, rfl, rfl, trivial⟩, Sel.refl _, fun _ h => h⟩

      · have hjn : j = 1 := by omega
        exact ⟨(k + 1, out ++ ext, .slice p3 (out ++ ext).length c3, F2), ⟨by show k + 1 ≤ ts.length; omega, hr2, h82, by show ((out ++ ext).length : Int) ≤ most; omega, by
          show fits (ts.take (k + 1)) (out ++ ext)
          rw [htake]
          exact fits_snoc ext (tl, td) (ts.take k) out 0 hft hgd (by rw [htln]; omega) (fun x a b => hok x a (by rw [htln] at b; omega))⟩, by show ts.length - (k + 1) < ts.length - k; omega, ⟨rfl, rfl, rfl, rfl, trivial⟩, Sel.tail _ _, fun _ h => h⟩
      have hd0 := (good_match h0).1 hgd
      have htln : tlen (tl, td) = tl.toNat := if_neg h0
      dsimp only at hd0
      skip
      refine Wpl.ldAgg 0 0 (cs := [.int .i64 tl, .int .i64 td]) rfl rfl rfl rfl rfl ?_
      repeat' (first | (apply Wpl.callP; exact rfl; exact rfl; exact rfl; exact rfl; (exact hgs); (exact HasF.nil)) | (apply Wpc.seqK; intro K hK) | apply Wpc.region | apply Wpl.nil | (apply hK; clear hK K) | (apply Wpl.mv; exact rfl; (conv => lhs; whnf)) | (apply Wpl.asg; exact rfl; (conv => lhs; whnf)) | (apply Wpc.cond_true; exact rfl) | (apply Wpc.cond_false; exact rfl) | apply Wpc.skip | apply Wpc.ret | (apply Wpl.unNot; exact rfl; exact rfl) | (apply Wpl.fldS; exact rfl; exact rfl; exact rfl; exact rfl) | (apply Wpl.ld0x0; exact rfl; exact rfl; exact rfl; exact rfl) | (apply Wpl.gtr; exact rfl; exact rfl; exact rfl; all_goals (intro h; try (exfalso; omega))) | (apply Wpl.add; exact rfl; exact rfl; exact rfl; omega) | (apply Wpl.len; exact rfl; exact rfl))
      · exact ⟨[_, _], [[]], ⟨rfl, rfl, trivial⟩, Sel.cons 2 rfl (Sel.nil _), fun _ h => h, hnil 2 (by decide)⟩
      · exact ⟨[_, _], [[]], ⟨rfl, rfl, trivial⟩, Sel.cons 2 rfl (Sel.nil _), fun _ h => h, hnil 4 (by decide)⟩
      have hroom : (out.length : Int) + tl ≤ most := by omega
      refine Wpc.block ?_
      refine Wpc.loop (ι := Nat × List Int × Value × Frag) (fun j => j.1 ≤ tl.toNat ∧ OwnRow 5 1 j.2.2.2 j.2.2.1 (out ++ j.2.1).length (ints .u8 (out ++ j.2.1)) ∧ j.2.1.length = j.1 ∧ bytes8 (out ++ j.2.1) ∧ ∀ x, out.length ≤ x → x < out.length + j.1 → okAt (out ++ j.2.1) (tl, td) x)
        (fun j => [(0, .slice a1 ts.length c1), (1, .int .i64 most), (6, j.2.2.1), (7, .int .i64 k), (8, .pointer (some ⟨b, 0, none⟩)), (9, .int .i64 tl), (10, .int .i64 j.1)]) (fun j => [[(b, .cells #[.int .i64 tl, .int .i64 td] 54 (0, 0))], j.2.2.2, []]) (fun j => tl.toNat - j.1) (0, [], .slice p2 out.length c2, F)
        ⟨Nat.zero_le _, hr.cast (by simp) (by simp), rfl, by simpa using h8, fun x a b => absurd a (by show ¬ out.length ≤ x; have : x < out.length + 0 := b; omega)⟩ ⟨rfl, rfl, rfl, rfl, rfl, rfl, rfl, trivial⟩ (Sel.refl _) ?_
      rintro ⟨j, ext, v2, F2⟩ g2 ⟨hj, hr2, hel, h82, hok⟩
      dsimp only at hj hr2 hel h82 hok ⊢
      have hrow2 := hr2.row
      have hll : (out ++ ext).length = out.length + j := by rw [List.length_append, hel]
      obtain ⟨p3, c3, rfl⟩ := hrow2.len
      repeat' (first | (apply Wpc.seqK; intro K hK) | apply Wpc.region | apply Wpl.nil | (apply hK; clear hK K) | (apply Wpl.mv; exact rfl; (conv => lhs; whnf)) | (apply Wpl.asg; exact rfl; (conv => lhs; whnf)) | (apply Wpc.cond_true; exact rfl) | (apply Wpc.cond_false; exact rfl) | apply Wpc.skip | apply Wpc.exit | (apply Wpl.lss; exact rfl; exact rfl; exact rfl; all_goals (intro h; try (exfalso; omega))) | (apply Wpl.add; exact rfl; exact rfl; exact rfl; omega) | ((conv => whnf); clear hK K; apply hK; clear hK K))
      · refine Wpc.block ?_
        repeat' (first | (apply Wpc.seqK; intro K hK) | apply Wpc.region | (apply Wpl.fldS; exact rfl; exact rfl; exact rfl; exact rfl) | (apply Wpl.ld0x0; exact rfl; exact rfl; exact rfl; exact rfl))
        refine Wpl.u8 rfl rfl ?_
        repeat' (first | (apply Wpc.seqK; intro K hK) | apply Wpc.region | apply Wpl.nil | (apply hK; clear hK K) | (apply Wpl.mv; exact rfl; (conv => lhs; whnf)) | (apply Wpl.asg; exact rfl; (conv => lhs; whnf)) | (apply Wpc.cond_true; exact rfl) | (apply Wpl.fldS; exact rfl; exact rfl; exact rfl; exact rfl) | (apply Wpl.ld0x0; exact rfl; exact rfl; exact rfl; exact rfl) | (apply Wpl.gtr; exact rfl; exact rfl; exact rfl; all_goals (intro h; try (exfalso; omega))) | (apply Wpl.sub; exact rfl; exact rfl; exact rfl; omega) | (apply Wpl.len; exact rfl; exact rfl) | (apply Wpl.idx; exact rfl; exact rfl; exact rfl; exact rfl; assumption; (exact HasF.m 1 rfl); omega; omega; intro _ _))
        have hm : (((out ++ ext).length : Int) - td).toNat < (out ++ ext).length := by omega
        have hbd := h82 _ (List.getElem_mem hm)
        generalize hcv : (out ++ ext)[(((out ++ ext).length : Int) - td).toNat]'hm = cv at *
        refine Wpl.appI 1 rfl rfl rfl rfl rfl rfl hr2 (by omega) (by omega) (fun p v' F' hv' => ?_)
        repeat' (first | apply Wpc.region | apply Wpl.nil | (apply hK; clear hK K) | (apply Wpl.mv; exact rfl; (conv => lhs; whnf)) | (apply Wpl.asg; exact rfl; (conv => lhs; whnf)) | (apply Wpl.add; exact rfl; exact rfl; exact rfl; omega))
        have hx : out ++ (ext ++ [cv]) = out ++ ext ++ [cv] := by rw [List.append_assoc]
        exact ⟨(j + 1, ext ++ [cv], v', F'), ⟨by show j + 1 ≤ tl.toNat; omega, hv'.cast (by show (out ++ ext).length + 1 = (out ++ (ext ++ [cv])).length; rw [hx]; exact (len_snoc _ _).symm) (by show _ = ints .u8 (out ++ (ext ++ [cv])); rw [hx]), by simp [hel], by
          show bytes8 (out ++ (ext ++ [cv]))
          rw [hx]
          intro y hy
          rcases List.mem_append.1 hy with hy | hy
          · exact h82 y hy
          · rw [List.mem_singleton.1 hy]; exact hbd, fun x a b2 => by
          have b : x < out.length + (j + 1) := b2
          show okAt (out ++ (ext ++ [cv])) (tl, td) x
          rw [hx]
          by_cases hxj : x < out.length + j
          · exact okAt_more (hok x a hxj) (fun _ => by show 0 ≤ td; omega) (by omega)
          · have he : x = (out ++ ext).length := by omega
            refine ⟨fun h => absurd h h0, fun _ h2 => ?_⟩
            rw [he, List.getElem?_append_right (Nat.le_refl _), Nat.sub_self, List.getElem?_append_left (by show (((out ++ ext).length : Int) - td).toNat < _; omega)]
            show cv = _
            rw [List.getElem?_eq_getElem hm, hcv]
            rfl⟩, by show tl.toNat - (j + 1) < tl.toNat - j; omega, ⟨rfl, rfl, rfl, rfl, rfl, rfl, rfl, trivial⟩, Sel.refl _, fun _ h => h⟩

      · have hjn : j = tl.toNat := by omega
        exact ⟨(k + 1, out ++ ext, .slice p3 (out ++ ext).length c3, F2), ⟨by show k + 1 ≤ ts.length; omega, hr2, h82, by show ((out ++ ext).length : Int) ≤ most; omega, by
          show fits (ts.take (k + 1)) (out ++ ext)
          rw [htake]
          exact fits_snoc ext (tl, td) (ts.take k) out 0 hft hgd (by rw [htln]; omega) (fun x a b => hok x a (by rw [htln] at b; omega))⟩, by show ts.length - (k + 1) < ts.length - k; omega, ⟨rfl, rfl, rfl, rfl, trivial⟩, Sel.tail _ _, fun _ h => h⟩
    · rw [Bool.not_eq_true] at hgd
      rw [hgd] at hgs
      repeat' (first | (apply Wpc.seqK; intro K hK) | apply Wpc.region | apply Wpl.nil | (apply hK; clear hK K))
      refine Wpl.ldAgg 0 0 (cs := [.int .i64 tl, .int .i64 td]) rfl rfl rfl rfl rfl ?_
      repeat' (first | (apply Wpl.callP; exact rfl; exact rfl; exact rfl; exact rfl; (exact hgs); (exact HasF.nil)) | (apply Wpc.seqK; intro K hK) | apply Wpc.region | apply Wpl.nil | (apply hK; clear hK K) | (apply Wpl.asg; exact rfl; (conv => lhs; whnf)) | (apply Wpc.cond_true; exact rfl) | apply Wpc.ret | (apply Wpl.unNot; exact rfl; exact rfl))
      exact ⟨[_, _], [[]], ⟨rfl, rfl, trivial⟩, Sel.cons 2 rfl (Sel.nil _), fun _ h => h, hnil 6 (by decide)⟩
  · have hke : k = ts.length := by omega
    rw [hke, List.take_length] at hft
    exact ⟨[_, _], [F], ⟨rfl, rfl, trivial⟩, Sel.cons 0 rfl (Sel.nil _), fun _ h => h, 0, v, F, out, rfl, rfl, hr, h8, hom, fun _ => hft⟩
end Go.Proofs.Ytmfcgffdijnokaa
set_option maxRecDepth 100000
set_option maxHeartbeats 4000000
namespace Go.Proofs.Ytmfcgffdijnokaa
open Go.SL Go.RowKit
attribute [local irreducible] Wpl Wpc Wph
/-! burnishlaw10.Case.text -/
section
variable {q : Md} {C : Cx} {ops : Array Oper} {rest : List Oper} {Q : Exit → Env → List Frag → List Frag → Prop} {f : Env} {R M : List Frag}
variable {d : Nat} {ty T : TypeId} {pos : String} {af : Array Edge} {x y : Operand}
/-- v[l:] of a row of single cells -/
theorem Wpl.sliceLR {E : TypeId} {by_ : Nat} {z v : Value} {F : Frag} {n : Nat} {xs : List Value} {kl : IntKind} {l : Int} {ln : Nat} [hT : SliceT C.P T E] [hE : CellT C.P E z by_] (hd : Nat.blt d C.n = true) (hx : f.ev x = v) (hy : f.ev y = .int kl l) (hr : Row F 1 v n xs) (hl : l = (ln : Int)) (h1 : ln ≤ n)
    (k1 : ∀ v', Row F 1 v' (n - ln) (xs.drop ln) → Wpl q C ops rest Q (f.upd d v') R M) : Wpl q C ops (⟨some d, .slice T x (some y) none none, ty, pos, af, none⟩ :: rest) Q f R M := by
  subst hl
  obtain ⟨hlen, a, cap, rfl, h2, h3, h4⟩ := hr
  have hrun : ∀ w, (execOp f.ev ⟨some d, .slice T x (some y) none none, ty, pos, af, none⟩).run C.P w = .ok (.value (sliced a ln n cap 1)) w := fun w => by
    have he : C.P.underlying T = some (.slice (C.P.elem T)) := by have := hT.h; simp [Program.elem, this]
    have he2 : C.P.elem T = E := by have := hT.h; simp [Program.elem, this]
    simp [execOp, hx, hy, run_sliceAt_slice w T _ _ _ _ he, run_slice_l w T a n cap he kl (ln : Int) (by omega) (by omega), he2, hE.h.run_size]
  refine Wpl.val rfl hd _ (fun w _ => hrun w) (k1 _ ⟨by rw [List.length_drop]; omega, _, _, rfl, by omega, by omega, fun hp => ?_⟩)
  obtain ⟨b, off, c, E', fz, rfl, e2, e3⟩ := h4 (by omega)
  refine ⟨b, off + ln, c, E', fz, ?_, e2, fun j hj => ?_⟩
  · rw [if_neg (by omega)]; simp [addr_add]
  · rw [List.getElem?_drop, ← e3 (ln + j) (by omega)]
    congr 1
    omega
end
theorem ints_drop (k : IntKind) (l : List Int) (m : Nat) : (ints k l).drop m = ints k (l.drop m) := by simp [ints, List.map_drop]
theorem text_spec (Fb Ft : Frag) (vb vt : Value) (bf : List Int) (ts : List (Int × Int)) (k : Int) (last : Bool) (hb : Row Fb 1 vb bf.length (ints .u8 bf)) (ht : Row Ft 2 vt ts.length (flat tokC ts)) (h8 : bytes8 bf) :
    Ctr Try.prog 15 [.agg #[vb, vt, .int .i64 k, .bool last]] [Fb, Ft] [] (fun r M' => ∃ (v : Value) (ok : Bool) (F : Frag), r = .tuple #[v, .bool ok] ∧ M' = [F] ∧ v.oneCell' = true ∧ (ok = true → ∃ st : List Int, Row F 1 v st.length (ints .u8 st) ∧ bytes8 st ∧ st.length ≤ 20000 ∧ fits ts st ∧ ts.length ≤ 300)) := by
  have hno : ∃ (v : Value) (ok : Bool) (F : Frag), Value.tuple #[.slice none 0 0, .bool false] = .tuple #[v, .bool ok] ∧ [([] : Frag)] = [F] ∧ v.oneCell' = true ∧ (ok = true → ∃ st : List Int, Row F 1 v st.length (ints .u8 st) ∧ bytes8 st ∧ st.length ≤ 20000 ∧ fits ts st ∧ ts.length ≤ 300) :=
    ⟨_, _, _, rfl, rfl, rfl, fun h => by cases h⟩
  have hb1 := hb.one
  have ht1 := ht.one
  have hrb := hb
  have hrt := ht
  obtain ⟨p1, c1, rfl⟩ := hb.len
  obtain ⟨p2, c2, rfl⟩ := ht.len
  refine Ctr.intro Try.func15 (by kernel_rfl) rfl (by conv => lhs; whnf) rfl fun W => ?_
  refine Wpc.addNil ?_
  apply Wpc.seqK; intro K hK
  apply Wpc.region
  refine Wpl.boxA rfl rfl (fun bx => ?_)
  repeat' (first | (apply Wpc.seqK; intro K hK) | apply Wpc.region | apply Wpl.nil | (apply hK; clear hK K) | (apply Wpl.mv; exact rfl; (conv => lhs; whnf)) | (apply Wpl.asg; exact rfl; (conv => lhs; whnf)) | (apply Wpl.guard_run; exact rfl; exact rfl) | (apply Wpl.guard_skip; exact rfl; exact rfl; exact rfl) | (apply Wpl.pickT; exact rfl; exact rfl; (conv => lhs; whnf)) | (apply Wpl.pickF; exact rfl; exact rfl; (conv => lhs; whnf)) | (apply Wpc.cond_true; exact rfl) | (apply Wpc.cond_false; exact rfl) | apply Wpc.skip | apply Wpc.ret | (apply Wpl.fldS; exact rfl; exact rfl; exact rfl; exact rfl) | (apply Wpl.ld0x0; exact rfl; exact rfl; exact rfl; exact rfl) | (apply Wpl.gtr; exact rfl; exact rfl; exact rfl; all_goals (intro h; try (exfalso; omega))) | (apply Wpl.len; exact rfl; exact rfl))
  · exact ⟨[_, _], [[]], ⟨rfl, rfl, trivial⟩, Sel.cons 1 rfl (Sel.nil _), fun _ h => h, hno⟩
  · exact ⟨[_, _], [[]], ⟨rfl, rfl, trivial⟩, Sel.cons 1 rfl (Sel.nil _), fun _ h => h, hno⟩
  have hlt : ts.length ≤ 300 := by omega
  have hlb : bf.length ≤ 1000 := by omega
  refine Wpc.region_heldS 12 (by kernel_rfl) rfl rfl ?_
  (refine Wph.take 0 rfl (by kernel_rfl) rfl (fun _ _ _ _ h => h) (fun _ h => h) (by first | exact Sel.refl _ | exact Sel.tail _ _ | exact Sel.nil _ | exact (Sel.tail _ _).trans (Sel.tail _ _) | exact (Sel.tail _ _).trans ((Sel.tail _ _).trans (Sel.tail _ _))) ?_; (repeat' (first | apply Wpl.nil | (apply Wpl.fldS; exact rfl; exact rfl; exact rfl; exact rfl)))); (refine Wph.take 1 rfl (by kernel_rfl) rfl (fun _ _ _ _ h => h) (fun _ h => h) (by first | exact Sel.refl _ | exact Sel.tail _ _ | exact Sel.nil _ | exact (Sel.tail _ _).trans (Sel.tail _ _) | exact (Sel.tail _ _).trans ((Sel.tail _ _).trans (Sel.tail _ _))) ?_; (repeat' (first | apply Wpl.nil | (apply Wpl.ld0x0; exact rfl; exact rfl; exact rfl; exact rfl)))); (refine Wph.take 3 rfl (by kernel_rfl) rfl (fun _ _ _ _ h => h) (fun _ h => h) (by first | exact Sel.refl _ | exact Sel.tail _ _ | exact Sel.nil _ | exact (Sel.tail _ _).trans (Sel.tail _ _) | exact (Sel.tail _ _).trans ((Sel.tail _ _).trans (Sel.tail _ _))) ?_; (repeat' (first | apply Wpl.nil | (apply Wpl.fldS; exact rfl; exact rfl; exact rfl; exact rfl)))); (refine Wph.take 4 rfl (by kernel_rfl) rfl (fun _ _ _ _ h => h) (fun _ h => h) (by first | exact Sel.refl _ | exact Sel.tail _ _ | exact Sel.nil _ | exact (Sel.tail _ _).trans (Sel.tail _ _) | exact (Sel.tail _ _).trans ((Sel.tail _ _).trans (Sel.tail _ _))) ?_; (repeat' (first | apply Wpl.nil | (apply Wpl.ld0x0; exact rfl; exact rfl; exact rfl; exact rfl)))); skip
  refine Wph.one 2 (by kernel_rfl) rfl rfl ?_
  refine Wpl.callM rfl rfl rfl (literals_spec Fb _ bf hrb h8 (by omega)) (Pk.nil _) (HasF.cons (HasF.r 0 rfl) HasF.nil) ?_
  rintro vl _ ⟨Fl, rfl, hl⟩
  refine Wpl.nil ⟨fun _ h => h, Sel.tail _ _, ?_⟩
  refine Wph.one 5 (by kernel_rfl) rfl rfl ?_
  refine Wpl.append 0 rfl hl rfl rfl rfl hrt (HasF.r 1 rfl) (by decide) (flat_one ts) (by omega) (by unfold maxLen; omega) (fun va Fa ha => ?_)
  refine Wpl.nil ⟨fun _ h => h, Sel.tail _ _, ?_⟩
  have hcat : flat tokC (litsOf bf) ++ flat tokC ts = flat tokC (litsOf bf ++ ts) := by simp [flat]
  have hra := (ha.cast (n' := (litsOf bf ++ ts).length) (by rw [List.length_append, litsOf_len]) hcat).row
  refine Wph.one 6 (by kernel_rfl) rfl rfl ?_
  refine Wpl.callM rfl rfl rfl (expand_spec Fa va (litsOf bf ++ ts) 20000 hra (by rw [List.length_append, litsOf_len]; omega) (by decide)) (Pk.nil _) (HasF.cons (HasF.m 0 rfl) HasF.nil) ?_
  rintro _ _ ⟨e, ve, Fe, all, rfl, rfl, hre, h8a, hla, hfa⟩
  refine Wpl.nil ⟨fun _ h => h, (Sel.tail _ _).trans (Sel.tail _ _), ?_⟩
  have hrow := hre.row
  obtain ⟨p3, c3, rfl⟩ := hrow.len
  (refine Wph.take 7 rfl (by kernel_rfl) rfl (fun _ _ _ _ h => h) (fun _ h => h) (by first | exact Sel.refl _ | exact Sel.tail _ _ | exact Sel.nil _ | exact (Sel.tail _ _).trans (Sel.tail _ _) | exact (Sel.tail _ _).trans ((Sel.tail _ _).trans (Sel.tail _ _))) ?_; (repeat' (first | apply Wpl.nil | (apply Wpl.mv; exact rfl; (conv => lhs; whnf))))); (refine Wph.take 8 rfl (by kernel_rfl) rfl (fun _ _ _ _ h => h) (fun _ h => h) (by first | exact Sel.refl _ | exact Sel.tail _ _ | exact Sel.nil _ | exact (Sel.tail _ _).trans (Sel.tail _ _) | exact (Sel.tail _ _).trans ((Sel.tail _ _).trans (Sel.tail _ _))) ?_; (repeat' (first | apply Wpl.nil | (apply Wpl.extract; exact rfl; exact rfl; exact rfl)))); (refine Wph.take 9 rfl (by kernel_rfl) rfl (fun _ _ _ _ h => h) (fun _ h => h) (by first | exact Sel.refl _ | exact Sel.tail _ _ | exact Sel.nil _ | exact (Sel.tail _ _).trans (Sel.tail _ _) | exact (Sel.tail _ _).trans ((Sel.tail _ _).trans (Sel.tail _ _))) ?_; (repeat' (first | apply Wpl.nil | (apply Wpl.extract; exact rfl; exact rfl; exact rfl)))); (refine Wph.take 10 rfl (by kernel_rfl) rfl (fun _ _ _ _ h => h) (fun _ h => h) (by first | exact Sel.refl _ | exact Sel.tail _ _ | exact Sel.nil _ | exact (Sel.tail _ _).trans (Sel.tail _ _) | exact (Sel.tail _ _).trans ((Sel.tail _ _).trans (Sel.tail _ _))) ?_; (repeat' (first | apply Wpl.nil | (apply Wpl.asg; exact rfl; (conv => lhs; whnf))))); (refine Wph.take 11 rfl (by kernel_rfl) rfl (fun _ _ _ _ h => h) (fun _ h => h) (by first | exact Sel.refl _ | exact Sel.tail _ _ | exact Sel.nil _ | exact (Sel.tail _ _).trans (Sel.tail _ _) | exact (Sel.tail _ _).trans ((Sel.tail _ _).trans (Sel.tail _ _))) ?_; (repeat' (first | apply Wpl.nil | (apply Wpl.asg; exact rfl; (conv => lhs; whnf))))); skip
  refine Wph.done (by kernel_rfl) ?_
  have hf := fun h => fits_behind (before := bf) (ts := ts) (all := all) (hfa h)
  repeat' (first | (apply Wpc.seqK; intro K hK) | apply Wpc.region | apply Wpl.nil | (apply hK; clear hK K) | (apply Wpl.mv; exact rfl; (conv => lhs; whnf)) | (apply Wpl.asg; exact rfl; (conv => lhs; whnf)) | (apply Wpc.cond_true; exact rfl) | (apply Wpc.cond_false; exact rfl) | apply Wpc.skip | apply Wpc.ret | (apply Wpl.fldS; exact rfl; exact rfl; exact rfl; exact rfl) | (apply Wpl.ld2x0; exact rfl; exact rfl; exact rfl; exact rfl) | (apply Wpl.neq; exact rfl; exact rfl; exact rfl; all_goals (intro h; try (exfalso; omega))) | (apply Wpl.len; exact rfl; exact rfl))
  · exact ⟨[_, _], [[]], ⟨rfl, rfl, trivial⟩, Sel.cons 3 rfl (Sel.nil _), fun _ h => h, hno⟩
  obtain ⟨hf1, hf2⟩ := hf (by assumption)
  refine Wpl.sliceLR rfl rfl rfl hrow rfl hf2 (fun v' hv' => ?_)
  rw [ints_drop] at hv'
  have ho := hv'.one
  repeat' (first | apply Wpl.nil | (apply hK; clear hK K) | (apply Wpl.asg; exact rfl; (conv => lhs; whnf)) | apply Wpc.ret)
  exact ⟨[_, _], [Fe], ⟨rfl, rfl, trivial⟩, Sel.cons 0 rfl (Sel.nil _), fun _ h => h, v', true, Fe, rfl, rfl, ho, fun _ => ⟨all.drop bf.length, by rw [List.length_drop]; exact hv', fun y hy => h8a y (List.mem_of_mem_drop hy), by rw [List.length_drop]; omega, hf1, hlt⟩⟩
end Go.Proofs.Ytmfcgffdijnokaa
set_option maxRecDepth 100000
set_option maxHeartbeats 4000000
namespace Go.Proofs.Ytmfcgffdijnokaa
open Go.SL Go.RowKit
attribute [local irreducible] Wpl Wpc Wph
/-! burnishnum.Tokens, Same -/
section
variable {q : Md} {C : Cx} {ops : Array Oper} {rest : List Oper} {Q : Exit → Env → List Frag → List Frag → Prop} {f : Env} {R M : List Frag}
variable {d : Nat} {ty T T2 : TypeId} {pos : String} {af : Array Edge} {x y : Operand}
theorem run_bytes_row {P : Program} {w : World} {F : Frag} {v : Value} {l : List Int} {src e dst : TypeId} (hs : P.underlying src = some (.slice e)) (he : P.underlying e = some (.int .u8)) (hd : P.underlying dst = some .string)
    (hr : Row F 1 v l.length (ints .u8 l)) (hF : F.In w) : (convert src dst v).run P w = .ok (.string (strOfNums l)) w := by
  obtain ⟨hlen, a, cap, rfl, h2, h3, h4⟩ := hr
  by_cases hz : l.length = 0
  · have : l = [] := List.eq_nil_of_length_eq_zero hz
    subst this
    rw [run_convert_bytes_string w src dst e _ _ _ hs he hd]
    cases a with
    | none => rfl
    | some a => rw [List.length_nil, run_bytesToString w a 0 cap [] (by simp [loadCells, loadCellsFrom])]; rfl
  · obtain ⟨b, off, c, E, fz, rfl, hm, hc⟩ := h4 (by omega)
    refine run_convert_bytes_arg w src e hs he b off l.length cap l rfl (fun i hi => ?_) dst hd
    have hh := hF _ hm
    have hci := hc i (by omega)
    simp only [World.cell?, hh]
    show (if (none : Option _).isSome = true then none else c[off + i]?) = _
    rw [if_neg (by simp), hci, ints, List.getElem?_map, List.getElem?_eq_getElem hi]
    simp [List.getD, hi]
theorem Wpl.strB {E : TypeId} {F : Frag} {v : Value} {l : List Int} {t : TypeId} [hT : SliceT C.P T E] [hE : IntT C.P E .u8] (ht : C.P.underlying t = some .string) (hd : Nat.blt d C.n = true) (hx : f.ev x = v) (hr : Row F 1 v l.length (ints .u8 l)) (hF : HasF R M F)
    (k1 : Wpl q C ops rest Q (f.upd d (.string (strOfNums l))) R M) : Wpl q C ops (⟨some d, .convert T t x, ty, pos, af, none⟩ :: rest) Q f R M :=
  Wpl.val rfl hd _ (fun w hw => by
    have hin : F.In w := by
      rcases hF with h | h
      · exact hw.ro F h
      · exact hw.mu F h
    simp only [execOp, hx, Sem.run_bind, run_bytes_row hT.h hE.h ht hr hin, Result.andThen_ok, Sem.run_pure]) k1
theorem Wpl.strSame {s : ByteArray} (hd : Nat.blt d C.n = true) (hx : f.ev x = .string s) (hy : f.ev y = .string s)
    (k1 : Wpl q C ops rest Q (f.upd d (.bool true)) R M) : Wpl q C ops (⟨some d, .binOp .eql T x y T2, ty, pos, af, none⟩ :: rest) Q f R M :=
  Wpl.cmpRun (.inl rfl) hd hx hy (fun w => by simp [eqGuard]) (fun w => by simp [binOp, Op.stringOp]) k1
end
theorem same_bytes_spec (F1 F2 : Frag) (v1 v2 : Value) (l : List Int) (h1 : Row F1 1 v1 l.length (ints .u8 l)) (h2 : Row F2 1 v2 l.length (ints .u8 l)) :
    PSpec Try.prog 17 [v1, v2] [F1, F2] (.bool true) := by
  refine Ctr.intro Try.func17 (by kernel_rfl) rfl (by conv => lhs; whnf) rfl fun W => ?_
  repeat' (first | (apply Wpc.seqK; intro K hK) | apply Wpc.region | apply Wpl.nil | (apply hK; clear hK K) | (apply Wpl.mv; exact rfl; (conv => lhs; whnf)) | (apply Wpl.asg; exact rfl; (conv => lhs; whnf)))
  refine Wpl.strB Try.underlying9 rfl rfl h1 (HasF.r 0 rfl) ?_
  repeat' (apply Wpl.mv; exact rfl; (conv => lhs; whnf))
  refine Wpl.strB Try.underlying9 rfl rfl h2 (HasF.r 1 rfl) ?_
  refine Wpl.strSame rfl rfl rfl ?_
  repeat' (first | apply Wpl.nil | (apply hK; clear hK K) | (apply Wpl.asg; exact rfl; (conv => lhs; whnf)) | apply Wpc.ret)
  exact ⟨[_], [], ⟨rfl, trivial⟩, Sel.nil _, fun _ h => h, rfl, rfl⟩
theorem tok_run (a b : Int) (w : World) : (binOp .neq 54 (.agg #[.int .i64 a, .int .i64 b]) (.agg #[.int .i64 a, .int .i64 b])).run Try.prog w = .ok (.bool false) w := by
  have hf : Try.prog.fieldsOf 54 = #[⟨ "Len", 3, 0, false, "", "", 0⟩, ⟨ "Dist", 3, 1, false, "", "", 8⟩] := by kernel_rfl
  rw [run_neq_struct, run_equalIn_agg w 9999 54 _ _ (by kernel_rfl) (by kernel_rfl), hf]
  have p0 : ∀ w, (part 3 #[.int .i64 a, .int .i64 b] 0).run Try.prog w = .ok (.int .i64 a) w := fun w => by
    simp [part, ElemT.run_size (CellT.h (P := Try.prog) (E := 3)), ElemT.run_agg (CellT.h (P := Try.prog) (E := 3))]
  have p1 : ∀ w, (part 3 #[.int .i64 a, .int .i64 b] 1).run Try.prog w = .ok (.int .i64 b) w := fun w => by
    simp [part, ElemT.run_size (CellT.h (P := Try.prog) (E := 3)), ElemT.run_agg (CellT.h (P := Try.prog) (E := 3))]
  simp [Op.eqFields, p0, p1, run_equalIn_int _ 9998 3 .i64 .i64 _ _ Try.underlying3]
theorem Wpl.tokNe {q : Md} {C : Cx} {ops : Array Oper} {rest : List Oper} {Q : Exit → Env → List Frag → List Frag → Prop} {f : Env} {R M : List Frag} {d : Nat} {ty T2 : TypeId} {pos : String} {af : Array Edge} {x y : Operand} {a b : Int} (hC : C.P = Try.prog) (hd : Nat.blt d C.n = true)
    (hx : f.ev x = .agg #[.int .i64 a, .int .i64 b]) (hy : f.ev y = .agg #[.int .i64 a, .int .i64 b]) (k1 : Wpl q C ops rest Q (f.upd d (.bool false)) R M) : Wpl q C ops (⟨some d, .binOp .neq 54 x y T2, ty, pos, af, none⟩ :: rest) Q f R M :=
  Wpl.cmpRun (.inr rfl) hd hx hy (fun w => by rw [hC]; exact run_eqGuard_agg w _ _ _ _ _ _ (by kernel_rfl)) (fun w => by rw [hC]; exact tok_run a b w) k1
theorem tokens_same_spec (F1 F2 : Frag) (v1 v2 : Value) (ts : List (Int × Int)) (h1 : Row F1 2 v1 ts.length (flat tokC ts)) (h2 : Row F2 2 v2 ts.length (flat tokC ts)) (hl : ts.length ≤ 1000000000) :
    PSpec Try.prog 16 [v1, v2] [F1, F2] (.bool true) := by
  have hr1 := h1
  have hr2 := h2
  obtain ⟨p1, c1, rfl⟩ := h1.len
  obtain ⟨p2, c2, rfl⟩ := h2.len
  refine Ctr.intro Try.func16 (by kernel_rfl) rfl (by conv => lhs; whnf) rfl fun W => ?_
  repeat' (first | (apply Wpc.seqK; intro K hK) | apply Wpc.region | apply Wpl.nil | (apply hK; clear hK K) | (apply Wpl.mv; exact rfl; (conv => lhs; whnf)) | (apply Wpl.asg; exact rfl; (conv => lhs; whnf)) | (apply Wpc.cond_false; exact rfl) | apply Wpc.skip | (apply Wpl.neq; exact rfl; exact rfl; exact rfl; all_goals (intro h; try (exfalso; omega))) | (apply Wpl.len; exact rfl; exact rfl))
  refine Wpc.block ?_
  refine Wpc.loop (ι := Nat) (fun k => k ≤ ts.length) (fun k => [(0, .slice p1 ts.length c1), (1, .slice p2 ts.length c2), (12, .int .i64 ts.length), (13, .int .i64 k)]) (fun _ => []) (fun k => ts.length - k) 0
    (Nat.zero_le _) ⟨rfl, rfl, rfl, rfl, trivial⟩ (Sel.refl _) ?_
  rintro k g hk
  repeat' (first | (apply Wpc.seqK; intro K hK) | apply Wpc.region | apply Wpl.nil | (apply hK; clear hK K) | (apply Wpl.asg; exact rfl; (conv => lhs; whnf)) | (apply Wpc.cond_true; exact rfl) | (apply Wpc.cond_false; exact rfl) | apply Wpc.skip | apply Wpc.exit | apply Wpc.ret | (apply Wpl.lss; exact rfl; exact rfl; exact rfl; all_goals (intro h; try (exfalso; omega))) | ((conv => whnf); clear hK K; apply hK; clear hK K))
  · have hkt : k < ts.length := by omega
    refine Wpc.block ?_
    repeat' (first | (apply Wpc.region_draw; kernel_rfl; kernel_rfl) | (apply Wpc.seqK; intro K hK) | apply Wpc.region | apply Wpl.nil | (apply hK; clear hK K) | (apply Wpl.mv; exact rfl; (conv => lhs; whnf)) | (apply Wpl.asg; exact rfl; (conv => lhs; whnf)))
    refine Wpl.idxAgg (g := tokC) rfl rfl rfl rfl hr1 tokC_len (HasF.r 0 rfl) (by omega) (by omega) (by decide) (fun _ _ => ?_)
    repeat' (apply Wpl.mv; exact rfl; (conv => lhs; whnf))
    refine Wpl.idxAgg (g := tokC) rfl rfl rfl rfl hr2 tokC_len (HasF.r 1 rfl) (by omega) (by omega) (by decide) (fun _ _ => ?_)
    refine Wpl.tokNe rfl rfl rfl rfl ?_
    repeat' (first | apply Wpc.region | apply Wpl.nil | (apply hK; clear hK K) | (apply Wpl.mv; exact rfl; (conv => lhs; whnf)) | (apply Wpc.cond_false; exact rfl) | apply Wpc.skip | (apply Wpl.add; exact rfl; exact rfl; exact rfl; omega))
    exact ⟨k + 1, by show k + 1 ≤ ts.length; omega, by show ts.length - (k + 1) < ts.length - k; omega, ⟨rfl, rfl, rfl, rfl, trivial⟩, Sel.refl _, fun _ h => h⟩
  · exact ⟨[_], [], ⟨rfl, trivial⟩, Sel.nil _, fun _ h => h, rfl, rfl⟩
end Go.Proofs.Ytmfcgffdijnokaa
