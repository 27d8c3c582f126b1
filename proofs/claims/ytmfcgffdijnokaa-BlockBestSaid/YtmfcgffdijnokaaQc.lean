/- BlockBest returns true -/
import Derived.Test.YtmfcgffdijnokaaQb
set_option linter.unusedVariables false
set_option linter.unusedSimpArgs false
set_option linter.unusedSectionVars false
set_option maxRecDepth 100000
set_option maxHeartbeats 4000000
namespace Go.Proofs.Ytmfcgffdijnokaa
open Go.SL Go.RowKit
attribute [local irreducible] Wpl Wpc Wph
/-! burnishlaw10.BlockBest -/
theorem bestP_min {ts : List (Int × Int)} {st : List Int} (hf : fits ts st) (hl : st.length ≤ 65535) :
    (0 ≤ (bestP ts st 3).1 ∧ (bestP ts st 3).1 ≤ 2) ∧ (bestP ts st 3).2 = bitsM (bestP ts st 3).1 ts st ∧
      ∀ j : Int, 0 ≤ j → j ≤ 2 → (bestP ts st 3).2 ≤ bitsM j ts st ∧ (bitsM j ts st = (bestP ts st 3).2 → (bestP ts st 3).1 ≤ j) := by
  have hc : ∀ j : Int, 0 ≤ j → j ≤ 2 → checkOk j ts st := fun j a b => ⟨⟨a, b⟩, hf, fun h => by omega⟩
  have c0 := hc 0 (by decide) (by decide)
  have c1 := hc 1 (by decide) (by decide)
  have c2 := hc 2 (by decide) (by decide)
  have e1 : bestP ts st 1 = (0, bitsM 0 ts st) := bestStep_yes c0 (.inl (show (-1 : Int) < 0 by decide))
  have e2 : bestP ts st 2 = bestStep ts st (bestP ts st 1) 1 := rfl
  have e3 : bestP ts st 3 = bestStep ts st (bestP ts st 2) 2 := rfl
  have key : ∀ {p : Int × Int} {k : Int}, checkOk k ts st → 0 ≤ p.2 → bestStep ts st p k = if bitsM k ts st < p.2 then (k, bitsM k ts st) else p := fun {p k} h hp => by
    by_cases hlt : bitsM k ts st < p.2
    · rw [if_pos hlt]; exact bestStep_yes h (.inr hlt)
    · rw [if_neg hlt]; exact bestStep_no (fun h2 => by have := h2.2; omega)
  have b0 : 0 ≤ bitsM 0 ts st := by unfold bitsM; rw [if_pos rfl]; omega
  have hpf := planFor 1 ts st hf
  have hpf2 := planFor 2 ts st hf
  have b1 : 0 ≤ bitsM 1 ts st := by
    have h1 := planM_head 1 ts
    have h2 := bodyM_bd hpf.kl.bd hpf.kd.bd ts hpf.tok ts.length (Nat.le_refl _)
    rw [List.take_length] at h2
    unfold bitsM; rw [if_neg (by decide)]; omega
  have b2 : 0 ≤ bitsM 2 ts st := by
    have h1 := planM_head 2 ts
    have h2 := bodyM_bd hpf2.kl.bd hpf2.kd.bd ts hpf2.tok ts.length (Nat.le_refl _)
    rw [List.take_length] at h2
    unfold bitsM; rw [if_neg (by decide)]; omega
  rw [e1, key c1 b0] at e2
  dsimp only at e2
  have e2' : 0 ≤ (bestP ts st 2).2 := by
    rw [e2]; split
    · exact b1
    · exact b0
  rw [key c2 e2', e2] at e3
  rw [e3]
  clear e1 e2 e2' e3 key hpf hpf2 c0 c1 c2 hc
  have hcase : ∀ j : Int, 0 ≤ j → j ≤ 2 → j = 0 ∨ j = 1 ∨ j = 2 := fun j a b => by omega
  have hpick : ∀ (x : Int → Int) (p : Int × Int), p = (if x 2 < (if x 1 < x 0 then ((1 : Int), x 1) else (0, x 0)).2 then ((2 : Int), x 2) else if x 1 < x 0 then ((1 : Int), x 1) else (0, x 0)) → (0 ≤ p.1 ∧ p.1 ≤ 2) ∧ p.2 = x p.1 ∧ ∀ j : Int, 0 ≤ j → j ≤ 2 → p.2 ≤ x j ∧ (x j = p.2 → p.1 ≤ j) := by
    intro x p hp
    by_cases h1 : x 1 < x 0
    · rw [if_pos h1] at hp
      by_cases h2 : x 2 < x 1
      · rw [if_pos h2] at hp
        subst hp
        refine ⟨by dsimp only; omega, rfl, fun j a b => ?_⟩
        rcases hcase j a b with rfl | rfl | rfl <;> (dsimp only; omega)
      · rw [if_neg h2] at hp
        subst hp
        refine ⟨by dsimp only; omega, rfl, fun j a b => ?_⟩
        rcases hcase j a b with rfl | rfl | rfl <;> (dsimp only; omega)
    · rw [if_neg h1] at hp
      by_cases h2 : x 2 < x 0
      · rw [if_pos h2] at hp
        subst hp
        refine ⟨by dsimp only; omega, rfl, fun j a b => ?_⟩
        rcases hcase j a b with rfl | rfl | rfl <;> (dsimp only; omega)
      · rw [if_neg h2] at hp
        subst hp
        refine ⟨by dsimp only; omega, rfl, fun j a b => ?_⟩
        rcases hcase j a b with rfl | rfl | rfl <;> (dsimp only; omega)
  exact hpick (fun j => bitsM j ts st) _ rfl
section
variable (Fb Ft : Frag) (vb vt : Value) (bf : List Int) (ts : List (Int × Int)) (k : Int) (last : Bool) (hb : Row Fb 1 vb bf.length (ints .u8 bf)) (ht : Row Ft 2 vt ts.length (flat tokC ts)) (h8 : bytes8 bf)
include hb ht h8
theorem bestlaw_spec : PSpec Try.prog 4 [.agg #[vb, vt, .int .i64 k, .bool last]] [Fb, Ft] (.bool true) := by
  have htx := text_spec Fb Ft vb vt bf ts k last hb ht h8
  have hb1 := hb.one
  have ht1 := ht.one
  have hrb := hb
  have hrt := ht
  obtain ⟨p1, c1, rfl⟩ := hb.len
  obtain ⟨p2, c2, rfl⟩ := ht.len
  refine Ctr.intro Try.func4 (by kernel_rfl) rfl (by conv => lhs; whnf) rfl fun W => ?_
  apply Wpc.seqK; intro K hK
  apply Wpc.region
  refine Wpl.boxA rfl rfl (fun bx => ?_)
  repeat' (first | (apply Wpl.callP; exact rfl; exact rfl; exact rfl; exact rfl; (exact alive_spec); (exact HasF.nil)) | (apply Wpc.seqK; intro K hK) | apply Wpc.region | apply Wpl.nil | (apply hK; clear hK K) | (apply Wpl.asg; exact rfl; (conv => lhs; whnf)) | (apply Wpc.cond_false; exact rfl) | apply Wpc.skip | (apply Wpl.unNot; exact rfl; exact rfl))
  refine Wpl.ldAgg 0 0 (cs := [.slice p1 bf.length c1, .slice p2 ts.length c2, .int .i64 k, .bool last]) rfl rfl rfl rfl rfl ?_
  refine Wpl.callM rfl rfl rfl htx (Pk.nil _) (HasF.cons (HasF.r 0 rfl) (HasF.cons (HasF.r 1 rfl) HasF.nil)) ?_
  rintro _ _ ⟨v, ok, F, rfl, rfl, hvo, hst⟩
  cases ok with
  | false =>
    repeat' (first | (apply Wpc.seqK; intro K hK) | apply Wpc.region | apply Wpl.nil | (apply hK; clear hK K) | (apply Wpl.mv; exact rfl; (conv => lhs; whnf)) | (apply Wpl.asg; exact rfl; (conv => lhs; whnf)) | (apply Wpc.cond_true; exact rfl) | apply Wpc.ret | (apply Wpl.extract; exact rfl; exact rfl; exact rfl) | (apply Wpl.unNot; exact rfl; exact rfl))
    exact ⟨[_], [], ⟨rfl, trivial⟩, Sel.nil _, fun _ h => h, rfl, rfl⟩
  | true =>
    obtain ⟨st, hrs, h8s, hls, hft, hlt⟩ := hst rfl
    clear hst htx
    have hmin := bestP_min hft (by omega)
    have hbd := fun j : Int => bitsM_bd (k := j) hft (by omega) (by omega)
    have hbest := best_ok Ft F _ v ts st hrt hrs h8s (by omega) (by omega) hft
    have hrs1 := hrs
    obtain ⟨p3, c3, rfl⟩ := hrs.len
    obtain ⟨⟨hm1, hm2⟩, hm3, hm4⟩ := hmin
    generalize bestP ts st 3 = bp at *
    obtain ⟨kb, nb⟩ := bp
    dsimp only at hm1 hm2 hm3 hm4 hbest
    repeat' (first | (apply Wpc.seqK; intro K hK) | apply Wpc.region | apply Wpl.nil | (apply hK; clear hK K) | (apply Wpl.mv; exact rfl; (conv => lhs; whnf)) | (apply Wpl.asg; exact rfl; (conv => lhs; whnf)) | (apply Wpc.cond_false; exact rfl) | apply Wpc.skip | (apply Wpl.extract; exact rfl; exact rfl; exact rfl) | (apply Wpl.unNot; exact rfl; exact rfl) | (apply Wpl.fldS; exact rfl; exact rfl; exact rfl; exact rfl) | (apply Wpl.ld1x0; exact rfl; exact rfl; exact rfl; exact rfl))
    refine Wpl.callM rfl rfl rfl hbest (Pk.nil _) (HasF.cons (HasF.r 1 rfl) (HasF.cons (HasF.m 0 rfl) HasF.nil)) ?_
    rintro _ _ ⟨vt', vs', F1, F2, rfl, rfl, hr1, hr2⟩
    clear hbest
    unfold blkV
    have hx1 := hr1.one
    have hx2 := hr2.one
    have hrow1 := hr1
    have hrow2 := hr2
    obtain ⟨q1, d1, rfl⟩ := hr1.len
    obtain ⟨q2, d2, rfl⟩ := hr2.len
    repeat' (first | (apply Wpl.mv; exact rfl; (conv => lhs; whnf)) | (apply Wpl.extract; exact rfl; exact rfl; exact rfl) | (apply Wpl.new; exact rfl; intro _))
    rename_i b5
    refine Wpl.stAgg0 (cs := #[.int .i64 kb, .slice q1 ts.length d1, .slice q2 st.length d2]) rfl rfl rfl rfl rfl (one_cons rfl (one_cons rfl (one_cons rfl one_nil))) rfl ?_
    repeat' (first | (apply Wpl.callP; exact rfl; exact rfl; exact rfl; exact rfl; (exact tokens_same_spec F1 Ft _ _ ts hrow1 hrt (by omega)); (refine HasF.cons (by (exact HasF.m 1 rfl)) (HasF.cons (by (exact HasF.r 1 rfl)) HasF.nil))) | (apply Wpl.callP; exact rfl; exact rfl; exact rfl; exact rfl; (exact same_bytes_spec F2 F _ _ st hrow2 hrs1); (refine HasF.cons (by (exact HasF.m 2 rfl)) (HasF.cons (by (exact HasF.m 3 rfl)) HasF.nil))) | (apply Wpc.seqK; intro K hK) | apply Wpc.region | apply Wpl.nil | (apply hK; clear hK K) | (apply Wpl.mv; exact rfl; (conv => lhs; whnf)) | (apply Wpl.asg; exact rfl; (conv => lhs; whnf)) | (apply Wpl.guard_run; exact rfl; exact rfl) | (apply Wpl.pickF; exact rfl; exact rfl; (conv => lhs; whnf)) | (apply Wpc.cond_false; exact rfl) | apply Wpc.skip | (apply Wpl.unNot; exact rfl; exact rfl) | (apply Wpl.fldS; exact rfl; exact rfl; exact rfl; exact rfl) | (apply Wpl.ld0x0; exact rfl; exact rfl; exact rfl; exact rfl) | (apply Wpl.ld4x0; exact rfl; exact rfl; exact rfl; exact rfl) | (apply Wpl.errNeNil; exact rfl; exact rfl))
    refine Wpl.ldAgg 0 0 (cs := [.int .i64 kb, .slice q1 ts.length d1, .slice q2 st.length d2]) rfl rfl rfl rfl rfl ?_
    have hco : ∀ j : Int, 0 ≤ j → j ≤ 2 → checkOk j ts st := fun j a b => ⟨⟨a, b⟩, hft, fun h => by omega⟩
    have hbk := bits_ok kb F1 F2 _ _ ts st hrow1 hrow2 h8s (by omega) (by omega) (hco kb hm1 hm2)
    rw [← hm3] at hbk
    unfold blkV at hbk
    have hnb := hbd kb
    rw [← hm3] at hnb
    repeat' (first | (apply Wpl.callP; exact rfl; exact rfl; exact rfl; exact rfl; (exact hbk); (refine HasF.cons (by (exact HasF.m 1 rfl)) (HasF.cons (by (exact HasF.m 2 rfl)) HasF.nil))) | (apply Wpc.seqK; intro K hK) | apply Wpc.region | apply Wpl.nil | (apply hK; clear hK K) | (apply Wpl.mv; exact rfl; (conv => lhs; whnf)) | (apply Wpl.asg; exact rfl; (conv => lhs; whnf)) | (apply Wpc.cond_false; exact rfl) | apply Wpc.skip | (apply Wpl.extract; exact rfl; exact rfl; exact rfl) | (apply Wpl.errNeNil; exact rfl; exact rfl))
    refine Wpc.block ?_
    refine Wpc.loop (ι := Nat) (fun j => j ≤ 3) (fun j => [(1, .pointer (some ⟨bx, 0, none⟩)), (3, .slice p3 st.length c3), (5, .pointer (some ⟨b5, 0, none⟩)), (7, .int .i64 nb), (51, .int .i64 j)])
      (fun _ => [[(b5, .cells #[.int .i64 kb, .slice q1 ts.length d1, .slice q2 st.length d2] 28 (0, 0))], F1, F2, F, [(bx, .cells #[.slice p1 bf.length c1, .slice p2 ts.length c2, .int .i64 k, .bool last] 25 (0, 0))]]) (fun j => 3 - j) 0
      (by omega) ⟨rfl, rfl, rfl, rfl, rfl, trivial⟩ (Sel.refl _) ?_
    rintro j g hj
    repeat' (first | (apply Wpc.seqK; intro K hK) | apply Wpc.region | apply Wpl.nil | (apply hK; clear hK K) | (apply Wpl.asg; exact rfl; (conv => lhs; whnf)) | (apply Wpc.cond_true; exact rfl) | (apply Wpc.cond_false; exact rfl) | apply Wpc.skip | apply Wpc.exit | apply Wpc.ret | (apply Wpl.lss; exact rfl; exact rfl; exact rfl; all_goals (intro h; try (exfalso; omega))) | ((conv => whnf); clear hK K; apply hK; clear hK K))
    · have hj2 : (j : Int) ≤ 2 := by omega
      have hmj := hm4 (j : Int) (by omega) hj2
      have hbj := bits_ok (j : Int) Ft F _ _ ts st hrt hrs1 h8s (by omega) (by omega) (hco j (by omega) hj2)
      have hnj := hbd (j : Int)
      unfold blkV at hbj
      generalize bitsM (j : Int) ts st = mj at *
      refine Wpc.block ?_
      repeat' (first | (apply Wpc.seqK; intro K hK) | apply Wpc.region | apply Wpl.nil | (apply hK; clear hK K) | (apply Wpl.mv; exact rfl; (conv => lhs; whnf)) | (apply Wpl.asg; exact rfl; (conv => lhs; whnf)) | (apply Wpl.fldS; exact rfl; exact rfl; exact rfl; exact rfl) | (apply Wpl.ld4x0; exact rfl; exact rfl; exact rfl; exact rfl))
      refine Wpl.build (cs := [.int .i64 j, .slice p2 ts.length c2, .slice p3 st.length c3]) rfl rfl ?_
      repeat' (first | (apply Wpl.callP; exact rfl; exact rfl; exact rfl; exact rfl; (exact hbj); (refine HasF.cons (by (exact HasF.r 1 rfl)) (HasF.cons (by (exact HasF.m 3 rfl)) HasF.nil))) | (apply Wpc.seqK; intro K hK) | apply Wpc.region | apply Wpl.nil | (apply hK; clear hK K) | (apply Wpl.mv; exact rfl; (conv => lhs; whnf)) | (apply Wpl.asg; exact rfl; (conv => lhs; whnf)) | (apply Wpl.guard_run; exact rfl; exact rfl) | (apply Wpl.guard_skip; exact rfl; exact rfl; exact rfl) | (apply Wpl.pickT; exact rfl; exact rfl; (conv => lhs; whnf)) | (apply Wpl.pickF; exact rfl; exact rfl; (conv => lhs; whnf)) | (apply Wpc.cond_false; exact rfl) | apply Wpc.skip | (apply Wpl.extract; exact rfl; exact rfl; exact rfl) | (apply Wpl.fldS; exact rfl; exact rfl; exact rfl; exact rfl) | (apply Wpl.ld0x0; exact rfl; exact rfl; exact rfl; exact rfl) | (apply Wpl.lss; exact rfl; exact rfl; exact rfl; all_goals (intro h; try (exfalso; omega))) | (apply Wpl.eql; exact rfl; exact rfl; exact rfl; all_goals (intro h; try (exfalso; omega))) | (apply Wpl.add; exact rfl; exact rfl; exact rfl; omega) | (apply Wpl.errNeNil; exact rfl; exact rfl))
      all_goals exact ⟨j + 1, by show j + 1 ≤ 3; omega, by show 3 - (j + 1) < 3 - j; omega, ⟨rfl, rfl, rfl, rfl, rfl, trivial⟩, Sel.refl _, fun _ h => h⟩
    · exact ⟨[_], [], ⟨rfl, trivial⟩, Sel.nil _, fun _ h => h, rfl, rfl⟩
end
end Go.Proofs.Ytmfcgffdijnokaa
