/- contracts: the body of a block, bits, writing, the best kind -/
import Derived.Test.YtmfcgffdijnokaaPk
set_option linter.unusedVariables false
set_option linter.unusedSimpArgs false
set_option linter.unusedSectionVars false
set_option maxRecDepth 100000
set_option maxHeartbeats 4000000
namespace Go.Proofs.Ytmfcgffdijnokaa
open Go.SL Go.RowKit
attribute [local irreducible] Wpl Wpc Wph
/-! plan.body, block.Bits -/
def tokB (m : PlanM) (t : Int × Int) : Int :=
  if t.1 = 0 then lenOf m.l t.2 else (lenOf m.l (lenSym t.1) + (lenBase (lenSym t.1)).2.1) + (lenOf m.d (distSym t.2) + (distBase (distSym t.2)).2.1)
def bodyM (m : PlanM) (ts : List (Int × Int)) : Int := ts.foldl (fun a t => a + tokB m t) (lenOf m.l 256)
theorem bodyM_snoc (m : PlanM) (ts : List (Int × Int)) (t : Int × Int) : bodyM m (ts ++ [t]) = bodyM m ts + tokB m t := by simp [bodyM]
theorem tokB_bd {m : PlanM} {t : Int × Int} (hl : ∀ x ∈ m.l, 0 ≤ x ∧ x ≤ 16) (hd : ∀ x ∈ m.d, 0 ≤ x ∧ x ≤ 16) (ht : TokW m t) : 0 ≤ tokB m t ∧ tokB m t ≤ 50 := by
  unfold tokB
  split
  · have := lenOf_le (by decide) hl t.2; omega
  · rename_i h0
    obtain ⟨h1, h2, _⟩ := ht.2 h0
    have a2 := lenOf_le (by decide) hl (lenSym t.1)
    have a3 := lenSym_fit h1
    have a4 := distSym_fit h2
    have a6 := lenOf_le (by decide) hd (distSym t.2)
    omega
theorem bodyM_bd {m : PlanM} (hl : ∀ x ∈ m.l, 0 ≤ x ∧ x ≤ 16) (hd : ∀ x ∈ m.d, 0 ≤ x ∧ x ≤ 16) (ts : List (Int × Int)) (h : ∀ t ∈ ts, TokW m t) : ∀ k, k ≤ ts.length → 0 ≤ bodyM m (ts.take k) ∧ bodyM m (ts.take k) ≤ 16 + 50 * k
  | 0, _ => by
    rw [List.take_zero]
    have := lenOf_le (by decide) hl 256
    show 0 ≤ lenOf m.l 256 ∧ lenOf m.l 256 ≤ 16 + 50 * ((0 : Nat) : Int)
    omega
  | k + 1, hk => by
    have ih := bodyM_bd hl hd ts h k (by omega)
    have := tokB_bd hl hd (h _ (List.getElem_mem (show k < ts.length by omega)))
    rw [take_snoc ts k (by omega), bodyM_snoc]
    omega
theorem body_spec {vt v : Value} {F1 F2 F3 F4 Ft : Frag} {m : PlanM} {ts : List (Int × Int)} (hp : PlanR F1 F2 F3 F4 v m) (hf : PlanFor m ts) (ht : Row Ft 2 vt ts.length (flat tokC ts)) (htl : ts.length ≤ 1000000000) :
    PSpec Try.prog 36 [v, vt] [F1, F2, Ft] (.int .i64 (bodyM m ts)) := by
  obtain ⟨vl, vd, vr, vo, rfl, hvl, hvd, hvr, hvo⟩ := hp.at_
  obtain ⟨pl, cl, rfl⟩ := hvl.len
  obtain ⟨pd, cd, rfl⟩ := hvd.len
  obtain ⟨pr, cr, rfl⟩ := hvr.len
  obtain ⟨po, co, rfl⟩ := hvo.len
  obtain ⟨pt, ct, rfl⟩ := ht.len
  have hl16 := hf.kl.bd
  have hd16 := hf.kd.bd
  have h256 := hf.h256.1
  have hg : ∀ s : Int, 0 ≤ s → ∀ h : s.toNat < m.l.length, m.l[s.toNat]'h = lenOf m.l s := fun s _ h => (getD_get h).symm
  have hgd : ∀ s : Int, 0 ≤ s → ∀ h : s.toNat < m.d.length, m.d[s.toNat]'h = lenOf m.d s := fun s _ h => (getD_get h).symm
  have hbb := bodyM_bd hl16 hd16 ts hf.tok
  refine Ctr.intro Try.func36 (by kernel_rfl) rfl (by conv => lhs; whnf) rfl fun W => ?_
  unfold planV
  apply Wpc.seqK; intro K hK
  apply Wpc.region
  refine Wpl.boxA rfl rfl (fun bx => ?_)
  repeat' (first | (apply Wpc.seqK; intro K hK) | apply Wpc.region | apply Wpl.nil | (apply hK; clear hK K) | (apply Wpl.mv; exact rfl; (conv => lhs; whnf)) | (apply Wpl.asg; exact rfl; (conv => lhs; whnf)) | (apply Wpl.fldS; exact rfl; exact rfl; exact rfl; exact rfl) | (apply Wpl.ld0x0; exact rfl; exact rfl; exact rfl; exact rfl) | (apply Wpl.len; exact rfl; exact rfl) | (apply Wpl.idxN; exact rfl; exact rfl; exact rfl; exact rfl; assumption; (exact HasF.r 0 rfl); omega; intro _ _))
  refine Wpc.block ?_
  refine Wpc.loop (ι := Nat) (fun k => k ≤ ts.length)
    (fun k => [(2, .pointer (some ⟨bx, 0, none⟩)), (5, .int .i64 (bodyM m (ts.take k))), (17, .slice pt ts.length ct), (18, .int .i64 ts.length), (19, .int .i64 k)])
    (fun _ => [[(bx, .cells #[.slice pl m.l.length cl, .slice pd m.d.length cd, .slice pr m.runs.length cr, .slice po m.ones.length co, .int .i64 m.head] 89 (0, 0))]]) (fun k => ts.length - k) 0
    (Nat.zero_le _) ⟨rfl, congrArg (Value.int .i64) (hg 256 (by decide) h256), rfl, rfl, rfl, trivial⟩ (Sel.refl _) ?_
  rintro k g hk
  have hbk := hbb k hk
  repeat' (first | (apply Wpc.seqK; intro K hK) | apply Wpc.region | apply Wpl.nil | (apply hK; clear hK K) | (apply Wpl.mv; exact rfl; (conv => lhs; whnf)) | (apply Wpl.asg; exact rfl; (conv => lhs; whnf)) | (apply Wpc.cond_true; exact rfl) | (apply Wpc.cond_false; exact rfl) | apply Wpc.skip | apply Wpc.exit | apply Wpc.ret | (apply Wpl.lss; exact rfl; exact rfl; exact rfl; all_goals (intro h; try (exfalso; omega))) | ((conv => whnf); clear hK K; apply hK; clear hK K))
  · have hkt : k < ts.length := by omega
    have hst := bodyM_snoc m (ts.take k) (ts[k]'hkt)
    rw [← take_snoc ts k hkt] at hst
    have htk := hf.tok _ (List.getElem_mem hkt)
    have htb := tokB_bd hl16 hd16 htk
    refine Wpc.block ?_
    repeat' (first | (apply Wpc.seqK; intro K hK) | apply Wpc.region)
    refine Wpl.idxAgg (g := tokC) rfl rfl rfl rfl ht tokC_len (HasF.r 2 rfl) (by omega) (by omega) (by decide) (fun _ _ => ?_)
    have e : (k : Int).toNat = k := rfl
    simp only [e]
    generalize ts[k]'hkt = tk at *
    obtain ⟨tl, td⟩ := tk
    have htk1 : tl = 0 → 0 ≤ td ∧ td < m.l.length ∧ 0 < lenOf m.l td := htk.1
    have htk2 : tl ≠ 0 → (3 ≤ tl ∧ tl ≤ 258) ∧ (1 ≤ td ∧ td ≤ 32768) ∧ lenSym tl < m.l.length ∧ 0 < lenOf m.l (lenSym tl) ∧ distSym td < m.d.length ∧ 0 < lenOf m.d (distSym td) := htk.2
    refine Wpl.new rfl (fun b => ?_)
    refine Wpl.stAgg 0 0 (cs := #[.int .i64 tl, .int .i64 td]) rfl rfl rfl rfl rfl (one_cons rfl (one_cons rfl one_nil)) rfl ?_
    repeat' (first | (apply Wpc.seqK; intro K hK) | apply Wpc.region | apply Wpl.nil | (apply hK; clear hK K) | (apply Wpl.mv; exact rfl; (conv => lhs; whnf)) | (apply Wpc.cond_true; exact rfl) | (apply Wpc.cond_false; exact rfl) | apply Wpc.skip | (apply Wpl.fldS; exact rfl; exact rfl; exact rfl; exact rfl) | (apply Wpl.ld0x0; exact rfl; exact rfl; exact rfl; exact rfl) | (apply Wpl.ld1x0; exact rfl; exact rfl; exact rfl; exact rfl) | (apply Wpl.eql; exact rfl; exact rfl; exact rfl; all_goals (intro h; try (exfalso; omega))) | (apply Wpl.idx; exact rfl; exact rfl; exact rfl; exact rfl; assumption; (exact HasF.r 0 rfl); omega; omega; intro _ _))
    · have h00 : tl = 0 := by assumption
      obtain ⟨a1, a2, a3⟩ := htk1 h00
      have hst2 : bodyM m (ts.take (k + 1)) = bodyM m (ts.take k) + lenOf m.l td := by rw [hst, tokB, if_pos h00]
      have hbt := lenOf_le (by decide) hl16 td
      have hgg := hg td a1 (by omega)
      generalize m.l[td.toNat]'(by omega) = lv at *
      subst hgg
      repeat' (first | apply Wpc.region | apply Wpl.nil | (apply hK; clear hK K) | (apply Wpl.mv; exact rfl; (conv => lhs; whnf)) | (apply Wpl.asg; exact rfl; (conv => lhs; whnf)) | apply Wpc.exit | (apply Wpl.add; exact rfl; exact rfl; exact rfl; omega) | ((conv => whnf); clear hK K; apply hK; clear hK K))
      exact ⟨k + 1, by omega, by omega, ⟨rfl, congrArg (Value.int .i64) hst2.symm, rfl, rfl, rfl, trivial⟩, Sel.tail _ _, fun _ h => h⟩
    · have h00 : tl ≠ 0 := by assumption
      obtain ⟨a1, a2, a3, a4, a5, a6⟩ := htk2 h00
      have hst2 : bodyM m (ts.take (k + 1)) = bodyM m (ts.take k) + ((lenOf m.l (lenSym tl) + (lenBase (lenSym tl)).2.1) + (lenOf m.d (distSym td) + (distBase (distSym td)).2.1)) := by rw [hst, tokB, if_neg h00]
      have b1 := lenSym_fit a1
      have b2 := distSym_fit a2
      have b3 := lenSym_bd tl
      have b4 := distSym_bd td
      have b6 := lenOf_le (by decide) hl16 (lenSym tl)
      have b8 := lenOf_le (by decide) hd16 (distSym td)
      have d1 := lenSym_in tl a1
      have d2 := distSym_in td a2
      have d3 := lenBase_spec (lenSym tl) (by omega)
      have d4 := distBase_spec (distSym td) (by omega)
      generalize lenSym tl = ls at *
      generalize distSym td = ds at *
      generalize hlb : lenBase ls = lb at *
      generalize hdb : distBase ds = db at *
      obtain ⟨lb1, lb2, lb3⟩ := lb
      obtain ⟨db1, db2, db3⟩ := db
      dsimp only [trip] at b1 b2 d3 d4 hst2
      have hg1 := hg ls (by omega)
      have hg2 := hgd ds (by omega)
      repeat' (first | (apply Wpl.callP; exact rfl; exact rfl; exact rfl; exact rfl; (exact d1); (exact HasF.nil)) | (apply Wpl.callP; exact rfl; exact rfl; exact rfl; exact rfl; (exact d3); (exact HasF.nil)) | (apply Wpc.seqK; intro K hK) | apply Wpc.region | apply Wpl.nil | (apply hK; clear hK K) | (apply Wpl.mv; exact rfl; (conv => lhs; whnf)) | (apply Wpl.asg; exact rfl; (conv => lhs; whnf)) | (apply Wpl.extract; exact rfl; exact rfl; exact rfl) | (apply Wpl.fldS; exact rfl; exact rfl; exact rfl; exact rfl) | (apply Wpl.ld1x0; exact rfl; exact rfl; exact rfl; exact rfl) | (apply Wpl.idx; exact rfl; exact rfl; exact rfl; exact rfl; assumption; (exact HasF.r 0 rfl); omega; omega; intro _ _))
      have hq1 := hg1 (by omega)
      generalize m.l[ls.toNat]'(by omega) = lv at *
      subst hq1
      repeat' (first | (apply Wpl.callP; exact rfl; exact rfl; exact rfl; exact rfl; (exact d2); (exact HasF.nil)) | (apply Wpl.callP; exact rfl; exact rfl; exact rfl; exact rfl; (exact d4); (exact HasF.nil)) | (apply Wpc.seqK; intro K hK) | apply Wpc.region | apply Wpl.nil | (apply hK; clear hK K) | (apply Wpl.mv; exact rfl; (conv => lhs; whnf)) | (apply Wpl.asg; exact rfl; (conv => lhs; whnf)) | (apply Wpl.extract; exact rfl; exact rfl; exact rfl) | (apply Wpl.fldS; exact rfl; exact rfl; exact rfl; exact rfl) | (apply Wpl.ld0x0; exact rfl; exact rfl; exact rfl; exact rfl) | (apply Wpl.ld1x0; exact rfl; exact rfl; exact rfl; exact rfl) | (apply Wpl.add; exact rfl; exact rfl; exact rfl; omega) | (apply Wpl.idx; exact rfl; exact rfl; exact rfl; exact rfl; assumption; (exact HasF.r 1 rfl); omega; omega; intro _ _))
      have hq2 := hg2 (by omega)
      generalize m.d[ds.toNat]'(by omega) = dv at *
      subst hq2
      repeat' (first | apply Wpc.region | apply Wpl.nil | (apply hK; clear hK K) | (apply Wpl.mv; exact rfl; (conv => lhs; whnf)) | (apply Wpl.asg; exact rfl; (conv => lhs; whnf)) | (apply Wpl.add; exact rfl; exact rfl; exact rfl; omega))
      exact ⟨k + 1, by omega, by omega, ⟨rfl, congrArg (Value.int .i64) (by rw [hst2]; omega), rfl, rfl, rfl, trivial⟩, Sel.tail _ _, fun _ h => h⟩
  · have hkt : k = ts.length := by omega
    subst hkt
    rw [List.take_length]
    skip
    exact ⟨[_], [], ⟨rfl, trivial⟩, Sel.nil _, fun _ h => h, rfl, rfl⟩
end Go.Proofs.Ytmfcgffdijnokaa
set_option maxRecDepth 100000
set_option maxHeartbeats 4000000
namespace Go.Proofs.Ytmfcgffdijnokaa
open Go.SL Go.RowKit
attribute [local irreducible] Wpl Wpc Wph
/-! block.Bits -/
theorem planM_head (k : Int) (ts : List (Int × Int)) : 0 ≤ (planM k ts).head ∧ (planM k ts).head ≤ 10000 := by
  unfold planM
  split
  · decide
  · rw [ownM_head]
    have h1 := (wrN_bd (onesM (runsM (litT ts ++ dstT ts))) 19).1
    have h2 := headSum_bd (onesM_bd (runsM (litT ts ++ dstT ts))) (runsM (litT ts ++ dstT ts))
    have h3 := runs_len (l := litT ts ++ dstT ts)
    have h4 := litT_len ts
    have h5 := dstT_len ts
    rw [List.length_append] at h3
    omega
noncomputable def bitsM (k : Int) (ts : List (Int × Int)) (st : List Int) : Int := if k = 0 then 42 + 8 * (st.length : Int) else 3 + (planM k ts).head + bodyM (planM k ts) ts
theorem PlanR.agg {F1 F2 F3 F4 : Frag} {v : Value} {p : PlanM} (h : PlanR F1 F2 F3 F4 v p) : ∃ vl vd vr vo, v = .agg #[vl, vd, vr, vo, .int .i64 p.head] ∧ vl.oneCell' = true ∧ vd.oneCell' = true ∧ vr.oneCell' = true ∧ vo.oneCell' = true := by
  obtain ⟨vl, vd, vr, vo, rfl, q1, q2, q3, q4⟩ := h.at_
  exact ⟨vl, vd, vr, vo, rfl, q1.one, q2.one, q3.one, q4.one⟩
section
variable (k : Int) (Ft Fs : Frag) (vt vs : Value) (ts : List (Int × Int)) (st : List Int) (ht : Row Ft 2 vt ts.length (flat tokC ts)) (hs : Row Fs 1 vs st.length (ints .u8 st)) (h8 : bytes8 st) (hlt : ts.length ≤ 1000000000) (hls : st.length ≤ 1000000000)
include ht hs h8 hlt hls
theorem bits_bad (hc : ¬ checkOk k ts st) : PSpec Try.prog 10 [blkV k vt vs] [Ft, Fs] (.tuple #[.int .i64 0, errV 6]) := by
  have hch := check_spec k Ft Fs vt vs ts st ht hs h8 (by omega) (by omega)
  rw [check_bad hc] at hch
  have h1 := ht.one
  have h2 := hs.one
  refine Ctr.intro Try.func10 (by kernel_rfl) rfl (by conv => lhs; whnf) rfl fun W => ?_
  unfold blkV at hch ⊢
  apply Wpc.seqK; intro K hK
  apply Wpc.region
  refine Wpl.boxA rfl rfl (fun bx => ?_)
  repeat' (first | (apply Wpc.seqK; intro K hK) | apply Wpc.region | apply Wpl.nil | (apply hK; clear hK K) | (apply Wpl.asg; exact rfl; (conv => lhs; whnf)))
  refine Wpl.ldAgg 0 0 (cs := [.int .i64 k, vt, vs]) rfl rfl rfl rfl rfl ?_
  unfold errV at hch ⊢
  repeat' (first | (apply Wpl.callP; exact rfl; exact rfl; exact rfl; exact rfl; (exact hch); (refine HasF.cons (by (exact HasF.r 0 rfl)) (HasF.cons (by (exact HasF.r 1 rfl)) HasF.nil))) | (apply Wpc.seqK; intro K hK) | apply Wpc.region | apply Wpl.nil | (apply hK; clear hK K) | (apply Wpl.mv; exact rfl; (conv => lhs; whnf)) | (apply Wpl.asg; exact rfl; (conv => lhs; whnf)) | (apply Wpc.cond_true; exact rfl) | apply Wpc.ret | (apply Wpl.errNe; exact rfl; exact rfl))
  exact ⟨[_, _], [], ⟨rfl, rfl, trivial⟩, Sel.nil _, fun _ h => h, rfl, rfl⟩
theorem bits_ok (hc : checkOk k ts st) : PSpec Try.prog 10 [blkV k vt vs] [Ft, Fs] (.tuple #[.int .i64 (bitsM k ts st), .nilIface]) := by
  have hch := check_spec k Ft Fs vt vs ts st ht hs h8 (by omega) (by omega)
  rw [check_ok hc] at hch
  have hfit := hc.2.1
  have hpf := planFor k ts st hfit
  have hpl := planned_spec k Ft vt vs ts ht hlt hs.one
  have hhd := planM_head k ts
  have hbd := bodyM_bd hpf.kl.bd hpf.kd.bd ts hpf.tok ts.length (Nat.le_refl _)
  rw [List.take_length] at hbd
  have h1 := ht.one
  have h2 := hs.one
  have hrow := hs
  obtain ⟨p2, c2, rfl⟩ := hs.len
  refine Ctr.intro Try.func10 (by kernel_rfl) rfl (by conv => lhs; whnf) rfl fun W => ?_
  unfold blkV at hch ⊢
  apply Wpc.seqK; intro K hK
  apply Wpc.region
  refine Wpl.boxA rfl rfl (fun bx => ?_)
  repeat' (first | (apply Wpc.seqK; intro K hK) | apply Wpc.region | apply Wpl.nil | (apply hK; clear hK K) | (apply Wpl.asg; exact rfl; (conv => lhs; whnf)))
  refine Wpl.ldAgg 0 0 (cs := [.int .i64 k, vt, .slice p2 st.length c2]) rfl rfl rfl rfl rfl ?_
  repeat' (first | (apply Wpl.callP; exact rfl; exact rfl; exact rfl; exact rfl; (exact hch); (refine HasF.cons (by (exact HasF.r 0 rfl)) (HasF.cons (by (exact HasF.r 1 rfl)) HasF.nil))) | (apply Wpc.seqK; intro K hK) | apply Wpc.region | apply Wpl.nil | (apply hK; clear hK K) | (apply Wpl.mv; exact rfl; (conv => lhs; whnf)) | (apply Wpl.asg; exact rfl; (conv => lhs; whnf)) | (apply Wpc.cond_true; exact rfl) | (apply Wpc.cond_false; exact rfl) | apply Wpc.skip | (apply Wpl.fldS; exact rfl; exact rfl; exact rfl; exact rfl) | (apply Wpl.ld0x0; exact rfl; exact rfl; exact rfl; exact rfl) | (apply Wpl.eql; exact rfl; exact rfl; exact rfl; all_goals (intro h; try (exfalso; omega))) | (apply Wpl.errNeNil; exact rfl; exact rfl) | (apply Wpl.len; exact rfl; exact rfl))
  · have hk : k = 0 := by assumption
    refine Wpl.mul rfl rfl rfl (by omega) ?_
    repeat' (first | apply Wpl.nil | (apply hK; clear hK K) | (apply Wpl.asg; exact rfl; (conv => lhs; whnf)) | apply Wpc.ret | (apply Wpl.add; exact rfl; exact rfl; exact rfl; omega))
    exact ⟨[_, _], [], ⟨rfl, rfl, trivial⟩, Sel.nil _, fun _ h => h, by rw [bitsM, if_pos hk]; rfl, rfl⟩
  · have hk : k ≠ 0 := by assumption
    have hbm : bitsM k ts st = 3 + (planM k ts).head + bodyM (planM k ts) ts := by rw [bitsM, if_neg hk]
    refine Wpl.ldAgg 0 0 (cs := [.int .i64 k, vt, .slice p2 st.length c2]) rfl rfl rfl rfl rfl ?_
    refine Wpl.callM rfl rfl rfl hpl (Pk.nil _) (HasF.cons (HasF.r 0 rfl) HasF.nil) ?_
    rintro _ _ ⟨F1, F2, F3, F4, v, rfl, rfl, hp⟩
    have hbody := body_spec hp hpf ht hlt
    obtain ⟨vl, vd, vr, vo, rfl, g1, g2, g3, g4⟩ := PlanR.agg hp
    generalize (planM k ts).head = hd at *
    generalize bodyM (planM k ts) ts = bm at *
    refine Wpl.sel (Sel.cons 4 rfl (Sel.cons 0 rfl (Sel.cons 0 rfl (Sel.nil _)))) ?_
    repeat' (first | (apply Wpl.mv; exact rfl; (conv => lhs; whnf)) | (apply Wpl.extract; exact rfl; exact rfl; exact rfl) | (apply Wpl.new; exact rfl; intro _))
    refine Wpl.stAgg0 (cs := #[vl, vd, vr, vo, .int .i64 hd]) rfl rfl rfl rfl rfl (one_cons g1 (one_cons g2 (one_cons g3 (one_cons g4 (one_cons rfl one_nil))))) rfl ?_
    repeat' (first | (apply Wpc.region_draw; kernel_rfl; kernel_rfl) | (apply Wpc.seqK; intro K hK) | apply Wpc.region | apply Wpl.nil | (apply hK; clear hK K) | (apply Wpl.mv; exact rfl; (conv => lhs; whnf)) | (apply Wpl.asg; exact rfl; (conv => lhs; whnf)) | (apply Wpc.cond_false; exact rfl) | apply Wpc.skip | (apply Wpl.fldS; exact rfl; exact rfl; exact rfl; exact rfl) | (apply Wpl.ld0x0; exact rfl; exact rfl; exact rfl; exact rfl) | (apply Wpl.add; exact rfl; exact rfl; exact rfl; omega) | (apply Wpl.errNeNil; exact rfl; exact rfl))
    refine Wpl.ldAgg 0 0 (cs := [vl, vd, vr, vo, .int .i64 hd]) rfl rfl rfl rfl rfl ?_
    repeat' (first | (apply Wpl.callP; exact rfl; exact rfl; exact rfl; exact rfl; (exact hbody); (refine HasF.cons (by (exact HasF.m 2 rfl)) (HasF.cons (by (exact HasF.m 3 rfl)) (HasF.cons (by (exact HasF.r 0 rfl)) HasF.nil)))) | apply Wpl.nil | (apply hK; clear hK K) | (apply Wpl.asg; exact rfl; (conv => lhs; whnf)) | apply Wpc.ret | (apply Wpl.fldS; exact rfl; exact rfl; exact rfl; exact rfl) | (apply Wpl.ld1x0; exact rfl; exact rfl; exact rfl; exact rfl) | (apply Wpl.add; exact rfl; exact rfl; exact rfl; omega))
    exact ⟨[_, _], [], ⟨rfl, rfl, trivial⟩, Sel.nil _, fun _ h => h, by rw [hbm]; rfl, rfl⟩
end
end Go.Proofs.Ytmfcgffdijnokaa
set_option maxRecDepth 100000
set_option maxHeartbeats 4000000
namespace Go.Proofs.Ytmfcgffdijnokaa
open Go.SL Go.RowKit
attribute [local irreducible] Wpl Wpc Wph
/-! block.Write -/
noncomputable def writeM (last : Bool) (k : Int) (ts : List (Int × Int)) (st : List Int) (p : List Int × Nat) : List Int × Nat :=
  if k = 0 then bytesP false (headP false (putP false p (k * 2 + (if last then 1 else 0)) 3) st.length) st
  else symP false (planM k ts).l (toksP false (planM k ts) (if k = 2 then lensP false (planM k ts) (putP false p (k * 2 + (if last then 1 else 0)) 3) else putP false p (k * 2 + (if last then 1 else 0)) 3) ts) 256
theorem lensP_n {hi : Bool} {m : PlanM} (h : PlanOk m) (p : List Int × Nat) : (lensP hi m p).2 ≤ p.2 + 30000 := by
  have h1 := runsP_n hi m.ones (fun x hx => by have := h.ob x hx; omega) m.runs (onesP hi m.ones (headLP hi m p) (orderL.take (wrN m.ones 19)))
  have h2 := onesP_n hi m.ones (orderL.take (wrN m.ones 19)) (headLP hi m p)
  have h3 : (headLP hi m p).2 = p.2 + 14 := rfl
  have h4 : (orderL.take (wrN m.ones 19)).length ≤ 19 := by rw [List.length_take, orderL_len]; omega
  have h5 := h.rl
  unfold lensP
  omega
section
variable (last : Bool) (k : Int) (Ft Fs : Frag) (vt vs : Value) (ts : List (Int × Int)) (st : List Int) (ht : Row Ft 2 vt ts.length (flat tokC ts)) (hs : Row Fs 1 vs st.length (ints .u8 st)) (h8 : bytes8 st) (hlt : ts.length ≤ 1000000000) (hls : st.length ≤ 1000000000)
include ht hs h8 hlt hls
theorem write_bad (vw : Value) (hc : ¬ checkOk k ts st) : PSpec Try.prog 11 [vw, blkV k vt vs, .bool last] [Ft, Fs] (errV 6) := by
  have hch := check_spec k Ft Fs vt vs ts st ht hs h8 (by omega) (by omega)
  rw [check_bad hc] at hch
  have h1 := ht.one
  have h2 := hs.one
  refine Ctr.intro Try.func11 (by kernel_rfl) rfl (by conv => lhs; whnf) rfl fun W => ?_
  unfold blkV at hch ⊢
  apply Wpc.seqK; intro K hK
  apply Wpc.region
  refine Wpl.boxA rfl rfl (fun bx => ?_)
  repeat' (first | (apply Wpc.seqK; intro K hK) | apply Wpc.region | apply Wpl.nil | (apply hK; clear hK K) | (apply Wpl.asg; exact rfl; (conv => lhs; whnf)))
  refine Wpl.ldAgg 0 0 (cs := [.int .i64 k, vt, vs]) rfl rfl rfl rfl rfl ?_
  unfold errV at hch ⊢
  repeat' (first | (apply Wpl.callP; exact rfl; exact rfl; exact rfl; exact rfl; (exact hch); (refine HasF.cons (by (exact HasF.r 0 rfl)) (HasF.cons (by (exact HasF.r 1 rfl)) HasF.nil))) | (apply Wpc.seqK; intro K hK) | apply Wpc.region | apply Wpl.nil | (apply hK; clear hK K) | (apply Wpl.mv; exact rfl; (conv => lhs; whnf)) | (apply Wpl.asg; exact rfl; (conv => lhs; whnf)) | (apply Wpl.guard_skip; exact rfl; exact rfl; exact rfl) | (apply Wpl.pickT; exact rfl; exact rfl; (conv => lhs; whnf)) | (apply Wpc.cond_true; exact rfl) | apply Wpc.ret | (apply Wpl.errNe; exact rfl; exact rfl) | (apply Wpl.iface; exact rfl; (conv => lhs; whnf)))
  exact ⟨[_], [], ⟨rfl, trivial⟩, Sel.nil _, fun _ h => h, rfl, rfl⟩
theorem write_nil (hc : checkOk k ts st) : PSpec Try.prog 11 [.pointer none, blkV k vt vs, .bool last] [Ft, Fs] (errV 6) := by
  have hch := check_spec k Ft Fs vt vs ts st ht hs h8 (by omega) (by omega)
  rw [check_ok hc] at hch
  have h1 := ht.one
  have h2 := hs.one
  refine Ctr.intro Try.func11 (by kernel_rfl) rfl (by conv => lhs; whnf) rfl fun W => ?_
  unfold blkV at hch ⊢
  apply Wpc.seqK; intro K hK
  apply Wpc.region
  refine Wpl.boxA rfl rfl (fun bx => ?_)
  repeat' (first | (apply Wpc.seqK; intro K hK) | apply Wpc.region | apply Wpl.nil | (apply hK; clear hK K) | (apply Wpl.asg; exact rfl; (conv => lhs; whnf)))
  refine Wpl.ldAgg 0 0 (cs := [.int .i64 k, vt, vs]) rfl rfl rfl rfl rfl ?_
  unfold errV
  repeat' (first | (apply Wpl.callP; exact rfl; exact rfl; exact rfl; exact rfl; (exact hch); (refine HasF.cons (by (exact HasF.r 0 rfl)) (HasF.cons (by (exact HasF.r 1 rfl)) HasF.nil))) | (apply Wpl.callP; exact rfl; exact rfl; exact rfl; exact rfl; (exact low_nil_spec); (exact HasF.nil)) | (apply Wpc.seqK; intro K hK) | apply Wpc.region | apply Wpl.nil | (apply hK; clear hK K) | (apply Wpl.mv; exact rfl; (conv => lhs; whnf)) | (apply Wpl.asg; exact rfl; (conv => lhs; whnf)) | (apply Wpl.guard_run; exact rfl; exact rfl) | (apply Wpl.pickF; exact rfl; exact rfl; (conv => lhs; whnf)) | (apply Wpc.cond_true; exact rfl) | apply Wpc.ret | (apply Wpl.unNot; exact rfl; exact rfl) | (apply Wpl.errNeNil; exact rfl; exact rfl) | (apply Wpl.iface; exact rfl; (conv => lhs; whnf)))
  exact ⟨[_], [], ⟨rfl, trivial⟩, Sel.nil _, fun _ h => h, rfl, rfl⟩
theorem write_high {bs : List Int} {n : Nat} {vw : Value} {FW FB : Frag} (hw : Wr true bs n vw FW FB) (hc : checkOk k ts st) : PSpec Try.prog 11 [vw, blkV k vt vs, .bool last] [Ft, Fs, FW] (errV 6) := by
  have hch := check_spec k Ft Fs vt vs ts st ht hs h8 (by omega) (by omega)
  rw [check_ok hc] at hch
  have hlow := low_spec hw
  have h1 := ht.one
  have h2 := hs.one
  refine Ctr.intro Try.func11 (by kernel_rfl) rfl (by conv => lhs; whnf) rfl fun W => ?_
  unfold blkV at hch ⊢
  apply Wpc.seqK; intro K hK
  apply Wpc.region
  refine Wpl.boxA rfl rfl (fun bx => ?_)
  repeat' (first | (apply Wpc.seqK; intro K hK) | apply Wpc.region | apply Wpl.nil | (apply hK; clear hK K) | (apply Wpl.asg; exact rfl; (conv => lhs; whnf)))
  refine Wpl.ldAgg 0 0 (cs := [.int .i64 k, vt, vs]) rfl rfl rfl rfl rfl ?_
  unfold errV
  repeat' (first | (apply Wpl.callP; exact rfl; exact rfl; exact rfl; exact rfl; (exact hch); (refine HasF.cons (by (exact HasF.r 0 rfl)) (HasF.cons (by (exact HasF.r 1 rfl)) HasF.nil))) | (apply Wpl.callP; exact rfl; exact rfl; exact rfl; exact rfl; (exact hlow); (refine HasF.cons (by (exact HasF.r 2 rfl)) HasF.nil)) | (apply Wpc.seqK; intro K hK) | apply Wpc.region | apply Wpl.nil | (apply hK; clear hK K) | (apply Wpl.mv; exact rfl; (conv => lhs; whnf)) | (apply Wpl.asg; exact rfl; (conv => lhs; whnf)) | (apply Wpl.guard_run; exact rfl; exact rfl) | (apply Wpl.pickF; exact rfl; exact rfl; (conv => lhs; whnf)) | (apply Wpc.cond_true; exact rfl) | apply Wpc.ret | (apply Wpl.unNot; exact rfl; exact rfl) | (apply Wpl.errNeNil; exact rfl; exact rfl) | (apply Wpl.iface; exact rfl; (conv => lhs; whnf)))
  exact ⟨[_], [], ⟨rfl, trivial⟩, Sel.nil _, fun _ h => h, rfl, rfl⟩
theorem write_ok {p : List Int × Nat} {vw : Value} {FW FB : Frag} (hw : Wr false p.1 p.2 vw FW FB) (hn : p.2 ≤ 500000000000000) (hc : checkOk k ts st) :
    Ctr Try.prog 11 [vw, blkV k vt vs, .bool last] [Ft, Fs] [FW, FB] (fun r M' => ∃ FW' FB', r = .nilIface ∧ M' = [FW', FB'] ∧ Wr false (writeM last k ts st p).1 (writeM last k ts st p).2 vw FW' FB') := by
  have hch := check_spec k Ft Fs vt vs ts st ht hs h8 (by omega) (by omega)
  rw [check_ok hc] at hch
  have hlow := low_spec hw
  have hfit := hc.2.1
  have hk := hc.1
  have hst := hc.2.2
  have hpf := planFor k ts st hfit
  have hpl := planned_spec k Ft vt vs ts ht hlt hs.one
  have hpo := planOk_own ts
  have h1 := ht.one
  have h2 := hs.one
  have hwr : ∃ q, q = putP false p (k * 2 + (if last then 1 else 0)) 3 ∧ q.2 = p.2 + 3 := ⟨_, rfl, rfl⟩
  obtain ⟨q, hq, hqn⟩ := hwr
  have hput := fun bp => penPut_P (bp := bp) (c := 3) (k * 2 + (if last then 1 else 0)) hw (by omega) (by omega) ⟨by split <;> omega, by split <;> omega⟩
  rw [← hq] at hput
  have hwm : writeM last k ts st p = if k = 0 then bytesP false (headP false q st.length) st else symP false (planM k ts).l (toksP false (planM k ts) (if k = 2 then lensP false (planM k ts) q else q) ts) 256 := by rw [hq]; rfl
  obtain ⟨bw, vs5, rfl, hFW, hr5⟩ := hw.at_
  refine Ctr.intro Try.func11 (by kernel_rfl) rfl (by conv => lhs; whnf) rfl fun W => ?_
  unfold blkV at hch ⊢
  apply Wpc.seqK; intro K hK
  apply Wpc.region
  refine Wpl.boxA rfl rfl (fun bx => ?_)
  repeat' (first | (apply Wpc.seqK; intro K hK) | apply Wpc.region | apply Wpl.nil | (apply hK; clear hK K) | (apply Wpl.asg; exact rfl; (conv => lhs; whnf)))
  refine Wpl.ldAgg 0 0 (cs := [.int .i64 k, vt, vs]) rfl rfl rfl rfl rfl ?_
  repeat' (first | (apply Wpl.callP; exact rfl; exact rfl; exact rfl; exact rfl; (exact hch); (refine HasF.cons (by (exact HasF.r 0 rfl)) (HasF.cons (by (exact HasF.r 1 rfl)) HasF.nil))) | (apply Wpl.callP; exact rfl; exact rfl; exact rfl; exact rfl; (exact hlow); (refine HasF.cons (by (exact HasF.m 1 rfl)) HasF.nil)) | (apply Wpc.seqK; intro K hK) | apply Wpc.region | apply Wpl.nil | (apply hK; clear hK K) | (apply Wpl.mv; exact rfl; (conv => lhs; whnf)) | (apply Wpl.asg; exact rfl; (conv => lhs; whnf)) | (apply Wpl.guard_run; exact rfl; exact rfl) | (apply Wpl.pickF; exact rfl; exact rfl; (conv => lhs; whnf)) | (apply Wpc.cond_false; exact rfl) | apply Wpc.skip | (apply Wpl.unNot; exact rfl; exact rfl) | (apply Wpl.errNeNil; exact rfl; exact rfl))
  refine Wpl.build (cs := [.pointer (some ⟨bw, 0, none⟩), .nilIface]) rfl rfl ?_
  refine Wpl.boxA rfl rfl (fun bp => ?_)
  repeat' (first | (apply Wpc.seqK; intro K hK) | apply Wpc.region | apply Wpl.nil | (apply hK; clear hK K) | (apply Wpl.asg; exact rfl; (conv => lhs; whnf)) | (apply Wpl.fldS; exact rfl; exact rfl; exact rfl; exact rfl) | (apply Wpl.ld1x0; exact rfl; exact rfl; exact rfl; exact rfl))
  refine Wpl.shlV (w := k * 2) rfl rfl rfl (by decide) rfl (by omega) ?_
  repeat' (first | (apply Wpc.seqK; intro K hK) | apply Wpc.region | apply Wpl.nil | (apply hK; clear hK K) | (apply Wpl.mv; exact rfl; (conv => lhs; whnf)) | (apply Wpl.asg; exact rfl; (conv => lhs; whnf)))
  have hor : (((k * 2).toNat ||| (1 : Int).toNat : Nat) : Int) = k * 2 + 1 := by
    rcases (show k = 0 ∨ k = 1 ∨ k = 2 by omega) with rfl | rfl | rfl <;> decide
  refine Wpc.join (ι := Unit) (fun _ => True) (fun _ => [(4, .pointer (some ⟨bx, 0, none⟩)), (8, .pointer (some ⟨bp, 0, none⟩)), (9, .int .i64 (k * 2 + (if last then 1 else 0)))])
    (fun _ => [penF bp (.pointer (some ⟨bw, 0, none⟩)) .nilIface, [(bx, .cells #[.int .i64 k, vt, vs] 28 (0, 0))], FW, FB]) ?_ ?_
  · rcases Bool.eq_false_or_eq_true last with e | e
    · refine Wpc.cond_true (by show Value.bool last = _; rw [e]) ?_
      repeat' (first | apply Wpc.region | (apply Wpl.mv; exact rfl; (conv => lhs; whnf)))
      refine Wpl.or rfl rfl rfl (by omega) (by decide) ?_
      repeat' (first | apply Wpl.nil | (apply Wpl.asg; exact rfl; (conv => lhs; whnf)))
      exact ⟨(), trivial, ⟨rfl, rfl, congrArg (Value.int .i64) (by rw [e]; exact hor), trivial⟩, Sel.refl _, fun _ h => h⟩
    · refine Wpc.cond_false (by show Value.bool last = _; rw [e]) ?_
      repeat' (apply Wpc.skip)
      exact ⟨(), trivial, ⟨rfl, rfl, congrArg (Value.int .i64) (by rw [e]; show k * 2 = k * 2 + 0; omega), trivial⟩, Sel.refl _, fun _ h => h⟩
  rintro _ g _
  repeat' (first | (apply Wpc.seqK; intro K hK) | apply Wpc.region | (apply hK; clear hK K) | (apply Wpl.mv; exact rfl; (conv => lhs; whnf)))
  refine Wpl.callM rfl rfl rfl (hput bp) (Pk.cons 0 rfl (Pk.cons 1 rfl (Pk.cons 1 rfl (Pk.nil _)))) HasF.nil ?_
  rintro _ _ ⟨FW1, FB1, rfl, hw1⟩
  clear hput hw hq
  repeat' (first | (apply Wpc.seqK; intro K hK) | apply Wpc.region | apply Wpl.nil | (apply hK; clear hK K) | (apply Wpl.mv; exact rfl; (conv => lhs; whnf)) | (apply Wpc.cond_true; exact rfl) | (apply Wpc.cond_false; exact rfl) | apply Wpc.skip | (apply Wpl.fldS; exact rfl; exact rfl; exact rfl; exact rfl) | (apply Wpl.ld3x0; exact rfl; exact rfl; exact rfl; exact rfl) | (apply Wpl.eql; exact rfl; exact rfl; exact rfl; all_goals (intro h; try (exfalso; omega))))
  · have hk0 : k = 0 := by assumption
    refine Wpl.callM rfl rfl rfl (stored_spec (bp := bp) hw1 (by omega) hs h8 (by omega)) (Pk.cons 0 rfl (Pk.cons 0 rfl (Pk.cons 0 rfl (Pk.nil _)))) (HasF.cons (HasF.r 1 rfl) HasF.nil) ?_
    rintro _ _ ⟨FW2, FB2, rfl, hw2⟩
    unfold penF
    repeat' (first | (apply Wpc.seqK; intro K hK) | apply Wpc.region | apply Wpl.nil | (apply hK; clear hK K) | (apply Wpl.mv; exact rfl; (conv => lhs; whnf)) | (apply Wpl.asg; exact rfl; (conv => lhs; whnf)) | apply Wpc.ret | (apply Wpl.nilCheck; exact rfl; exact rfl) | (apply Wpl.fldS; exact rfl; exact rfl; exact rfl; exact rfl) | (apply Wpl.ld0x0; exact rfl; exact rfl; exact rfl; exact rfl))
    exact ⟨[_], _, ⟨rfl, trivial⟩, Sel.cons 1 rfl (Sel.cons 1 rfl (Sel.nil _)), fun _ h => h, FW2, FB2, rfl, rfl, by rw [hwm, if_pos hk0]; exact hw2⟩
  · have hk0 : k ≠ 0 := by assumption
    refine Wpl.ldAgg 3 0 (cs := [.int .i64 k, vt, vs]) rfl rfl rfl rfl rfl ?_
    refine Wpl.callM rfl rfl rfl hpl (Pk.nil _) (HasF.cons (HasF.r 0 rfl) HasF.nil) ?_
    rintro _ _ ⟨F1, F2, F3, F4, v, rfl, rfl, hp⟩
    obtain ⟨vl, vd, vr, vo, rfl, g1, g2, g3, g4⟩ := PlanR.agg hp
    rw [if_neg hk0] at hwm
    refine Wpl.sel (M' := [penF bp (.pointer (some ⟨bw, 0, none⟩)) .nilIface, FW1, FB1, [(bx, .cells #[.int .i64 k, vt, vs] 28 (0, 0))], F1, F2, F3, F4]) (Sel.cons 4 rfl (Sel.cons 4 rfl (Sel.cons 4 rfl (Sel.cons 4 rfl (Sel.refl _))))) ?_
    generalize hhd : (planM k ts).head = hd at *
    repeat' (first | (apply Wpl.mv; exact rfl; (conv => lhs; whnf)) | (apply Wpl.extract; exact rfl; exact rfl; exact rfl) | (apply Wpl.new; exact rfl; intro _))
    refine Wpl.stAgg0 (cs := #[vl, vd, vr, vo, .int .i64 hd]) rfl rfl rfl rfl rfl (one_cons g1 (one_cons g2 (one_cons g3 (one_cons g4 (one_cons rfl one_nil))))) rfl ?_
    repeat' (first | (apply Wpc.seqK; intro K hK) | apply Wpc.region | apply Wpl.nil | (apply hK; clear hK K) | (apply Wpl.mv; exact rfl; (conv => lhs; whnf)) | (apply Wpl.asg; exact rfl; (conv => lhs; whnf)) | (apply Wpc.cond_true; exact rfl) | (apply Wpc.cond_false; exact rfl) | apply Wpc.skip | (apply Wpl.fldS; exact rfl; exact rfl; exact rfl; exact rfl) | (apply Wpl.ld4x0; exact rfl; exact rfl; exact rfl; exact rfl) | (apply Wpl.eql; exact rfl; exact rfl; exact rfl; all_goals (intro h; try (exfalso; omega))) | (apply Wpl.errNeNil; exact rfl; exact rfl))
    · have hk2 : k = 2 := by assumption
      rw [if_pos hk2] at hwm
      have hmo : PlanOk (planM k ts) := by rw [planM, if_neg (by omega)]; exact hpo
      have hln := lensP_n (hi := false) hmo q
      refine Wpl.ldAgg 0 0 (cs := [vl, vd, vr, vo, .int .i64 hd]) rfl rfl rfl rfl rfl ?_
      refine Wpl.callM rfl rfl rfl (penLengths_spec (bp := bp) hp hmo hw1 (by omega)) (Pk.cons 1 rfl (Pk.cons 1 rfl (Pk.cons 1 rfl (Pk.nil _)))) (HasF.cons (HasF.m 2 rfl) (HasF.cons (HasF.m 3 rfl) (HasF.cons (HasF.m 4 rfl) (HasF.cons (HasF.m 5 rfl) HasF.nil)))) ?_
      rintro _ _ ⟨FW2, FB2, rfl, hw2⟩
      repeat' (first | (apply Wpc.seqK; intro K hK) | apply Wpc.region | apply Wpl.nil | (apply hK; clear hK K) | (apply Wpl.mv; exact rfl; (conv => lhs; whnf)))
      refine Wpl.ldAgg 3 0 (cs := [vl, vd, vr, vo, .int .i64 hd]) rfl rfl rfl rfl rfl ?_
      repeat' (first | (apply Wpl.fldS; exact rfl; exact rfl; exact rfl; exact rfl) | (apply Wpl.ld4x0; exact rfl; exact rfl; exact rfl; exact rfl))
      refine Wpl.callM rfl rfl rfl (penTokens_spec (bp := bp) hp hpf.kl hpf.kd hpf.h256 ht hpf.tok hlt hw2 (by omega)) (Pk.cons 0 rfl (Pk.cons 0 rfl (Pk.cons 0 rfl (Pk.nil _)))) (HasF.cons (HasF.m 2 rfl) (HasF.cons (HasF.m 3 rfl) (HasF.cons (HasF.r 0 rfl) HasF.nil))) ?_
      rintro _ _ ⟨FW3, FB3, rfl, hw3⟩
      unfold penF
      repeat' (first | (apply Wpc.seqK; intro K hK) | apply Wpc.region | apply Wpl.nil | (apply hK; clear hK K) | (apply Wpl.mv; exact rfl; (conv => lhs; whnf)) | (apply Wpl.asg; exact rfl; (conv => lhs; whnf)) | apply Wpc.ret | (apply Wpl.nilCheck; exact rfl; exact rfl) | (apply Wpl.fldS; exact rfl; exact rfl; exact rfl; exact rfl) | (apply Wpl.ld0x0; exact rfl; exact rfl; exact rfl; exact rfl))
      exact ⟨[_], _, ⟨rfl, trivial⟩, Sel.cons 1 rfl (Sel.cons 1 rfl (Sel.nil _)), fun _ h => h, FW3, FB3, rfl, rfl, by rw [hwm]; exact hw3⟩
    · have hk2 : k ≠ 2 := by assumption
      rw [if_neg hk2] at hwm
      refine Wpl.ldAgg 0 0 (cs := [vl, vd, vr, vo, .int .i64 hd]) rfl rfl rfl rfl rfl ?_
      repeat' (first | (apply Wpl.fldS; exact rfl; exact rfl; exact rfl; exact rfl) | (apply Wpl.ld4x0; exact rfl; exact rfl; exact rfl; exact rfl))
      refine Wpl.callM rfl rfl rfl (penTokens_spec (bp := bp) hp hpf.kl hpf.kd hpf.h256 ht hpf.tok hlt hw1 (by omega)) (Pk.cons 1 rfl (Pk.cons 1 rfl (Pk.cons 1 rfl (Pk.nil _)))) (HasF.cons (HasF.m 2 rfl) (HasF.cons (HasF.m 3 rfl) (HasF.cons (HasF.r 0 rfl) HasF.nil))) ?_
      rintro _ _ ⟨FW3, FB3, rfl, hw3⟩
      unfold penF
      repeat' (first | (apply Wpc.seqK; intro K hK) | apply Wpc.region | apply Wpl.nil | (apply hK; clear hK K) | (apply Wpl.mv; exact rfl; (conv => lhs; whnf)) | (apply Wpl.asg; exact rfl; (conv => lhs; whnf)) | apply Wpc.ret | (apply Wpl.nilCheck; exact rfl; exact rfl) | (apply Wpl.fldS; exact rfl; exact rfl; exact rfl; exact rfl) | (apply Wpl.ld0x0; exact rfl; exact rfl; exact rfl; exact rfl))
      exact ⟨[_], _, ⟨rfl, trivial⟩, Sel.cons 1 rfl (Sel.cons 1 rfl (Sel.nil _)), fun _ h => h, FW3, FB3, rfl, rfl, by rw [hwm]; exact hw3⟩
end
end Go.Proofs.Ytmfcgffdijnokaa
set_option maxRecDepth 100000
set_option maxHeartbeats 4000000
namespace Go.Proofs.Ytmfcgffdijnokaa
open Go.SL Go.RowKit
attribute [local irreducible] Wpl Wpc Wph
/-! block.Best -/
noncomputable def bestStep (ts : List (Int × Int)) (st : List Int) (p : Int × Int) (k : Int) : Int × Int :=
  @ite _ (checkOk k ts st ∧ (p.2 < 0 ∨ bitsM k ts st < p.2)) (Classical.propDecidable _) (k, bitsM k ts st) p
noncomputable def bestP (ts : List (Int × Int)) (st : List Int) : Nat → Int × Int
  | 0 => (0, -1)
  | j + 1 => bestStep ts st (bestP ts st j) j
theorem bestStep_yes {ts : List (Int × Int)} {st : List Int} {p : Int × Int} {k : Int} (h : checkOk k ts st) (h2 : p.2 < 0 ∨ bitsM k ts st < p.2) : bestStep ts st p k = (k, bitsM k ts st) := by
  unfold bestStep; exact if_pos ⟨h, h2⟩
theorem bestStep_no {ts : List (Int × Int)} {st : List Int} {p : Int × Int} {k : Int} (h : ¬ (checkOk k ts st ∧ (p.2 < 0 ∨ bitsM k ts st < p.2))) : bestStep ts st p k = p := by
  unfold bestStep; exact if_neg h
theorem bitsM_bd {k : Int} {ts : List (Int × Int)} {st : List Int} (h : fits ts st) (hl : ts.length ≤ 1000000000) (hs : st.length ≤ 1000000000) : 0 ≤ bitsM k ts st ∧ bitsM k ts st ≤ 100000000000 := by
  have hpf := planFor k ts st h
  have hhd := planM_head k ts
  have hbd := bodyM_bd hpf.kl.bd hpf.kd.bd ts hpf.tok ts.length (Nat.le_refl _)
  rw [List.take_length] at hbd
  unfold bitsM
  split <;> omega
section
variable (Ft Fs : Frag) (vt vs : Value) (ts : List (Int × Int)) (st : List Int) (ht : Row Ft 2 vt ts.length (flat tokC ts)) (hs : Row Fs 1 vs st.length (ints .u8 st)) (h8 : bytes8 st) (hlt : ts.length ≤ 1000000000) (hls : st.length ≤ 1000000000)
include ht hs h8 hlt hls
theorem best_bad (hf : ¬ fits ts st) : PSpec Try.prog 12 [vt, vs] [Ft, Fs] (.tuple #[blkV 0 (.slice none 0 0) (.slice none 0 0), errV 6]) := by
  have hsd := sound_spec Ft Fs vt vs ts st ht hs h8 (by omega) (by omega)
  rw [← Value.bool.inj (fitsB_false hf)] at hsd
  refine Ctr.intro Try.func12 (by kernel_rfl) rfl (by conv => lhs; whnf) rfl fun W => ?_
  unfold blkV errV
  apply Wpc.seqK; intro K hK
  apply Wpc.region
  refine Wpl.new rfl (fun b4 => ?_)
  repeat' (first | (apply Wpl.callP; exact rfl; exact rfl; exact rfl; exact rfl; (exact hsd); (refine HasF.cons (by (exact HasF.r 0 rfl)) (HasF.cons (by (exact HasF.r 1 rfl)) HasF.nil))) | (apply Wpc.seqK; intro K hK) | apply Wpc.region | apply Wpl.nil | (apply hK; clear hK K) | (apply Wpl.mv; exact rfl; (conv => lhs; whnf)) | (apply Wpl.asg; exact rfl; (conv => lhs; whnf)) | (apply Wpc.cond_true; exact rfl) | (apply Wpl.unNot; exact rfl; exact rfl))
  refine Wpl.build (cs := [.int .i64 0, .slice none 0 0, .slice none 0 0]) rfl rfl ?_
  repeat' (apply Wpl.iface; exact rfl; (conv => lhs; whnf))
  refine Wpl.stAgg0 (cs := #[.int .i64 0, .slice none 0 0, .slice none 0 0]) rfl rfl rfl rfl rfl (one_cons rfl (one_cons rfl (one_cons rfl one_nil))) rfl ?_
  repeat' (first | apply Wpl.nil | (apply hK; clear hK K) | (apply Wpl.asg; exact rfl; (conv => lhs; whnf)) | apply Wpc.ret)
  exact ⟨[.agg #[.int .i64 0, .slice none 0 0, .slice none 0 0], .iface 40 (.int .i64 6)], [], ⟨⟨b4, 0, _, _, _, rfl, Known.m 0 0 rfl, .inr ⟨3, _, _, [.int .i64 0, .slice none 0 0, .slice none 0 0], AggT.h, rfl, rfl, rfl⟩⟩, rfl, trivial⟩, Sel.nil _, fun _ h => h, rfl, rfl⟩
theorem best_ok (hf : fits ts st) : Ctr Try.prog 12 [vt, vs] [Ft, Fs] [] (fun r M' => ∃ vt' vs' F1 F2, r = .tuple #[blkV (bestP ts st 3).1 vt' vs', .nilIface] ∧ M' = [F1, F2] ∧ Row F1 2 vt' ts.length (flat tokC ts) ∧ Row F2 1 vs' st.length (ints .u8 st)) := by
  have hsd := sound_spec Ft Fs vt vs ts st ht hs h8 (by omega) (by omega)
  rw [← Value.bool.inj (fitsB_true hf)] at hsd
  have hct := clone_toks_spec Ft vt ts ts.length ht (by omega)
  have hcs := clone_bytes_spec Fs vs st st.length hs (by omega)
  have hbd := fun k => bitsM_bd (k := k) hf hlt hls
  refine Ctr.intro Try.func12 (by kernel_rfl) rfl (by conv => lhs; whnf) rfl fun W => ?_
  unfold blkV
  apply Wpc.seqK; intro K hK
  apply Wpc.region
  refine Wpl.new rfl (fun b4 => ?_)
  repeat' (first | (apply Wpl.callP; exact rfl; exact rfl; exact rfl; exact rfl; (exact hsd); (refine HasF.cons (by (exact HasF.r 0 rfl)) (HasF.cons (by (exact HasF.r 1 rfl)) HasF.nil))) | (apply Wpc.seqK; intro K hK) | apply Wpc.region | apply Wpl.nil | (apply hK; clear hK K) | (apply Wpl.mv; exact rfl; (conv => lhs; whnf)) | (apply Wpl.asg; exact rfl; (conv => lhs; whnf)) | (apply Wpc.cond_false; exact rfl) | apply Wpc.skip | (apply Wpl.unNot; exact rfl; exact rfl))
  refine Wpl.build (cs := [.int .i64 0, .slice none 0 0, .slice none 0 0]) rfl rfl ?_
  refine Wpl.new rfl (fun b6 => ?_)
  refine Wpl.stAgg0 (cs := #[.int .i64 0, .slice none 0 0, .slice none 0 0]) rfl rfl rfl rfl rfl (one_cons rfl (one_cons rfl (one_cons rfl one_nil))) rfl ?_
  repeat' (first | (apply Wpc.seqK; intro K hK) | apply Wpc.region | apply Wpl.nil | (apply hK; clear hK K) | (apply Wpl.asg; exact rfl; (conv => lhs; whnf)))
  refine Wpc.block ?_
  refine Wpc.addNil ?_
  refine Wpc.addNil ?_
  refine Wpc.loop (ι := Nat × Value × Value × Frag × Frag) (fun i => i.1 ≤ 3 ∧ -1 ≤ (bestP ts st i.1).2 ∧ (bestP ts st i.1).2 ≤ 100000000000 ∧ (2 ≤ i.1 → 0 ≤ (bestP ts st i.1).2) ∧ i.2.1.oneCell' = true ∧ i.2.2.1.oneCell' = true ∧
      (0 ≤ (bestP ts st i.1).2 → Row i.2.2.2.1 2 i.2.1 ts.length (flat tokC ts) ∧ Row i.2.2.2.2 1 i.2.2.1 st.length (ints .u8 st)))
    (fun i => [(0, vt), (1, vs), (4, .pointer (some ⟨b4, 0, none⟩)), (6, .pointer (some ⟨b6, 0, none⟩)), (7, .int .i64 (bestP ts st i.1).2), (8, .int .i64 i.1)])
    (fun i => [[(b6, .cells #[.int .i64 (bestP ts st i.1).1, i.2.1, i.2.2.1] 28 (0, 0))], i.2.2.2.1, i.2.2.2.2, [(b4, .cells #[.int .i64 0, .slice none 0 0, .slice none 0 0] 28 (0, 0))]]) (fun i => 3 - i.1) (0, .slice none 0 0, .slice none 0 0, [], [])
    ⟨by omega, Int.le_refl (-1), by show (-1 : Int) ≤ 100000000000; decide, fun h => absurd h (by decide), rfl, rfl, fun h => absurd (show (0 : Int) ≤ -1 from h) (by decide)⟩ ⟨rfl, rfl, rfl, rfl, rfl, rfl, trivial⟩ (Sel.cons 2 rfl (Sel.cons 0 rfl (Sel.cons 0 rfl (Sel.cons 0 rfl (Sel.nil _))))) ?_
  rintro ⟨k, vt1, vs1, F1, F2⟩ g ⟨hk, hp0, hp1, hp2, ho1, ho2, hr⟩
  dsimp only at hk hp0 hp1 hp2 ho1 ho2 hr ⊢
  have hstep : bestP ts st (k + 1) = bestStep ts st (bestP ts st k) k := rfl
  have hbk := hbd (k : Int)
  generalize hbp : bestP ts st k = bp at *
  obtain ⟨bk, bl⟩ := bp
  dsimp only at hp0 hp1 hp2 hr ⊢
  repeat' (first | (apply Wpc.seqK; intro K hK) | apply Wpc.region | apply Wpl.nil | (apply hK; clear hK K) | (apply Wpl.mv; exact rfl; (conv => lhs; whnf)) | (apply Wpc.cond_true; exact rfl) | (apply Wpc.cond_false; exact rfl) | apply Wpc.skip | apply Wpc.exit | (apply Wpl.leq; exact rfl; exact rfl; exact rfl; all_goals (intro h; try (exfalso; omega))) | ((conv => whnf); clear hK K; apply hK; clear hK K))
  · have hk2 : k ≤ 2 := by omega
    refine Wpc.block ?_
    repeat' (first | (apply Wpc.seqK; intro K hK) | apply Wpc.region | (apply Wpl.mv; exact rfl; (conv => lhs; whnf)))
    refine Wpl.callM rfl rfl rfl hct (Pk.nil _) (HasF.cons (HasF.r 0 rfl) HasF.nil) ?_
    rintro vt2 _ ⟨G1, rfl, hg1⟩
    repeat' (apply Wpl.mv; exact rfl; (conv => lhs; whnf))
    refine Wpl.callM rfl rfl rfl hcs (Pk.nil _) (HasF.cons (HasF.r 1 rfl) HasF.nil) ?_
    rintro vs2 _ ⟨G2, rfl, hg2⟩
    have hr1 := hg1.row
    have hr2 := hg2.row
    have hx1 := hr1.one
    have hx2 := hr2.one
    obtain ⟨q1, d1, rfl⟩ := hr1.len
    obtain ⟨q2, d2, rfl⟩ := hr2.len
    skip
    refine Wpl.build (cs := [.int .i64 k, .slice q1 ts.length d1, .slice q2 st.length d2]) rfl rfl ?_
    refine Wpl.new rfl (fun b9 => ?_)
    refine Wpl.stAgg0 (cs := #[.int .i64 k, .slice q1 ts.length d1, .slice q2 st.length d2]) rfl rfl rfl rfl rfl (one_cons rfl (one_cons rfl (one_cons rfl one_nil))) rfl ?_
    repeat' (first | (apply Wpc.seqK; intro K hK) | apply Wpc.region | apply Wpl.nil | (apply hK; clear hK K))
    refine Wpl.ldAgg 0 0 (cs := [.int .i64 k, .slice q1 ts.length d1, .slice q2 st.length d2]) rfl rfl rfl rfl rfl ?_
    by_cases hc : checkOk (k : Int) ts st
    · have hb := bits_ok (k : Int) G1 G2 (.slice q1 ts.length d1) (.slice q2 st.length d2) ts st hr1 hr2 h8 hlt hls hc
      unfold blkV at hb
      generalize hbn : bitsM (k : Int) ts st = n at *
      repeat' (first | (apply Wpl.callP; exact rfl; exact rfl; exact rfl; exact rfl; (exact hb); (refine HasF.cons (by (exact HasF.m 2 rfl)) (HasF.cons (by (exact HasF.m 1 rfl)) HasF.nil))) | (apply Wpc.seqK; intro K hK) | apply Wpc.region | apply Wpl.nil | (apply hK; clear hK K) | (apply Wpl.mv; exact rfl; (conv => lhs; whnf)) | (apply Wpl.asg; exact rfl; (conv => lhs; whnf)) | (apply Wpl.guard_run; exact rfl; exact rfl) | (apply Wpl.guard_skip; exact rfl; exact rfl; exact rfl) | (apply Wpl.pickT; exact rfl; exact rfl; (conv => lhs; whnf)) | (apply Wpl.pickF; exact rfl; exact rfl; (conv => lhs; whnf)) | (apply Wpc.cond_true; exact rfl) | (apply Wpc.cond_false; exact rfl) | apply Wpc.skip | (apply Wpl.extract; exact rfl; exact rfl; exact rfl) | (apply Wpl.lss; exact rfl; exact rfl; exact rfl; all_goals (intro h; try (exfalso; omega))) | (apply Wpl.add; exact rfl; exact rfl; exact rfl; omega) | (apply Wpl.errEqNil; exact rfl; exact rfl))
      · have hlt0 : bl < 0 := by assumption
        have hs1 : bestP ts st (k + 1) = ((k : Int), n) := by rw [hstep, bestStep_yes hc (.inl hlt0), hbn]
        refine Wpl.ldAgg 0 0 (cs := [.int .i64 k, .slice q1 ts.length d1, .slice q2 st.length d2]) rfl rfl rfl rfl rfl ?_
        repeat' (apply Wpl.mv; exact rfl; (conv => lhs; whnf))
        refine Wpl.stAgg 3 0 (cs := #[.int .i64 k, .slice q1 ts.length d1, .slice q2 st.length d2]) rfl rfl rfl rfl rfl (one_cons rfl (one_cons rfl (one_cons rfl one_nil))) rfl ?_
        repeat' (first | apply Wpc.region | apply Wpl.nil | (apply hK; clear hK K) | (apply Wpl.mv; exact rfl; (conv => lhs; whnf)) | (apply Wpl.asg; exact rfl; (conv => lhs; whnf)) | (apply Wpl.add; exact rfl; exact rfl; exact rfl; omega))
        exact ⟨(k + 1, .slice q1 ts.length d1, .slice q2 st.length d2, G1, G2), ⟨by omega, by show -1 ≤ (bestP ts st (k + 1)).2; rw [hs1]; show -1 ≤ n; omega, by show (bestP ts st (k + 1)).2 ≤ _; rw [hs1]; exact hbk.2, by intro _; show 0 ≤ (bestP ts st (k + 1)).2; rw [hs1]; exact hbk.1, rfl, rfl, fun _ => ⟨hr1, hr2⟩⟩, by show 3 - (k + 1) < 3 - k; omega,
          ⟨rfl, rfl, rfl, rfl, congrArg (fun z : Int × Int => Value.int .i64 z.2) hs1.symm, rfl, trivial⟩, by show Sel _ [[(b6, .cells #[.int .i64 (bestP ts st (k + 1)).1, _, _] 28 (0, 0))], G1, G2, _]; rw [hs1]; exact Sel.cons 3 rfl (Sel.cons 2 rfl (Sel.cons 1 rfl (Sel.cons 3 rfl (Sel.nil _)))), fun _ h => h⟩
      · have hlt0 : n < bl := by assumption
        have hs1 : bestP ts st (k + 1) = ((k : Int), n) := by rw [hstep, bestStep_yes hc (.inr (by rw [hbn]; exact hlt0)), hbn]
        refine Wpl.ldAgg 0 0 (cs := [.int .i64 k, .slice q1 ts.length d1, .slice q2 st.length d2]) rfl rfl rfl rfl rfl ?_
        repeat' (apply Wpl.mv; exact rfl; (conv => lhs; whnf))
        refine Wpl.stAgg 3 0 (cs := #[.int .i64 k, .slice q1 ts.length d1, .slice q2 st.length d2]) rfl rfl rfl rfl rfl (one_cons rfl (one_cons rfl (one_cons rfl one_nil))) rfl ?_
        repeat' (first | apply Wpc.region | apply Wpl.nil | (apply hK; clear hK K) | (apply Wpl.mv; exact rfl; (conv => lhs; whnf)) | (apply Wpl.asg; exact rfl; (conv => lhs; whnf)) | (apply Wpl.add; exact rfl; exact rfl; exact rfl; omega))
        exact ⟨(k + 1, .slice q1 ts.length d1, .slice q2 st.length d2, G1, G2), ⟨by omega, by show -1 ≤ (bestP ts st (k + 1)).2; rw [hs1]; show -1 ≤ n; omega, by show (bestP ts st (k + 1)).2 ≤ _; rw [hs1]; exact hbk.2, by intro _; show 0 ≤ (bestP ts st (k + 1)).2; rw [hs1]; exact hbk.1, rfl, rfl, fun _ => ⟨hr1, hr2⟩⟩, by show 3 - (k + 1) < 3 - k; omega,
          ⟨rfl, rfl, rfl, rfl, congrArg (fun z : Int × Int => Value.int .i64 z.2) hs1.symm, rfl, trivial⟩, by show Sel _ [[(b6, .cells #[.int .i64 (bestP ts st (k + 1)).1, _, _] 28 (0, 0))], G1, G2, _]; rw [hs1]; exact Sel.cons 3 rfl (Sel.cons 2 rfl (Sel.cons 1 rfl (Sel.cons 3 rfl (Sel.nil _)))), fun _ h => h⟩
      · have hge : ¬ (bl < 0 ∨ n < bl) := by omega
        have hs1 : bestP ts st (k + 1) = (bk, bl) := by rw [hstep, bestStep_no (fun h => hge (by have := h.2; rw [hbn] at this; exact this))]
        have hr' : 0 ≤ (bestP ts st (k + 1)).2 → _ := fun h => hr (by rw [hs1] at h; exact h)
        exact ⟨(k + 1, vt1, vs1, F1, F2), ⟨by omega, by show -1 ≤ (bestP ts st (k + 1)).2; rw [hs1]; exact hp0, by show (bestP ts st (k + 1)).2 ≤ _; rw [hs1]; exact hp1, by intro _; show 0 ≤ (bestP ts st (k + 1)).2; rw [hs1]; show 0 ≤ bl; omega, ho1, ho2, hr'⟩, by show 3 - (k + 1) < 3 - k; omega,
          ⟨rfl, rfl, rfl, rfl, congrArg (fun z : Int × Int => Value.int .i64 z.2) hs1.symm, rfl, trivial⟩, by show Sel _ [[(b6, .cells #[.int .i64 (bestP ts st (k + 1)).1, _, _] 28 (0, 0))], F1, F2, _]; rw [hs1]; exact Sel.cons 3 rfl (Sel.cons 3 rfl (Sel.cons 3 rfl (Sel.cons 3 rfl (Sel.nil _)))), fun _ h => h⟩
    · have hb := bits_bad (k : Int) G1 G2 (.slice q1 ts.length d1) (.slice q2 st.length d2) ts st hr1 hr2 h8 hlt hls hc
      unfold blkV errV at hb
      have hk0 : k = 0 := by
        refine Classical.byContradiction fun hne => hc ⟨⟨by omega, by omega⟩, hf, fun h => by omega⟩
      have hs1 : bestP ts st (k + 1) = (bk, bl) := by rw [hstep, bestStep_no (fun h => hc h.1)]
      have hr' : 0 ≤ (bestP ts st (k + 1)).2 → _ := fun h => hr (by rw [hs1] at h; exact h)
      repeat' (first | (apply Wpl.callP; exact rfl; exact rfl; exact rfl; exact rfl; (exact hb); (refine HasF.cons (by (exact HasF.m 2 rfl)) (HasF.cons (by (exact HasF.m 1 rfl)) HasF.nil))) | (apply Wpc.seqK; intro K hK) | apply Wpc.region | apply Wpl.nil | (apply hK; clear hK K) | (apply Wpl.mv; exact rfl; (conv => lhs; whnf)) | (apply Wpl.asg; exact rfl; (conv => lhs; whnf)) | (apply Wpl.guard_skip; exact rfl; exact rfl; exact rfl) | (apply Wpl.guard_undef; exact rfl; exact rfl; exact rfl) | (apply Wpl.pickF; exact rfl; exact rfl; (conv => lhs; whnf)) | (apply Wpc.cond_false; exact rfl) | apply Wpc.skip | (apply Wpl.extract; exact rfl; exact rfl; exact rfl) | (apply Wpl.add; exact rfl; exact rfl; exact rfl; omega) | (apply Wpl.errEq; exact rfl; exact rfl))
      exact ⟨(k + 1, vt1, vs1, F1, F2), ⟨by omega, by show -1 ≤ (bestP ts st (k + 1)).2; rw [hs1]; exact hp0, by show (bestP ts st (k + 1)).2 ≤ _; rw [hs1]; exact hp1, by intro h; exact absurd (show 2 ≤ k + 1 from h) (by omega), ho1, ho2, hr'⟩, by show 3 - (k + 1) < 3 - k; omega,
          ⟨rfl, rfl, rfl, rfl, congrArg (fun z : Int × Int => Value.int .i64 z.2) hs1.symm, rfl, trivial⟩, by show Sel _ [[(b6, .cells #[.int .i64 (bestP ts st (k + 1)).1, _, _] 28 (0, 0))], F1, F2, _]; rw [hs1]; exact Sel.cons 3 rfl (Sel.cons 3 rfl (Sel.cons 3 rfl (Sel.cons 3 rfl (Sel.nil _)))), fun _ h => h⟩
  · have hk3 : k = 3 := by omega
    subst hk3
    obtain ⟨hr1, hr2⟩ := hr (hp2 (by omega))
    refine Wpl.ldAgg 0 0 (cs := [.int .i64 bk, vt1, vs1]) rfl rfl rfl rfl rfl ?_
    refine Wpl.stAgg 3 0 (cs := #[.int .i64 bk, vt1, vs1]) rfl rfl rfl rfl rfl (one_cons rfl (one_cons ho1 (one_cons ho2 one_nil))) rfl ?_
    repeat' (first | apply Wpl.nil | (apply hK; clear hK K) | (apply Wpl.asg; exact rfl; (conv => lhs; whnf)) | apply Wpc.ret)
    refine ⟨[.agg #[.int .i64 bk, vt1, vs1], .nilIface], [F1, F2], ⟨⟨b4, 0, _, _, _, rfl, Known.m 3 0 rfl, .inr ⟨3, _, _, [.int .i64 bk, vt1, vs1], AggT.h, rfl, rfl, rfl⟩⟩, rfl, trivial⟩, Sel.cons 1 rfl (Sel.cons 1 rfl (Sel.nil _)), fun _ h => h, vt1, vs1, F1, F2, ?_, rfl, hr1, hr2⟩
    have e : (bestP ts st 3).1 = bk := by rw [hbp]
    rw [e]
    rfl
end
end Go.Proofs.Ytmfcgffdijnokaa
