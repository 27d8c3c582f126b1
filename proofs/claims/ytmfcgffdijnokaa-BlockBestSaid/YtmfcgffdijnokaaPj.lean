/- contracts: the plan of a block -/
import Derived.Test.YtmfcgffdijnokaaPi
import Derived.Laws.CopyRow
set_option linter.unusedVariables false
set_option linter.unusedSimpArgs false
set_option linter.unusedSectionVars false
set_option maxRecDepth 100000
set_option maxHeartbeats 4000000
namespace Go.Proofs.Ytmfcgffdijnokaa
open Go.SL Go.RowKit
attribute [local irreducible] Wpl Wpc Wph
/-! block.order, plan.written -/
section
variable {q : Md} {C : Cx} {ops : Array Oper} {rest : List Oper} {Q : Exit → Env → List Frag → List Frag → Prop} {f : Env} {R M : List Frag}
variable {d : Nat} {ty T : TypeId} {pos : String} {af : Array Edge} {x y : Operand}
theorem Wpl.idxP {E : TypeId} {by_ : Nat} {z : Value} [hT : SliceT C.P T E] [hE : CellT C.P E z by_] {F : Frag} {v : Value} {ki k : IntKind} {m : Int} {l : List Int} {n : Nat}
    (hd : Nat.blt d C.n = true) (hs : f.ev x = v) (hi : f.ev y = .int ki m) (hrow : Row F 1 v n (ints k l)) (h0 : 0 ≤ m) (h1 : m < l.length)
    (k1 : ∀ p (hm : m.toNat < l.length), Pts F p (.int k (l[m.toNat]'hm)) → Wpl q C ops rest Q (f.upd d p) R M) :
    Wpl q C ops (⟨some d, .indexAddr T x y, ty, pos, af, none⟩ :: rest) Q f R M := by
  have hn : n = l.length := by have := hrow.1; rw [ints_length] at this; omega
  have hlt : m.toNat < l.length := by omega
  refine Wpl.indexAddr hd hT.h hE.h hs hrow hi ⟨h0, by omega⟩ fun b off c E' fz hp hc => k1 _ hlt ⟨b, off, c, E', fz, rfl, hp, ?_⟩
  have := hc 0 (by omega)
  simp only [Nat.add_zero, Nat.mul_one] at this
  simp only [Array.getElem?_toList, this, ints, List.getElem?_map, List.getElem?_eq_getElem hlt, Option.map_some]
end
theorem orderL_bd : ∀ x ∈ orderL, 0 ≤ x ∧ x < 19 := by decide
theorem orderL_len : orderL.length = 19 := rfl
/-- so many of the lengths of lengths are written -/
def wrN (o : List Int) : Nat → Nat
  | 0 => 0
  | n + 1 => if 4 < n + 1 ∧ o[(orderL[n]?.getD 0).toNat]?.getD 0 = 0 then wrN o n else n + 1
theorem wrN_bd (o : List Int) : ∀ n, wrN o n ≤ n ∧ (4 ≤ n → 4 ≤ wrN o n)
  | 0 => ⟨Nat.le_refl _, fun h => h⟩
  | n + 1 => by
    have := wrN_bd o n
    unfold wrN
    split <;> omega
def planV (vl vd vr vo : Value) (head : Int) : Value := .agg #[vl, vd, vr, vo, .int .i64 head]
theorem written_spec (Fo : Frag) (vl vd vr vo : Value) (head : Int) (o : List Int) (ho : Row Fo 1 vo o.length (ints .i64 o)) (hl : o.length = 19) :
    Ctr Try.prog 94 [planV vl vd vr vo head] [Fo] [] (fun r M' => r = .int .i64 (wrN o 19) ∧ M' = []) := by
  refine Ctr.intro Try.func94 (by kernel_rfl) rfl (by conv => lhs; whnf) rfl fun W => ?_
  unfold planV
  apply Wpc.seqK; intro K hK
  apply Wpc.region
  refine Wpl.boxA rfl rfl (fun bp => ?_)
  repeat' (first | (apply Wpc.seqK; intro K hK) | apply Wpc.region | apply Wpl.nil | (apply hK; clear hK K) | (apply Wpl.asg; exact rfl; (conv => lhs; whnf)))
  refine Wpl.callM rfl rfl rfl order_spec (Pk.nil _) HasF.nil ?_
  rintro v0 _ ⟨F0, rfl, h0⟩
  have h0r := h0.row
  obtain ⟨p0, c0, rfl⟩ := h0r.len
  clear h0 h0r
  repeat' (first | (apply Wpc.seqK; intro K hK) | apply Wpl.nil | (apply hK; clear hK K) | (apply Wpl.asg; exact rfl; (conv => lhs; whnf)) | apply Wpc.block | (apply Wpl.len; exact rfl; exact rfl))
  refine Wpc.loop (ι := Nat) (fun n => n ≤ 19 ∧ 4 ≤ n ∧ wrN o 19 = wrN o n) (fun n => [(1, .pointer (some ⟨bp, 0, none⟩)), (3, .int .i64 n)]) (fun _ => [[(bp, .cells #[vl, vd, vr, vo, .int .i64 head] 89 (0, 0))]]) (fun n => n) 19 ⟨by omega, by omega, rfl⟩ ⟨rfl, rfl, trivial⟩ (Sel.tail _ _) ?_
  rintro n g ⟨hn, hn4, he⟩
  have hvo : vo.oneCell' = true := ho.one
  by_cases h4 : 4 < n
  · obtain ⟨n', rfl⟩ : ∃ n', n = n' + 1 := ⟨n - 1, by omega⟩
    have hob := orderL_bd _ (List.getElem_mem (show n' < orderL.length by rw [orderL_len]; omega))
    have hog : orderL[n']?.getD 0 = orderL[n']'(by rw [orderL_len]; omega) := getD_get (by rw [orderL_len]; omega)
    have hle := orderL_len
    repeat' (apply Wpc.seqK; intro K hK)
    refine Wpc.region_heldS 14 (by kernel_rfl) rfl rfl ?_
    (refine Wph.take 0 rfl (by kernel_rfl) rfl (fun _ _ _ _ h => h) (fun _ h => h) (by first | exact Sel.refl _ | exact Sel.tail _ _ | exact Sel.nil _ | exact (Sel.tail _ _).trans (Sel.tail _ _) | exact (Sel.tail _ _).trans ((Sel.tail _ _).trans (Sel.tail _ _))) ?_; (repeat' (first | apply Wpl.nil | (apply Wpl.mv; exact rfl; (conv => lhs; whnf))))); (refine Wph.take 1 rfl (by kernel_rfl) rfl (fun _ _ _ _ h => h) (fun _ h => h) (by first | exact Sel.refl _ | exact Sel.tail _ _ | exact Sel.nil _ | exact (Sel.tail _ _).trans (Sel.tail _ _) | exact (Sel.tail _ _).trans ((Sel.tail _ _).trans (Sel.tail _ _))) ?_; (repeat' (first | apply Wpl.nil | (apply Wpl.gtr; exact rfl; exact rfl; exact rfl; all_goals (intro h; try (exfalso; omega)))))); (refine Wph.take 2 rfl (by kernel_rfl) rfl (fun _ _ _ _ h => h) (fun _ h => h) (by first | exact Sel.refl _ | exact Sel.tail _ _ | exact Sel.nil _ | exact (Sel.tail _ _).trans (Sel.tail _ _) | exact (Sel.tail _ _).trans ((Sel.tail _ _).trans (Sel.tail _ _))) ?_; (repeat' (first | apply Wpl.nil | (apply Wpl.mv; exact rfl; (conv => lhs; whnf))))); (refine Wph.take 3 rfl (by kernel_rfl) rfl (fun _ _ _ _ h => h) (fun _ h => h) (by first | exact Sel.refl _ | exact Sel.tail _ _ | exact Sel.nil _ | exact (Sel.tail _ _).trans (Sel.tail _ _) | exact (Sel.tail _ _).trans ((Sel.tail _ _).trans (Sel.tail _ _))) ?_; (repeat' (first | apply Wpl.nil | (apply Wpl.guard_run; exact rfl; exact rfl) | (apply Wpl.fldS; exact rfl; exact rfl; exact rfl; exact rfl)))); (refine Wph.take 4 rfl (by kernel_rfl) rfl (fun _ _ _ _ h => h) (fun _ h => h) (by first | exact Sel.refl _ | exact Sel.tail _ _ | exact Sel.nil _ | exact (Sel.tail _ _).trans (Sel.tail _ _) | exact (Sel.tail _ _).trans ((Sel.tail _ _).trans (Sel.tail _ _))) ?_; (repeat' (first | apply Wpl.nil | (apply Wpl.guard_run; exact rfl; exact rfl) | (apply Wpl.ld0x0; exact rfl; exact rfl; exact rfl; exact rfl)))); (refine Wph.take 6 rfl (by kernel_rfl) rfl (fun _ _ _ _ h => h) (fun _ h => h) (by first | exact Sel.refl _ | exact Sel.tail _ _ | exact Sel.nil _ | exact (Sel.tail _ _).trans (Sel.tail _ _) | exact (Sel.tail _ _).trans ((Sel.tail _ _).trans (Sel.tail _ _))) ?_; (repeat' (first | apply Wpl.nil | (apply Wpl.mv; exact rfl; (conv => lhs; whnf)) | (apply Wpl.guard_run; exact rfl; exact rfl)))); (refine Wph.take 7 rfl (by kernel_rfl) rfl (fun _ _ _ _ h => h) (fun _ h => h) (by first | exact Sel.refl _ | exact Sel.tail _ _ | exact Sel.nil _ | exact (Sel.tail _ _).trans (Sel.tail _ _) | exact (Sel.tail _ _).trans ((Sel.tail _ _).trans (Sel.tail _ _))) ?_; (repeat' (first | apply Wpl.nil | (apply Wpl.guard_run; exact rfl; exact rfl) | (apply Wpl.sub; exact rfl; exact rfl; exact rfl; omega)))); skip
    refine Wph.one 5 (by kernel_rfl) rfl rfl ?_
    apply Wpl.guard_run rfl rfl
    refine Wpl.callM rfl rfl rfl order_spec (Pk.nil _) HasF.nil ?_
    rintro v0 _ ⟨F0, rfl, h0⟩
    have h0r := h0.row
    obtain ⟨p1, c1, rfl⟩ := h0r.len
    refine Wpl.nil ⟨fun _ h => h, Sel.tail _ _, ?_⟩
    refine Wph.one 8 (by kernel_rfl) rfl rfl ?_
    apply Wpl.guard_run rfl rfl
    refine Wpl.idxP (m := (n' : Int)) rfl rfl (by show Value.int .i64 (((n' + 1 : Nat) : Int) - 1) = _; congr 1; omega) h0r (by omega) (by omega) (fun p1 _ hp1 => ?_)
    have hp2 : Pts F0 p1 (.int .i64 (orderL[n']'(by rw [orderL_len]; omega))) := hp1
    clear hp1
    generalize orderL[n']'(by rw [orderL_len]; omega) = oi at *
    have hoo : o[oi.toNat]?.getD 0 = o[oi.toNat]'(by omega) := getD_get (by omega)
    refine Wpl.nil ⟨fun _ h => h, Sel.tail _ _, ?_⟩
    refine Wph.one 9 (by kernel_rfl) rfl rfl ?_
    repeat' (first | apply Wpl.nil | (apply Wpl.guard_run; exact rfl; exact rfl) | (apply Wpl.ldP; exact rfl; exact rfl; assumption; (exact HasF.m 0 rfl)))
    refine ⟨fun _ h => h, Sel.tail _ _, ?_⟩
    refine Wph.one 10 (by kernel_rfl) rfl rfl ?_
    apply Wpl.guard_run rfl rfl
    refine Wpl.idxP rfl rfl rfl ho (by omega) (by omega) (fun p2 _ hp3 => ?_)
    refine Wpl.nil ⟨fun _ h => h, Sel.tail _ _, ?_⟩
    refine Wph.one 11 (by kernel_rfl) rfl rfl ?_
    repeat' (first | apply Wpl.nil | (apply Wpl.guard_run; exact rfl; exact rfl) | (apply Wpl.ldP; exact rfl; exact rfl; assumption; (exact HasF.r 0 rfl)))
    refine ⟨fun _ h => h, Sel.tail _ _, ?_⟩
    generalize hov : o[oi.toNat]'(by omega) = ov at *
    have hst : wrN o (n' + 1) = if ov = 0 then wrN o n' else n' + 1 := by
      rw [wrN, hog, hoo]
      by_cases e : ov = 0
      · rw [if_pos ⟨h4, e⟩, if_pos e]
      · rw [if_neg (fun h => e h.2), if_neg e]
    refine Wph.one 12 (by kernel_rfl) rfl rfl ?_
    repeat' (first | apply Wpl.nil | (apply Wpl.guard_run; exact rfl; exact rfl) | (apply Wpl.eql; exact rfl; exact rfl; exact rfl; all_goals (intro h; try (exfalso; omega))))
    · have e : ov = 0 := by assumption
      refine ⟨fun _ h => h, Sel.tail _ _, ?_⟩
      (refine Wph.take 13 rfl (by kernel_rfl) rfl (fun _ _ _ _ h => h) (fun _ h => h) (by first | exact Sel.refl _ | exact Sel.tail _ _ | exact Sel.nil _ | exact (Sel.tail _ _).trans (Sel.tail _ _) | exact (Sel.tail _ _).trans ((Sel.tail _ _).trans (Sel.tail _ _))) ?_; (repeat' (first | apply Wpl.nil | (apply Wpl.pickT; exact rfl; exact rfl; (conv => lhs; whnf))))); skip
      refine Wph.done (by kernel_rfl) ?_
      repeat' (first | apply Wpc.region | apply Wpl.nil | (apply hK; clear hK K) | (apply Wpl.mv; exact rfl; (conv => lhs; whnf)) | (apply Wpl.asg; exact rfl; (conv => lhs; whnf)) | (apply Wpc.cond_true; exact rfl) | apply Wpc.block | apply Wpc.skip | (apply Wpl.sub; exact rfl; exact rfl; exact rfl; omega))
      exact ⟨n', ⟨by omega, by omega, by rw [he, hst, if_pos e]⟩, by omega, ⟨rfl, congrArg (Value.int .i64) (by omega), trivial⟩, Sel.tail _ _, fun _ h => h⟩
    · have e : ov ≠ 0 := by assumption
      refine ⟨fun _ h => h, Sel.tail _ _, ?_⟩
      (refine Wph.take 13 rfl (by kernel_rfl) rfl (fun _ _ _ _ h => h) (fun _ h => h) (by first | exact Sel.refl _ | exact Sel.tail _ _ | exact Sel.nil _ | exact (Sel.tail _ _).trans (Sel.tail _ _) | exact (Sel.tail _ _).trans ((Sel.tail _ _).trans (Sel.tail _ _))) ?_; (repeat' (first | apply Wpl.nil | (apply Wpl.pickT; exact rfl; exact rfl; (conv => lhs; whnf))))); skip
      refine Wph.done (by kernel_rfl) ?_
      repeat' (first | (apply Wpc.seqK; intro K hK) | apply Wpc.region | apply Wpl.nil | (apply hK; clear hK K) | (apply Wpl.mv; exact rfl; (conv => lhs; whnf)) | (apply Wpl.asg; exact rfl; (conv => lhs; whnf)) | (apply Wpc.cond_false; exact rfl) | apply Wpc.exit | apply Wpc.ret | ((conv => whnf); clear hK K; apply hK; clear hK K))
      exact ⟨[_], [], ⟨rfl, trivial⟩, Sel.nil _, fun _ h => h, by rw [he, hst, if_neg e]; rfl, rfl⟩
  · have hn44 : n = 4 := by omega
    subst hn44
    repeat' (apply Wpc.seqK; intro K hK)
    refine Wpc.region_heldS 14 (by kernel_rfl) rfl rfl ?_
    (refine Wph.take 0 rfl (by kernel_rfl) rfl (fun _ _ _ _ h => h) (fun _ h => h) (by first | exact Sel.refl _ | exact Sel.tail _ _ | exact Sel.nil _ | exact (Sel.tail _ _).trans (Sel.tail _ _) | exact (Sel.tail _ _).trans ((Sel.tail _ _).trans (Sel.tail _ _))) ?_; (repeat' (first | apply Wpl.nil | (apply Wpl.mv; exact rfl; (conv => lhs; whnf))))); (refine Wph.take 1 rfl (by kernel_rfl) rfl (fun _ _ _ _ h => h) (fun _ h => h) (by first | exact Sel.refl _ | exact Sel.tail _ _ | exact Sel.nil _ | exact (Sel.tail _ _).trans (Sel.tail _ _) | exact (Sel.tail _ _).trans ((Sel.tail _ _).trans (Sel.tail _ _))) ?_; (repeat' (first | apply Wpl.nil | (apply Wpl.gtr; exact rfl; exact rfl; exact rfl; all_goals (intro h; try (exfalso; omega)))))); (refine Wph.take 2 rfl (by kernel_rfl) rfl (fun _ _ _ _ h => h) (fun _ h => h) (by first | exact Sel.refl _ | exact Sel.tail _ _ | exact Sel.nil _ | exact (Sel.tail _ _).trans (Sel.tail _ _) | exact (Sel.tail _ _).trans ((Sel.tail _ _).trans (Sel.tail _ _))) ?_; (repeat' (first | apply Wpl.nil | (apply Wpl.mv; exact rfl; (conv => lhs; whnf))))); (refine Wph.take 3 rfl (by kernel_rfl) rfl (fun _ _ _ _ h => h) (fun _ h => h) (by first | exact Sel.refl _ | exact Sel.tail _ _ | exact Sel.nil _ | exact (Sel.tail _ _).trans (Sel.tail _ _) | exact (Sel.tail _ _).trans ((Sel.tail _ _).trans (Sel.tail _ _))) ?_; (repeat' (first | apply Wpl.nil | (apply Wpl.guard_skip; exact rfl; exact rfl; exact rfl)))); (refine Wph.take 4 rfl (by kernel_rfl) rfl (fun _ _ _ _ h => h) (fun _ h => h) (by first | exact Sel.refl _ | exact Sel.tail _ _ | exact Sel.nil _ | exact (Sel.tail _ _).trans (Sel.tail _ _) | exact (Sel.tail _ _).trans ((Sel.tail _ _).trans (Sel.tail _ _))) ?_; (repeat' (first | apply Wpl.nil | (apply Wpl.guard_skip; exact rfl; exact rfl; exact rfl)))); (refine Wph.take 5 rfl (by kernel_rfl) rfl (fun _ _ _ _ h => h) (fun _ h => h) (by first | exact Sel.refl _ | exact Sel.tail _ _ | exact Sel.nil _ | exact (Sel.tail _ _).trans (Sel.tail _ _) | exact (Sel.tail _ _).trans ((Sel.tail _ _).trans (Sel.tail _ _))) ?_; (repeat' (first | apply Wpl.nil | (apply Wpl.guard_skip; exact rfl; exact rfl; exact rfl)))); (refine Wph.take 6 rfl (by kernel_rfl) rfl (fun _ _ _ _ h => h) (fun _ h => h) (by first | exact Sel.refl _ | exact Sel.tail _ _ | exact Sel.nil _ | exact (Sel.tail _ _).trans (Sel.tail _ _) | exact (Sel.tail _ _).trans ((Sel.tail _ _).trans (Sel.tail _ _))) ?_; (repeat' (first | apply Wpl.nil | (apply Wpl.guard_skip; exact rfl; exact rfl; exact rfl)))); (refine Wph.take 7 rfl (by kernel_rfl) rfl (fun _ _ _ _ h => h) (fun _ h => h) (by first | exact Sel.refl _ | exact Sel.tail _ _ | exact Sel.nil _ | exact (Sel.tail _ _).trans (Sel.tail _ _) | exact (Sel.tail _ _).trans ((Sel.tail _ _).trans (Sel.tail _ _))) ?_; (repeat' (first | apply Wpl.nil | (apply Wpl.guard_skip; exact rfl; exact rfl; exact rfl)))); (refine Wph.take 8 rfl (by kernel_rfl) rfl (fun _ _ _ _ h => h) (fun _ h => h) (by first | exact Sel.refl _ | exact Sel.tail _ _ | exact Sel.nil _ | exact (Sel.tail _ _).trans (Sel.tail _ _) | exact (Sel.tail _ _).trans ((Sel.tail _ _).trans (Sel.tail _ _))) ?_; (repeat' (first | apply Wpl.nil | (apply Wpl.guard_skip; exact rfl; exact rfl; exact rfl)))); (refine Wph.take 9 rfl (by kernel_rfl) rfl (fun _ _ _ _ h => h) (fun _ h => h) (by first | exact Sel.refl _ | exact Sel.tail _ _ | exact Sel.nil _ | exact (Sel.tail _ _).trans (Sel.tail _ _) | exact (Sel.tail _ _).trans ((Sel.tail _ _).trans (Sel.tail _ _))) ?_; (repeat' (first | apply Wpl.nil | (apply Wpl.guard_skip; exact rfl; exact rfl; exact rfl)))); (refine Wph.take 10 rfl (by kernel_rfl) rfl (fun _ _ _ _ h => h) (fun _ h => h) (by first | exact Sel.refl _ | exact Sel.tail _ _ | exact Sel.nil _ | exact (Sel.tail _ _).trans (Sel.tail _ _) | exact (Sel.tail _ _).trans ((Sel.tail _ _).trans (Sel.tail _ _))) ?_; (repeat' (first | apply Wpl.nil | (apply Wpl.guard_skip; exact rfl; exact rfl; exact rfl)))); (refine Wph.take 11 rfl (by kernel_rfl) rfl (fun _ _ _ _ h => h) (fun _ h => h) (by first | exact Sel.refl _ | exact Sel.tail _ _ | exact Sel.nil _ | exact (Sel.tail _ _).trans (Sel.tail _ _) | exact (Sel.tail _ _).trans ((Sel.tail _ _).trans (Sel.tail _ _))) ?_; (repeat' (first | apply Wpl.nil | (apply Wpl.guard_skip; exact rfl; exact rfl; exact rfl)))); (refine Wph.take 12 rfl (by kernel_rfl) rfl (fun _ _ _ _ h => h) (fun _ h => h) (by first | exact Sel.refl _ | exact Sel.tail _ _ | exact Sel.nil _ | exact (Sel.tail _ _).trans (Sel.tail _ _) | exact (Sel.tail _ _).trans ((Sel.tail _ _).trans (Sel.tail _ _))) ?_; (repeat' (first | apply Wpl.nil | (apply Wpl.guard_skip; exact rfl; exact rfl; exact rfl)))); (refine Wph.take 13 rfl (by kernel_rfl) rfl (fun _ _ _ _ h => h) (fun _ h => h) (by first | exact Sel.refl _ | exact Sel.tail _ _ | exact Sel.nil _ | exact (Sel.tail _ _).trans (Sel.tail _ _) | exact (Sel.tail _ _).trans ((Sel.tail _ _).trans (Sel.tail _ _))) ?_; (repeat' (first | apply Wpl.nil | (apply Wpl.pickF; exact rfl; exact rfl; (conv => lhs; whnf))))); skip
    refine Wph.done (by kernel_rfl) ?_
    repeat' (first | (apply Wpc.seqK; intro K hK) | apply Wpc.region | apply Wpl.nil | (apply hK; clear hK K) | (apply Wpl.mv; exact rfl; (conv => lhs; whnf)) | (apply Wpl.asg; exact rfl; (conv => lhs; whnf)) | (apply Wpc.cond_false; exact rfl) | apply Wpc.exit | apply Wpc.ret | ((conv => whnf); clear hK K; apply hK; clear hK K))
    exact ⟨[_], [], ⟨rfl, trivial⟩, Sel.nil _, fun _ h => h, by rw [he, wrN, if_neg (fun h => by omega)]; rfl, rfl⟩
end Go.Proofs.Ytmfcgffdijnokaa
set_option maxRecDepth 100000
set_option maxHeartbeats 4000000
namespace Go.Proofs.Ytmfcgffdijnokaa
open Go.SL Go.RowKit
attribute [local irreducible] Wpl Wpc Wph
/-! plain facts for plans -/
theorem runs_bd {l : List Int} (h : ∀ x ∈ l, 0 ≤ x ∧ x ≤ 15) : ∀ r ∈ runsM l, 0 ≤ r.1 ∧ r.1 ≤ 18 ∧ 0 ≤ r.2 ∧ r.2 < 2 ^ (reachM r.1).2.toNat := by
  have key : ∀ f i, ∀ r ∈ runsGo l f i, 0 ≤ r.1 ∧ r.1 ≤ 18 ∧ 0 ≤ r.2 ∧ r.2 < 2 ^ (reachM r.1).2.toNat := by
    intro f
    induction f with
    | zero => intro i r hr; simp [runsGo] at hr
    | succ f ih =>
      intro i r hr
      rw [runsGo] at hr
      split at hr
      · rename_i hi
        rcases List.mem_cons.1 hr with rfl | hr
        · have h1 := runSym_bd hi h
          have h2 := run_least hi h
          have h3 := runMost_bd (runSym l i)
          have h4 : runCnt l i = min (sameM l i : Int) (runMost (runSym l i)) := rfl
          have h5 : runMost (runSym l i) = (reachM (runSym l i)).1 + 2 ^ (reachM (runSym l i)).2.toNat - 1 := rfl
          refine ⟨h1.1, h1.2, ?_, ?_⟩ <;> dsimp only <;> omega
        · exact ih _ r hr
      · cases hr
  exact key _ _
theorem runs_len {l : List Int} : (runsM l).length ≤ l.length := by
  have key : ∀ f i, (runsGo l f i).length ≤ l.length - i := by
    intro f
    induction f with
    | zero => intro i; simp [runsGo]
    | succ f ih =>
      intro i
      rw [runsGo]
      split
      · rename_i hi
        have h1 := ih (i + (runCnt l i).toNat)
        have h2 := runCnt_pos hi
        rw [List.length_cons]
        omega
      · simp
  exact key _ 0
theorem twoGo_len : ∀ (f : Nat) (l : List Int) (i c : Nat), (twoGo f l i c).length = l.length
  | 0, l, _, _ => rfl
  | f + 1, l, i, c => by
    unfold twoGo
    split
    · split
      · rw [twoGo_len f, List.length_set]
      · rw [twoGo_len f]
    · rfl
theorem twoM_len (l : List Int) : (twoM l).length = l.length := twoGo_len _ _ _ _
theorem twoGo_mem : ∀ (f : Nat) (l : List Int) (i c : Nat) (B : Int), 1 ≤ B → (∀ x ∈ l, 0 ≤ x ∧ x ≤ B) → ∀ x ∈ twoGo f l i c, 0 ≤ x ∧ x ≤ B
  | 0, l, _, _, B, _, h => h
  | f + 1, l, i, c, B, hB, h => by
    unfold twoGo
    split
    · split
      · refine twoGo_mem f _ _ _ B hB fun x hx => ?_
        rcases List.mem_or_eq_of_mem_set hx with hx | rfl
        · exact h x hx
        · omega
      · exact twoGo_mem f l _ _ B hB h
    · exact h
theorem twoM_mem (l : List Int) (B : Int) (hB : 1 ≤ B) (h : ∀ x ∈ l, 0 ≤ x ∧ x ≤ B) : ∀ x ∈ twoM l, 0 ≤ x ∧ x ≤ B := twoGo_mem _ _ _ _ B hB h
theorem twoGo_pos : ∀ (f : Nat) (l : List Int) (i c s : Nat), 0 < l[s]?.getD 0 → 0 < (twoGo f l i c)[s]?.getD 0
  | 0, l, _, _, s, h => h
  | f + 1, l, i, c, s, h => by
    unfold twoGo
    split
    · split
      · refine twoGo_pos f _ _ _ s ?_
        rw [List.getElem?_set]
        split
        · split
          · simp
          · rename_i e1 e2; subst e1; rw [List.getElem?_eq_none (by omega)] at h; simp at h
        · exact h
      · exact twoGo_pos f l _ _ s h
    · exact h
theorem twoM_pos (l : List Int) (s : Nat) (h : 0 < l[s]?.getD 0) : 0 < (twoM l)[s]?.getD 0 := twoGo_pos _ _ _ _ s h
theorem trim_zero (l : List Int) (least : Nat) : ∀ n i, trimN l least n ≤ i → i < n → l[i]?.getD 0 = 0
  | 0, i, _, h => by omega
  | n + 1, i, h1, h2 => by
    unfold trimN at h1
    split at h1
    · rename_i hc
      by_cases e : i = n
      · subst e; exact hc.2
      · exact trim_zero l least n i h1 (by omega)
    · omega
theorem hsum_take (N : Nat) (l : List Int) (m : Nat) : hsum N (l.take m) ≤ hsum N l := by
  have : hsum N l = hsum N (l.take m) + hsum N (l.drop m) := by rw [← hsum_append, List.take_append_drop]
  omega
/-- a plan, plainly -/
structure PlanM where
  l : List Int
  d : List Int
  runs : List (Int × Int)
  ones : List Int
  head : Int
def headSum (o : List Int) (rs : List (Int × Int)) : Int := (rs.map fun r => o[r.1.toNat]?.getD 0 + (reachM r.1).2).sum
def litM (ts : List (Int × Int)) : List Int := lensM (twoM (cnt ts).1) 15
def dstM (ts : List (Int × Int)) : List Int := lensM (cnt ts).2 15
def litT (ts : List (Int × Int)) : List Int := (litM ts).take (trimN (litM ts) 257 286)
def dstT (ts : List (Int × Int)) : List Int := (dstM ts).take (trimN (dstM ts) 1 30)
def onesM (rs : List (Int × Int)) : List Int := lensM (twoM (cntO 19 (rs.map (·.1)))) 7
def ownM (ts : List (Int × Int)) : PlanM :=
  ⟨litT ts, dstT ts, runsM (litT ts ++ dstT ts), onesM (runsM (litT ts ++ dstT ts)),
   14 + 3 * (wrN (onesM (runsM (litT ts ++ dstT ts))) 19 : Int) + headSum (onesM (runsM (litT ts ++ dstT ts))) (runsM (litT ts ++ dstT ts))⟩
theorem headSum_snoc (o : List Int) (rs : List (Int × Int)) (r : Int × Int) : headSum o (rs ++ [r]) = headSum o rs + (o[r.1.toNat]?.getD 0 + (reachM r.1).2) := by simp [headSum, List.sum_append]
theorem litM_len (ts : List (Int × Int)) : (litM ts).length = 286 := by rw [litM, lensM_len, twoM_len]; exact (cnt_len ts).1
theorem dstM_len (ts : List (Int × Int)) : (dstM ts).length = 30 := by rw [dstM, lensM_len]; exact (cnt_len ts).2
theorem cl_bd (ts : List (Int × Int)) : ∀ x ∈ twoM (cnt ts).1, 0 ≤ x ∧ x ≤ 1 + ts.length := twoM_mem _ _ (by omega) (cnt_bd ts).1
theorem litM_bd (ts : List (Int × Int)) : ∀ x ∈ litM ts, 0 ≤ x ∧ x ≤ 15 := lensM_bd _ 15 (fun x hx => (cl_bd ts x hx).1) (by decide) (by rw [twoM_len, (cnt_len ts).1]; decide)
theorem dstM_bd (ts : List (Int × Int)) : ∀ x ∈ dstM ts, 0 ≤ x ∧ x ≤ 15 := lensM_bd _ 15 (fun x hx => ((cnt_bd ts).2 x hx).1) (by decide) (by rw [(cnt_len ts).2]; decide)
theorem litT_len (ts : List (Int × Int)) : (litT ts).length = trimN (litM ts) 257 286 ∧ 257 ≤ (litT ts).length ∧ (litT ts).length ≤ 286 := by
  have h := trimN_le (litM ts) 257 286
  have hl := litM_len ts
  have : (litT ts).length = trimN (litM ts) 257 286 := by rw [litT, List.length_take]; omega
  omega
theorem dstT_len (ts : List (Int × Int)) : (dstT ts).length = trimN (dstM ts) 1 30 ∧ 1 ≤ (dstT ts).length ∧ (dstT ts).length ≤ 30 := by
  have h := trimN_le (dstM ts) 1 30
  have hl := dstM_len ts
  have : (dstT ts).length = trimN (dstM ts) 1 30 := by rw [dstT, List.length_take]; omega
  omega
theorem both_bd (ts : List (Int × Int)) : ∀ x ∈ litT ts ++ dstT ts, 0 ≤ x ∧ x ≤ 15 := fun x hx => by
  rcases List.mem_append.1 hx with hx | hx
  · exact litM_bd ts x (List.mem_of_mem_take hx)
  · exact dstM_bd ts x (List.mem_of_mem_take hx)
theorem cntO_bd (size : Nat) (l : List Int) : ∀ x ∈ cntO size l, 0 ≤ x ∧ x ≤ l.length := by
  intro x hx
  obtain ⟨s, _, rfl⟩ := List.mem_map.1 hx
  have := List.count_le_length (a := (s : Int)) (l := l)
  omega
theorem cc_bd (rs : List (Int × Int)) : ∀ x ∈ twoM (cntO 19 (rs.map (·.1))), 0 ≤ x ∧ x ≤ 1 + rs.length := twoM_mem _ _ (by omega) (fun x hx => by have := cntO_bd _ _ x hx; rw [List.length_map] at this; omega)
theorem onesM_len (rs : List (Int × Int)) : (onesM rs).length = 19 := by rw [onesM, lensM_len, twoM_len, cntO_len]
theorem onesM_bd (rs : List (Int × Int)) : ∀ x ∈ onesM rs, 0 ≤ x ∧ x ≤ 7 := lensM_bd _ 7 (fun x hx => (cc_bd rs x hx).1) (by decide) (by rw [twoM_len, cntO_len]; decide)
theorem OwnRow.some_ {E : TypeId} {k : Nat} {F : Frag} {v : Value} {n : Nat} {xs : List Value} (h : OwnRow E k F v n xs) (hn : 0 < n) : ∃ b cap, v = .slice (some ⟨b, 0, none⟩) n cap := by
  obtain ⟨_, ⟨_, h0, _⟩ | ⟨b, cap, c, rfl, _⟩⟩ := h
  · omega
  · exact ⟨b, cap, rfl⟩
end Go.Proofs.Ytmfcgffdijnokaa
set_option maxRecDepth 100000
set_option maxHeartbeats 4000000
namespace Go.Proofs.Ytmfcgffdijnokaa
open Go.SL Go.RowKit
attribute [local irreducible] Wpl Wpc Wph
/-! block.own -/
section
variable {q : Md} {C : Cx} {ops : Array Oper} {rest : List Oper} {Q : Exit → Env → List Frag → List Frag → Prop} {f : Env} {R M : List Frag}
variable {d : Nat} {ty T : TypeId} {pos : String} {af : Array Edge} {x y : Operand}
/-- a store with its outcome named -/
theorem Wpl.stV {E : TypeId} {by_ : Nat} {z : Value} [hT : CellT C.P T z by_] {b off : Nat} {F : Frag} {c : Array Value} (v : Value) (c' : Array Value)
    (hx : f.ev x = .pointer (some ⟨b, off, none⟩)) (hi : M[0]? = some F) (hj : F[0]? = some (b, .cells c E (0, 0))) (hy : f.ev y = v) (hone : v.oneCell' = true) (hb : Nat.blt off c.size = true) (hc : (c.toList.set off v).toArray = c')
    (k : Wpl .seq C ops rest Q f R (M.set 0 (F.set 0 (b, .cells c' E (0, 0))))) :
    Wpl .seq C ops (⟨none, .store T x y, ty, pos, af, none⟩ :: rest) Q f R M := by
  subst hc
  exact Wpl.st 0 0 hx hi hj hy hone (by simpa [Nat.blt_eq] using hb) k
theorem Wpl.stVi (i : Nat) {E : TypeId} {by_ : Nat} {z : Value} [hT : CellT C.P T z by_] {b off : Nat} {F : Frag} {c : Array Value} (v : Value) (c' : Array Value)
    (hx : f.ev x = .pointer (some ⟨b, off, none⟩)) (hi : M[i]? = some F) (hj : F[0]? = some (b, .cells c E (0, 0))) (hy : f.ev y = v) (hone : v.oneCell' = true) (hb : Nat.blt off c.size = true) (hc : (c.toList.set off v).toArray = c')
    (k : Wpl .seq C ops rest Q f R (M.set i (F.set 0 (b, .cells c' E (0, 0))))) :
    Wpl .seq C ops (⟨none, .store T x y, ty, pos, af, none⟩ :: rest) Q f R M := by
  subst hc
  exact Wpl.st i 0 hx hi hj hy hone (by simpa [Nat.blt_eq] using hb) k
end
theorem headSum_bd {o : List Int} (ho : ∀ x ∈ o, 0 ≤ x ∧ x ≤ 7) : ∀ (rs : List (Int × Int)), 0 ≤ headSum o rs ∧ headSum o rs ≤ 14 * rs.length
  | [] => by simp [headSum]
  | r :: rs => by
    have ih := headSum_bd ho rs
    have h1 := reachM_bd r.1
    have h2 : 0 ≤ o[r.1.toNat]?.getD 0 ∧ o[r.1.toNat]?.getD 0 ≤ 7 := by
      cases hg : o[r.1.toNat]? with
      | none => simp
      | some y => exact ho y (List.mem_of_getElem? hg)
    simp only [headSum, List.map_cons, List.sum_cons, List.length_cons] at *
    omega
/-- a plan's value, and where its lists lie -/
structure PlanR (F1 F2 F3 F4 : Frag) (v : Value) (p : PlanM) : Prop where
  at_ : ∃ vl vd vr vo, v = planV vl vd vr vo p.head ∧ Row F1 1 vl p.l.length (ints .i64 p.l) ∧ Row F2 1 vd p.d.length (ints .i64 p.d) ∧ Row F3 2 vr p.runs.length (flat tokC p.runs) ∧ Row F4 1 vo p.ones.length (ints .i64 p.ones)
theorem ownM_l (ts : List (Int × Int)) : (ownM ts).l = litT ts := by unfold ownM; rfl
theorem ownM_d (ts : List (Int × Int)) : (ownM ts).d = dstT ts := by unfold ownM; rfl
theorem ownM_runs (ts : List (Int × Int)) : (ownM ts).runs = runsM (litT ts ++ dstT ts) := by unfold ownM; rfl
theorem ownM_ones (ts : List (Int × Int)) : (ownM ts).ones = onesM (runsM (litT ts ++ dstT ts)) := by unfold ownM; rfl
theorem ownM_head (ts : List (Int × Int)) : (ownM ts).head = 14 + 3 * (wrN (onesM (runsM (litT ts ++ dstT ts))) 19 : Int) + headSum (onesM (runsM (litT ts ++ dstT ts))) (runsM (litT ts ++ dstT ts)) := by unfold ownM; rfl
theorem own_spec (Ft : Frag) (vt : Value) (ts : List (Int × Int)) (ht : Row Ft 2 vt ts.length (flat tokC ts)) (hl : ts.length ≤ 1000000000) :
    Ctr Try.prog 51 [vt] [Ft] [] (fun r M' => ∃ F1 F2 F3 F4 v, M' = [F1, F2, F3, F4] ∧ r = .tuple #[v, .nilIface] ∧ PlanR F1 F2 F3 F4 v (ownM ts)) := by
  have hcl := cnt_len ts
  have hcb := cnt_bd ts
  obtain ⟨at1, ct1, rfl⟩ := ht.len
  refine Ctr.intro Try.func51 (by kernel_rfl) rfl (by conv => lhs; whnf) rfl fun W => ?_
  apply Wpc.seqK; intro K hK
  apply Wpc.region
  refine Wpl.new rfl (fun bp => ?_)
  repeat' (first | (apply Wpc.seqK; intro K hK) | apply Wpc.region | apply Wpl.nil | (apply hK; clear hK K) | (apply Wpl.mv; exact rfl; (conv => lhs; whnf)) | (apply Wpl.asg; exact rfl; (conv => lhs; whnf)))
  refine Wpl.callM rfl rfl rfl (count_spec Ft _ ts ht (by omega)) (Pk.nil _) (HasF.cons (HasF.r 0 rfl) HasF.nil) ?_
  rintro _ _ ⟨vl, vd, Fl, Fd, rfl, rfl, hvl, hvd⟩
  repeat' (first | (apply Wpc.seqK; intro K hK) | apply Wpc.region | apply Wpl.nil | (apply hK; clear hK K) | (apply Wpl.mv; exact rfl; (conv => lhs; whnf)) | (apply Wpl.asg; exact rfl; (conv => lhs; whnf)) | (apply Wpl.extract; exact rfl; exact rfl; exact rfl))
  have htwo := two_spec Fl vl (cnt ts).1 (OwnRow.cast hvl hcl.1.symm rfl) (by omega) (by omega) (fun x hx => (hcb.1 x hx).1)
  refine Wpl.callM rfl rfl rfl htwo (Pk.cons 0 rfl (Pk.nil _)) HasF.nil ?_
  rintro vl _ ⟨rfl, Fl2, rfl, hvl2⟩
  skip
  have hL := lengths_spec Fl2 vl (twoM (cnt ts).1) 15 (by rw [twoM_len]; exact hvl2.row) (by rw [twoM_len]; omega) (fun x hx => by have := cl_bd ts x hx; omega) (by decide) (by rw [twoM_len, hcl.1]; decide)
  refine Wpl.callM rfl rfl rfl hL (Pk.nil _) (HasF.cons (HasF.m 0 rfl) HasF.nil) ?_
  rintro _ _ ⟨F1, v1, rfl, rfl, h1⟩
  rw [twoM_len, hcl.1] at h1
  refine Wpl.sel (Sel.cons 3 rfl (Sel.cons 0 rfl (Sel.cons 1 rfl (Sel.nil _)))) ?_
  repeat' (first | (apply Wpl.mv; exact rfl; (conv => lhs; whnf)) | (apply Wpl.extract; exact rfl; exact rfl; exact rfl) | (apply Wpl.fldS; exact rfl; exact rfl; exact rfl; exact rfl))
  refine Wpl.stV v1 #[v1, .slice none 0 0, .slice none 0 0, .slice none 0 0, .int .i64 0] rfl rfl rfl rfl h1.row.one rfl rfl ?_
  repeat' (first | (apply Wpc.seqK; intro K hK) | apply Wpc.region | apply Wpl.nil | (apply hK; clear hK K) | (apply Wpl.mv; exact rfl; (conv => lhs; whnf)) | (apply Wpl.asg; exact rfl; (conv => lhs; whnf)) | (apply Wpc.cond_false; exact rfl) | apply Wpc.skip | (apply Wpl.errNeNil; exact rfl; exact rfl))
  have hD := lengths_spec Fd vd (cnt ts).2 15 (by rw [hcl.2]; exact hvd.row) (by omega) (fun x hx => by have := hcb.2 x hx; omega) (by decide) (by rw [hcl.2]; decide)
  refine Wpl.callM rfl rfl rfl hD (Pk.nil _) (HasF.cons (HasF.m 2 rfl) HasF.nil) ?_
  rintro _ _ ⟨F2, v2, rfl, rfl, h2⟩
  rw [hcl.2] at h2
  refine Wpl.sel (Sel.cons 1 rfl (Sel.cons 1 rfl (Sel.cons 0 rfl (Sel.nil _)))) ?_
  repeat' (first | (apply Wpl.mv; exact rfl; (conv => lhs; whnf)) | (apply Wpl.extract; exact rfl; exact rfl; exact rfl) | (apply Wpl.fldS; exact rfl; exact rfl; exact rfl; exact rfl))
  refine Wpl.stV v2 #[v1, v2, .slice none 0 0, .slice none 0 0, .int .i64 0] rfl rfl rfl rfl h2.row.one rfl rfl ?_
  repeat' (first | (apply Wpc.seqK; intro K hK) | apply Wpc.region | apply Wpl.nil | (apply hK; clear hK K) | (apply Wpl.mv; exact rfl; (conv => lhs; whnf)) | (apply Wpl.asg; exact rfl; (conv => lhs; whnf)) | (apply Wpc.cond_false; exact rfl) | apply Wpc.skip | (apply Wpl.errNeNil; exact rfl; exact rfl))
  have e1 : (litM ts).length = 286 := litM_len ts
  have e2 : (dstM ts).length = 30 := dstM_len ts
  obtain ⟨b1, c1, rfl⟩ := OwnRow.some_ h1 (by decide)
  obtain ⟨b2, c2, rfl⟩ := OwnRow.some_ h2 (by decide)
  have hr1 : Row F1 1 (.slice (some ⟨b1, 0, none⟩) 286 c1) 286 (ints .i64 (litM ts)) := h1.row
  have hr2 : Row F2 1 (.slice (some ⟨b2, 0, none⟩) 30 c2) 30 (ints .i64 (dstM ts)) := h2.row
  have ht1 := trim_spec F1 b1 0 286 c1 257 (litM ts) hr1 (by omega)
  have ht2 := trim_spec F2 b2 0 30 c2 1 (dstM ts) hr2 (by omega)
  have hlt := litT_len ts
  have hdt := dstT_len ts
  have hq1 : Row F1 1 (.slice (some ⟨b1, 0, none⟩) (trimN (litM ts) 257 286) c1) (litT ts).length (ints .i64 (litT ts)) := by rw [hlt.1]; exact hr1.takeI (by omega)
  have hq2 : Row F2 1 (.slice (some ⟨b2, 0, none⟩) (trimN (dstM ts) 1 30) c2) (dstT ts).length (ints .i64 (dstT ts)) := by rw [hdt.1]; exact hr2.takeI (by omega)
  rw [← hlt.1] at ht1 hq1
  rw [← hdt.1] at ht2 hq2
  skip
  refine Wpc.region_tailS 7 10 (by kernel_rfl) rfl rfl ?_
  (refine Wpt.take 0 rfl (by kernel_rfl) rfl (fun _ _ _ _ h => h) (fun _ h => h) (by first | exact Sel.refl _ | exact Sel.tail _ _ | exact Sel.nil _ | exact (Sel.tail _ _).trans (Sel.tail _ _) | exact (Sel.tail _ _).trans ((Sel.tail _ _).trans (Sel.tail _ _))) ?_; (repeat' (first | apply Wpl.nil | (apply Wpl.fldS; exact rfl; exact rfl; exact rfl; exact rfl)))); (refine Wpt.take 1 rfl (by kernel_rfl) rfl (fun _ _ _ _ h => h) (fun _ h => h) (by first | exact Sel.refl _ | exact Sel.tail _ _ | exact Sel.nil _ | exact (Sel.tail _ _).trans (Sel.tail _ _) | exact (Sel.tail _ _).trans ((Sel.tail _ _).trans (Sel.tail _ _))) ?_; (repeat' (first | apply Wpl.nil | (apply Wpl.ld0x0; exact rfl; exact rfl; exact rfl; exact rfl)))); (refine Wpt.take 3 rfl (by kernel_rfl) rfl (fun _ _ _ _ h => h) (fun _ h => h) (by first | exact Sel.refl _ | exact Sel.tail _ _ | exact Sel.nil _ | exact (Sel.tail _ _).trans (Sel.tail _ _) | exact (Sel.tail _ _).trans ((Sel.tail _ _).trans (Sel.tail _ _))) ?_; (repeat' (first | apply Wpl.nil | (apply Wpl.fldS; exact rfl; exact rfl; exact rfl; exact rfl)))); (refine Wpt.take 4 rfl (by kernel_rfl) rfl (fun _ _ _ _ h => h) (fun _ h => h) (by first | exact Sel.refl _ | exact Sel.tail _ _ | exact Sel.nil _ | exact (Sel.tail _ _).trans (Sel.tail _ _) | exact (Sel.tail _ _).trans ((Sel.tail _ _).trans (Sel.tail _ _))) ?_; (repeat' (first | apply Wpl.nil | (apply Wpl.ld0x0; exact rfl; exact rfl; exact rfl; exact rfl)))); skip
  refine Wpt.one 2 (by kernel_rfl) rfl rfl ?_
  repeat' (first | (apply Wpl.callP; exact rfl; exact rfl; exact rfl; exact rfl; (exact ht1); (refine HasF.cons (by (exact HasF.m 1 rfl)) HasF.nil)) | apply Wpl.nil)
  refine ⟨fun _ h => h, Sel.refl _, ?_⟩
  (refine Wpt.take 6 rfl (by kernel_rfl) rfl (fun _ _ _ _ h => h) (fun _ h => h) (by first | exact Sel.refl _ | exact Sel.tail _ _ | exact Sel.nil _ | exact (Sel.tail _ _).trans (Sel.tail _ _) | exact (Sel.tail _ _).trans ((Sel.tail _ _).trans (Sel.tail _ _))) ?_; (repeat' (first | apply Wpl.nil | (apply Wpl.fldS; exact rfl; exact rfl; exact rfl; exact rfl)))); skip
  refine Wpt.one 5 (by kernel_rfl) rfl rfl ?_
  repeat' (first | (apply Wpl.callP; exact rfl; exact rfl; exact rfl; exact rfl; (exact ht2); (refine HasF.cons (by (exact HasF.m 2 rfl)) HasF.nil)) | apply Wpl.nil)
  refine ⟨fun _ h => h, Sel.refl _, ?_⟩
  refine Wpt.tail (by kernel_rfl) rfl rfl ?_
  generalize hn1 : (litT ts).length = n1 at *
  generalize hn2 : (dstT ts).length = n2 at *
  skip
  refine Wpl.stV (.slice (some ⟨b1, 0, none⟩) n1 c1) #[.slice (some ⟨b1, 0, none⟩) n1 c1, .slice (some ⟨b2, 0, none⟩) 30 c2, .slice none 0 0, .slice none 0 0, .int .i64 0] rfl rfl rfl rfl rfl rfl rfl ?_
  repeat' (apply Wpl.fldS; exact rfl; exact rfl; exact rfl; exact rfl)
  refine Wpl.stV (.slice (some ⟨b2, 0, none⟩) n2 c2) #[.slice (some ⟨b1, 0, none⟩) n1 c1, .slice (some ⟨b2, 0, none⟩) n2 c2, .slice none 0 0, .slice none 0 0, .int .i64 0] rfl rfl rfl rfl rfl rfl rfl ?_
  repeat' (first | (apply Wpc.seqK; intro K hK) | apply Wpc.region | apply Wpl.nil | (apply hK; clear hK K) | (apply Wpl.fldS; exact rfl; exact rfl; exact rfl; exact rfl) | (apply Wpl.ld0x0; exact rfl; exact rfl; exact rfl; exact rfl))
  refine Wpl.lit1 (cs := [.slice (some ⟨b1, 0, none⟩) n1 c1, .slice (some ⟨b2, 0, none⟩) n2 c2]) rfl (by decide) (by decide) rfl rfl (fun va Fa hva => ?_)
  have hcat := concatI_spec Fa va [⟨F1, .slice (some ⟨b1, 0, none⟩) n1 c1, n1, ints .i64 (litT ts)⟩, ⟨F2, .slice (some ⟨b2, 0, none⟩) n2 c2, n2, ints .i64 (dstT ts)⟩] hva.row (fun s hs => by
      rcases List.mem_cons.1 hs with rfl | hs
      · exact ⟨hq1, ints_one _ _⟩
      · rw [List.mem_singleton.1 hs]; exact ⟨hq2, ints_one _ _⟩) (by show 2 ≤ 1000000; omega) (by show n1 + (n2 + 0) ≤ _; omega)
  skip
  refine Wpl.callM rfl rfl rfl hcat (Pk.nil _) (HasF.cons (HasF.m 0 rfl) (HasF.cons (HasF.m 2 rfl) (HasF.cons (HasF.m 3 rfl) HasF.nil))) ?_
  rintro vb _ ⟨Fb, rfl, hvb⟩
  have hbr : Row Fb 1 vb (litT ts ++ dstT ts).length (ints .i64 (litT ts ++ dstT ts)) := by
    have h := hvb.row
    have e3 : srcN [⟨F1, .slice (some ⟨b1, 0, none⟩) n1 c1, n1, ints .i64 (litT ts)⟩, ⟨F2, .slice (some ⟨b2, 0, none⟩) n2 c2, n2, ints .i64 (dstT ts)⟩] = (litT ts ++ dstT ts).length := by simp [srcN, hn1, hn2]
    have e4 : srcX [⟨F1, .slice (some ⟨b1, 0, none⟩) n1 c1, n1, ints .i64 (litT ts)⟩, ⟨F2, .slice (some ⟨b2, 0, none⟩) n2 c2, n2, ints .i64 (dstT ts)⟩] = ints .i64 (litT ts ++ dstT ts) := by simp [srcX, ints]
    rw [e3, e4] at h
    exact h
  have hruns := runs_spec Fb vb (litT ts ++ dstT ts) hbr (by rw [List.length_append, hn1, hn2]; omega) (both_bd ts)
  have hRb := runs_bd (both_bd ts)
  have hRl := runs_len (l := litT ts ++ dstT ts)
  rw [List.length_append, hn1, hn2] at hRl
  generalize hRS : runsM (litT ts ++ dstT ts) = RS at *
  skip
  refine Wpl.callM rfl rfl rfl hruns (Pk.nil _) (HasF.cons (HasF.m 0 rfl) HasF.nil) ?_
  rintro _ _ ⟨vr, Fr, rfl, rfl, hvr⟩
  refine Wpl.sel (Sel.cons 3 rfl (Sel.cons 3 rfl (Sel.cons 3 rfl (Sel.cons 0 rfl (Sel.nil _))))) ?_
  have hrr := hvr.row
  obtain ⟨pr, cr, rfl⟩ := hrr.len
  repeat' (first | (apply Wpl.mv; exact rfl; (conv => lhs; whnf)) | (apply Wpl.extract; exact rfl; exact rfl; exact rfl) | (apply Wpl.fldS; exact rfl; exact rfl; exact rfl; exact rfl))
  refine Wpl.stV (.slice pr RS.length cr) #[.slice (some ⟨b1, 0, none⟩) n1 c1, .slice (some ⟨b2, 0, none⟩) n2 c2, .slice pr RS.length cr, .slice none 0 0, .int .i64 0] rfl rfl rfl rfl rfl rfl rfl ?_
  repeat' (first | (apply Wpc.seqK; intro K hK) | apply Wpc.region | apply Wpl.nil | (apply hK; clear hK K) | (apply Wpl.mv; exact rfl; (conv => lhs; whnf)) | (apply Wpl.asg; exact rfl; (conv => lhs; whnf)) | (apply Wpc.cond_false; exact rfl) | apply Wpc.skip | (apply Wpl.errNeNil; exact rfl; exact rfl))
  refine Wpl.callM rfl rfl rfl order_spec (Pk.nil _) HasF.nil ?_
  rintro vo0 _ ⟨Fo0, rfl, ho0⟩
  obtain ⟨po0, co0, rfl⟩ := ho0.row.len
  repeat' (apply Wpl.len; exact rfl; exact rfl)
  refine Wpl.mk1 rfl rfl rfl (by decide) (by decide) (by decide) rfl (fun vc Fc hc => ?_)
  have hc0 : OwnRow 3 1 Fc vc 19 (ints .i64 (cntO 19 [])) := OwnRow.cast hc rfl (by rw [cntO_nil, ← ints_replicate]; rfl)
  clear hc
  repeat' (first | (apply Wpc.seqK; intro K hK) | apply Wpc.region | apply Wpl.nil | (apply hK; clear hK K) | (apply Wpl.mv; exact rfl; (conv => lhs; whnf)) | (apply Wpl.asg; exact rfl; (conv => lhs; whnf)) | (apply Wpl.fldS; exact rfl; exact rfl; exact rfl; exact rfl) | (apply Wpl.ld2x0; exact rfl; exact rfl; exact rfl; exact rfl) | (apply Wpl.len; exact rfl; exact rfl))
  refine Wpc.block ?_
  refine Wpc.loop (ι := Nat × Frag) (fun i => i.1 ≤ RS.length ∧ OwnRow 3 1 i.2 vc 19 (ints .i64 (cntO 19 ((RS.take i.1).map (·.1)))))
    (fun i => [(2, .pointer (some ⟨bp, 0, none⟩)), (6, vc), (66, .slice pr RS.length cr), (67, .int .i64 RS.length), (68, .int .i64 i.1)])
    (fun i => [i.2, [(bp, .cells #[.slice (some ⟨b1, 0, none⟩) n1 c1, .slice (some ⟨b2, 0, none⟩) n2 c2, .slice pr RS.length cr, .slice none 0 0, .int .i64 0] 89 (0, 0))], F1, F2, Fr]) (fun i => RS.length - i.1) (0, Fc)
    ⟨Nat.zero_le _, hc0⟩ ⟨rfl, rfl, rfl, rfl, rfl, trivial⟩ (Sel.cons 0 rfl (Sel.cons 1 rfl (Sel.cons 1 rfl (Sel.cons 1 rfl (Sel.cons 1 rfl (Sel.nil _)))))) ?_
  rintro ⟨k, Fk⟩ g ⟨hk, hvk⟩
  dsimp only at hk hvk ⊢
  repeat' (first | (apply Wpc.seqK; intro K hK) | apply Wpc.region | apply Wpl.nil | (apply hK; clear hK K) | (apply Wpl.mv; exact rfl; (conv => lhs; whnf)) | (apply Wpc.cond_true; exact rfl) | (apply Wpc.cond_false; exact rfl) | apply Wpc.skip | apply Wpc.exit | (apply Wpl.lss; exact rfl; exact rfl; exact rfl; all_goals (intro h; try (exfalso; omega))) | ((conv => whnf); clear hK K; apply hK; clear hK K))
  · have hkl : k < RS.length := by omega
    have hrk := hRb _ (List.getElem_mem hkl)
    have htk := take_snoc RS k hkl
    have hml : ((RS.take k).map (·.1)).length ≤ k := by rw [List.length_map]; exact List.length_take_le _ _
    refine Wpc.block ?_
    repeat' (first | (apply Wpc.seqK; intro K hK) | apply Wpc.region)
    refine Wpl.idxAgg (g := tokC) rfl rfl rfl rfl hrr tokC_len (HasF.m 4 rfl) (by omega) (by omega) (by decide) (fun _ _ => ?_)
    have e : (k : Int).toNat = k := rfl
    simp only [e]
    generalize RS[k]'hkl = rk at *
    obtain ⟨sk, xk⟩ := rk
    dsimp only at hrk
    refine Wpl.new rfl (fun b => ?_)
    refine Wpl.stAgg 0 0 (cs := #[.int .i64 sk, .int .i64 xk]) rfl rfl rfl rfl rfl (one_cons rfl (one_cons rfl one_nil)) rfl ?_
    have hvr2 := hvk.row
    have hcl2 := cntO_len 19 ((RS.take k).map (·.1))
    have hcs := cntO_snoc 19 ((RS.take k).map (·.1)) sk hrk.1 (by omega)
    have hcb := List.count_le_length (a := sk) (l := (RS.take k).map (·.1))
    have hcg : ∀ h, (cntO 19 ((RS.take k).map (·.1)))[sk.toNat]'h = ((((RS.take k).map (·.1)).count sk : Nat) : Int) := fun h => by
      rw [cntO_get h, show ((sk.toNat : Nat) : Int) = sk by omega]
    repeat' (first | apply Wpc.region | apply Wpl.nil | (apply hK; clear hK K) | (apply Wpl.mv; exact rfl; (conv => lhs; whnf)) | (apply Wpl.fldS; exact rfl; exact rfl; exact rfl; exact rfl) | (apply Wpl.ld0x0; exact rfl; exact rfl; exact rfl; exact rfl) | (apply Wpl.idx; exact rfl; exact rfl; exact rfl; exact rfl; assumption; (exact HasF.m 1 rfl); omega; omega; intro _ _))
    have hcg' := hcg (by rw [hcl2]; omega)
    generalize (cntO 19 ((RS.take k).map (·.1)))[sk.toNat]'(by rw [hcl2]; omega) = cv at *
    subst hcg'
    repeat' (apply Wpl.add; exact rfl; exact rfl; exact rfl; omega)
    refine Wpl.idxSt 1 rfl hvk rfl rfl rfl hrk.1 (by omega) (fun _ => rfl) rfl (fun _ F2' hv2 => ?_)
    rw [ints_set, hcs] at hv2
    repeat' (first | apply Wpc.region | apply Wpl.nil | (apply hK; clear hK K) | (apply Wpl.mv; exact rfl; (conv => lhs; whnf)) | (apply Wpl.add; exact rfl; exact rfl; exact rfl; omega))
    exact ⟨(k + 1, F2'), ⟨by omega, by show OwnRow 3 1 F2' vc 19 (ints .i64 (cntO 19 ((RS.take (k + 1)).map (·.1)))); rw [htk, List.map_append]; exact hv2⟩, by show RS.length - (k + 1) < RS.length - k; omega, ⟨rfl, rfl, rfl, rfl, rfl, trivial⟩, Sel.tail _ _, fun _ h => h⟩
  · have hkn : k = RS.length := by omega
    subst hkn
    rw [List.take_length] at hvk
    have htw := two_spec Fk vc (cntO 19 (RS.map (·.1))) (OwnRow.cast hvk (cntO_len _ _).symm rfl) (by rw [cntO_len]; decide) (by rw [cntO_len]; decide) (fun x hx => (cntO_bd _ _ x hx).1)
    have hccb := cc_bd RS
    have hol := onesM_len RS
    have hob := onesM_bd RS
    have hhb := headSum_bd hob
    skip
    refine Wpl.callM rfl rfl rfl htw (Pk.cons 0 rfl (Pk.nil _)) HasF.nil ?_
    rintro vc _ ⟨rfl, Fk2, rfl, hvk2⟩
    skip
    have hO := lengths_spec Fk2 vc (twoM (cntO 19 (RS.map (·.1)))) 7 (by rw [twoM_len]; exact hvk2.row) (by rw [twoM_len, cntO_len]; decide) (fun x hx => by have := hccb x hx; omega) (by decide) (by rw [twoM_len, cntO_len]; decide)
    refine Wpl.callM rfl rfl rfl hO (Pk.nil _) (HasF.cons (HasF.m 0 rfl) HasF.nil) ?_
    rintro _ _ ⟨Fo, vo, rfl, rfl, hvo⟩
    rw [twoM_len, cntO_len] at hvo
    have hvor : Row Fo 1 vo (onesM RS).length (ints .i64 (onesM RS)) := by rw [hol]; exact hvo.row
    obtain ⟨bo, co, rfl⟩ := OwnRow.some_ hvo (by decide)
    refine Wpl.sel (Sel.cons 2 rfl (Sel.cons 2 rfl (Sel.cons 2 rfl (Sel.cons 2 rfl (Sel.cons 0 rfl (Sel.nil _)))))) ?_
    repeat' (first | (apply Wpl.mv; exact rfl; (conv => lhs; whnf)) | (apply Wpl.extract; exact rfl; exact rfl; exact rfl) | (apply Wpl.fldS; exact rfl; exact rfl; exact rfl; exact rfl))
    refine Wpl.stV (.slice (some ⟨bo, 0, none⟩) 19 co) #[.slice (some ⟨b1, 0, none⟩) n1 c1, .slice (some ⟨b2, 0, none⟩) n2 c2, .slice pr RS.length cr, .slice (some ⟨bo, 0, none⟩) 19 co, .int .i64 0] rfl rfl rfl rfl rfl rfl rfl ?_
    repeat' (first | (apply Wpc.seqK; intro K hK) | apply Wpc.region | apply Wpl.nil | (apply hK; clear hK K) | (apply Wpl.mv; exact rfl; (conv => lhs; whnf)) | (apply Wpl.asg; exact rfl; (conv => lhs; whnf)) | (apply Wpc.cond_false; exact rfl) | apply Wpc.skip | (apply Wpl.errNeNil; exact rfl; exact rfl))
    refine Wpl.ldAgg 0 0 (cs := [.slice (some ⟨b1, 0, none⟩) n1 c1, .slice (some ⟨b2, 0, none⟩) n2 c2, .slice pr RS.length cr, .slice (some ⟨bo, 0, none⟩) 19 co, .int .i64 0]) rfl rfl rfl rfl rfl ?_
    refine Wpl.callM rfl rfl rfl (written_spec Fo _ _ _ (.slice (some ⟨bo, 0, none⟩) 19 co) 0 (onesM RS) hvor hol) (Pk.nil _) (HasF.cons (HasF.m 4 rfl) HasF.nil) ?_
    rintro _ _ ⟨rfl, rfl⟩
    have hwb := (wrN_bd (onesM RS) 19).1
    generalize hww : wrN (onesM RS) 19 = wn at *
    refine Wpl.mul rfl rfl rfl (by omega) ?_
    repeat' (first | (apply Wpl.fldS; exact rfl; exact rfl; exact rfl; exact rfl) | (apply Wpl.add; exact rfl; exact rfl; exact rfl; omega))
    refine Wpl.stV (.int .i64 (14 + 3 * (wn : Int))) #[.slice (some ⟨b1, 0, none⟩) n1 c1, .slice (some ⟨b2, 0, none⟩) n2 c2, .slice pr RS.length cr, .slice (some ⟨bo, 0, none⟩) 19 co, .int .i64 (14 + 3 * (wn : Int))] rfl rfl rfl rfl rfl rfl rfl ?_
    repeat' (first | (apply Wpc.seqK; intro K hK) | apply Wpc.region | apply Wpl.nil | (apply hK; clear hK K) | (apply Wpl.mv; exact rfl; (conv => lhs; whnf)) | (apply Wpl.fldS; exact rfl; exact rfl; exact rfl; exact rfl) | (apply Wpl.ld0x0; exact rfl; exact rfl; exact rfl; exact rfl) | (apply Wpl.len; exact rfl; exact rfl))
    refine Wpc.block ?_
    refine Wpc.loop (ι := Nat) (fun k => k ≤ RS.length)
      (fun k => [(2, .pointer (some ⟨bp, 0, none⟩)), (97, .slice pr RS.length cr), (98, .int .i64 RS.length), (99, .int .i64 k)])
      (fun k => [[(bp, .cells #[.slice (some ⟨b1, 0, none⟩) n1 c1, .slice (some ⟨b2, 0, none⟩) n2 c2, .slice pr RS.length cr, .slice (some ⟨bo, 0, none⟩) 19 co, .int .i64 (14 + 3 * (wn : Int) + headSum (onesM RS) (RS.take k))] 89 (0, 0))], F1, F2, Fr, Fo]) (fun k => RS.length - k) 0
      (Nat.zero_le _) ⟨rfl, rfl, rfl, rfl, trivial⟩ (by
        have e0 : 14 + 3 * (wn : Int) + headSum (onesM RS) (RS.take 0) = 14 + 3 * (wn : Int) := by simp [headSum]
        rw [e0]; exact Sel.refl _) ?_
    rintro k g hk
    repeat' (first | (apply Wpc.seqK; intro K hK) | apply Wpc.region | apply Wpl.nil | (apply hK; clear hK K) | (apply Wpc.cond_true; exact rfl) | (apply Wpc.cond_false; exact rfl) | apply Wpc.skip | apply Wpc.exit | (apply Wpl.lss; exact rfl; exact rfl; exact rfl; all_goals (intro h; try (exfalso; omega))) | ((conv => whnf); clear hK K; apply hK; clear hK K))
    · have hkl : k < RS.length := by omega
      have hrk := hRb _ (List.getElem_mem hkl)
      have htk := take_snoc RS k hkl
      have hhk := hhb (RS.take k)
      have hkk : (RS.take k).length ≤ k := List.length_take_le _ _
      have hst : headSum (onesM RS) (RS.take (k + 1)) = headSum (onesM RS) (RS.take k) + ((onesM RS)[(RS[k]).1.toNat]?.getD 0 + (reachM (RS[k]).1).2) := by rw [htk, headSum_snoc]
      refine Wpc.block ?_
      repeat' (first | (apply Wpc.seqK; intro K hK) | apply Wpc.region)
      refine Wpl.idxAgg (g := tokC) rfl rfl rfl rfl hrr tokC_len (HasF.m 3 rfl) (by omega) (by omega) (by decide) (fun _ _ => ?_)
      have e : (k : Int).toNat = k := rfl
      simp only [e]
      generalize RS[k]'hkl = rk at *
      obtain ⟨sk, xk⟩ := rk
      dsimp only at hrk hst
      have hgo : (onesM RS)[sk.toNat]?.getD 0 = (onesM RS)[sk.toNat]'(by omega) := getD_get (by omega)
      have hgb := hob _ (List.getElem_mem (show sk.toNat < (onesM RS).length by omega))
      have hrb := reachM_bd sk
      refine Wpl.new rfl (fun b => ?_)
      refine Wpl.stAgg 0 0 (cs := #[.int .i64 sk, .int .i64 xk]) rfl rfl rfl rfl rfl (one_cons rfl (one_cons rfl one_nil)) rfl ?_
      repeat' (first | (apply Wpl.callP; exact rfl; exact rfl; exact rfl; exact rfl; (exact reach_spec _); (exact HasF.nil)) | (apply Wpc.seqK; intro K hK) | apply Wpc.region | apply Wpl.nil | (apply hK; clear hK K) | (apply Wpl.mv; exact rfl; (conv => lhs; whnf)) | (apply Wpl.asg; exact rfl; (conv => lhs; whnf)) | (apply Wpl.extract; exact rfl; exact rfl; exact rfl) | (apply Wpl.fldS; exact rfl; exact rfl; exact rfl; exact rfl) | (apply Wpl.ld0x0; exact rfl; exact rfl; exact rfl; exact rfl))
      refine Wpc.region_tailS 12 13 (by kernel_rfl) rfl rfl ?_
      (refine Wpt.take 0 rfl (by kernel_rfl) rfl (fun _ _ _ _ h => h) (fun _ h => h) (by first | exact Sel.refl _ | exact Sel.tail _ _ | exact Sel.nil _ | exact (Sel.tail _ _).trans (Sel.tail _ _) | exact (Sel.tail _ _).trans ((Sel.tail _ _).trans (Sel.tail _ _))) ?_; (repeat' (first | apply Wpl.nil | (apply Wpl.fldS; exact rfl; exact rfl; exact rfl; exact rfl)))); (refine Wpt.take 1 rfl (by kernel_rfl) rfl (fun _ _ _ _ h => h) (fun _ h => h) (by first | exact Sel.refl _ | exact Sel.tail _ _ | exact Sel.nil _ | exact (Sel.tail _ _).trans (Sel.tail _ _) | exact (Sel.tail _ _).trans ((Sel.tail _ _).trans (Sel.tail _ _))) ?_; (repeat' (first | apply Wpl.nil | (apply Wpl.ld1x0; exact rfl; exact rfl; exact rfl; exact rfl)))); (refine Wpt.take 2 rfl (by kernel_rfl) rfl (fun _ _ _ _ h => h) (fun _ h => h) (by first | exact Sel.refl _ | exact Sel.tail _ _ | exact Sel.nil _ | exact (Sel.tail _ _).trans (Sel.tail _ _) | exact (Sel.tail _ _).trans ((Sel.tail _ _).trans (Sel.tail _ _))) ?_; (repeat' (first | apply Wpl.nil | (apply Wpl.fldS; exact rfl; exact rfl; exact rfl; exact rfl)))); (refine Wpt.take 3 rfl (by kernel_rfl) rfl (fun _ _ _ _ h => h) (fun _ h => h) (by first | exact Sel.refl _ | exact Sel.tail _ _ | exact Sel.nil _ | exact (Sel.tail _ _).trans (Sel.tail _ _) | exact (Sel.tail _ _).trans ((Sel.tail _ _).trans (Sel.tail _ _))) ?_; (repeat' (first | apply Wpl.nil | (apply Wpl.ld1x0; exact rfl; exact rfl; exact rfl; exact rfl)))); (refine Wpt.take 4 rfl (by kernel_rfl) rfl (fun _ _ _ _ h => h) (fun _ h => h) (by first | exact Sel.refl _ | exact Sel.tail _ _ | exact Sel.nil _ | exact (Sel.tail _ _).trans (Sel.tail _ _) | exact (Sel.tail _ _).trans ((Sel.tail _ _).trans (Sel.tail _ _))) ?_; (repeat' (first | apply Wpl.nil | (apply Wpl.fldS; exact rfl; exact rfl; exact rfl; exact rfl)))); (refine Wpt.take 5 rfl (by kernel_rfl) rfl (fun _ _ _ _ h => h) (fun _ h => h) (by first | exact Sel.refl _ | exact Sel.tail _ _ | exact Sel.nil _ | exact (Sel.tail _ _).trans (Sel.tail _ _) | exact (Sel.tail _ _).trans ((Sel.tail _ _).trans (Sel.tail _ _))) ?_; (repeat' (first | apply Wpl.nil | (apply Wpl.ld0x0; exact rfl; exact rfl; exact rfl; exact rfl)))); skip
      refine Wpt.take 6 rfl (by kernel_rfl) rfl (fun _ _ _ _ h => h) (fun _ h => h) (by first | exact Sel.refl _ | exact Sel.tail _ _ | exact Sel.nil _ | exact (Sel.tail _ _).trans (Sel.tail _ _) | exact (Sel.tail _ _).trans ((Sel.tail _ _).trans (Sel.tail _ _))) ?_
      refine Wpl.idxP rfl rfl rfl hvor (by omega) (by omega) (fun p1 _ hp1 => ?_)
      generalize (onesM RS)[sk.toNat]'(by omega) = ov at *
      repeat' (apply Wpl.nil)
      (refine Wpt.take 7 rfl (by kernel_rfl) rfl (fun _ _ _ _ h => h) (fun _ h => h) (by first | exact Sel.refl _ | exact Sel.tail _ _ | exact Sel.nil _ | exact (Sel.tail _ _).trans (Sel.tail _ _) | exact (Sel.tail _ _).trans ((Sel.tail _ _).trans (Sel.tail _ _))) ?_; (repeat' (first | apply Wpl.nil | (apply Wpl.ldP; exact rfl; exact rfl; assumption; (exact HasF.m 5 rfl))))); (refine Wpt.take 8 rfl (by kernel_rfl) rfl (fun _ _ _ _ h => h) (fun _ h => h) (by first | exact Sel.refl _ | exact Sel.tail _ _ | exact Sel.nil _ | exact (Sel.tail _ _).trans (Sel.tail _ _) | exact (Sel.tail _ _).trans ((Sel.tail _ _).trans (Sel.tail _ _))) ?_; (repeat' (first | apply Wpl.nil | (apply Wpl.mv; exact rfl; (conv => lhs; whnf))))); (refine Wpt.take 9 rfl (by kernel_rfl) rfl (fun _ _ _ _ h => h) (fun _ h => h) (by first | exact Sel.refl _ | exact Sel.tail _ _ | exact Sel.nil _ | exact (Sel.tail _ _).trans (Sel.tail _ _) | exact (Sel.tail _ _).trans ((Sel.tail _ _).trans (Sel.tail _ _))) ?_; (repeat' (first | apply Wpl.nil | (apply Wpl.add; exact rfl; exact rfl; exact rfl; omega)))); (refine Wpt.take 10 rfl (by kernel_rfl) rfl (fun _ _ _ _ h => h) (fun _ h => h) (by first | exact Sel.refl _ | exact Sel.tail _ _ | exact Sel.nil _ | exact (Sel.tail _ _).trans (Sel.tail _ _) | exact (Sel.tail _ _).trans ((Sel.tail _ _).trans (Sel.tail _ _))) ?_; (repeat' (first | apply Wpl.nil | (apply Wpl.add; exact rfl; exact rfl; exact rfl; omega)))); (refine Wpt.take 11 rfl (by kernel_rfl) rfl (fun _ _ _ _ h => h) (fun _ h => h) (by first | exact Sel.refl _ | exact Sel.tail _ _ | exact Sel.nil _ | exact (Sel.tail _ _).trans (Sel.tail _ _) | exact (Sel.tail _ _).trans ((Sel.tail _ _).trans (Sel.tail _ _))) ?_; (repeat' (first | apply Wpl.nil | (apply Wpl.fldS; exact rfl; exact rfl; exact rfl; exact rfl)))); skip
      refine Wpt.tail (by kernel_rfl) rfl rfl ?_
      refine Wpl.stVi 1 (.int .i64 (14 + 3 * (wn : Int) + headSum (onesM RS) (RS.take k) + (ov + (reachM sk).2))) #[.slice (some ⟨b1, 0, none⟩) n1 c1, .slice (some ⟨b2, 0, none⟩) n2 c2, .slice pr RS.length cr, .slice (some ⟨bo, 0, none⟩) 19 co, .int .i64 (14 + 3 * (wn : Int) + headSum (onesM RS) (RS.take k) + (ov + (reachM sk).2))] rfl rfl rfl rfl rfl rfl rfl ?_
      repeat' (first | apply Wpc.region | apply Wpl.nil | (apply hK; clear hK K) | (apply Wpl.mv; exact rfl; (conv => lhs; whnf)) | (apply Wpl.add; exact rfl; exact rfl; exact rfl; omega))
      have e3 : 14 + 3 * (wn : Int) + headSum (onesM RS) (RS.take (k + 1)) = 14 + 3 * (wn : Int) + headSum (onesM RS) (RS.take k) + (ov + (reachM sk).2) := by rw [hst, hgo]; omega
      exact ⟨k + 1, by omega, by omega, ⟨rfl, rfl, rfl, rfl, trivial⟩, by rw [e3]; exact Sel.tail _ _, fun _ h => h⟩
    · have hkn : k = RS.length := by omega
      subst hkn
      rw [List.take_length]
      generalize hhd : 14 + 3 * (wn : Int) + headSum (onesM RS) RS = hd at *
      refine Wpl.ldAgg 0 0 (cs := [.slice (some ⟨b1, 0, none⟩) n1 c1, .slice (some ⟨b2, 0, none⟩) n2 c2, .slice pr RS.length cr, .slice (some ⟨bo, 0, none⟩) 19 co, .int .i64 hd]) rfl rfl rfl rfl rfl ?_
      refine Wpl.stAgg0 (cs := #[.slice (some ⟨b1, 0, none⟩) n1 c1, .slice (some ⟨b2, 0, none⟩) n2 c2, .slice pr RS.length cr, .slice (some ⟨bo, 0, none⟩) 19 co, .int .i64 hd]) rfl rfl rfl rfl rfl (one_cons rfl (one_cons rfl (one_cons rfl (one_cons rfl (one_cons rfl one_nil))))) rfl ?_
      repeat' (first | apply Wpl.nil | (apply hK; clear hK K) | (apply Wpl.asg; exact rfl; (conv => lhs; whnf)) | apply Wpc.ret)
      refine ⟨[planV (.slice (some ⟨b1, 0, none⟩) n1 c1) (.slice (some ⟨b2, 0, none⟩) n2 c2) (.slice pr RS.length cr) (.slice (some ⟨bo, 0, none⟩) 19 co) hd, .nilIface], [F1, F2, Fr, Fo],
        ⟨⟨bp, 0, _, _, _, rfl, Known.m 0 0 rfl, .inr ⟨5, _, _, [.slice (some ⟨b1, 0, none⟩) n1 c1, .slice (some ⟨b2, 0, none⟩) n2 c2, .slice pr RS.length cr, .slice (some ⟨bo, 0, none⟩) 19 co, .int .i64 hd], AggT.h, rfl, rfl, rfl⟩⟩, rfl, trivial⟩, Sel.tail _ _, fun _ h => h, F1, F2, Fr, Fo, _, rfl, rfl, ?_⟩
      refine ⟨.slice (some ⟨b1, 0, none⟩) n1 c1, .slice (some ⟨b2, 0, none⟩) n2 c2, .slice pr RS.length cr, .slice (some ⟨bo, 0, none⟩) 19 co, ?_, ?_, ?_, ?_, ?_⟩
      · rw [ownM_head, hRS, hww, hhd]
      · rw [ownM_l, hn1]; exact hq1
      · rw [ownM_d, hn2]; exact hq2
      · rw [ownM_runs, hRS]; exact hrr
      · rw [ownM_ones, hRS]; exact hvor
end Go.Proofs.Ytmfcgffdijnokaa
set_option maxRecDepth 100000
set_option maxHeartbeats 4000000
namespace Go.Proofs.Ytmfcgffdijnokaa
open Go.SL Go.RowKit
attribute [local irreducible] Wpl Wpc Wph
/-! math/bits.Mul of 1, slices.Repeat of one number, block.usual, block.planned -/
section
variable {q : Md} {C : Cx} {ops : Array Oper} {rest : List Oper} {Q : Exit → Env → List Frag → List Frag → Prop} {f : Env} {R M : List Frag}
variable {d : Nat} {ty T T2 : TypeId} {pos : String} {af : Array Edge} {x y : Operand}
theorem Wpl.mulU {m n w : Int} (hd : Nat.blt d C.n = true) (hx : f.ev x = .int .u64 m) (hy : f.ev y = .int .u64 n) (hw : m * n = w) (hb : 0 ≤ w ∧ w ≤ 9223372036854775807)
    (k1 : Wpl q C ops rest Q (f.upd d (.int .u64 w)) R M) : Wpl q C ops (⟨some d, .binOp .mul T x y T2, ty, pos, af, none⟩ :: rest) Q f R M :=
  Wpl.mulK hd hx hy (by rw [hw, wrap_u64 hb]; exact k1)
theorem Wpl.addU {m n w : Int} (hd : Nat.blt d C.n = true) (hx : f.ev x = .int .u64 m) (hy : f.ev y = .int .u64 n) (hw : m + n = w) (hb : 0 ≤ w ∧ w ≤ 9223372036854775807)
    (k1 : Wpl q C ops rest Q (f.upd d (.int .u64 w)) R M) : Wpl q C ops (⟨some d, .binOp .add T x y T2, ty, pos, af, none⟩ :: rest) Q f R M :=
  Wpl.addK hd hx hy (by rw [hw, wrap_u64 hb]; exact k1)
theorem Wpl.andU {m n w : Int} (hd : Nat.blt d C.n = true) (hx : f.ev x = .int .u64 m) (hy : f.ev y = .int .u64 n) (h1 : 0 ≤ m ∧ m ≤ 9223372036854775807) (h2 : 0 ≤ n ∧ n ≤ 9223372036854775807) (hw : ((m.toNat &&& n.toNat : Nat) : Int) = w)
    (k1 : Wpl q C ops rest Q (f.upd d (.int .u64 w)) R M) : Wpl q C ops (⟨some d, .binOp .and T x y T2, ty, pos, af, none⟩ :: rest) Q f R M :=
  Wpl.bitsK hd hx hy (.inl rfl) (r := .int .u64 w) (fun wd => by
    subst hw
    have h3 : m.toNat &&& n.toNat ≤ m.toNat := Nat.and_le_left
    have e : IntKind.u64.wrap ((BitVec.ofInt 64 m &&& BitVec.ofInt 64 n).toNat : Int) = ((m.toNat &&& n.toNat : Nat) : Int) := by
      rw [BitVec.toNat_and, ofInt_toNat64 h1, ofInt_toNat64 h2]
      exact wrap_u64 (by omega)
    simp only [Op.intBits, Sem.run_pure]
    exact congrArg (fun z => Result.ok (Value.int .u64 z) wd) e) k1
/-- s[l:] of an own slice -/
theorem Wpl.sliceL {E : TypeId} {by_ : Nat} {z : Value} {b n c : Nat} {kl : IntKind} {l : Int} {ln : Nat} [hT : SliceT C.P T E] [hE : CellT C.P E z by_] (hd : Nat.blt d C.n = true) (hx : f.ev x = .slice (some ⟨b, 0, none⟩) n c) (hy : f.ev y = .int kl l) (hl : l = (ln : Int)) (h1 : ln < n) (h2 : n ≤ c)
    (k1 : Wpl q C ops rest Q (f.upd d (.slice (some ⟨b, ln, none⟩) (n - ln) (c - ln))) R M) : Wpl q C ops (⟨some d, .slice T x (some y) none none, ty, pos, af, none⟩ :: rest) Q f R M :=
  Wpl.val rfl hd _ (fun w _ => by
    subst hl
    have he : C.P.underlying T = some (.slice (C.P.elem T)) := by have := hT.h; simp [Program.elem, this]
    have he2 : C.P.elem T = E := by have := hT.h; simp [Program.elem, this]
    have hne : ¬ c = ln := by omega
    simp [execOp, hx, hy, run_sliceAt_slice w T _ _ _ _ he, run_slice_l w T (some ⟨b, 0, none⟩) n c he kl (ln : Int) (by omega) (by omega), he2, hE.h.run_size, sliced, addr_add, hne]) k1
/-- copy into an own block -/
theorem Wpl.copyS (i : Nat) {E : TypeId} {by_ : Nat} {z : Value} {b o dl dc b2 o2 sl sc : Nat} {cur c2 : Array Value} {E2 ts : TypeId} {fz : Nat × Nat} (cs : List Value) [hT : SliceT C.P T E] [hE : CellT C.P E z by_] (hd : Nat.blt d C.n = true)
    (hx : f.ev x = .slice (some ⟨b, o, none⟩) dl dc) (hy : f.ev y = .slice (some ⟨b2, o2, none⟩) sl sc) (hi : M[i]? = some [(b, .cells cur E (0, 0))]) (hk : Known R M b2 (.cells c2 E2 fz)) (hn : cs.length = Nat.min sl dl) (hsrc : ∀ j v, cs[j]? = some v → c2[o2 + j]? = some v) (hfit : o + cs.length ≤ cur.size) (h1 : ∀ v ∈ cs, v.oneCell' = true)
    (k1 : Wpl .seq C ops rest Q (f.upd d (.int .i64 (cs.length : Int))) R (M.set i [(b, .cells (cur.toList.take o ++ cs ++ cur.toList.drop (o + cs.length)).toArray E (0, 0))])) :
    Wpl .seq C ops (⟨some d, .call ⟨.builtin .copy, #[x, y], #[T, ts]⟩, ty, pos, af, none⟩ :: rest) Q f R M := by
  refine Wpl.chg rfl hd fun w hw => ?_
  have hF := hw.mu _ (List.mem_of_getElem? hi)
  have hheap := hF _ (List.mem_singleton.2 rfl)
  have hs : (C.P.info? E).map (·.size) = some 1 := by obtain ⟨i, hi, _, h2, _⟩ := hE.h.info; simp [hi, h2]
  have hr := run_copy_row (P := C.P) w T ts ty E b o dl dc ⟨b2, o2, none⟩ sl sc cur E cs hT.h hs hheap hn (fun j v hj => by
    rw [addr_add, cell_of_row w b2 _ c2 E2 fz (hk.heap hw)]; exact hsrc j v hj) hfit h1
  refine ⟨_, w.setRow b (cur.toList.take o ++ cs ++ cur.toList.drop (o + cs.length)).toArray, R, _, ?_, ?_, k1⟩
  · simp [execOp, resolve, invoke, builtin, hx, hy, hr, goInt]
  · refine hw.set hi rfl rfl rfl (by simp) (fun k hk hk2 => setRow_other w b k _ (fun e => hk2 (by simp [e]))) (frag1_In (setRow_heap w b cur _ E (0, 0) hheap)) (by simp) (fun k hk => .inl (by simpa using hk))
end
theorem mul64_spec (y : Nat) (hy : y < 4294967296) : PSpec Try.prog 158 [.int .u64 1, .int .u64 y] [] (.tuple #[.int .u64 0, .int .u64 y]) := by
  have hy0 : (y : Int) / 2 ^ (32 : Int).toNat = 0 := by show (y : Int) / 4294967296 = 0; omega
  have h10 : (1 : Int) / 2 ^ (32 : Int).toNat = 0 := by decide
  have h00 : (0 : Int) / 2 ^ (32 : Int).toNat = 0 := by decide
  have hand : (((y : Int).toNat &&& (4294967295 : Int).toNat : Nat) : Int) = y := by
    show ((y &&& (2 ^ 32 - 1) : Nat) : Int) = y
    rw [Nat.and_two_pow_sub_one_of_lt_two_pow hy]
  refine Ctr.intro Try.func158 (by kernel_rfl) rfl (by conv => lhs; whnf) rfl fun W => ?_
  repeat' (first | (apply Wpc.seqK; intro K hK) | apply Wpc.region | apply Wpl.nil | (apply hK; clear hK K) | (apply Wpl.mv; exact rfl; (conv => lhs; whnf)) | (apply Wpl.asg; exact rfl; (conv => lhs; whnf)))
  refine Wpl.andU (w := 1) rfl rfl rfl (by decide) (by decide) rfl ?_
  repeat' (first | (apply Wpc.seqK; intro K hK) | apply Wpc.region | apply Wpl.nil | (apply hK; clear hK K) | (apply Wpl.mv; exact rfl; (conv => lhs; whnf)) | (apply Wpl.asg; exact rfl; (conv => lhs; whnf)))
  refine Wpl.shrV (w := 0) rfl rfl rfl (by decide) h10 ?_
  repeat' (first | (apply Wpc.seqK; intro K hK) | apply Wpc.region | apply Wpl.nil | (apply hK; clear hK K) | (apply Wpl.mv; exact rfl; (conv => lhs; whnf)) | (apply Wpl.asg; exact rfl; (conv => lhs; whnf)))
  refine Wpl.andU (w := y) rfl rfl rfl (by omega) (by decide) hand ?_
  repeat' (first | (apply Wpc.seqK; intro K hK) | apply Wpc.region | apply Wpl.nil | (apply hK; clear hK K) | (apply Wpl.mv; exact rfl; (conv => lhs; whnf)) | (apply Wpl.asg; exact rfl; (conv => lhs; whnf)))
  refine Wpl.shrV (w := 0) rfl rfl rfl (by decide) hy0 ?_
  repeat' (first | (apply Wpc.seqK; intro K hK) | apply Wpc.region | apply Wpl.nil | (apply hK; clear hK K) | (apply Wpl.mv; exact rfl; (conv => lhs; whnf)) | (apply Wpl.asg; exact rfl; (conv => lhs; whnf)))
  refine Wpl.mulU (w := y) rfl rfl rfl (by omega) (by omega) ?_
  repeat' (first | (apply Wpc.seqK; intro K hK) | apply Wpc.region | apply Wpl.nil | (apply hK; clear hK K) | (apply Wpl.mv; exact rfl; (conv => lhs; whnf)) | (apply Wpl.asg; exact rfl; (conv => lhs; whnf)))
  refine Wpl.mulU (w := 0) rfl rfl rfl (by omega) (by omega) ?_
  repeat' (apply Wpl.mv; exact rfl; (conv => lhs; whnf))
  refine Wpl.shrV (w := 0) rfl rfl rfl (by decide) hy0 ?_
  refine Wpl.addU (w := 0) rfl rfl rfl (by omega) (by omega) ?_
  repeat' (first | (apply Wpc.seqK; intro K hK) | apply Wpc.region | apply Wpl.nil | (apply hK; clear hK K) | (apply Wpl.mv; exact rfl; (conv => lhs; whnf)) | (apply Wpl.asg; exact rfl; (conv => lhs; whnf)))
  refine Wpl.andU (w := 0) rfl rfl rfl (by decide) (by decide) rfl ?_
  repeat' (first | (apply Wpc.seqK; intro K hK) | apply Wpc.region | apply Wpl.nil | (apply hK; clear hK K) | (apply Wpl.mv; exact rfl; (conv => lhs; whnf)) | (apply Wpl.asg; exact rfl; (conv => lhs; whnf)))
  refine Wpl.shrV (w := 0) rfl rfl rfl (by decide) h00 ?_
  repeat' (first | (apply Wpc.seqK; intro K hK) | apply Wpc.region | apply Wpl.nil | (apply hK; clear hK K) | (apply Wpl.mv; exact rfl; (conv => lhs; whnf)) | (apply Wpl.asg; exact rfl; (conv => lhs; whnf)))
  refine Wpl.mulU (w := 0) rfl rfl rfl (by omega) (by omega) ?_
  refine Wpl.addU (w := 0) rfl rfl rfl (by omega) (by omega) ?_
  repeat' (first | (apply Wpc.seqK; intro K hK) | apply Wpc.region | apply Wpl.nil | (apply hK; clear hK K) | (apply Wpl.mv; exact rfl; (conv => lhs; whnf)) | (apply Wpl.asg; exact rfl; (conv => lhs; whnf)))
  refine Wpl.mulU (w := 0) rfl rfl rfl (by omega) (by omega) ?_
  repeat' (apply Wpl.mv; exact rfl; (conv => lhs; whnf))
  refine Wpl.addU (w := 0) rfl rfl rfl (by omega) (by omega) ?_
  repeat' (apply Wpl.mv; exact rfl; (conv => lhs; whnf))
  refine Wpl.shrV (w := 0) rfl rfl rfl (by decide) h00 ?_
  refine Wpl.addU (w := 0) rfl rfl rfl (by omega) (by omega) ?_
  repeat' (first | (apply Wpc.seqK; intro K hK) | apply Wpc.region | apply Wpl.nil | (apply hK; clear hK K) | (apply Wpl.mv; exact rfl; (conv => lhs; whnf)) | (apply Wpl.asg; exact rfl; (conv => lhs; whnf)))
  refine Wpl.mulU (w := y) rfl rfl rfl (by omega) (by omega) ?_
  repeat' (first | apply Wpl.nil | (apply hK; clear hK K) | (apply Wpl.asg; exact rfl; (conv => lhs; whnf)) | apply Wpc.ret)
  exact ⟨[_, _], [], ⟨rfl, rfl, trivial⟩, Sel.nil _, fun _ h => h, rfl, rfl⟩
theorem mul_spec (y : Nat) (hy : y < 4294967296) : PSpec Try.prog 125 [.int .u64 1, .int .u64 y] [] (.tuple #[.int .u64 0, .int .u64 y]) := by
  have h := mul64_spec y hy
  refine Ctr.intro Try.func125 (by kernel_rfl) rfl (by conv => lhs; whnf) rfl fun W => ?_
  repeat' (first | (apply Wpl.callP; exact rfl; exact rfl; exact rfl; exact rfl; (exact h); (exact HasF.nil)) | (apply Wpc.seqK; intro K hK) | apply Wpc.region | apply Wpl.nil | (apply hK; clear hK K) | (apply Wpl.mv; exact rfl; (conv => lhs; whnf)) | (apply Wpl.asg; exact rfl; (conv => lhs; whnf)) | (apply Wpc.cond_false; exact rfl) | apply Wpc.skip | apply Wpc.ret | (apply Wpl.extract; exact rfl; exact rfl; exact rfl))
  exact ⟨[_, _], [], ⟨rfl, rfl, trivial⟩, Sel.nil _, fun _ h => h, rfl, rfl⟩
end Go.Proofs.Ytmfcgffdijnokaa
set_option maxRecDepth 100000
set_option maxHeartbeats 4000000
namespace Go.Proofs.Ytmfcgffdijnokaa
open Go.SL Go.RowKit
attribute [local irreducible] Wpl Wpc Wph
/-! slices.Repeat of one number, block.usual, block.planned -/
theorem repeat_spec (F : Frag) (v : Value) (a : Int) (n : Nat) (hv : Row F 1 v 1 (ints .i64 [a])) (hn : 1 ≤ n ∧ n ≤ 1000000) :
    Ctr Try.prog 79 [v, .int .i64 n] [F] [] (fun r M' => ∃ F', M' = [F'] ∧ OwnRow 3 1 F' r n (ints .i64 (List.replicate n a))) := by
  have hmul := mul_spec n (by omega)
  obtain ⟨hvl, av, cv, rfl, hv1, hv2, hv3⟩ := hv
  obtain ⟨bv, ov, cc, Ev, fv, rfl, hvm, hvc⟩ := hv3 (by decide)
  refine Ctr.intro Try.func79 (by kernel_rfl) rfl (by conv => lhs; whnf) rfl fun W => ?_
  repeat' (first | (apply Wpl.u64; exact rfl; exact rfl; omega) | (apply Wpl.callP; exact rfl; exact rfl; exact rfl; exact rfl; (exact hmul); (exact HasF.nil)) | (apply Wpc.seqK; intro K hK) | apply Wpc.region | apply Wpl.nil | (apply hK; clear hK K) | (apply Wpl.mv; exact rfl; (conv => lhs; whnf)) | (apply Wpl.asg; exact rfl; (conv => lhs; whnf)) | (apply Wpl.guard_run; exact rfl; exact rfl) | (apply Wpl.pickF; exact rfl; exact rfl; (conv => lhs; whnf)) | (apply Wpc.cond_false; exact rfl) | apply Wpc.skip | (apply Wpl.extract; exact rfl; exact rfl; exact rfl) | (apply Wpl.lss; exact rfl; exact rfl; exact rfl; all_goals (intro h; try (exfalso; omega))) | (apply Wpl.gtr; exact rfl; exact rfl; exact rfl; all_goals (intro h; try (exfalso; omega))) | (apply Wpl.len; exact rfl; exact rfl) | (apply Wpl.i64; exact rfl; exact rfl; omega))
  refine Wpl.mk1 rfl rfl rfl (by omega) (by omega) (by omega) rfl (fun vo Fo ho => ?_)
  obtain ⟨hol, ⟨_, h0, _⟩ | ⟨b, cap, cur, rfl, rfl, hc1, hc2, hc3, hc4⟩⟩ := ho
  · omega
  have hn2 : (n : Int).toNat = n := rfl
  rw [hn2] at *
  repeat' (first | (apply Wpc.seqK; intro K hK) | apply Wpc.region | apply Wpl.nil | (apply hK; clear hK K) | (apply Wpl.mv; exact rfl; (conv => lhs; whnf)) | (apply Wpl.asg; exact rfl; (conv => lhs; whnf)))
  refine Wpl.copyS 0 [.int .i64 a] rfl rfl rfl rfl ⟨F, .inl List.mem_cons_self, hvm⟩ (by show 1 = min 1 n; omega) (fun j w hj => ?_) (by show 0 + 1 ≤ _; omega) (one_cons rfl one_nil) ?_
  · have hj1 : j < 1 := (List.getElem?_eq_some_iff.1 hj).1
    rw [hvc j (by omega)]
    exact hj
  repeat' (first | (apply Wpc.seqK; intro K hK) | apply Wpl.nil | (apply hK; clear hK K) | (apply Wpl.asg; exact rfl; (conv => lhs; whnf)))
  refine Wpc.block ?_
  refine Wpc.loop (ι := Nat × Array Value) (fun i => 1 ≤ i.1 ∧ i.1 ≤ n ∧ i.2.size = cap ∧ i.2.toList.take i.1 = List.replicate i.1 (.int .i64 a))
    (fun i => [(7, .slice (some ⟨b, 0, none⟩) n cap), (8, .int .i64 i.1)]) (fun i => [[(b, .cells i.2 3 (0, 0))]]) (fun i => n - i.1) (1, (cur.toList.take 0 ++ [Value.int .i64 a] ++ cur.toList.drop (0 + 1)).toArray)
    ⟨Nat.le_refl _, hn.1, by show (cur.toList.take 0 ++ [Value.int .i64 a] ++ cur.toList.drop (0 + 1)).toArray.size = cap; simp; omega, by simp⟩ ⟨rfl, rfl, trivial⟩ (Sel.refl _) ?_
  clear hc4
  rintro ⟨m, cu⟩ g ⟨hm1, hmn, hcs, hct⟩
  dsimp only at hm1 hmn hcs hct ⊢
  repeat' (first | (apply Wpc.seqK; intro K hK) | apply Wpc.region | apply Wpl.nil | (apply hK; clear hK K) | (apply Wpl.mv; exact rfl; (conv => lhs; whnf)) | (apply Wpl.asg; exact rfl; (conv => lhs; whnf)) | (apply Wpc.cond_true; exact rfl) | (apply Wpc.cond_false; exact rfl) | apply Wpc.skip | apply Wpc.exit | apply Wpc.ret | (apply Wpl.lss; exact rfl; exact rfl; exact rfl; all_goals (intro h; try (exfalso; omega))) | (apply Wpl.len; exact rfl; exact rfl) | ((conv => whnf); clear hK K; apply hK; clear hK K))
  · have hml : m < n := by omega
    refine Wpc.block ?_
    skip
    refine Wpc.region_held (by kernel_rfl) [F] [] 10 rfl _ rfl ?_
    (refine Wph.take 0 rfl (by kernel_rfl) rfl (fun _ _ _ _ h => h) (fun _ h => h) (by first | exact Sel.refl _ | exact Sel.tail _ _ | exact Sel.nil _ | exact (Sel.tail _ _).trans (Sel.tail _ _) | exact (Sel.tail _ _).trans ((Sel.tail _ _).trans (Sel.tail _ _))) ?_; (repeat' (first | apply Wpl.nil | (apply Wpl.mv; exact rfl; (conv => lhs; whnf))))); (refine Wph.take 1 rfl (by kernel_rfl) rfl (fun _ _ _ _ h => h) (fun _ h => h) (by first | exact Sel.refl _ | exact Sel.tail _ _ | exact Sel.nil _ | exact (Sel.tail _ _).trans (Sel.tail _ _) | exact (Sel.tail _ _).trans ((Sel.tail _ _).trans (Sel.tail _ _))) ?_; (repeat' (first | apply Wpl.nil | (apply Wpl.mv; exact rfl; (conv => lhs; whnf))))); (refine Wph.take 2 rfl (by kernel_rfl) rfl (fun _ _ _ _ h => h) (fun _ h => h) (by first | exact Sel.refl _ | exact Sel.tail _ _ | exact Sel.nil _ | exact (Sel.tail _ _).trans (Sel.tail _ _) | exact (Sel.tail _ _).trans ((Sel.tail _ _).trans (Sel.tail _ _))) ?_; (repeat' (first | apply Wpl.nil | (apply Wpl.mv; exact rfl; (conv => lhs; whnf))))); skip
    refine Wph.take 3 rfl (by kernel_rfl) rfl (fun _ _ _ _ h => h) (fun _ h => h) (by first | exact Sel.refl _ | exact Sel.tail _ _ | exact Sel.nil _ | exact (Sel.tail _ _).trans (Sel.tail _ _) | exact (Sel.tail _ _).trans ((Sel.tail _ _).trans (Sel.tail _ _))) ?_
    refine Wpl.sliceL rfl rfl rfl rfl hml hc1 ?_
    repeat' (apply Wpl.nil)
    (refine Wph.take 4 rfl (by kernel_rfl) rfl (fun _ _ _ _ h => h) (fun _ h => h) (by first | exact Sel.refl _ | exact Sel.tail _ _ | exact Sel.nil _ | exact (Sel.tail _ _).trans (Sel.tail _ _) | exact (Sel.tail _ _).trans ((Sel.tail _ _).trans (Sel.tail _ _))) ?_; (repeat' (first | apply Wpl.nil | (apply Wpl.mv; exact rfl; (conv => lhs; whnf))))); (refine Wph.take 5 rfl (by kernel_rfl) rfl (fun _ _ _ _ h => h) (fun _ h => h) (by first | exact Sel.refl _ | exact Sel.tail _ _ | exact Sel.nil _ | exact (Sel.tail _ _).trans (Sel.tail _ _) | exact (Sel.tail _ _).trans ((Sel.tail _ _).trans (Sel.tail _ _))) ?_; (repeat' (first | apply Wpl.nil | (apply Wpl.mv; exact rfl; (conv => lhs; whnf))))); (refine Wph.take 6 rfl (by kernel_rfl) rfl (fun _ _ _ _ h => h) (fun _ h => h) (by first | exact Sel.refl _ | exact Sel.tail _ _ | exact Sel.nil _ | exact (Sel.tail _ _).trans (Sel.tail _ _) | exact (Sel.tail _ _).trans ((Sel.tail _ _).trans (Sel.tail _ _))) ?_; (repeat' (first | apply Wpl.nil | (apply Wpl.sliceH; exact rfl; exact rfl; exact rfl; omega; omega)))); skip
    refine Wph.one 7 (by kernel_rfl) rfl rfl ?_
    have hlen : (List.replicate (min m (n - m)) (Value.int .i64 a)).length = min m (n - m) := List.length_replicate
    refine Wpl.copyS 0 (List.replicate (min m (n - m)) (.int .i64 a)) rfl rfl rfl rfl (Known.m 0 0 rfl) (by rw [hlen]; rfl) (fun j w hj => ?_) (by rw [hlen, hcs]; omega) (fun u hu => by rw [List.eq_of_mem_replicate hu]; rfl) ?_
    · have hj1 := (List.getElem?_eq_some_iff.1 hj).1
      rw [hlen] at hj1
      have h2 : (cu.toList.take m)[j]? = (List.replicate m (Value.int .i64 a))[j]? := by rw [hct]
      rw [List.getElem?_take, if_pos (by omega)] at h2
      rw [Nat.zero_add]
      rw [List.getElem?_replicate, if_pos (by omega)] at hj h2
      rw [← hj]
      simpa using h2
    rw [hlen]
    refine Wpl.nil ⟨fun _ h => h, Sel.nil _, ?_⟩
    (refine Wph.take 8 rfl (by kernel_rfl) rfl (fun _ _ _ _ h => h) (fun _ h => h) (by first | exact Sel.refl _ | exact Sel.tail _ _ | exact Sel.nil _ | exact (Sel.tail _ _).trans (Sel.tail _ _) | exact (Sel.tail _ _).trans ((Sel.tail _ _).trans (Sel.tail _ _))) ?_; (repeat' (first | apply Wpl.nil | (apply Wpl.add; exact rfl; exact rfl; exact rfl; omega)))); (refine Wph.take 9 rfl (by kernel_rfl) rfl (fun _ _ _ _ h => h) (fun _ h => h) (by first | exact Sel.refl _ | exact Sel.tail _ _ | exact Sel.nil _ | exact (Sel.tail _ _).trans (Sel.tail _ _) | exact (Sel.tail _ _).trans ((Sel.tail _ _).trans (Sel.tail _ _))) ?_; (repeat' (first | apply Wpl.nil | (apply Wpl.asg; exact rfl; (conv => lhs; whnf))))); skip
    refine Wph.done (by kernel_rfl) ?_
    skip
    refine ⟨(m + min m (n - m), (cu.toList.take m ++ List.replicate (min m (n - m)) (Value.int .i64 a) ++ cu.toList.drop (m + min m (n - m))).toArray), ⟨by omega, by omega, ?_, ?_⟩, by show n - (m + min m (n - m)) < n - m; omega, ⟨rfl, rfl, trivial⟩, Sel.refl _, fun _ h => h⟩
    · show (cu.toList.take m ++ List.replicate (min m (n - m)) (Value.int .i64 a) ++ cu.toList.drop (m + min m (n - m))).toArray.size = cap
      simp; omega
    · show (cu.toList.take m ++ List.replicate (min m (n - m)) (Value.int .i64 a) ++ cu.toList.drop (m + min m (n - m))).take (m + min m (n - m)) = _
      rw [List.take_left' (by simp; omega), hct, List.replicate_append_replicate]
  · have hmn2 : m = n := by omega
    subst hmn2
    exact ⟨[_], _, ⟨rfl, trivial⟩, Sel.refl _, fun _ h => h, _, rfl, ⟨by simp [ints], .inr ⟨b, cap, cu, rfl, rfl, hc1, hc2, by omega, by rw [Nat.mul_one, hct]; simp [ints]⟩⟩⟩
def usualM : PlanM := ⟨List.replicate 144 8 ++ (List.replicate 112 9 ++ (List.replicate 24 7 ++ List.replicate 8 8)), List.replicate 30 5, [], [], 0⟩
theorem usual_l : usualM.l.length = 288 := by decide
theorem usual_d : usualM.d.length = 30 := by decide
theorem usual_spec : Ctr Try.prog 90 [] [] [] (fun r M' => ∃ F1 F2, M' = [F1, F2] ∧ PlanR F1 F2 [] [] r usualM) := by
  refine Ctr.intro Try.func90 (by kernel_rfl) rfl (by conv => lhs; whnf) rfl fun W => ?_
  apply Wpc.seqK; intro K hK
  apply Wpc.region
  refine Wpl.new rfl (fun bp => ?_)
  repeat' (first | (apply Wpc.seqK; intro K hK) | apply Wpc.region | apply Wpl.nil | (apply hK; clear hK K))
  refine Wpl.lit1 (cs := ints .i64 [8]) rfl (by decide) (by decide) rfl rfl (fun va Fa hva => ?_)
  refine Wpl.callM rfl rfl rfl (repeat_spec Fa va 8 144 hva.row (by decide)) (Pk.nil _) (HasF.cons (HasF.m 0 rfl) HasF.nil) ?_
  rintro v1 _ ⟨F1, rfl, h1⟩
  refine Wpl.sel (Sel.cons 0 rfl (Sel.cons 1 rfl (Sel.nil _))) ?_
  refine Wpl.lit1 (cs := ints .i64 [9]) rfl (by decide) (by decide) rfl rfl (fun va Fa hva => ?_)
  refine Wpl.callM rfl rfl rfl (repeat_spec Fa va 9 112 hva.row (by decide)) (Pk.nil _) (HasF.cons (HasF.m 0 rfl) HasF.nil) ?_
  rintro v2 _ ⟨F2, rfl, h2⟩
  refine Wpl.lit1 (cs := ints .i64 [7]) rfl (by decide) (by decide) rfl rfl (fun va Fa hva => ?_)
  refine Wpl.callM rfl rfl rfl (repeat_spec Fa va 7 24 hva.row (by decide)) (Pk.nil _) (HasF.cons (HasF.m 0 rfl) HasF.nil) ?_
  rintro v3 _ ⟨F3, rfl, h3⟩
  refine Wpl.lit1 (cs := ints .i64 [8]) rfl (by decide) (by decide) rfl rfl (fun va Fa hva => ?_)
  refine Wpl.callM rfl rfl rfl (repeat_spec Fa va 8 8 hva.row (by decide)) (Pk.nil _) (HasF.cons (HasF.m 0 rfl) HasF.nil) ?_
  rintro v4 _ ⟨F4, rfl, h4⟩
  have r1 := h1.row
  have r2 := h2.row
  have r3 := h3.row
  have r4 := h4.row
  obtain ⟨b1, c1, rfl⟩ := OwnRow.some_ h1 (by decide)
  obtain ⟨b2, c2, rfl⟩ := OwnRow.some_ h2 (by decide)
  obtain ⟨b3, c3, rfl⟩ := OwnRow.some_ h3 (by decide)
  obtain ⟨b4, c4, rfl⟩ := OwnRow.some_ h4 (by decide)
  refine Wpl.sel (M' := [F4, F3, F2, F1, [(bp, .cells #[.slice none 0 0, .slice none 0 0, .slice none 0 0, .slice none 0 0, .int .i64 0] 89 (0, 0))]]) (Sel.cons 0 rfl (Sel.cons 1 rfl (Sel.cons 2 rfl (Sel.cons 3 rfl (Sel.cons 3 rfl (Sel.nil _)))))) ?_
  refine Wpl.lit1 (cs := [.slice (some ⟨b1, 0, none⟩) 144 c1, .slice (some ⟨b2, 0, none⟩) 112 c2, .slice (some ⟨b3, 0, none⟩) 24 c3, .slice (some ⟨b4, 0, none⟩) 8 c4]) rfl (by decide) (by decide) rfl rfl (fun va Fa hva => ?_)
  have hcat := concatI_spec Fa va [⟨F1, .slice (some ⟨b1, 0, none⟩) 144 c1, 144, ints .i64 (List.replicate 144 8)⟩, ⟨F2, .slice (some ⟨b2, 0, none⟩) 112 c2, 112, ints .i64 (List.replicate 112 9)⟩, ⟨F3, .slice (some ⟨b3, 0, none⟩) 24 c3, 24, ints .i64 (List.replicate 24 7)⟩, ⟨F4, .slice (some ⟨b4, 0, none⟩) 8 c4, 8, ints .i64 (List.replicate 8 8)⟩] hva.row (fun s hs => by
      rcases List.mem_cons.1 hs with rfl | hs
      · exact ⟨r1, ints_one _ _⟩
      rcases List.mem_cons.1 hs with rfl | hs
      · exact ⟨r2, ints_one _ _⟩
      rcases List.mem_cons.1 hs with rfl | hs
      · exact ⟨r3, ints_one _ _⟩
      · rw [List.mem_singleton.1 hs]; exact ⟨r4, ints_one _ _⟩) (by show 4 ≤ 1000000; omega) (by show 144 + (112 + (24 + (8 + 0))) ≤ 1000000000; omega)
  refine Wpl.callM rfl rfl rfl hcat (Pk.nil _) (HasF.cons (HasF.m 0 rfl) (HasF.cons (HasF.m 4 rfl) (HasF.cons (HasF.m 3 rfl) (HasF.cons (HasF.m 2 rfl) (HasF.cons (HasF.m 1 rfl) HasF.nil))))) ?_
  rintro vl _ ⟨Fl, rfl, hvl⟩
  have hvl2 : OwnRow 3 1 Fl vl 288 (ints .i64 (List.replicate 144 8 ++ (List.replicate 112 9 ++ (List.replicate 24 7 ++ List.replicate 8 8)))) :=
    OwnRow.cast hvl rfl (by simp only [srcX, ints, List.flatMap_cons, List.flatMap_nil, List.map_append, List.append_nil])
  refine Wpl.sel (M' := [[(bp, .cells #[.slice none 0 0, .slice none 0 0, .slice none 0 0, .slice none 0 0, .int .i64 0] 89 (0, 0))], Fl]) (Sel.cons 6 rfl (Sel.cons 0 rfl (Sel.nil _))) ?_
  repeat' (first | (apply Wpc.seqK; intro K hK) | apply Wpc.region | apply Wpl.nil | (apply hK; clear hK K) | (apply Wpl.mv; exact rfl; (conv => lhs; whnf)) | (apply Wpl.asg; exact rfl; (conv => lhs; whnf)))
  refine Wpl.lit1 (cs := ints .i64 [5]) rfl (by decide) (by decide) rfl rfl (fun va Fa hva => ?_)
  refine Wpl.callM rfl rfl rfl (repeat_spec Fa va 5 30 hva.row (by decide)) (Pk.nil _) (HasF.cons (HasF.m 0 rfl) HasF.nil) ?_
  rintro vd _ ⟨Fd, rfl, hvd⟩
  obtain ⟨bl, cl, rfl⟩ := OwnRow.some_ hvl2 (by decide)
  obtain ⟨bd, cd, rfl⟩ := OwnRow.some_ hvd (by decide)
  refine Wpl.sel (M' := [[(bp, .cells #[.slice none 0 0, .slice none 0 0, .slice none 0 0, .slice none 0 0, .int .i64 0] 89 (0, 0))], Fl, Fd]) (Sel.cons 2 rfl (Sel.cons 2 rfl (Sel.cons 0 rfl (Sel.nil _)))) ?_
  skip
  refine Wpl.build (cs := [.slice (some ⟨bl, 0, none⟩) 288 cl, .slice (some ⟨bd, 0, none⟩) 30 cd, .slice none 0 0, .slice none 0 0, .int .i64 0]) rfl rfl ?_
  refine Wpl.stAgg0 (cs := #[.slice (some ⟨bl, 0, none⟩) 288 cl, .slice (some ⟨bd, 0, none⟩) 30 cd, .slice none 0 0, .slice none 0 0, .int .i64 0]) rfl rfl rfl rfl rfl (one_cons rfl (one_cons rfl (one_cons rfl (one_cons rfl (one_cons rfl one_nil))))) rfl ?_
  repeat' (first | apply Wpl.nil | (apply hK; clear hK K) | apply Wpc.ret)
  refine ⟨[planV (.slice (some ⟨bl, 0, none⟩) 288 cl) (.slice (some ⟨bd, 0, none⟩) 30 cd) (.slice none 0 0) (.slice none 0 0) 0], [Fl, Fd],
        ⟨⟨bp, 0, _, _, _, rfl, Known.m 0 0 rfl, .inr ⟨5, _, _, [.slice (some ⟨bl, 0, none⟩) 288 cl, .slice (some ⟨bd, 0, none⟩) 30 cd, .slice none 0 0, .slice none 0 0, .int .i64 0], AggT.h, rfl, rfl, rfl⟩⟩, trivial⟩, Sel.tail _ _, fun _ h => h, Fl, Fd, rfl, ?_⟩
  refine ⟨.slice (some ⟨bl, 0, none⟩) 288 cl, .slice (some ⟨bd, 0, none⟩) 30 cd, .slice none 0 0, .slice none 0 0, rfl, ?_, ?_, ?_, ?_⟩
  · rw [usual_l]; exact hvl2.row
  · rw [usual_d]; exact hvd.row
  · exact (OwnRow.nil 3 2).row
  · exact (OwnRow.nil 3 1).row
noncomputable def planM (k : Int) (ts : List (Int × Int)) : PlanM := if k = 1 then usualM else ownM ts
theorem planned_spec (k : Int) (Ft : Frag) (vt vs : Value) (ts : List (Int × Int)) (ht : Row Ft 2 vt ts.length (flat tokC ts)) (hl : ts.length ≤ 1000000000) (hvs : vs.oneCell' = true) :
    Ctr Try.prog 35 [.agg #[.int .i64 k, vt, vs]] [Ft] [] (fun r M' => ∃ F1 F2 F3 F4 v, M' = [F1, F2, F3, F4] ∧ r = .tuple #[v, .nilIface] ∧ PlanR F1 F2 F3 F4 v (planM k ts)) := by
  have hown := own_spec Ft vt ts ht hl
  have h1 := ht.one
  have hres : ∀ (bp : Nat) (v : Value) (F1 F2 F3 F4 : Frag) (p : PlanM) (_ : PlanR F1 F2 F3 F4 v p), ∃ cs : Array Value, v = .agg cs ∧ cs.size = 5 ∧ (∀ u ∈ cs.toList, u.oneCell' = true) := by
    rintro bp v F1 F2 F3 F4 p ⟨vl, vd, vr, vo, rfl, q1, q2, q3, q4⟩
    exact ⟨_, rfl, rfl, one_cons q1.one (one_cons q2.one (one_cons q3.one (one_cons q4.one (one_cons rfl one_nil))))⟩
  refine Ctr.intro Try.func35 (by kernel_rfl) rfl (by conv => lhs; whnf) rfl fun W => ?_
  apply Wpc.seqK; intro K hK
  apply Wpc.region
  refine Wpl.boxA rfl rfl (fun bx => ?_)
  refine Wpl.new rfl (fun bp => ?_)
  repeat' (first | (apply Wpc.seqK; intro K hK) | apply Wpc.region | apply Wpl.nil | (apply hK; clear hK K) | (apply Wpl.asg; exact rfl; (conv => lhs; whnf)) | (apply Wpc.cond_true; exact rfl) | (apply Wpc.cond_false; exact rfl) | apply Wpc.skip | (apply Wpl.fldS; exact rfl; exact rfl; exact rfl; exact rfl) | (apply Wpl.ld1x0; exact rfl; exact rfl; exact rfl; exact rfl) | (apply Wpl.eql; exact rfl; exact rfl; exact rfl; all_goals (intro h; try (exfalso; omega))))
  · have hk : k = 1 := by assumption
    refine Wpl.callM rfl rfl rfl usual_spec (Pk.nil _) HasF.nil ?_
    rintro v _ ⟨F1, F2, rfl, hp⟩
    obtain ⟨cs, rfl, hsz, hone⟩ := hres bp v _ _ _ _ _ hp
    refine Wpl.addNil ?_
    refine Wpl.addNil ?_
    refine Wpl.sel (M' := [[(bp, .cells #[.slice none 0 0, .slice none 0 0, .slice none 0 0, .slice none 0 0, .int .i64 0] 89 (0, 0))], F1, F2, [], []]) (Sel.cons 4 rfl (Sel.cons 2 rfl (Sel.cons 2 rfl (Sel.cons 0 rfl (Sel.cons 0 rfl (Sel.nil _)))))) ?_
    refine Wpl.stAgg0 (cs := cs) rfl rfl rfl rfl hsz hone rfl ?_
    repeat' (first | apply Wpl.nil | (apply hK; clear hK K) | (apply Wpl.asg; exact rfl; (conv => lhs; whnf)) | apply Wpc.ret)
    exact ⟨[.agg cs, .nilIface], [F1, F2, [], []], ⟨⟨bp, 0, _, _, _, rfl, Known.m 0 0 rfl, .inr ⟨5, _, _, cs.toList, AggT.h, by simpa using hsz, by rw [List.drop_zero, List.take_of_length_le (by simpa using Nat.le_of_eq hsz)], rfl⟩⟩, rfl, trivial⟩, Sel.tail _ _, fun _ h => h, F1, F2, [], [], .agg cs, rfl, rfl, by rw [planM, if_pos hk]; exact hp⟩
  · have hk : k ≠ 1 := by assumption
    refine Wpl.callM rfl rfl rfl hown (Pk.nil _) (HasF.cons (HasF.r 0 rfl) HasF.nil) ?_
    rintro _ _ ⟨F1, F2, F3, F4, v, rfl, rfl, hp⟩
    obtain ⟨cs, rfl, hsz, hone⟩ := hres bp v _ _ _ _ _ hp
    refine Wpl.sel (M' := [[(bp, .cells #[.slice none 0 0, .slice none 0 0, .slice none 0 0, .slice none 0 0, .int .i64 0] 89 (0, 0))], F1, F2, F3, F4]) (Sel.cons 4 rfl (Sel.cons 0 rfl (Sel.cons 0 rfl (Sel.cons 0 rfl (Sel.cons 0 rfl (Sel.nil _)))))) ?_
    repeat' (apply Wpl.extract; exact rfl; exact rfl; exact rfl)
    refine Wpl.stAgg0 (cs := cs) rfl rfl rfl rfl hsz hone rfl ?_
    repeat' (first | apply Wpl.nil | (apply hK; clear hK K) | (apply Wpl.asg; exact rfl; (conv => lhs; whnf)) | apply Wpc.ret)
    exact ⟨[.agg cs, .nilIface], [F1, F2, F3, F4], ⟨⟨bp, 0, _, _, _, rfl, Known.m 0 0 rfl, .inr ⟨5, _, _, cs.toList, AggT.h, by simpa using hsz, by rw [List.drop_zero, List.take_of_length_le (by simpa using Nat.le_of_eq hsz)], rfl⟩⟩, rfl, trivial⟩, Sel.tail _ _, fun _ h => h, F1, F2, F3, F4, .agg cs, rfl, rfl, by rw [planM, if_neg hk]; exact hp⟩
end Go.Proofs.Ytmfcgffdijnokaa
