/- contracts: binding of codes, books, pens of lengths and tokens -/
import Derived.Test.YtmfcgffdijnokaaPj
set_option linter.unusedVariables false
set_option linter.unusedSimpArgs false
set_option linter.unusedSectionVars false
set_option maxRecDepth 100000
set_option maxHeartbeats 4000000
namespace Go.Proofs.Ytmfcgffdijnokaa
open Go.SL Go.RowKit
attribute [local irreducible] Wpl Wpc Wph
/-! canon.bind, NewBook; pen.book -/
section
variable {q : Md} {C : Cx} {ops : Array Oper} {rest : List Oper} {Q : Exit → Env → List Frag → List Frag → Prop} {f : Env} {R M : List Frag}
variable {d : Nat} {ty T : TypeId} {pos : String} {af : Array Edge} {x y : Operand}
theorem Wpl.idxArr {E : TypeId} {len k by_ b off o : Nat} {z : Value} {ki : IntKind} {m : Int} (hT : C.P.underlying T = some (.array len E)) [hE : AggT C.P E k z by_] (hd : Nat.blt d C.n = true) (hx : f.ev x = .pointer (some ⟨b, off, none⟩)) (hy : f.ev y = .int ki m)
    (h0 : 0 ≤ m) (h1 : m < len) (ho : off + m.toNat * k = o) (k1 : Wpl q C ops rest Q (f.upd d (.pointer (some ⟨b, o, none⟩))) R M) :
    Wpl q C ops (⟨some d, .indexAddr T x y, ty, pos, af, none⟩ :: rest) Q f R M :=
  Wpl.val rfl hd _ (fun w _ => by
    subst ho
    simp [execOp, hx, hy, Instr.indexAt, asIntOf, run_underlying hT, Instr.sureAddr, h0, h1, hE.h.run_size, addr_add]) k1
theorem Sat.addNils {w : World} (n : Nat) (h : Sat C R M w) : Sat C R (M ++ List.replicate n []) w := by
  have e : keys (M ++ List.replicate n []) = keys M := by simp [keys]
  refine ⟨h.os, h.tape, h.output, h.size, h.keep, h.ro, fun F hF => ?_, by rw [e]; exact h.nodup, fun F hF p hp => by rw [e]; exact h.apart F hF p hp, fun k hk => h.dirty k (by rw [← e]; exact hk)⟩
  rcases List.mem_append.1 hF with hF | hF
  · exact h.mu F hF
  · rw [List.eq_of_mem_replicate hF]; intro p hp; cases hp
theorem Wpc.addNils {c : Code} (n : Nat) (k : Wpc C c Q f R (M ++ List.replicate n [])) : Wpc C c Q f R M := by
  unfold Wpc at k ⊢
  exact fun a w ha hw => k a w ha (Sat.addNils n hw)
end
/-- a level: its first code, its symbols' value, their piece, the symbols -/
abbrev Lv := Int × Value × Frag × List Int
def lvC (x : Lv) : List Value := [.int .i64 x.1, x.2.1]
def lvF (lv : List Lv) : List Frag := lv.map (·.2.2.1)
theorem lvC_get : ∀ (lv : List Lv) (n : Nat) (h : n < lv.length), (flat lvC lv)[n * 2]? = some (.int .i64 lv[n].1) ∧ (flat lvC lv)[n * 2 + 1]? = some lv[n].2.1
  | [], n, h => by simp at h
  | x :: lv, 0, h => ⟨rfl, rfl⟩
  | x :: lv, n + 1, h => by
    have ih := lvC_get lv n (by simpa using h)
    rw [show (n + 1) * 2 = n * 2 + 1 + 1 by omega]
    exact ih
theorem lvC_set0 : ∀ (lv : List Lv) (n : Nat) (h : n < lv.length) (a : Int), (flat lvC lv).set (n * 2) (.int .i64 a) = flat lvC (lv.set n (a, lv[n].2))
  | [], n, h, a => by simp at h
  | x :: lv, 0, h, a => rfl
  | x :: lv, n + 1, h, a => by
    have ih := lvC_set0 lv n (by simpa using h) a
    rw [show (n + 1) * 2 = n * 2 + 1 + 1 by omega]
    show Value.int .i64 x.1 :: x.2.1 :: (flat lvC lv).set (n * 2) _ = Value.int .i64 x.1 :: x.2.1 :: flat lvC (lv.set n _)
    rw [ih]; rfl
theorem lvC_set1 : ∀ (lv : List Lv) (n : Nat) (h : n < lv.length) (v : Value) (F : Frag) (xs : List Int), (flat lvC lv).set (n * 2 + 1) v = flat lvC (lv.set n (lv[n].1, v, F, xs))
  | [], n, h, v, F, xs => by simp at h
  | x :: lv, 0, h, v, F, xs => rfl
  | x :: lv, n + 1, h, v, F, xs => by
    have ih := lvC_set1 lv n (by simpa using h) v F xs
    rw [show (n + 1) * 2 + 1 = n * 2 + 1 + 1 + 1 by omega]
    show Value.int .i64 x.1 :: x.2.1 :: (flat lvC lv).set (n * 2 + 1) _ = Value.int .i64 x.1 :: x.2.1 :: flat lvC (lv.set n _)
    rw [ih]; rfl
theorem lvF_set (lv : List Lv) (n : Nat) (x : Lv) : lvF (lv.set n x) = (lvF lv).set n x.2.2.1 := by simp [lvF, List.map_set]
theorem lvF_same (lv : List Lv) (n : Nat) (h : n < lv.length) (a : Int) : lvF (lv.set n (a, lv[n].2)) = lvF lv := by
  rw [lvF_set]
  apply List.ext_getElem?
  intro i
  rw [List.getElem?_set]
  split
  · rename_i e
    subst e
    simp [lvF, h]
  · rfl
def bookC (v1 v2 v3 : Value) (lv : List Lv) : List Value := v1 :: v2 :: v3 :: flat lvC lv
theorem bookC_set0 (v1 v2 v3 : Value) (lv : List Lv) (n : Nat) (h : n < lv.length) (a : Int) : (bookC v1 v2 v3 lv).set (n * 2 + 3) (.int .i64 a) = bookC v1 v2 v3 (lv.set n (a, lv[n].2)) := by
  show v1 :: v2 :: v3 :: (flat lvC lv).set (n * 2) (.int .i64 a) = _
  rw [lvC_set0 lv n h]; rfl
theorem bookC_set1 (v1 v2 v3 : Value) (lv : List Lv) (n : Nat) (h : n < lv.length) (v : Value) (F : Frag) (xs : List Int) : (bookC v1 v2 v3 lv).set (n * 2 + 3 + 1) v = bookC v1 v2 v3 (lv.set n (lv[n].1, v, F, xs)) := by
  show v1 :: v2 :: v3 :: (flat lvC lv).set (n * 2 + 1) v = _
  rw [lvC_set1 lv n h v F xs]; rfl
def lv0 : List Lv := List.replicate 17 (0, .slice none 0 0, [], [])
theorem bind_spec (F G : Frag) (v u : Value) (l ord : List Int) (hv : Row F 1 v l.length (ints .i64 l)) (hu : Row G 1 u ord.length (ints .i64 ord)) (hl : l.length ≤ 1000000) (ho : ord.length ≤ 1000000) (hok : AsgOk l ord) (h16 : ∀ s ∈ ord, 0 ≤ lenOf l s ∧ lenOf l s ≤ 16) :
    Ctr Try.prog 163 [v, u] [F, G] [] (fun r M' => ∃ b FK FL FC, r = bookV b ∧ M' = [FK, FL, FC] ∧ BookR b FK FL FC l (asg l ord).1) := by
  have hcl := clone_ints_spec F v l l.length hv (by omega)
  have has := assign_spec F G v u l ord hv hu (by omega) (by omega) hok
  have hu1 := hu.one
  obtain ⟨a1, c1, rfl⟩ := hv.len
  obtain ⟨a2, c2, rfl⟩ := hu.len
  refine Ctr.intro Try.func163 (by kernel_rfl) rfl (by conv => lhs; whnf) rfl fun W => ?_
  repeat' (first | (apply Wpc.seqK; intro K hK) | apply Wpc.region | apply Wpl.nil | (apply hK; clear hK K) | (apply Wpl.mv; exact rfl; (conv => lhs; whnf)) | (apply Wpl.asg; exact rfl; (conv => lhs; whnf)))
  refine Wpl.callM rfl rfl rfl hcl (Pk.nil _) (HasF.cons (HasF.r 0 rfl) HasF.nil) ?_
  rintro vL _ ⟨FL, rfl, hL⟩
  repeat' (apply Wpl.mv; exact rfl; (conv => lhs; whnf))
  refine Wpl.callM rfl rfl rfl has (Pk.nil _) (HasF.cons (HasF.r 0 rfl) (HasF.cons (HasF.r 1 rfl) HasF.nil)) ?_
  rintro vC _ ⟨FC, rfl, hC⟩
  repeat' (apply Wpl.mv; exact rfl; (conv => lhs; whnf))
  have hLr := hL.row
  have hCr := hC.row
  obtain ⟨pL, cL, rfl⟩ := hLr.len
  obtain ⟨pC, cC, rfl⟩ := hCr.len
  refine Wpl.build (cs := bookC (.slice pL l.length cL) (.slice pC l.length cC) (.slice a2 ord.length c2) lv0) rfl rfl ?_
  refine Wpl.boxA rfl rfl (fun b => ?_)
  repeat' (first | (apply Wpc.seqK; intro K hK) | apply Wpc.region | apply Wpl.nil | (apply hK; clear hK K) | (apply Wpl.mv; exact rfl; (conv => lhs; whnf)) | (apply Wpl.asg; exact rfl; (conv => lhs; whnf)) | (apply Wpl.len; exact rfl; exact rfl))
  refine Wpc.block ?_
  refine Wpc.addNils 17 ?_
  refine Wpc.loop (ι := Nat × List Lv) (fun i => i.1 ≤ ord.length ∧ i.2.length = 17 ∧ ∀ x ∈ i.2, OwnRow 3 1 x.2.2.1 x.2.1 x.2.2.2.length (ints .i64 x.2.2.2) ∧ x.2.2.2.length ≤ i.1)
    (fun i => [(0, .slice a1 l.length c1), (5, .pointer (some ⟨b, 0, none⟩)), (17, .slice a2 ord.length c2), (18, .int .i64 ord.length), (19, .int .i64 i.1)])
    (fun i => [(b, .cells (bookC (.slice pL l.length cL) (.slice pC l.length cC) (.slice a2 ord.length c2) i.2).toArray 243 (0, 0))] :: FC :: FL :: lvF i.2) (fun i => ord.length - i.1) (0, lv0)
    ⟨Nat.zero_le _, rfl, fun x hx => by rw [List.eq_of_mem_replicate hx]; exact ⟨OwnRow.nil _ _, Nat.le_refl _⟩⟩ ⟨rfl, rfl, rfl, rfl, rfl, trivial⟩ (Sel.refl _) ?_
  rintro ⟨k, lv⟩ g ⟨hk, h17, hlv⟩
  dsimp only at hk h17 hlv ⊢
  repeat' (first | (apply Wpc.seqK; intro K hK) | apply Wpc.region | apply Wpl.nil | (apply hK; clear hK K) | (apply Wpl.mv; exact rfl; (conv => lhs; whnf)) | (apply Wpl.asg; exact rfl; (conv => lhs; whnf)) | (apply Wpc.cond_true; exact rfl) | (apply Wpc.cond_false; exact rfl) | apply Wpc.skip | apply Wpc.exit | apply Wpc.ret | (apply Wpl.lss; exact rfl; exact rfl; exact rfl; all_goals (intro h; try (exfalso; omega))) | ((conv => whnf); clear hK K; apply hK; clear hK K))
  · have hkl : k < ord.length := by omega
    have hs := hok.1 _ (List.getElem_mem hkl)
    have hs16 := h16 _ (List.getElem_mem hkl)
    refine Wpc.block ?_
    repeat' (first | (apply Wpc.seqK; intro K hK) | apply Wpc.region | apply Wpl.nil | (apply hK; clear hK K) | (apply Wpl.asg; exact rfl; (conv => lhs; whnf)) | (apply Wpl.idxN; exact rfl; exact rfl; exact rfl; exact rfl; assumption; (exact HasF.r 1 rfl); omega; intro _ _))
    have hsn : (ord[k]).toNat < l.length := by omega
    have hgl : lenOf l ord[k] = l[(ord[k]).toNat]'hsn := getD_get hsn
    rw [hgl] at hs16
    have hcs := asg_len l ord
    have hcn : (ord[k]).toNat < (asg l ord).1.length := by omega
    repeat' (first | (apply Wpc.region_draw; kernel_rfl; kernel_rfl) | (apply Wpl.mv; exact rfl; (conv => lhs; whnf)) | (apply Wpl.nilCheck; exact rfl; exact rfl) | (apply Wpl.fldS; exact rfl; exact rfl; exact rfl; exact rfl) | (apply Wpl.idx; exact rfl; exact rfl; exact rfl; exact rfl; assumption; (exact HasF.r 0 rfl); omega; omega; intro _ _))
    clear hgl
    generalize l[(ord[k]).toNat]'hsn = ln at *
    obtain ⟨n, rfl⟩ : ∃ n : Nat, ln = (n : Int) := ⟨ln.toNat, by omega⟩
    have hn17 : n < lv.length := by omega
    have hget := lvC_get lv n hn17
    have hlvn := hlv _ (List.getElem_mem hn17)
    have hlvs := lvC_set0 lv n hn17 ((asg l ord).1[(ord[k]).toNat]'hcn)
    have hlvt := lvF_same lv n hn17 ((asg l ord).1[(ord[k]).toNat]'hcn)
    have hfl : (flat lvC lv).length = 34 := by rw [flat_length (k := 2) (fun _ => rfl), h17]
    refine Wpl.idxArr Try.underlying241 rfl rfl rfl (by omega) (by omega) (o := n * 2 + 3) (by show 0 + 3 + n * 2 = _; omega) ?_
    have hc1 : (bookC (.slice pL l.length cL) (.slice pC l.length cC) (.slice a2 ord.length c2) lv)[n * 2 + 1 + 3]? = some lv[n].2.1 := hget.2
    repeat' (first | (apply Wpc.seqK; intro K hK) | apply Wpc.region | apply Wpl.nil | (apply hK; clear hK K) | (apply Wpl.mv; exact rfl; (conv => lhs; whnf)) | (apply Wpl.asg; exact rfl; (conv => lhs; whnf)) | (apply Wpl.nilCheck; exact rfl; exact rfl) | (apply Wpl.fldS; exact rfl; exact rfl; exact rfl; exact rfl))
    refine Wpl.ld0x0 rfl rfl rfl hc1 ?_
    refine Wpl.lenRow rfl rfl hlvn.1.row ?_
    refine Wpl.cutK hK (by assumption) (ι := Int) (fun _ => True)
      (fun a => [(0, .slice a1 l.length c1), (5, .pointer (some ⟨b, 0, none⟩)), (7, .int .i64 ord[k]), (8, .pointer (some ⟨b, n * 2 + 3, none⟩)), (17, .slice a2 ord.length c2), (18, .int .i64 ord.length), (19, .int .i64 k)])
      (fun a => [(b, .cells (bookC (.slice pL l.length cL) (.slice pC l.length cC) (.slice a2 ord.length c2) (lv.set n (a, (lv[n]'hn17).2))).toArray 243 (0, 0))] :: FC :: FL :: lvF lv) ?_ ?_
    · intro K hK
      repeat' (first | apply Wpc.region | apply Wpl.nil | (apply hK; clear hK K) | (apply Wpl.mv; exact rfl; (conv => lhs; whnf)) | (apply Wpc.cond_true; exact rfl) | (apply Wpc.cond_false; exact rfl) | apply Wpc.skip | (apply Wpl.nilCheck; exact rfl; exact rfl) | (apply Wpl.fldS; exact rfl; exact rfl; exact rfl; exact rfl) | (apply Wpl.ld0x0; exact rfl; exact rfl; exact rfl; exact rfl) | (apply Wpl.eql; exact rfl; exact rfl; exact rfl; all_goals (intro h; try (exfalso; omega))) | (apply Wpl.idx; exact rfl; exact rfl; exact rfl; exact rfl; assumption; (exact HasF.m 1 rfl); omega; omega; intro _ _))
      · generalize (asg l ord).1[(ord[k]).toNat]'hcn = code at *
        refine Wpl.stV (.int .i64 code) (bookC (.slice pL l.length cL) (.slice pC l.length cC) (.slice a2 ord.length c2) (lv.set n (code, (lv[n]'hn17).2))).toArray rfl rfl rfl rfl rfl ?_ ?_ ?_
        · show Nat.blt (n * 2 + 3 + 0) (bookC (.slice pL l.length cL) (.slice pC l.length cC) (.slice a2 ord.length c2) lv).length = true
          rw [Nat.blt_eq]; simp only [bookC, List.length_cons, hfl]; omega
        · exact congrArg List.toArray (bookC_set0 _ _ _ lv n hn17 code)
        repeat' (apply Wpl.nil)
        exact ⟨code, trivial, ⟨rfl, rfl, rfl, rfl, rfl, rfl, rfl, trivial⟩, Sel.refl _, fun _ h => h⟩
      · refine ⟨(lv[n]'hn17).1, trivial, ⟨rfl, rfl, rfl, rfl, rfl, rfl, rfl, trivial⟩, ?_, fun _ h => h⟩
        have e : lv.set n ((lv[n]'hn17).1, (lv[n]'hn17).2) = lv := List.set_getElem_self hn17
        show Sel _ ([(b, .cells (bookC _ _ _ (lv.set n ((lv[n]'hn17).1, (lv[n]'hn17).2))).toArray 243 (0, 0))] :: FC :: FL :: lvF lv)
        rw [e]
        exact Sel.refl _
    clear hK K
    rintro a g _
    have hlen2 : (lv.set n (a, (lv[n]'hn17).2)).length = 17 := by rw [List.length_set]; exact h17
    have hg2 := lvC_get (lv.set n (a, (lv[n]'hn17).2)) n (by omega)
    have hs2 := bookC_set1 (.slice pL l.length cL) (.slice pC l.length cC) (.slice a2 ord.length c2) (lv.set n (a, (lv[n]'hn17).2)) n (by omega)
    rw [List.getElem_set_self] at hg2
    simp only [List.getElem_set_self] at hs2
    have hfl2 : (flat lvC (lv.set n (a, (lv[n]'hn17).2))).length = 34 := by rw [flat_length (k := 2) (fun _ => rfl), hlen2]
    have hlF : (lvF lv)[n]? = some (lv[n]'hn17).2.2.1 := by simp [lvF, hn17]
    generalize hlvx : lv[n]'hn17 = x at *
    obtain ⟨fx, vx, Fx, xs⟩ := x
    dsimp only at hlvn hg2 hs2 hlF hlvt hget hc1
    have hc2 : (bookC (.slice pL l.length cL) (.slice pC l.length cC) (.slice a2 ord.length c2) (lv.set n (a, (vx, Fx, xs))))[n * 2 + 1 + 3]? = some vx := hg2.2
    repeat' (first | apply Wpc.region | (apply Wpl.mv; exact rfl; (conv => lhs; whnf)) | (apply Wpl.nilCheck; exact rfl; exact rfl) | (apply Wpl.fldS; exact rfl; exact rfl; exact rfl; exact rfl))
    refine Wpl.ld0x0 rfl rfl rfl hc2 ?_
    repeat' (apply Wpl.mv; exact rfl; (conv => lhs; whnf))
    refine Wpl.appI (n + 3) (l := xs) rfl rfl rfl rfl rfl hlF hlvn.1 (by have := hlvn.2; omega) (by have := hlvn.2; omega) (fun p v' F' hv' => ?_)
    repeat' (first | (apply Wpl.nilCheck; exact rfl; exact rfl) | (apply Wpl.fldS; exact rfl; exact rfl; exact rfl; exact rfl))
    have hs3 := hs2 v' F' (xs ++ [ord[k]])
    refine Wpl.stV v' (bookC (.slice pL l.length cL) (.slice pC l.length cC) (.slice a2 ord.length c2) ((lv.set n (a, (vx, Fx, xs))).set n (a, v', F', xs ++ [ord[k]]))).toArray rfl rfl rfl rfl hv'.row.one ?_ ?_ ?_
    · show Nat.blt (n * 2 + 3 + 1) (bookC (.slice pL l.length cL) (.slice pC l.length cC) (.slice a2 ord.length c2) (lv.set n (a, (vx, Fx, xs)))).length = true
      rw [Nat.blt_eq]; simp only [bookC, List.length_cons, hfl2]; omega
    · exact congrArg List.toArray hs3
    repeat' (first | apply Wpc.region | apply Wpl.nil | (apply Wpl.mv; exact rfl; (conv => lhs; whnf)) | (apply Wpl.add; exact rfl; exact rfl; exact rfl; omega) | ((conv => whnf); clear hK K; apply hK; clear hK K))
    refine ⟨(k + 1, (lv.set n (a, (vx, Fx, xs))).set n (a, v', F', xs ++ [ord[k]])), ⟨by omega, by show List.length _ = 17; rw [List.length_set]; exact hlen2, ?_⟩, by show ord.length - (k + 1) < ord.length - k; omega, ⟨rfl, rfl, rfl, rfl, rfl, trivial⟩, ?_, fun _ h => h⟩
    · intro y hy
      rw [List.set_set] at hy
      rcases List.mem_or_eq_of_mem_set hy with hy | rfl
      · have := hlv y hy; exact ⟨this.1, by have := this.2; show _ ≤ k + 1; omega⟩
      · refine ⟨?_, ?_⟩
        · show OwnRow 3 1 F' v' (xs ++ [ord[k]]).length (ints .i64 (xs ++ [ord[k]]))
          exact OwnRow.cast hv' (by simp) rfl
        · show (xs ++ [ord[k]]).length ≤ k + 1
          have := hlvn.2
          simp; omega
    · have e : lvF ((lv.set n (a, (vx, Fx, xs))).set n (a, v', F', xs ++ [ord[k]])) = (lvF lv).set n F' := by rw [List.set_set, lvF_set]
      show Sel _ (_ :: FC :: FL :: lvF ((lv.set n (a, (vx, Fx, xs))).set n (a, v', F', xs ++ [ord[k]])))
      rw [e]
      exact Sel.refl _
  · have hkn : k = ord.length := by omega
    subst hkn
    skip
    refine ⟨[_], _, ⟨rfl, trivial⟩, Sel.cons 0 rfl (Sel.cons 1 rfl (Sel.cons 0 rfl (Sel.nil _))), fun _ h => h, b, _, FL, FC, rfl, rfl, ⟨_, _, _, rfl, rfl, rfl, hLr, ?_⟩⟩
    exact hCr
end Go.Proofs.Ytmfcgffdijnokaa
set_option maxRecDepth 100000
set_option maxHeartbeats 4000000
namespace Go.Proofs.Ytmfcgffdijnokaa
open Go.SL Go.RowKit
attribute [local irreducible] Wpl Wpc Wph
/-! canon.NewBook, pen.book -/
theorem asg_bd {l ord : List Int} (hok : AsgOk l ord) : ∀ k, k ≤ ord.length → ∀ x ∈ (asg l (ord.take k)).1, 0 ≤ x ∧ x ≤ 65536
  | 0, _ => fun x hx => by
    rw [List.take_zero] at hx
    have : x = 0 := List.eq_of_mem_replicate hx
    omega
  | k + 1, h => by
    have hkl : k < ord.length := h
    have hb := hok.2 k hkl
    intro x hx
    rw [take_snoc ord k hkl, asg_snoc] at hx
    rcases List.mem_or_eq_of_mem_set hx with hx | rfl
    · exact asg_bd hok k (by omega) x hx
    · exact ⟨hb.2.2.2.2.1, hb.2.2.2.2.2⟩
/-- lengths that make a book -/
structure BookOk (l : List Int) : Prop where
  len : l.length ≤ 512
  bd : ∀ x ∈ l, 0 ≤ x ∧ x ≤ 16
  kraft : hsum 16 l ≤ 65536
def codesM (l : List Int) : List Int := (asg l (ordU l 16)).1
theorem codesM_len (l : List Int) : (codesM l).length = l.length := asg_len _ _
theorem codesM_bd {l : List Int} (h : BookOk l) : ∀ x ∈ codesM l, 0 ≤ x ∧ x ≤ 65536 := by
  have := asg_bd (asgOk_of l h.bd h.kraft) _ (Nat.le_refl _)
  rw [List.take_length] at this
  exact this
theorem newBook_spec (F : Frag) (v : Value) (l : List Int) (hv : Row F 1 v l.length (ints .i64 l)) (h : BookOk l) :
    Ctr Try.prog 137 [v] [F] [] (fun r M' => ∃ b FK FL FC, r = .tuple #[bookV b, .nilIface] ∧ M' = [FK, FL, FC] ∧ BookR b FK FL FC l (codesM l)) := by
  have hfree := free_spec F v l hv
  have hl := h.len
  have hla := leftAfter_hsum l h.bd
  have hkr := h.kraft
  have hfv : freeV l = .tuple #[.int .i64 (leftAfter l), .nilIface] := by
    rw [freeV, if_neg]
    rintro (h1 | ⟨x, hx, h1⟩ | h1)
    · omega
    · have := h.bd x hx; omega
    · omega
  rw [hfv] at hfree
  have hord := corder_spec F v l hv (by omega)
  have hol := ordU_len l 16
  have holn := ordU_lens l 16
  obtain ⟨a1, c1, rfl⟩ := hv.len
  refine Ctr.intro Try.func137 (by kernel_rfl) rfl (by conv => lhs; whnf) rfl fun W => ?_
  repeat' (first | (apply Wpl.callP; exact rfl; exact rfl; exact rfl; exact rfl; (exact hfree); (refine HasF.cons (by (exact HasF.r 0 rfl)) HasF.nil)) | (apply Wpc.seqK; intro K hK) | apply Wpc.region | apply Wpl.nil | (apply hK; clear hK K) | (apply Wpl.mv; exact rfl; (conv => lhs; whnf)) | (apply Wpl.asg; exact rfl; (conv => lhs; whnf)) | (apply Wpc.cond_false; exact rfl) | apply Wpc.skip | (apply Wpl.extract; exact rfl; exact rfl; exact rfl) | (apply Wpl.errNeNil; exact rfl; exact rfl))
  refine Wpl.callM rfl rfl rfl hord (Pk.nil _) (HasF.cons (HasF.r 0 rfl) HasF.nil) ?_
  rintro vo _ ⟨Fo, rfl, ho⟩
  have hbind := bind_spec F Fo _ vo l (ordU l 16) hv ho.row (by omega) (by omega) (asgOk_of l h.bd h.kraft) (fun s hs => by have := holn s hs; omega)
  skip
  refine Wpl.callM rfl rfl rfl hbind (Pk.nil _) (HasF.cons (HasF.r 0 rfl) (HasF.cons (HasF.m 0 rfl) HasF.nil)) ?_
  rintro _ _ ⟨b, FK, FL, FC, rfl, rfl, hb⟩
  repeat' (first | apply Wpl.nil | (apply hK; clear hK K) | (apply Wpl.asg; exact rfl; (conv => lhs; whnf)) | apply Wpc.ret)
  exact ⟨[_, _], _, ⟨rfl, rfl, trivial⟩, Sel.cons 0 rfl (Sel.cons 0 rfl (Sel.cons 0 rfl (Sel.nil _))), fun _ h => h, b, FK, FL, FC, rfl, rfl, hb⟩
theorem penBook_spec {bp : Nat} {vw : Value} (F : Frag) (v : Value) (l : List Int) (hv : Row F 1 v l.length (ints .i64 l)) (h : BookOk l) (hw : vw.oneCell' = true) :
    Ctr Try.prog 96 [penV bp, v] [F] [penF bp vw .nilIface] (fun r M' => ∃ b FK FL FC, r = bookV b ∧ M' = [penF bp vw .nilIface, FK, FL, FC] ∧ BookR b FK FL FC l (codesM l)) := by
  have hnb := newBook_spec F v l hv h
  obtain ⟨a1, c1, rfl⟩ := hv.len
  refine Ctr.intro Try.func96 (by kernel_rfl) rfl (by conv => lhs; whnf) rfl fun W => ?_
  unfold penF penV
  repeat' (first | (apply Wpc.seqK; intro K hK) | apply Wpc.region | apply Wpl.nil | (apply hK; clear hK K) | (apply Wpl.mv; exact rfl; (conv => lhs; whnf)) | (apply Wpl.asg; exact rfl; (conv => lhs; whnf)))
  refine Wpl.callM rfl rfl rfl hnb (Pk.nil _) (HasF.cons (HasF.r 0 rfl) HasF.nil) ?_
  rintro _ _ ⟨b, FK, FL, FC, rfl, rfl, hb⟩
  repeat' (first | (apply Wpc.seqK; intro K hK) | apply Wpc.region | apply Wpl.nil | (apply hK; clear hK K) | (apply Wpl.mv; exact rfl; (conv => lhs; whnf)) | (apply Wpl.asg; exact rfl; (conv => lhs; whnf)) | (apply Wpc.cond_true; exact rfl) | (apply Wpl.extract; exact rfl; exact rfl; exact rfl) | (apply Wpl.nilCheck; exact rfl; exact rfl) | (apply Wpl.fldS; exact rfl; exact rfl; exact rfl; exact rfl) | (apply Wpl.ld3x0; exact rfl; exact rfl; exact rfl; exact rfl) | (apply Wpl.errEqNil; exact rfl; exact rfl))
  refine Wpl.stVi 3 .nilIface #[vw, .nilIface] rfl rfl rfl rfl rfl rfl rfl ?_
  repeat' (first | (apply Wpc.seqK; intro K hK) | apply Wpc.region | apply Wpl.nil | (apply hK; clear hK K) | (apply Wpl.mv; exact rfl; (conv => lhs; whnf)) | (apply Wpl.asg; exact rfl; (conv => lhs; whnf)) | apply Wpc.ret)
  exact ⟨[_], _, ⟨rfl, trivial⟩, Sel.cons 3 rfl (Sel.cons 0 rfl (Sel.cons 0 rfl (Sel.cons 0 rfl (Sel.nil _)))), fun _ h => h, b, FK, FL, FC, rfl, rfl, hb⟩
/-- a symbol is written -/
def symP (hi : Bool) (l : List Int) (p : List Int × Nat) (s : Int) : List Int × Nat := codeP hi ((codesM l)[s.toNat]?.getD 0) (lenOf l s).toNat p (lenOf l s).toNat
theorem symP_n (hi : Bool) (l : List Int) (p : List Int × Nat) (s : Int) : (symP hi l p s).2 = p.2 + (lenOf l s).toNat := codeP_n _ _ _ _ _
theorem symbol_P {b bp : Nat} {FK FL FC FW FB : Frag} {l : List Int} {hi : Bool} {p : List Int × Nat} {vw : Value} (hb : BookR b FK FL FC l (codesM l)) (hok : BookOk l) (h0 : Wr hi p.1 p.2 vw FW FB) (hn : p.2 ≤ 800000000000000) (s : Int) (hs : 0 ≤ s ∧ s < l.length) (hp : 0 < lenOf l s) :
    Ctr Try.prog 98 [penV bp, bookV b, .int .i64 s] [FK, FL, FC] [penF bp vw .nilIface, FW, FB]
      (fun r M' => ∃ FW' FB', M' = [penF bp vw .nilIface, FW', FB'] ∧ Wr hi (symP hi l p s).1 (symP hi l p s).2 vw FW' FB') := by
  have hsl : s.toNat < l.length := by omega
  have hcl : s.toNat < (codesM l).length := by rw [codesM_len]; exact hsl
  have e1 : lenOf l s = l[s.toNat] := getD_get hsl
  have e2 : (codesM l)[s.toNat]?.getD 0 = (codesM l)[s.toNat] := getD_get hcl
  have hbd := hok.bd _ (List.getElem_mem hsl)
  have h := symbol_spec (bp := bp) hb h0 hn s hs (codesM_len l) ⟨by rw [← e1]; exact hp, hbd.2⟩ (codesM_bd hok _ (List.getElem_mem hcl))
  unfold symP
  rw [e1, e2]
  exact h
end Go.Proofs.Ytmfcgffdijnokaa
set_option maxRecDepth 100000
set_option maxHeartbeats 4000000
namespace Go.Proofs.Ytmfcgffdijnokaa
open Go.SL Go.RowKit
attribute [local irreducible] Wpl Wpc Wph
/-! pen.lengths -/
theorem Wr_one {hi : Bool} {bs : List Int} {n : Nat} {v : Value} {FW FB : Frag} (h : Wr hi bs n v FW FB) : v.oneCell' = true := by
  obtain ⟨b, vs, rfl, _⟩ := h.at_
  rfl
def onesP (hi : Bool) (o : List Int) (p : List Int × Nat) (ss : List Int) : List Int × Nat := ss.foldl (fun p s => putP hi p (lenOf o s) 3) p
theorem onesP_snoc (hi : Bool) (o : List Int) (p : List Int × Nat) (ss : List Int) (s : Int) : onesP hi o p (ss ++ [s]) = putP hi (onesP hi o p ss) (lenOf o s) 3 := by simp [onesP]
theorem onesP_n (hi : Bool) (o : List Int) : ∀ (ss : List Int) (p : List Int × Nat), (onesP hi o p ss).2 = p.2 + 3 * ss.length
  | [], p => rfl
  | s :: ss, p => by show (onesP hi o (putP hi p (lenOf o s) 3) ss).2 = _; rw [onesP_n hi o ss]; show p.2 + 3 + _ = _; rw [List.length_cons]; omega
def runsP (hi : Bool) (o : List Int) (p : List Int × Nat) (rs : List (Int × Int)) : List Int × Nat := rs.foldl (fun p r => putP hi (symP hi o p r.1) r.2 (reachM r.1).2.toNat) p
theorem runsP_snoc (hi : Bool) (o : List Int) (p : List Int × Nat) (rs : List (Int × Int)) (r : Int × Int) : runsP hi o p (rs ++ [r]) = putP hi (symP hi o (runsP hi o p rs) r.1) r.2 (reachM r.1).2.toNat := by simp [runsP]
theorem runsP_n (hi : Bool) (o : List Int) (ho : ∀ x ∈ o, 0 ≤ x ∧ x ≤ 16) : ∀ (rs : List (Int × Int)) (p : List Int × Nat), (runsP hi o p rs).2 ≤ p.2 + 23 * rs.length
  | [], p => Nat.le_refl _
  | r :: rs, p => by
    have ih := runsP_n hi o ho rs (putP hi (symP hi o p r.1) r.2 (reachM r.1).2.toNat)
    have h1 := symP_n hi o p r.1
    have h2 := reachM_bd r.1
    have h3 : 0 ≤ lenOf o r.1 ∧ lenOf o r.1 ≤ 16 := by
      unfold lenOf
      cases hg : o[r.1.toNat]? with
      | none => simp
      | some y => exact ho y (List.mem_of_getElem? hg)
    have h4 : (putP hi (symP hi o p r.1) r.2 (reachM r.1).2.toNat).2 = (symP hi o p r.1).2 + (reachM r.1).2.toNat := rfl
    show (runsP hi o (putP hi (symP hi o p r.1) r.2 (reachM r.1).2.toNat) rs).2 ≤ _
    rw [List.length_cons]
    omega
/-- a plan that is written -/
structure PlanOk (p : PlanM) : Prop where
  l : 257 ≤ p.l.length ∧ p.l.length ≤ 288
  d : 1 ≤ p.d.length ∧ p.d.length ≤ 30
  ones : p.ones.length = 19
  ob : ∀ x ∈ p.ones, 0 ≤ x ∧ x ≤ 7
  ok : BookOk p.ones
  rl : p.runs.length ≤ 1000
  runs : ∀ r ∈ p.runs, 0 ≤ r.1 ∧ r.1 ≤ 18 ∧ 0 ≤ r.2 ∧ r.2 < 2 ^ (reachM r.1).2.toNat ∧ 0 < lenOf p.ones r.1
def headLP (hi : Bool) (m : PlanM) (p : List Int × Nat) : List Int × Nat := putP hi (putP hi (putP hi p ((m.l.length : Int) - 257) 5) ((m.d.length : Int) - 1) 5) ((wrN m.ones 19 : Int) - 4) 4
def lensP (hi : Bool) (m : PlanM) (p : List Int × Nat) : List Int × Nat := runsP hi m.ones (onesP hi m.ones (headLP hi m p) (orderL.take (wrN m.ones 19))) m.runs
theorem penLengths_spec {bp : Nat} {vw : Value} {FW FB F1 F2 F3 F4 : Frag} {hi : Bool} {p : List Int × Nat} {v : Value} {m : PlanM} (hp : PlanR F1 F2 F3 F4 v m) (hk : PlanOk m) (h0 : Wr hi p.1 p.2 vw FW FB) (hn : p.2 ≤ 700000000000000) :
    Ctr Try.prog 40 [penV bp, v] [F1, F2, F3, F4] [penF bp vw .nilIface, FW, FB]
      (fun _ M' => ∃ FW' FB', M' = [penF bp vw .nilIface, FW', FB'] ∧ Wr hi (lensP hi m p).1 (lensP hi m p).2 vw FW' FB') := by
  obtain ⟨vl, vd, vr, vo, rfl, hvl, hvd, hvr, hvo⟩ := hp.at_
  have hwr := wrN_bd m.ones 19
  have hkl := hk.l
  have hkd := hk.d
  have hko := hk.ones
  obtain ⟨pl, cl, rfl⟩ := hvl.len
  obtain ⟨pd, cd, rfl⟩ := hvd.len
  obtain ⟨pr, cr, rfl⟩ := hvr.len
  obtain ⟨po, co, rfl⟩ := hvo.len
  refine Ctr.intro Try.func40 (by kernel_rfl) rfl (by conv => lhs; whnf) rfl fun W => ?_
  unfold planV
  apply Wpc.seqK; intro K hK
  apply Wpc.region
  refine Wpl.boxA rfl rfl (fun bx => ?_)
  repeat' (first | (apply Wpc.seqK; intro K hK) | apply Wpc.region | apply Wpl.nil | (apply hK; clear hK K) | (apply Wpl.mv; exact rfl; (conv => lhs; whnf)) | (apply Wpl.fldS; exact rfl; exact rfl; exact rfl; exact rfl) | (apply Wpl.ld0x0; exact rfl; exact rfl; exact rfl; exact rfl) | (apply Wpl.sub; exact rfl; exact rfl; exact rfl; omega) | (apply Wpl.len; exact rfl; exact rfl))
  refine Wpl.callM rfl rfl rfl (penPut_P (c := 5) ((m.l.length : Int) - 257) h0 (by omega) (by omega) (by omega)) (Pk.cons 1 rfl (Pk.cons 1 rfl (Pk.cons 1 rfl (Pk.nil _)))) HasF.nil ?_
  rintro _ _ ⟨FW1, FB1, rfl, h1⟩
  have hn1 : (putP hi p ((m.l.length : Int) - 257) 5).2 = p.2 + 5 := rfl
  repeat' (first | (apply Wpc.seqK; intro K hK) | apply Wpc.region | apply Wpl.nil | (apply hK; clear hK K) | (apply Wpl.mv; exact rfl; (conv => lhs; whnf)) | (apply Wpl.fldS; exact rfl; exact rfl; exact rfl; exact rfl) | (apply Wpl.ld3x0; exact rfl; exact rfl; exact rfl; exact rfl) | (apply Wpl.sub; exact rfl; exact rfl; exact rfl; omega) | (apply Wpl.len; exact rfl; exact rfl))
  refine Wpl.callM rfl rfl rfl (penPut_P (c := 5) ((m.d.length : Int) - 1) h1 (by omega) (by omega) (by omega)) (Pk.cons 0 rfl (Pk.cons 0 rfl (Pk.cons 0 rfl (Pk.nil _)))) HasF.nil ?_
  rintro _ _ ⟨FW2, FB2, rfl, h2⟩
  have hn2 : (putP hi (putP hi p ((m.l.length : Int) - 257) 5) ((m.d.length : Int) - 1) 5).2 = p.2 + 10 := rfl
  repeat' (first | (apply Wpc.seqK; intro K hK) | apply Wpc.region | apply Wpl.nil | (apply hK; clear hK K) | (apply Wpl.mv; exact rfl; (conv => lhs; whnf)))
  refine Wpl.ldAgg 3 0 (cs := [.slice pl m.l.length cl, .slice pd m.d.length cd, .slice pr m.runs.length cr, .slice po m.ones.length co, .int .i64 m.head]) rfl rfl rfl rfl rfl ?_
  have hwritten := written_spec F4 (.slice pl m.l.length cl) (.slice pd m.d.length cd) (.slice pr m.runs.length cr) (.slice po m.ones.length co) m.head m.ones hvo hko
  refine Wpl.callM rfl rfl rfl hwritten (Pk.nil _) (HasF.cons (HasF.r 3 rfl) HasF.nil) ?_
  rintro _ _ ⟨rfl, rfl⟩
  repeat' (apply Wpl.sub; exact rfl; exact rfl; exact rfl; omega)
  refine Wpl.callM rfl rfl rfl (penPut_P (c := 4) ((wrN m.ones 19 : Int) - 4) h2 (by omega) (by omega) (by omega)) (Pk.cons 0 rfl (Pk.cons 0 rfl (Pk.cons 0 rfl (Pk.nil _)))) HasF.nil ?_
  rintro _ _ ⟨FW3, FB3, rfl, h3⟩
  have hn3 : (headLP hi m p).2 = p.2 + 14 := rfl
  have h3 : Wr hi (headLP hi m p).1 (headLP hi m p).2 vw FW3 FB3 := h3
  repeat' (first | (apply Wpc.seqK; intro K hK) | apply Wpl.nil | (apply hK; clear hK K))
  refine Wpc.region_heldS 6 (by kernel_rfl) rfl rfl ?_
  refine Wph.take 1 rfl (by kernel_rfl) rfl (fun _ _ _ _ h => h) (fun _ h => h) (by first | exact Sel.refl _ | exact Sel.tail _ _ | exact Sel.nil _ | exact (Sel.tail _ _).trans (Sel.tail _ _) | exact (Sel.tail _ _).trans ((Sel.tail _ _).trans (Sel.tail _ _))) ?_
  refine Wpl.ldAgg 3 0 (cs := [.slice pl m.l.length cl, .slice pd m.d.length cd, .slice pr m.runs.length cr, .slice po m.ones.length co, .int .i64 m.head]) rfl rfl rfl rfl rfl ?_
  repeat' (apply Wpl.nil)
  (refine Wph.take 5 rfl (by kernel_rfl) rfl (fun _ _ _ _ h => h) (fun _ h => h) (by first | exact Sel.refl _ | exact Sel.tail _ _ | exact Sel.nil _ | exact (Sel.tail _ _).trans (Sel.tail _ _) | exact (Sel.tail _ _).trans ((Sel.tail _ _).trans (Sel.tail _ _))) ?_; (repeat' (first | apply Wpl.nil | (apply Wpl.mv; exact rfl; (conv => lhs; whnf))))); skip
  refine Wph.one 0 (by kernel_rfl) rfl rfl ?_
  refine Wpl.callM rfl rfl rfl order_spec (Pk.nil _) HasF.nil ?_
  rintro vq _ ⟨FO, rfl, hO⟩
  have hOr := hO.row
  refine Wpl.nil ⟨fun _ h => h, Sel.tail _ _, ?_⟩
  refine Wph.one 2 (by kernel_rfl) rfl rfl ?_
  refine Wpl.callM rfl rfl rfl hwritten (Pk.nil _) (HasF.cons (HasF.r 3 rfl) HasF.nil) ?_
  rintro _ _ ⟨rfl, rfl⟩
  refine Wpl.nil ⟨fun _ h => h, Sel.tail _ _, ?_⟩
  refine Wph.one 3 (by kernel_rfl) rfl rfl ?_
  refine Wpl.sliceR (hn := wrN m.ones 19) rfl rfl rfl hOr rfl (by omega) (fun aq cq hq => ?_)
  refine Wpl.nil ⟨fun _ h => h, Sel.tail _ _, ?_⟩
  have hq2 : Row FO 1 (.slice aq (wrN m.ones 19) cq) (wrN m.ones 19) (ints .i64 (orderL.take (wrN m.ones 19))) := by
    rw [Nat.mul_one] at hq
    simpa [ints, List.map_take] using hq
  clear hq
  refine Wph.one 4 (by kernel_rfl) rfl rfl ?_
  repeat' (first | apply Wpl.nil | (apply Wpl.len; exact rfl; exact rfl))
  refine ⟨fun _ h => h, Sel.tail _ _, ?_⟩
  refine Wph.done (by kernel_rfl) ?_
  have hql : (orderL.take (wrN m.ones 19)).length = wrN m.ones 19 := by rw [List.length_take, orderL_len]; omega
  have hqb : ∀ x ∈ orderL.take (wrN m.ones 19), 0 ≤ x ∧ x < 19 := fun x hx => orderL_bd x (List.mem_of_mem_take hx)
  have hfin : lensP hi m p = runsP hi m.ones (onesP hi m.ones (headLP hi m p) (orderL.take (wrN m.ones 19))) m.runs := rfl
  generalize hOL : orderL.take (wrN m.ones 19) = OL at *
  generalize hwn : wrN m.ones 19 = wn at *
  generalize headLP hi m p = q3 at *
  repeat' (apply hK; clear hK K)
  refine Wpc.block ?_
  refine Wpc.loop (ι := Nat × Frag × Frag) (fun i => i.1 ≤ wn ∧ Wr hi (onesP hi m.ones q3 (OL.take i.1)).1 (onesP hi m.ones q3 (OL.take i.1)).2 vw i.2.1 i.2.2)
    (fun i => [(0, penV bp), (3, .pointer (some ⟨bx, 0, none⟩)), (31, .slice aq wn cq), (32, .int .i64 wn), (33, .int .i64 i.1)])
    (fun i => [penF bp vw .nilIface, i.2.1, i.2.2, [(bx, .cells #[.slice pl m.l.length cl, .slice pd m.d.length cd, .slice pr m.runs.length cr, .slice po m.ones.length co, .int .i64 m.head] 89 (0, 0))], FO]) (fun i => wn - i.1) (0, FW3, FB3)
    ⟨Nat.zero_le _, h3⟩ ⟨rfl, rfl, rfl, rfl, rfl, trivial⟩ (Sel.cons 1 rfl (Sel.cons 1 rfl (Sel.cons 1 rfl (Sel.cons 1 rfl (Sel.cons 0 rfl (Sel.nil _)))))) ?_
  rintro ⟨k, FW', FB'⟩ g ⟨hk1, h'⟩
  dsimp only at hk1 h' ⊢
  have hon := onesP_n hi m.ones (OL.take k) q3
  have hkl2 : (OL.take k).length ≤ k := List.length_take_le _ _
  repeat' (first | (apply Wpc.seqK; intro K hK) | apply Wpc.region | apply Wpl.nil | (apply hK; clear hK K) | (apply Wpl.mv; exact rfl; (conv => lhs; whnf)) | (apply Wpc.cond_true; exact rfl) | (apply Wpc.cond_false; exact rfl) | apply Wpc.skip | apply Wpc.exit | (apply Wpl.fldS; exact rfl; exact rfl; exact rfl; exact rfl) | (apply Wpl.ld3x0; exact rfl; exact rfl; exact rfl; exact rfl) | (apply Wpl.lss; exact rfl; exact rfl; exact rfl; all_goals (intro h; try (exfalso; omega))) | ((conv => whnf); clear hK K; apply hK; clear hK K))
  · have hkw : k < wn := by omega
    have hsb := hqb _ (List.getElem_mem (show k < OL.length by omega))
    have htk := take_snoc OL k (by omega)
    refine Wpc.block ?_
    repeat' (first | (apply Wpc.seqK; intro K hK) | apply Wpc.region | apply Wpl.nil | (apply hK; clear hK K) | (apply Wpl.mv; exact rfl; (conv => lhs; whnf)) | (apply Wpl.asg; exact rfl; (conv => lhs; whnf)) | (apply Wpl.fldS; exact rfl; exact rfl; exact rfl; exact rfl) | (apply Wpl.ld3x0; exact rfl; exact rfl; exact rfl; exact rfl) | (apply Wpl.idxN; exact rfl; exact rfl; exact rfl; exact rfl; assumption; (exact HasF.m 4 rfl); omega; intro _ _) | (apply Wpl.idx; exact rfl; exact rfl; exact rfl; exact rfl; assumption; (exact HasF.r 3 rfl); omega; omega; intro _ _))
    generalize OL[k]'(by omega) = sk at *
    have hsn : sk.toNat < m.ones.length := by omega
    have hlo : lenOf m.ones sk = m.ones[sk.toNat]'hsn := getD_get hsn
    have hob := hk.ob _ (List.getElem_mem hsn)
    generalize m.ones[sk.toNat]'hsn = ov at *
    refine Wpl.callM rfl rfl rfl (penPut_P (c := 3) ov h' (by omega) (by omega) (by omega)) (Pk.cons 0 rfl (Pk.cons 0 rfl (Pk.cons 0 rfl (Pk.nil _)))) HasF.nil ?_
    rintro _ _ ⟨FW4, FB4, rfl, h4⟩
    repeat' (first | apply Wpc.region | apply Wpl.nil | (apply hK; clear hK K) | (apply Wpl.mv; exact rfl; (conv => lhs; whnf)) | (apply Wpl.add; exact rfl; exact rfl; exact rfl; omega))
    exact ⟨(k + 1, FW4, FB4), ⟨by omega, by show Wr hi (onesP hi m.ones q3 (OL.take (k + 1))).1 (onesP hi m.ones q3 (OL.take (k + 1))).2 vw FW4 FB4; rw [htk, onesP_snoc, hlo]; exact h4⟩, by show wn - (k + 1) < wn - k; omega, ⟨rfl, rfl, rfl, rfl, rfl, trivial⟩, Sel.refl _, fun _ h => h⟩
  · have hkw : k = wn := by omega
    subst hkw
    rw [List.take_of_length_le (Nat.le_of_eq hql)] at h'
    rw [List.take_of_length_le (Nat.le_of_eq hql)] at hon
    generalize onesP hi m.ones q3 OL = q4 at *
    have hrl := hk.rl
    skip
    refine Wpl.callM rfl rfl rfl (penBook_spec F4 _ m.ones hvo hk.ok (Wr_one h')) (Pk.cons 0 rfl (Pk.nil _)) (HasF.cons (HasF.r 3 rfl) HasF.nil) ?_
    rintro _ _ ⟨bk, FK, FL, FC, rfl, rfl, hbk⟩
    refine Wpl.sel (Sel.cons 0 rfl (Sel.cons 3 rfl (Sel.cons 3 rfl (Sel.cons 3 rfl (Sel.cons 0 rfl (Sel.cons 0 rfl (Sel.cons 0 rfl (Sel.nil _)))))))) ?_
    repeat' (first | (apply Wpc.seqK; intro K hK) | apply Wpc.region | apply Wpl.nil | (apply hK; clear hK K) | (apply Wpl.mv; exact rfl; (conv => lhs; whnf)) | (apply Wpl.asg; exact rfl; (conv => lhs; whnf)) | (apply Wpl.fldS; exact rfl; exact rfl; exact rfl; exact rfl) | (apply Wpl.ld3x0; exact rfl; exact rfl; exact rfl; exact rfl) | (apply Wpl.len; exact rfl; exact rfl))
    refine Wpc.block ?_
    refine Wpc.loop (ι := Nat × Frag × Frag) (fun i => i.1 ≤ m.runs.length ∧ Wr hi (runsP hi m.ones q4 (m.runs.take i.1)).1 (runsP hi m.ones q4 (m.runs.take i.1)).2 vw i.2.1 i.2.2)
      (fun i => [(0, penV bp), (6, bookV bk), (50, .slice pr m.runs.length cr), (51, .int .i64 m.runs.length), (52, .int .i64 i.1)])
      (fun i => [penF bp vw .nilIface, i.2.1, i.2.2, FK, FL, FC]) (fun i => m.runs.length - i.1) (0, FW', FB')
      ⟨Nat.zero_le _, h'⟩ ⟨rfl, rfl, rfl, rfl, rfl, trivial⟩ (Sel.cons 0 rfl (Sel.cons 0 rfl (Sel.cons 0 rfl (Sel.cons 1 rfl (Sel.cons 1 rfl (Sel.cons 1 rfl (Sel.nil _))))))) ?_
    rintro ⟨j, FW5, FB5⟩ g ⟨hj1, h5⟩
    dsimp only at hj1 h5 ⊢
    have hrn := runsP_n hi m.ones (fun x hx => by have := hk.ob x hx; omega) (m.runs.take j) q4
    have hjl2 : (m.runs.take j).length ≤ j := List.length_take_le _ _
    repeat' (first | (apply Wpc.seqK; intro K hK) | apply Wpc.region | apply Wpl.nil | (apply hK; clear hK K) | (apply Wpc.cond_true; exact rfl) | (apply Wpc.cond_false; exact rfl) | apply Wpc.skip | apply Wpc.exit | (apply Wpl.lss; exact rfl; exact rfl; exact rfl; all_goals (intro h; try (exfalso; omega))))
    · have hjr : j < m.runs.length := by omega
      have hrk := hk.runs _ (List.getElem_mem hjr)
      have htk := take_snoc m.runs j hjr
      have hrs := runsP_snoc hi m.ones q4 (m.runs.take j) (m.runs[j]'hjr)
      rw [← htk] at hrs
      refine Wpc.block ?_
      repeat' (first | (apply Wpc.seqK; intro K hK) | apply Wpc.region)
      refine Wpl.idxAgg (g := tokC) rfl rfl rfl rfl hvr tokC_len (HasF.r 2 rfl) (by omega) (by omega) (by decide) (fun _ _ => ?_)
      have e : (j : Int).toNat = j := rfl
      simp only [e]
      generalize m.runs[j]'hjr = rk at *
      obtain ⟨sk, xk⟩ := rk
      dsimp only at hrk hrs
      have hrb := reachM_bd sk
      have hsn := symP_n hi m.ones (runsP hi m.ones q4 (m.runs.take j)) sk
      have hlb : lenOf m.ones sk ≤ 7 := by
        unfold lenOf
        cases hg : m.ones[sk.toNat]? with
        | none => simp
        | some y => exact (hk.ob y (List.mem_of_getElem? hg)).2
      refine Wpl.new rfl (fun b => ?_)
      refine Wpl.stAgg 0 0 (cs := #[.int .i64 sk, .int .i64 xk]) rfl rfl rfl rfl rfl (one_cons rfl (one_cons rfl one_nil)) rfl ?_
      repeat' (first | (apply Wpl.callP; exact rfl; exact rfl; exact rfl; exact rfl; (exact reach_spec _); (exact HasF.nil)) | (apply Wpc.seqK; intro K hK) | apply Wpc.region | apply Wpl.nil | (apply hK; clear hK K) | (apply Wpl.mv; exact rfl; (conv => lhs; whnf)) | (apply Wpl.asg; exact rfl; (conv => lhs; whnf)) | (apply Wpl.extract; exact rfl; exact rfl; exact rfl) | (apply Wpl.fldS; exact rfl; exact rfl; exact rfl; exact rfl) | (apply Wpl.ld0x0; exact rfl; exact rfl; exact rfl; exact rfl))
      refine Wpl.callM rfl rfl rfl (symbol_P (bp := bp) hbk hk.ok h5 (by omega) sk (by omega) hrk.2.2.2.2) (Pk.cons 1 rfl (Pk.cons 1 rfl (Pk.cons 1 rfl (Pk.nil _)))) (HasF.cons (HasF.m 1 rfl) (HasF.cons (HasF.m 2 rfl) (HasF.cons (HasF.m 3 rfl) HasF.nil))) ?_
      rintro _ _ ⟨FW6, FB6, rfl, h6⟩
      repeat' (first | apply Wpc.region | apply Wpl.nil | (apply hK; clear hK K) | (apply Wpl.mv; exact rfl; (conv => lhs; whnf)) | (apply Wpl.fldS; exact rfl; exact rfl; exact rfl; exact rfl) | (apply Wpl.ld3x0; exact rfl; exact rfl; exact rfl; exact rfl))
      have hcc : (((reachM sk).2.toNat : Nat) : Int) = (reachM sk).2 := by omega
      refine Wpl.callM rfl rfl (congrArg (fun z => [penV bp, .int .i64 xk, .int .i64 z]) hcc.symm) (penPut_P (c := (reachM sk).2.toNat) xk h6 (by omega) (by omega) ⟨hrk.2.2.1, hrk.2.2.2.1⟩) (Pk.cons 0 rfl (Pk.cons 0 rfl (Pk.cons 0 rfl (Pk.nil _)))) HasF.nil ?_
      rintro _ _ ⟨FW7, FB7, rfl, h7⟩
      repeat' (first | apply Wpc.region | apply Wpl.nil | (apply hK; clear hK K) | (apply Wpl.mv; exact rfl; (conv => lhs; whnf)) | (apply Wpl.add; exact rfl; exact rfl; exact rfl; omega))
      exact ⟨(j + 1, FW7, FB7), ⟨by omega, by show Wr hi (runsP hi m.ones q4 (m.runs.take (j + 1))).1 (runsP hi m.ones q4 (m.runs.take (j + 1))).2 vw FW7 FB7; rw [hrs]; exact h7⟩, by show m.runs.length - (j + 1) < m.runs.length - j; omega, ⟨rfl, rfl, rfl, rfl, rfl, trivial⟩, Sel.cons 0 rfl (Sel.cons 0 rfl (Sel.cons 0 rfl (Sel.tail _ _))), fun _ h => h⟩
    · have hjr : j = m.runs.length := by omega
      subst hjr
      rw [List.take_length] at h5
      exact ⟨[], _, trivial, Sel.cons 0 rfl (Sel.cons 0 rfl (Sel.cons 0 rfl (Sel.nil _))), fun _ h => h, FW5, FB5, rfl, by rw [hfin]; exact h5⟩
end Go.Proofs.Ytmfcgffdijnokaa
set_option maxRecDepth 100000
set_option maxHeartbeats 4000000
namespace Go.Proofs.Ytmfcgffdijnokaa
open Go.SL Go.RowKit
attribute [local irreducible] Wpl Wpc Wph
/-! pen.tokens -/
def lenNext (k : Nat) : Int := if k < 28 then (lenBase (257 + ((k + 1 : Nat) : Int))).1 else 259
def distNext (k : Nat) : Int := if k < 29 then (distBase ((k + 1 : Nat) : Int)).1 else 32769
theorem lenTab : ∀ k : Fin 29, lenNext k.1 ≤ (lenBase (257 + ((k.1 : Nat) : Int))).1 + 2 ^ (lenBase (257 + ((k.1 : Nat) : Int))).2.1.toNat ∧ 0 ≤ (lenBase (257 + ((k.1 : Nat) : Int))).2.1 ∧ (lenBase (257 + ((k.1 : Nat) : Int))).2.1 ≤ 5 := by decide +kernel
theorem distTab : ∀ k : Fin 30, distNext k.1 ≤ (distBase ((k.1 : Nat) : Int)).1 + 2 ^ (distBase ((k.1 : Nat) : Int)).2.1.toNat ∧ 0 ≤ (distBase ((k.1 : Nat) : Int)).2.1 ∧ (distBase ((k.1 : Nat) : Int)).2.1 ≤ 13 := by decide +kernel
theorem lenSym_fit {n : Int} (h : 3 ≤ n ∧ n ≤ 258) : (lenBase (lenSym n)).1 ≤ n ∧ n < (lenBase (lenSym n)).1 + 2 ^ (lenBase (lenSym n)).2.1.toNat ∧ 0 ≤ (lenBase (lenSym n)).2.1 ∧ (lenBase (lenSym n)).2.1 ≤ 5 := by
  have key : ∀ k : Nat, k ≤ 28 → n < lenNext k → (lenBase (lenSymA k n)).1 ≤ n ∧ n < (lenBase (lenSymA k n)).1 + 2 ^ (lenBase (lenSymA k n)).2.1.toNat ∧ 0 ≤ (lenBase (lenSymA k n)).2.1 ∧ (lenBase (lenSymA k n)).2.1 ≤ 5 := by
    intro k
    induction k with
    | zero =>
      intro _ hn
      have ht := lenTab ⟨0, by omega⟩
      have e : lenSymA 0 n = 257 + ((0 : Nat) : Int) := rfl
      rw [e]
      have hb : (lenBase (257 + ((0 : Nat) : Int))).1 = 3 := by decide
      dsimp only at ht
      omega
    | succ k ih =>
      intro hk hn
      have ht := lenTab ⟨k + 1, by omega⟩
      dsimp only at ht
      unfold lenSymA
      split
      · rename_i hb
        exact ⟨hb, by omega, ht.2⟩
      · rename_i hb
        refine ih (by omega) ?_
        rw [lenNext, if_pos (by omega)]
        omega
  exact key 28 (by omega) (by show n < 259; omega)
theorem distSym_fit {n : Int} (h : 1 ≤ n ∧ n ≤ 32768) : (distBase (distSym n)).1 ≤ n ∧ n < (distBase (distSym n)).1 + 2 ^ (distBase (distSym n)).2.1.toNat ∧ 0 ≤ (distBase (distSym n)).2.1 ∧ (distBase (distSym n)).2.1 ≤ 13 := by
  have key : ∀ k : Nat, k ≤ 29 → n < distNext k → (distBase (distSymA k n)).1 ≤ n ∧ n < (distBase (distSymA k n)).1 + 2 ^ (distBase (distSymA k n)).2.1.toNat ∧ 0 ≤ (distBase (distSymA k n)).2.1 ∧ (distBase (distSymA k n)).2.1 ≤ 13 := by
    intro k
    induction k with
    | zero =>
      intro _ hn
      have ht := distTab ⟨0, by omega⟩
      have e : distSymA 0 n = ((0 : Nat) : Int) := rfl
      rw [e]
      have hb : (distBase ((0 : Nat) : Int)).1 = 1 := by decide
      dsimp only at ht
      omega
    | succ k ih =>
      intro hk hn
      have ht := distTab ⟨k + 1, by omega⟩
      dsimp only at ht
      unfold distSymA
      split
      · rename_i hb
        exact ⟨hb, by omega, ht.2⟩
      · rename_i hb
        refine ih (by omega) ?_
        rw [distNext, if_pos (by omega)]
        omega
  exact key 29 (by omega) (by show n < 32769; omega)
def tokP (hi : Bool) (m : PlanM) (p : List Int × Nat) (t : Int × Int) : List Int × Nat :=
  if t.1 = 0 then symP hi m.l p t.2
  else putP hi (symP hi m.d (putP hi (symP hi m.l p (lenSym t.1)) (t.1 - (lenBase (lenSym t.1)).1) (lenBase (lenSym t.1)).2.1.toNat) (distSym t.2)) (t.2 - (distBase (distSym t.2)).1) (distBase (distSym t.2)).2.1.toNat
def toksP (hi : Bool) (m : PlanM) (p : List Int × Nat) (ts : List (Int × Int)) : List Int × Nat := ts.foldl (tokP hi m) p
theorem toksP_snoc (hi : Bool) (m : PlanM) (p : List Int × Nat) (ts : List (Int × Int)) (t : Int × Int) : toksP hi m p (ts ++ [t]) = tokP hi m (toksP hi m p ts) t := by simp [toksP]
/-- a token that a plan has symbols for -/
def TokW (m : PlanM) (t : Int × Int) : Prop :=
  (t.1 = 0 → 0 ≤ t.2 ∧ t.2 < m.l.length ∧ 0 < lenOf m.l t.2) ∧
  (t.1 ≠ 0 → (3 ≤ t.1 ∧ t.1 ≤ 258) ∧ (1 ≤ t.2 ∧ t.2 ≤ 32768) ∧ lenSym t.1 < m.l.length ∧ 0 < lenOf m.l (lenSym t.1) ∧ distSym t.2 < m.d.length ∧ 0 < lenOf m.d (distSym t.2))
theorem lenOf_le {l : List Int} {B : Int} (h0 : 0 ≤ B) (h : ∀ x ∈ l, 0 ≤ x ∧ x ≤ B) (s : Int) : 0 ≤ lenOf l s ∧ lenOf l s ≤ B := by
  unfold lenOf
  cases hg : l[s.toNat]? with
  | none => simp; exact h0
  | some y => exact h y (List.mem_of_getElem? hg)
theorem tokP_n {hi : Bool} {m : PlanM} {t : Int × Int} {p : List Int × Nat} (hl : ∀ x ∈ m.l, 0 ≤ x ∧ x ≤ 16) (hd : ∀ x ∈ m.d, 0 ≤ x ∧ x ≤ 16) (ht : TokW m t) : (tokP hi m p t).2 ≤ p.2 + 50 := by
  unfold tokP
  split
  · have := symP_n hi m.l p t.2
    have := lenOf_le (by decide) hl t.2
    omega
  · rename_i hne
    obtain ⟨h1, h2, _⟩ := ht.2 hne
    have a1 := symP_n hi m.l p (lenSym t.1)
    have a2 := lenOf_le (by decide) hl (lenSym t.1)
    have a3 := lenSym_fit h1
    have a4 := distSym_fit h2
    have a5 := symP_n hi m.d (putP hi (symP hi m.l p (lenSym t.1)) (t.1 - (lenBase (lenSym t.1)).1) (lenBase (lenSym t.1)).2.1.toNat) (distSym t.2)
    have a6 := lenOf_le (by decide) hd (distSym t.2)
    have a7 : (putP hi (symP hi m.l p (lenSym t.1)) (t.1 - (lenBase (lenSym t.1)).1) (lenBase (lenSym t.1)).2.1.toNat).2 = (symP hi m.l p (lenSym t.1)).2 + (lenBase (lenSym t.1)).2.1.toNat := rfl
    show (symP hi m.d (putP hi (symP hi m.l p (lenSym t.1)) (t.1 - (lenBase (lenSym t.1)).1) (lenBase (lenSym t.1)).2.1.toNat) (distSym t.2)).2 + (distBase (distSym t.2)).2.1.toNat ≤ _
    omega
theorem toksP_n {hi : Bool} {m : PlanM} (hl : ∀ x ∈ m.l, 0 ≤ x ∧ x ≤ 16) (hd : ∀ x ∈ m.d, 0 ≤ x ∧ x ≤ 16) : ∀ (ts : List (Int × Int)) (p : List Int × Nat), (∀ t ∈ ts, TokW m t) → (toksP hi m p ts).2 ≤ p.2 + 50 * ts.length
  | [], p, _ => Nat.le_refl _
  | t :: ts, p, h => by
    have ih := toksP_n (hi := hi) hl hd ts (tokP hi m p t) (fun u hu => h u (List.mem_cons_of_mem _ hu))
    have := tokP_n (hi := hi) (p := p) hl hd (h t List.mem_cons_self)
    show (toksP hi m (tokP hi m p t) ts).2 ≤ _
    rw [List.length_cons]
    omega
theorem penTokens_spec {bp : Nat} {vw vt : Value} {FW FB F1 F2 F3 F4 Ft : Frag} {hi : Bool} {p : List Int × Nat} {v : Value} {m : PlanM} {ts : List (Int × Int)} (hp : PlanR F1 F2 F3 F4 v m) (hkl : BookOk m.l) (hkd : BookOk m.d) (h256 : 256 < m.l.length ∧ 0 < lenOf m.l 256)
    (ht : Row Ft 2 vt ts.length (flat tokC ts)) (htw : ∀ t ∈ ts, TokW m t) (htl : ts.length ≤ 1000000000) (h0 : Wr hi p.1 p.2 vw FW FB) (hn : p.2 ≤ 600000000000000) :
    Ctr Try.prog 41 [penV bp, v, vt] [F1, F2, Ft] [penF bp vw .nilIface, FW, FB]
      (fun _ M' => ∃ FW' FB', M' = [penF bp vw .nilIface, FW', FB'] ∧ Wr hi (symP hi m.l (toksP hi m p ts) 256).1 (symP hi m.l (toksP hi m p ts) 256).2 vw FW' FB') := by
  obtain ⟨vl, vd, vr, vo, rfl, hvl, hvd, hvr, hvo⟩ := hp.at_
  obtain ⟨pl, cl, rfl⟩ := hvl.len
  obtain ⟨pd, cd, rfl⟩ := hvd.len
  obtain ⟨pr, cr, rfl⟩ := hvr.len
  obtain ⟨po, co, rfl⟩ := hvo.len
  obtain ⟨pt, ct, rfl⟩ := ht.len
  refine Ctr.intro Try.func41 (by kernel_rfl) rfl (by conv => lhs; whnf) rfl fun W => ?_
  unfold planV
  apply Wpc.seqK; intro K hK
  apply Wpc.region
  refine Wpl.boxA rfl rfl (fun bx => ?_)
  repeat' (first | (apply Wpc.seqK; intro K hK) | apply Wpl.nil | (apply hK; clear hK K))
  refine Wpc.region_heldS 10 (by kernel_rfl) rfl rfl ?_
  (refine Wph.take 0 rfl (by kernel_rfl) rfl (fun _ _ _ _ h => h) (fun _ h => h) (by first | exact Sel.refl _ | exact Sel.tail _ _ | exact Sel.nil _ | exact (Sel.tail _ _).trans (Sel.tail _ _) | exact (Sel.tail _ _).trans ((Sel.tail _ _).trans (Sel.tail _ _))) ?_; (repeat' (first | apply Wpl.nil | (apply Wpl.mv; exact rfl; (conv => lhs; whnf))))); (refine Wph.take 1 rfl (by kernel_rfl) rfl (fun _ _ _ _ h => h) (fun _ h => h) (by first | exact Sel.refl _ | exact Sel.tail _ _ | exact Sel.nil _ | exact (Sel.tail _ _).trans (Sel.tail _ _) | exact (Sel.tail _ _).trans ((Sel.tail _ _).trans (Sel.tail _ _))) ?_; (repeat' (first | apply Wpl.nil | (apply Wpl.fldS; exact rfl; exact rfl; exact rfl; exact rfl)))); (refine Wph.take 2 rfl (by kernel_rfl) rfl (fun _ _ _ _ h => h) (fun _ h => h) (by first | exact Sel.refl _ | exact Sel.tail _ _ | exact Sel.nil _ | exact (Sel.tail _ _).trans (Sel.tail _ _) | exact (Sel.tail _ _).trans ((Sel.tail _ _).trans (Sel.tail _ _))) ?_; (repeat' (first | apply Wpl.nil | (apply Wpl.ld0x0; exact rfl; exact rfl; exact rfl; exact rfl)))); (refine Wph.take 4 rfl (by kernel_rfl) rfl (fun _ _ _ _ h => h) (fun _ h => h) (by first | exact Sel.refl _ | exact Sel.tail _ _ | exact Sel.nil _ | exact (Sel.tail _ _).trans (Sel.tail _ _) | exact (Sel.tail _ _).trans ((Sel.tail _ _).trans (Sel.tail _ _))) ?_; (repeat' (first | apply Wpl.nil | (apply Wpl.mv; exact rfl; (conv => lhs; whnf))))); (refine Wph.take 5 rfl (by kernel_rfl) rfl (fun _ _ _ _ h => h) (fun _ h => h) (by first | exact Sel.refl _ | exact Sel.tail _ _ | exact Sel.nil _ | exact (Sel.tail _ _).trans (Sel.tail _ _) | exact (Sel.tail _ _).trans ((Sel.tail _ _).trans (Sel.tail _ _))) ?_; (repeat' (first | apply Wpl.nil | (apply Wpl.fldS; exact rfl; exact rfl; exact rfl; exact rfl)))); (refine Wph.take 6 rfl (by kernel_rfl) rfl (fun _ _ _ _ h => h) (fun _ h => h) (by first | exact Sel.refl _ | exact Sel.tail _ _ | exact Sel.nil _ | exact (Sel.tail _ _).trans (Sel.tail _ _) | exact (Sel.tail _ _).trans ((Sel.tail _ _).trans (Sel.tail _ _))) ?_; (repeat' (first | apply Wpl.nil | (apply Wpl.ld0x0; exact rfl; exact rfl; exact rfl; exact rfl)))); skip
  refine Wph.one 3 (by kernel_rfl) rfl rfl ?_
  refine Wpl.callM rfl rfl rfl (penBook_spec F1 _ m.l hvl hkl (Wr_one h0)) (Pk.cons 1 rfl (Pk.nil _)) (HasF.cons (HasF.r 0 rfl) HasF.nil) ?_
  rintro _ _ ⟨bl, LK, LL, LC, rfl, rfl, hbl⟩
  refine Wpl.nil ⟨fun _ h => h, Sel.cons 4 rfl (Sel.cons 0 rfl (Sel.cons 3 rfl (Sel.cons 3 rfl (Sel.nil _)))), ?_⟩
  refine Wph.one 7 (by kernel_rfl) rfl rfl ?_
  refine Wpl.callM rfl rfl rfl (penBook_spec F2 _ m.d hvd hkd (Wr_one h0)) (Pk.cons 0 rfl (Pk.nil _)) (HasF.cons (HasF.r 1 rfl) HasF.nil) ?_
  rintro _ _ ⟨bd, DK, DL, DC, rfl, rfl, hbd⟩
  refine Wpl.nil ⟨fun _ h => h, Sel.cons 7 rfl (Sel.cons 0 rfl (Sel.cons 6 rfl (Sel.cons 6 rfl (Sel.nil _)))), ?_⟩
  refine Wph.take 8 rfl (by kernel_rfl) rfl (fun _ _ _ _ h => h) (fun _ h => h) (Sel.cons 7 rfl (Sel.cons 0 rfl (Sel.cons 6 rfl (Sel.cons 6 rfl (Sel.nil _))))) ?_
  repeat' (first | apply Wpl.nil | (apply Wpl.asg; exact rfl; (conv => lhs; whnf)))
  refine Wph.take 9 rfl (by kernel_rfl) rfl (fun _ _ _ _ h => h) (fun _ h => h) (Sel.cons 7 rfl (Sel.cons 0 rfl (Sel.cons 6 rfl (Sel.cons 6 rfl (Sel.nil _))))) ?_
  repeat' (first | apply Wpl.nil | (apply Wpl.asg; exact rfl; (conv => lhs; whnf)))
  refine Wph.done (by kernel_rfl) ?_
  have hbl16 := hkl.bd
  have hbd16 := hkd.bd
  repeat' (first | (apply Wpc.seqK; intro K hK) | apply Wpc.region | apply Wpl.nil | (apply hK; clear hK K) | (apply Wpl.mv; exact rfl; (conv => lhs; whnf)) | (apply Wpl.len; exact rfl; exact rfl))
  refine Wpc.block ?_
  refine Wpc.loop (ι := Nat × Frag × Frag) (fun i => i.1 ≤ ts.length ∧ Wr hi (toksP hi m p (ts.take i.1)).1 (toksP hi m p (ts.take i.1)).2 vw i.2.1 i.2.2)
    (fun i => [(0, penV bp), (6, bookV bl), (7, bookV bd), (23, .slice pt ts.length ct), (24, .int .i64 ts.length), (25, .int .i64 i.1)])
    (fun i => [penF bp vw .nilIface, i.2.1, i.2.2, LK, LL, LC, DK, DL, DC]) (fun i => ts.length - i.1) (0, FW, FB)
    ⟨Nat.zero_le _, h0⟩ ⟨rfl, rfl, rfl, rfl, rfl, rfl, trivial⟩ (Sel.cons 0 rfl (Sel.cons 7 rfl (Sel.cons 7 rfl (Sel.cons 3 rfl (Sel.cons 3 rfl (Sel.cons 3 rfl (Sel.cons 0 rfl (Sel.cons 0 rfl (Sel.cons 0 rfl (Sel.nil _)))))))))) ?_
  rintro ⟨k, FW', FB'⟩ g ⟨hk, h'⟩
  dsimp only at hk h' ⊢
  have hkn := toksP_n (hi := hi) hbl16 hbd16 (ts.take k) p (fun t ht => htw t (List.mem_of_mem_take ht))
  have hkl2 : (ts.take k).length ≤ k := List.length_take_le _ _
  repeat' (first | (apply Wpc.seqK; intro K hK) | apply Wpc.region | apply Wpl.nil | (apply hK; clear hK K) | (apply Wpl.mv; exact rfl; (conv => lhs; whnf)) | (apply Wpc.cond_true; exact rfl) | (apply Wpc.cond_false; exact rfl) | apply Wpc.skip | apply Wpc.exit | (apply Wpl.lss; exact rfl; exact rfl; exact rfl; all_goals (intro h; try (exfalso; omega))) | ((conv => whnf); clear hK K; apply hK; clear hK K))
  · have hkt : k < ts.length := by omega
    have hst := toksP_snoc hi m p (ts.take k) (ts[k]'hkt)
    rw [← take_snoc ts k hkt] at hst
    have htk := htw _ (List.getElem_mem hkt)
    generalize toksP hi m p (ts.take k) = q at *
    refine Wpc.block ?_
    repeat' (first | (apply Wpc.seqK; intro K hK) | apply Wpc.region)
    refine Wpl.idxAgg (g := tokC) rfl rfl rfl rfl ht tokC_len (HasF.r 2 rfl) (by omega) (by omega) (by decide) (fun _ _ => ?_)
    have e : (k : Int).toNat = k := rfl
    simp only [e]
    generalize ts[k]'hkt = tk at *
    obtain ⟨tl, td⟩ := tk
    have htk1 : tl = 0 → 0 ≤ td ∧ td < m.l.length ∧ 0 < lenOf m.l td := htk.1
    have htk2 : tl ≠ 0 → (3 ≤ tl ∧ tl ≤ 258) ∧ (1 ≤ td ∧ td ≤ 32768) ∧ lenSym tl < m.l.length ∧ 0 < lenOf m.l (lenSym tl) ∧ distSym td < m.d.length ∧ 0 < lenOf m.d (distSym td) := htk.2
    refine Wpl.new rfl (fun b => ?_)
    refine Wpl.stAgg 0 0 (cs := #[.int .i64 tl, .int .i64 td]) rfl rfl rfl rfl rfl (one_cons rfl (one_cons rfl one_nil)) rfl ?_
    repeat' (first | (apply Wpc.seqK; intro K hK) | apply Wpc.region | apply Wpl.nil | (apply hK; clear hK K) | (apply Wpl.mv; exact rfl; (conv => lhs; whnf)) | (apply Wpc.cond_true; exact rfl) | (apply Wpc.cond_false; exact rfl) | apply Wpc.skip | (apply Wpl.fldS; exact rfl; exact rfl; exact rfl; exact rfl) | (apply Wpl.ld0x0; exact rfl; exact rfl; exact rfl; exact rfl) | (apply Wpl.eql; exact rfl; exact rfl; exact rfl; all_goals (intro h; try (exfalso; omega))))
    · have h00 : tl = 0 := by assumption
      obtain ⟨a1, a2, a3⟩ := htk1 h00
      have hst2 : toksP hi m p (ts.take (k + 1)) = symP hi m.l q td := by rw [hst, tokP, if_pos h00]
      refine Wpl.callM rfl rfl rfl (symbol_P (bp := bp) hbl hkl h' (by omega) td ⟨a1, a2⟩ a3) (Pk.cons 1 rfl (Pk.cons 1 rfl (Pk.cons 1 rfl (Pk.nil _)))) (HasF.cons (HasF.m 1 rfl) (HasF.cons (HasF.m 2 rfl) (HasF.cons (HasF.m 3 rfl) HasF.nil))) ?_
      rintro _ _ ⟨FW1, FB1, rfl, h1⟩
      repeat' (first | apply Wpc.region | apply Wpl.nil | (apply hK; clear hK K) | (apply Wpl.mv; exact rfl; (conv => lhs; whnf)) | apply Wpc.exit | (apply Wpl.add; exact rfl; exact rfl; exact rfl; omega) | ((conv => whnf); clear hK K; apply hK; clear hK K))
      exact ⟨(k + 1, FW1, FB1), ⟨by omega, by show Wr hi (toksP hi m p (ts.take (k + 1))).1 (toksP hi m p (ts.take (k + 1))).2 vw FW1 FB1; rw [hst2]; exact h1⟩, by show ts.length - (k + 1) < ts.length - k; omega, ⟨rfl, rfl, rfl, rfl, rfl, rfl, trivial⟩, Sel.cons 0 rfl (Sel.cons 0 rfl (Sel.cons 0 rfl (Sel.tail _ _))), fun _ h => h⟩
    · have h00 : tl ≠ 0 := by assumption
      obtain ⟨a1, a2, a3, a4, a5, a6⟩ := htk2 h00
      have hst2 : toksP hi m p (ts.take (k + 1)) = putP hi (symP hi m.d (putP hi (symP hi m.l q (lenSym tl)) (tl - (lenBase (lenSym tl)).1) (lenBase (lenSym tl)).2.1.toNat) (distSym td)) (td - (distBase (distSym td)).1) (distBase (distSym td)).2.1.toNat := by rw [hst, tokP, if_neg h00]
      have b1 := lenSym_fit a1
      have b2 := distSym_fit a2
      have b3 := lenSym_bd tl
      have b4 := distSym_bd td
      have b5 := symP_n hi m.l q (lenSym tl)
      have b6 := lenOf_le (by decide) hbl16 (lenSym tl)
      have b7 := symP_n hi m.d (putP hi (symP hi m.l q (lenSym tl)) (tl - (lenBase (lenSym tl)).1) (lenBase (lenSym tl)).2.1.toNat) (distSym td)
      have b8 := lenOf_le (by decide) hbd16 (distSym td)
      have b9 : (putP hi (symP hi m.l q (lenSym tl)) (tl - (lenBase (lenSym tl)).1) (lenBase (lenSym tl)).2.1.toNat).2 = (symP hi m.l q (lenSym tl)).2 + (lenBase (lenSym tl)).2.1.toNat := rfl
      have c1 : (((lenBase (lenSym tl)).2.1.toNat : Nat) : Int) = (lenBase (lenSym tl)).2.1 := by omega
      have c2 : (((distBase (distSym td)).2.1.toNat : Nat) : Int) = (distBase (distSym td)).2.1 := by omega
      have d1 := lenSym_in tl a1
      have d2 := distSym_in td a2
      have d3 := lenBase_spec (lenSym tl) (by omega)
      have d4 := distBase_spec (distSym td) (by omega)
      generalize lenSym tl = ls at *
      generalize distSym td = ds at *
      generalize hlb : lenBase ls = lb at *
      generalize hdb : distBase ds = db at *
      obtain ⟨lb1, lb2, lb3⟩ := lb
      obtain ⟨db1, db2, db3⟩ := db
      dsimp only [trip] at b1 b2 b7 b9 c1 c2 d3 d4 hst2
      have f1 : (2 : Int) ^ lb2.toNat ≤ 2 ^ 5 := by exact_mod_cast Nat.pow_le_pow_right (by decide) (show lb2.toNat ≤ 5 by omega)
      have f2 : (2 : Int) ^ db2.toNat ≤ 2 ^ 13 := by exact_mod_cast Nat.pow_le_pow_right (by decide) (show db2.toNat ≤ 13 by omega)
      repeat' (first | (apply Wpl.callP; exact rfl; exact rfl; exact rfl; exact rfl; (exact d1); (exact HasF.nil)) | (apply Wpl.callP; exact rfl; exact rfl; exact rfl; exact rfl; (exact d3); (exact HasF.nil)) | (apply Wpc.seqK; intro K hK) | apply Wpc.region | apply Wpl.nil | (apply hK; clear hK K) | (apply Wpl.mv; exact rfl; (conv => lhs; whnf)) | (apply Wpl.asg; exact rfl; (conv => lhs; whnf)) | (apply Wpl.extract; exact rfl; exact rfl; exact rfl))
      refine Wpl.callM rfl rfl rfl (symbol_P (bp := bp) hbl hkl h' (by omega) ls ⟨by omega, a3⟩ a4) (Pk.cons 1 rfl (Pk.cons 1 rfl (Pk.cons 1 rfl (Pk.nil _)))) (HasF.cons (HasF.m 1 rfl) (HasF.cons (HasF.m 2 rfl) (HasF.cons (HasF.m 3 rfl) HasF.nil))) ?_
      rintro _ _ ⟨FW1, FB1, rfl, h1⟩
      refine Wpl.sel (M' := [[(b, .cells #[.int .i64 tl, .int .i64 td] 54 (0, 0))], penF bp vw .nilIface, FW1, FB1, LK, LL, LC, DK, DL, DC]) (Sel.cons 3 rfl (Sel.refl _)) ?_
      repeat' (first | (apply Wpc.seqK; intro K hK) | apply Wpc.region | apply Wpl.nil | (apply hK; clear hK K) | (apply Wpl.mv; exact rfl; (conv => lhs; whnf)) | (apply Wpl.fldS; exact rfl; exact rfl; exact rfl; exact rfl) | (apply Wpl.ld0x0; exact rfl; exact rfl; exact rfl; exact rfl) | (apply Wpl.sub; exact rfl; exact rfl; exact rfl; omega))
      refine Wpl.callM rfl rfl (congrArg (fun z => [penV bp, .int .i64 (tl - lb1), .int .i64 z]) c1.symm) (penPut_P (c := lb2.toNat) (tl - lb1) h1 (by omega) (by omega) ⟨by omega, by omega⟩) (Pk.cons 1 rfl (Pk.cons 1 rfl (Pk.cons 1 rfl (Pk.nil _)))) HasF.nil ?_
      rintro _ _ ⟨FW2, FB2, rfl, h2⟩
      refine Wpl.sel (M' := [[(b, .cells #[.int .i64 tl, .int .i64 td] 54 (0, 0))], penF bp vw .nilIface, FW2, FB2, LK, LL, LC, DK, DL, DC]) (Sel.cons 3 rfl (Sel.refl _)) ?_
      repeat' (first | (apply Wpl.callP; exact rfl; exact rfl; exact rfl; exact rfl; (exact d2); (exact HasF.nil)) | (apply Wpl.callP; exact rfl; exact rfl; exact rfl; exact rfl; (exact d4); (exact HasF.nil)) | (apply Wpc.seqK; intro K hK) | apply Wpc.region | apply Wpl.nil | (apply hK; clear hK K) | (apply Wpl.mv; exact rfl; (conv => lhs; whnf)) | (apply Wpl.asg; exact rfl; (conv => lhs; whnf)) | (apply Wpl.extract; exact rfl; exact rfl; exact rfl) | (apply Wpl.fldS; exact rfl; exact rfl; exact rfl; exact rfl) | (apply Wpl.ld0x0; exact rfl; exact rfl; exact rfl; exact rfl))
      refine Wpl.callM rfl rfl rfl (symbol_P (bp := bp) hbd hkd h2 (by omega) ds ⟨by omega, a5⟩ a6) (Pk.cons 1 rfl (Pk.cons 1 rfl (Pk.cons 1 rfl (Pk.nil _)))) (HasF.cons (HasF.m 4 rfl) (HasF.cons (HasF.m 5 rfl) (HasF.cons (HasF.m 6 rfl) HasF.nil))) ?_
      rintro _ _ ⟨FW3, FB3, rfl, h3⟩
      refine Wpl.sel (M' := [[(b, .cells #[.int .i64 tl, .int .i64 td] 54 (0, 0))], penF bp vw .nilIface, FW3, FB3, LK, LL, LC, DK, DL, DC]) (Sel.cons 3 rfl (Sel.refl _)) ?_
      repeat' (first | apply Wpc.region | apply Wpl.nil | (apply hK; clear hK K) | (apply Wpl.mv; exact rfl; (conv => lhs; whnf)) | (apply Wpl.fldS; exact rfl; exact rfl; exact rfl; exact rfl) | (apply Wpl.ld0x0; exact rfl; exact rfl; exact rfl; exact rfl) | (apply Wpl.sub; exact rfl; exact rfl; exact rfl; omega))
      refine Wpl.callM rfl rfl (congrArg (fun z => [penV bp, .int .i64 (td - db1), .int .i64 z]) c2.symm) (penPut_P (c := db2.toNat) (td - db1) h3 (by omega) (by omega) ⟨by omega, by omega⟩) (Pk.cons 1 rfl (Pk.cons 1 rfl (Pk.cons 1 rfl (Pk.nil _)))) HasF.nil ?_
      rintro _ _ ⟨FW4, FB4, rfl, h4⟩
      repeat' (first | apply Wpc.region | apply Wpl.nil | (apply hK; clear hK K) | (apply Wpl.mv; exact rfl; (conv => lhs; whnf)) | (apply Wpl.add; exact rfl; exact rfl; exact rfl; omega))
      exact ⟨(k + 1, FW4, FB4), ⟨by omega, by show Wr hi (toksP hi m p (ts.take (k + 1))).1 (toksP hi m p (ts.take (k + 1))).2 vw FW4 FB4; rw [hst2]; exact h4⟩, by show ts.length - (k + 1) < ts.length - k; omega, ⟨rfl, rfl, rfl, rfl, rfl, rfl, trivial⟩, Sel.cons 0 rfl (Sel.cons 0 rfl (Sel.cons 0 rfl (Sel.tail _ _))), fun _ h => h⟩
  · have hkt : k = ts.length := by omega
    subst hkt
    rw [List.take_length] at h' hkn
    skip
    refine Wpl.callM rfl rfl rfl (symbol_P (bp := bp) hbl hkl h' (by omega) 256 ⟨by decide, by omega⟩ h256.2) (Pk.cons 0 rfl (Pk.cons 0 rfl (Pk.cons 0 rfl (Pk.nil _)))) (HasF.cons (HasF.m 0 rfl) (HasF.cons (HasF.m 1 rfl) (HasF.cons (HasF.m 2 rfl) HasF.nil))) ?_
    rintro _ _ ⟨FW1, FB1, rfl, h1⟩
    repeat' (apply Wpl.nil)
    exact ⟨[], _, trivial, Sel.cons 0 rfl (Sel.cons 0 rfl (Sel.cons 0 rfl (Sel.nil _))), fun _ h => h, FW1, FB1, rfl, h1⟩
end Go.Proofs.Ytmfcgffdijnokaa
set_option maxRecDepth 100000
set_option maxHeartbeats 4000000
namespace Go.Proofs.Ytmfcgffdijnokaa
open Go.SL Go.RowKit
attribute [local irreducible] Wpl Wpc Wph
/-! plain facts of plans that are made of tokens that fit -/
theorem fits_good : ∀ (ts : List (Int × Int)) (st : List Int) (a : Nat), fitsFrom st ts a → ∀ t ∈ ts, goodTok t = true
  | [], _, _, _ => fun t ht => absurd ht List.not_mem_nil
  | t :: ts, st, a, h => fun u hu => by
    rcases List.mem_cons.1 hu with rfl | hu
    · exact h.1.1
    · exact fits_good ts st _ h.2 u hu
theorem incAt_pos {l : List Int} {i s : Nat} (h : 0 < l[s]?.getD 0) (h0 : ∀ x ∈ l, 0 ≤ x) : 0 < (incAt l i)[s]?.getD 0 := by
  unfold incAt
  rw [List.getElem?_set]
  split
  · rename_i e
    subst e
    split
    · rename_i hl
      have : 0 ≤ l[i]?.getD 0 := Int.le_of_lt h
      simp only [Option.getD_some]; omega
    · rename_i hl
      rw [List.getElem?_eq_none (by omega)] at h; simp at h
  · exact h
theorem incAt_self {l : List Int} {i : Nat} (hi : i < l.length) (h0 : ∀ x ∈ l, 0 ≤ x) : 0 < (incAt l i)[i]?.getD 0 := by
  unfold incAt
  have : 0 ≤ l[i] := h0 _ (List.getElem_mem hi)
  rw [List.getElem?_set, if_pos rfl, if_pos hi]
  simp only [Option.getD_some, List.getElem?_eq_getElem hi]
  omega
theorem cnt_pos (ts : List (Int × Int)) (hg : ∀ t ∈ ts, goodTok t = true) :
    (0 : Int) < (cnt ts).1[256]?.getD 0 ∧ ∀ t ∈ ts, (t.1 = 0 → 0 < (cnt ts).1[t.2.toNat]?.getD 0) ∧ (t.1 ≠ 0 → 0 < (cnt ts).1[(lenSym t.1).toNat]?.getD 0 ∧ 0 < (cnt ts).2[(distSym t.2).toNat]?.getD 0) := by
  have key : ∀ k, k ≤ ts.length → (0 : Int) < (cnt (ts.take k)).1[256]?.getD 0 ∧ ∀ t ∈ ts.take k, (t.1 = 0 → 0 < (cnt (ts.take k)).1[t.2.toNat]?.getD 0) ∧ (t.1 ≠ 0 → 0 < (cnt (ts.take k)).1[(lenSym t.1).toNat]?.getD 0 ∧ 0 < (cnt (ts.take k)).2[(distSym t.2).toNat]?.getD 0) := by
    intro k
    induction k with
    | zero =>
      intro _
      refine ⟨by rw [List.take_zero]; show 0 < ((List.replicate 286 (0 : Int)).set 256 1)[256]?.getD 0; decide, fun t ht => by rw [List.take_zero] at ht; cases ht⟩
    | succ k ih =>
      intro hk
      have hkl : k < ts.length := hk
      obtain ⟨i1, i2⟩ := ih (by omega)
      have hl := cnt_len (ts.take k)
      have hb := cnt_bd (ts.take k)
      have hb1 : ∀ x ∈ (cnt (ts.take k)).1, 0 ≤ x := fun x hx => (hb.1 x hx).1
      have hb2 : ∀ x ∈ (cnt (ts.take k)).2, 0 ≤ x := fun x hx => (hb.2 x hx).1
      have hgk := hg _ (List.getElem_mem hkl)
      rw [take_snoc ts k hkl, cnt_snoc]
      generalize ts[k]'hkl = t at *
      generalize hcc : cnt (ts.take k) = c at *
      unfold cntStep
      by_cases h0 : t.1 = 0
      · have hr := (good_lit h0).1 hgk
        rw [if_pos h0, if_pos hr]
        refine ⟨incAt_pos i1 hb1, fun u hu => ?_⟩
        rcases List.mem_append.1 hu with hu | hu
        · exact ⟨fun e => incAt_pos ((i2 u hu).1 e) hb1, fun e => ⟨incAt_pos ((i2 u hu).2 e).1 hb1, ((i2 u hu).2 e).2⟩⟩
        · rw [List.mem_singleton.1 hu]
          exact ⟨fun _ => incAt_self (by omega) hb1, fun e => absurd h0 e⟩
      · have hr := (good_match h0).1 hgk
        have hlb := lenSym_bd t.1
        have hdb := distSym_bd t.2
        rw [if_neg h0, if_pos hr]
        refine ⟨incAt_pos i1 hb1, fun u hu => ?_⟩
        rcases List.mem_append.1 hu with hu | hu
        · exact ⟨fun e => incAt_pos ((i2 u hu).1 e) hb1, fun e => ⟨incAt_pos ((i2 u hu).2 e).1 hb1, incAt_pos ((i2 u hu).2 e).2 hb2⟩⟩
        · rw [List.mem_singleton.1 hu]
          exact ⟨fun e => absurd e h0, fun _ => ⟨incAt_self (by omega) hb1, incAt_self (by omega) hb2⟩⟩
  have h := key ts.length (Nat.le_refl _)
  rw [List.take_length] at h
  exact h
/-- what is not null stays behind the trimming -/
theorem trim_keep {l : List Int} {least n s : Nat} (hn : l.length = n) (h : 0 < l[s]?.getD 0) : s < trimN l least n ∧ 0 < (l.take (trimN l least n))[s]?.getD 0 := by
  have hs : s < n := by
    refine Nat.lt_of_not_le fun hle => ?_
    rw [List.getElem?_eq_none (by omega)] at h; simp at h
  have h1 : s < trimN l least n := by
    refine Nat.lt_of_not_le fun hle => ?_
    have := trim_zero l least n s hle hs
    omega
  refine ⟨h1, ?_⟩
  rw [List.getElem?_take, if_pos h1]
  exact h
theorem lensM_posD (l : List Int) (high : Nat) (h0 : ∀ x ∈ l, 0 ≤ x) (hh : 1 ≤ high) (hn : l.length ≤ 2 ^ high) (s : Nat) (h : 0 < l[s]?.getD 0) : 0 < (lensM l high)[s]?.getD 0 := by
  have hs : s < l.length := by
    refine Nat.lt_of_not_le fun hle => ?_
    rw [List.getElem?_eq_none (by omega)] at h; simp at h
  rw [getD_get hs] at h
  rw [getD_get (show s < (lensM l high).length by rw [lensM_len]; exact hs)]
  exact (lensM_pos l high h0 hh hn s hs).2 h
theorem litT_pos (ts : List (Int × Int)) (s : Nat) (h : 0 < (cnt ts).1[s]?.getD 0) : s < (litT ts).length ∧ 0 < (litT ts)[s]?.getD 0 := by
  have h1 := twoM_pos _ _ h
  have h2 : 0 < (litM ts)[s]?.getD 0 := lensM_posD _ 15 (fun x hx => (cl_bd ts x hx).1) (by decide) (by rw [twoM_len, (cnt_len ts).1]; decide) s h1
  have h3 := trim_keep (least := 257) (litM_len ts) h2
  rw [(litT_len ts).1]
  exact h3
theorem dstT_pos (ts : List (Int × Int)) (s : Nat) (h : 0 < (cnt ts).2[s]?.getD 0) : s < (dstT ts).length ∧ 0 < (dstT ts)[s]?.getD 0 := by
  have h2 : 0 < (dstM ts)[s]?.getD 0 := lensM_posD _ 15 (fun x hx => ((cnt_bd ts).2 x hx).1) (by decide) (by rw [(cnt_len ts).2]; decide) s h
  have h3 := trim_keep (least := 1) (dstM_len ts) h2
  rw [(dstT_len ts).1]
  exact h3
theorem bookOk_lit (ts : List (Int × Int)) : BookOk (litT ts) := ⟨by have := litT_len ts; omega, fun x hx => by have := litM_bd ts x (List.mem_of_mem_take hx); omega,
  Nat.le_trans (hsum_take 16 _ _) (lensM_kraft _ 15 (fun x hx => (cl_bd ts x hx).1) (by decide) (by rw [twoM_len, (cnt_len ts).1]; decide))⟩
theorem bookOk_dst (ts : List (Int × Int)) : BookOk (dstT ts) := ⟨by have := dstT_len ts; omega, fun x hx => by have := dstM_bd ts x (List.mem_of_mem_take hx); omega,
  Nat.le_trans (hsum_take 16 _ _) (lensM_kraft _ 15 (fun x hx => ((cnt_bd ts).2 x hx).1) (by decide) (by rw [(cnt_len ts).2]; decide))⟩
theorem bookOk_ones (rs : List (Int × Int)) : BookOk (onesM rs) := ⟨by rw [onesM_len]; decide, fun x hx => by have := onesM_bd rs x hx; omega,
  lensM_kraft _ 7 (fun x hx => (cc_bd rs x hx).1) (by decide) (by rw [twoM_len, cntO_len]; decide)⟩
theorem ones_pos {rs : List (Int × Int)} {r : Int × Int} (hr : r ∈ rs) (hb : 0 ≤ r.1 ∧ r.1 ≤ 18) : 0 < lenOf (onesM rs) r.1 := by
  have hn : r.1.toNat < 19 := by omega
  have hrr : ((r.1.toNat : Nat) : Int) = r.1 := by omega
  have h1 : 0 < (cntO 19 (rs.map (·.1)))[r.1.toNat]?.getD 0 := by
    rw [getD_get (show r.1.toNat < (cntO 19 (rs.map (·.1))).length by rw [cntO_len]; exact hn), cntO_get, hrr]
    have : 0 < (rs.map (·.1)).count r.1 := List.count_pos_iff.2 (List.mem_map_of_mem hr)
    omega
  exact lensM_posD _ 7 (fun x hx => (cc_bd rs x hx).1) (by decide) (by rw [twoM_len, cntO_len]; decide) _ (twoM_pos _ _ h1)
theorem planOk_own (ts : List (Int × Int)) : PlanOk (ownM ts) := by
  have h1 := litT_len ts
  have h2 := dstT_len ts
  have h3 := runs_bd (both_bd ts)
  have h4 := runs_len (l := litT ts ++ dstT ts)
  rw [List.length_append] at h4
  refine ⟨by rw [ownM_l]; omega, by rw [ownM_d]; omega, by rw [ownM_ones, onesM_len], by rw [ownM_ones]; exact onesM_bd _, by rw [ownM_ones]; exact bookOk_ones _, by rw [ownM_runs]; omega, fun r hr => ?_⟩
  rw [ownM_runs] at hr
  rw [ownM_ones]
  have h5 := h3 r hr
  exact ⟨h5.1, h5.2.1, h5.2.2.1, h5.2.2.2, ones_pos hr ⟨h5.1, h5.2.1⟩⟩
/-- a plan that serves for tokens -/
structure PlanFor (m : PlanM) (ts : List (Int × Int)) : Prop where
  kl : BookOk m.l
  kd : BookOk m.d
  h256 : 256 < m.l.length ∧ 0 < lenOf m.l 256
  tok : ∀ t ∈ ts, TokW m t
theorem planFor_own (ts : List (Int × Int)) (hg : ∀ t ∈ ts, goodTok t = true) : PlanFor (ownM ts) ts := by
  obtain ⟨c1, c2⟩ := cnt_pos ts hg
  have h256 := litT_pos ts 256 c1
  refine ⟨by rw [ownM_l]; exact bookOk_lit ts, by rw [ownM_d]; exact bookOk_dst ts, by rw [ownM_l]; exact h256, fun t ht => ⟨fun h0 => ?_, fun h0 => ?_⟩⟩
  · have hr := (good_lit h0).1 (hg t ht)
    have hp := litT_pos ts _ ((c2 t ht).1 h0)
    rw [ownM_l]
    exact ⟨hr.1, by omega, hp.2⟩
  · have hr := (good_match h0).1 (hg t ht)
    have hlb := lenSym_bd t.1
    have hdb := distSym_bd t.2
    have hp := litT_pos ts _ ((c2 t ht).2 h0).1
    have hq := dstT_pos ts _ ((c2 t ht).2 h0).2
    rw [ownM_l, ownM_d]
    exact ⟨hr.1, hr.2, by omega, hp.2, by omega, hq.2⟩
theorem usual_pos : ∀ s : Fin 288, 0 < lenOf usualM.l (s.1 : Int) := by decide +kernel
theorem usual_dpos : ∀ s : Fin 30, 0 < lenOf usualM.d (s.1 : Int) := by decide +kernel
theorem usual_kl : BookOk usualM.l := ⟨by decide +kernel, by decide +kernel, by decide +kernel⟩
theorem usual_kd : BookOk usualM.d := ⟨by decide +kernel, by decide +kernel, by decide +kernel⟩
theorem planFor_usual (ts : List (Int × Int)) (hg : ∀ t ∈ ts, goodTok t = true) : PlanFor usualM ts := by
  refine ⟨usual_kl, usual_kd, ⟨by rw [usual_l]; decide, usual_pos ⟨256, by decide⟩⟩, fun t ht => ⟨fun h0 => ?_, fun h0 => ?_⟩⟩
  · have hr := (good_lit h0).1 (hg t ht)
    have hp := usual_pos ⟨t.2.toNat, by omega⟩
    dsimp only at hp
    rw [show ((t.2.toNat : Nat) : Int) = t.2 by omega] at hp
    rw [usual_l]
    exact ⟨hr.1, by omega, hp⟩
  · have hr := (good_match h0).1 (hg t ht)
    have hlb := lenSym_bd t.1
    have hdb := distSym_bd t.2
    have hp := usual_pos ⟨(lenSym t.1).toNat, by omega⟩
    have hq := usual_dpos ⟨(distSym t.2).toNat, by omega⟩
    dsimp only at hp hq
    rw [show (((lenSym t.1).toNat : Nat) : Int) = lenSym t.1 by omega] at hp
    rw [show (((distSym t.2).toNat : Nat) : Int) = distSym t.2 by omega] at hq
    rw [usual_l, usual_d]
    exact ⟨hr.1, hr.2, by omega, hp, by omega, hq⟩
theorem planFor (k : Int) (ts : List (Int × Int)) (st : List Int) (h : fits ts st) : PlanFor (planM k ts) ts := by
  unfold planM
  split
  · exact planFor_usual ts (fits_good ts st 0 h)
  · exact planFor_own ts (fits_good ts st 0 h)
end Go.Proofs.Ytmfcgffdijnokaa
